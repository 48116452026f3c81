/-
Several texts in one.
-/
import Derived.Test.YtpjkcgacjjbikaaGreatDoorPPC4P0
import Derived.Test.YtpjkcgacjjbikaaGreatDoorProg
import Derived.Deep.DeepMust
import Derived.Lib.AppendZeros
import Derived.Deep.LoopGhost
import Derived.Laws.BitsLemmas
import Derived.Shelf.Abstract
import Derived.Laws.BytesArg
import Derived.Lib.Strings
import Derived.Lib.Slices
import Derived.Lib.Walk
import Derived.Lib.Bytes
import Derived.Laws.MakeOwn
import Derived.Deep.DeepCutAuto
import Derived.Laws.BitsAllLaws
import Derived.Lib.ValidLaws
import Derived.Lib.TrimUEq
import Derived.Ground.NamesProg
import Derived.Shelf.Unicode.ValidAny
import Derived.Lib.IndexBytes
set_option linter.defProp false
set_option maxRecDepth 100000
set_option maxHeartbeats 8000000
set_option linter.unusedSimpArgs false
set_option linter.unusedVariables false
set_option linter.deprecated false
namespace Go.Proofs.YtpjkcgacjjbikaaGreatDoor.A
section
open Go.RowKit

def bf (B:List Nat) (l:List Edge):Nat:=l.foldl (fun s e=>s ||| (match Region.binds .any e with | true=>2 ^ e.on ||| B.getD e.on 0 | false=>0)) 0
def K0 (ops:Array Oper):List Nat:=ops.toList.foldl (fun B o=>B ++ [bf B o.after.toList]) []
def G3 (ops:Array Oper) (B:List Nat):Bool:=
 (List.range ops.size).all fun j=>match ops[j]? with
  | none=>true
  | some o=>o.after.toList.all (fun e=>!Region.binds .any e || Nat.blt e.on j)&&Nat.beq (B.getD j 0) (bf B o.after.toList)
def PK (ops:Array Oper) (B:List Nat) (j:Nat):Bool:=
 (List.range ops.size).any fun i=>!(((ops[i]?).map fun o=>isEff o.op || pureOp o.op).getD true)&&i != j&&!(B.getD j 0).testBit i&&!(B.getD i 0).testBit j
theorem Sz {B:List Nat} {i:Nat}:∀ (l:List Edge) (s:Nat),(l.foldl (fun s e=>s ||| (match Region.binds .any e with | true=>2 ^ e.on ||| B.getD e.on 0 | false=>0)) s).testBit i=true->
  s.testBit i=true\/∃ e∈l,Region.binds .any e=true/\(e.on=i\/(B.getD e.on 0).testBit i=true)
 | [],s,h=> .inl h
 | e::l,s,h=>by
  rw [List.foldl_cons] at h;rcases Sz l _ h with h | ⟨x,hx,h1,h2⟩
  ·rw [Nat.testBit_or,CK] at h;rcases h with h | h
   ·exact .inl h
   ·cases hb:Region.binds .any e with
    | false=>rw [hb] at h;simp at h
    | true=>
     rw [hb] at h;simp only [Nat.testBit_or,CK,Nat.testBit_two_pow,decide_eq_true_eq] at h;exact .inr ⟨e,by simp,hb,h⟩
  ·exact .inr ⟨x,by simp [hx],h1,h2⟩

section
variable {P:Program} {ops:Array Oper} {B:List Nat} {Q:Exit->Act->World->Prop}
def Cl (ops:Array Oper) (l:Array Bool):Prop:=∀ j o,ops[j]? = some o->l.getD j false=true->∀ e∈o.after,Region.binds .any e=true->l.getD e.on false=true
theorem aJ (hB:G3 ops B=true) {l:Array Bool} (hl:Cl ops l):∀ (j:Nat) (o:Oper),ops[j]? = some o->(∀ e∈o.after,Region.binds .any e=true->l.getD e.on false=true)->∀ i,(B.getD j 0).testBit i=true->l.getD i false=true:=by
 intro j;induction j using Nat.strongRecOn with
 | _ j ih=>
  intro o ho C i hi;have h1:=Av.1 hB j (AS.2 (Ay.1 ho).1);rw [ho] at h1;simp only [Af] at h1;obtain⟨h2,h3⟩:=h1;rw [Al h3] at hi;rcases Sz _ _ hi with h | ⟨e,he,hb,h⟩
  ·simp at h
  ·have F:e∈o.after:=by simpa using he
   have z:=C e F hb;rcases h with rfl | h
   ·exact z
   ·have f:=Av.1 h2 e he;simp only [hb,Bool.not_true,Bool.false_or] at f;have f:e.on<j:=by simpa using f
    have u:e.on<ops.size:=Nat.lt_trans f (Ay.1 ho).1;exact ih e.on f ops[e.on] (D7 u) (fun e' he2 hb2=>hl e.on _ (D7 u) z e' he2 hb2) i h
theorem Cl.set {l:Array Bool} (hl:Cl ops l) {j:Nat} (hj:j∈Region.ready .any ops l):Cl ops (l.setIfInBounds j true):=by
 obtain⟨z,oj,u,i⟩:=mem_ready.1 hj;intro k o hk f e he hb;refine getD_set_true ?_;by_cases h:k=j
 ·subst h;rw [u] at hk;cases hk;exact i e he hb
 ·rw [getD_set_ne false (Ne.symm h)] at f;exact hl k o hk f e he hb
def HeldR (P:Program) (ops:Array Oper) (B:List Nat) (Q:Exit->Act->World->Prop):Nat->Array Bool->Act->World->Prop
 | 0,l,a,w=>Region.ready .any ops l=[]/\Q .normal a w
 | n+1,l,a,w=>(Region.ready .any ops l=[]->Q .normal a w)/\
   ∀ i∈Region.ready .any ops l,wpOp P ops Q i (fun a' w'=>(PK ops B i=true->Old w w')/\HeldR P ops B Q n (l.setIfInBounds i true) a' w') a w
theorem HeldR.any:∀ (n:Nat) (l:Array Bool) (a:Act) (w:World),HeldR P ops B Q n l a w->wpAny P .any ops Q n l a w
 | 0,_,_,_,h=>h
 | n+1,_,_,_,h=>⟨h.1,fun i hi=>wpOp_mono (fun a' w' h'=>HeldR.any n _ a' w' h'.2) (h.2 i hi)⟩
theorem HeldR.first (hB:G3 ops B=true) {i:Nat} {oi:Oper} {v:Value} (hi:ops[i]? = some oi) (V:isEff oi.op=false)
  (F:∀ (j:Nat) (o:Oper) cs b,ops[j]? = some o->o.op≠ .select cs b)
  (hQ:∀ c a w,Q (.panic c) (a.put oi.dst v) w->Q (.panic c) a w) {S:World->Prop} (hk:∀ w w',S w->(pureOp oi.op=false->Old w w')->S w'):∀ (n:Nat) (l:Array Bool) (a:Act) (w:World),Cl ops l->
   (∀ j oj,ops[j]? = some oj->j≠i->l.getD j true=false->(∀ e∈oj.after,Region.binds .any e=true->e.on≠i)->oi.apart ops oj=true)->
   i∈Region.ready .any ops l->YieldsIf P ops S oi v a->S w->HeldR P ops B Q n (l.setIfInBounds i true) (a.put oi.dst v) w->HeldR P ops B Q (n+1) l a w:=by
 intro n;induction n with
 | zero=>
  intro l a w _ _ hr hy hS H;refine⟨fun h=>(by rw [h] at hr;cases hr),fun j hj=>?_⟩;by_cases f:j=i
  ·subst f;exact hy.wpOp hi hS ⟨fun _=>zv _,H⟩
  ·have h1:=ready_mono hj f;rw [H.1] at h1;cases h1
 | succ n ih=>
  intro l a w J C hr hy hS H;refine⟨fun h=>(by rw [h] at hr;cases hr),fun j hj=>?_⟩;by_cases f:j=i
  ·subst f;exact hy.wpOp hi hS ⟨fun _=>zv _,H⟩
  have h1:=H.2 j (ready_mono hj f);obtain⟨u,oj,z,K⟩:=mem_ready.1 hj;obtain⟨I,oi',G,L⟩:=mem_ready.1 hr;rw [hi] at G;cases G;have unl:∀ k,l.getD k true=false->l.getD k false=true->False:=by
   intro k h1 h2;rcases Cd k l.size with h' | h'
   ·simp [h'] at h1 h2;rw [h1] at h2;cases h2
   ·simp [BS h'] at h2
  have O:∀ e∈oj.after,Region.binds .any e=true->e.on≠i:=fun e he hb heq=>unl i I (heq ▸ K e he hb)
  have U:pureOp oi.op=false->PK ops B j=true:=by
   intro W;refine Ds.2 ⟨i,AS.2 (Ay.1 hi).1,?_⟩;have X:(i != j)=true:=by rw [bne_iff_ne];exact fun h=>f h.symm
   have b1:(B.getD j 0).testBit i=false:=by
    rw [<-BM];exact fun h=>unl i I (aJ hB J j oj z K i h)
   have b2:(B.getD i 0).testBit j=false:=by
    rw [<-BM];exact fun h=>unl j u (aJ hB J i oi hi L j h)
   simp only [hi,Option.map_some,BH,V,W,X,b1,b2,Bool.or_false,Bool.not_false,B3]
  have h2:=wpOp_putIf z (C j oj z f u O) (fun cs b=>F i oi cs b hi) (fun cs b=>F j oj cs b z) hQ hy h1;refine wpOp_mono (fun a' w' h3=>⟨h3.2.1,ih (l.setIfInBounds j true) a' w' (J.set hj) (fun k ok hk hki hun hno=>?_) (ready_mono hr (Ne.symm f)) h3.1 (hk _ _ hS fun hp=>h3.2.1 (U hp)) ?_⟩) h2
  ·refine C k ok hk hki ?_ hno;by_cases N:j=k
   ·subst N;exact u
   ·rw [getD_set_ne true N] at hun;exact hun
  ·rw [Array.setIfInBounds_comm _ _ f];exact h3.2.2

theorem HeldR.first1 (hB:G3 ops B=true) {i:Nat} {oi:Oper} {v:Value} (hi:ops[i]? = some oi) (u:isEff oi.op=false)
  (h:∀ (j:Nat) (o:Oper) cs b,ops[j]? = some o->o.op≠ .select cs b)
  (hQ:∀ c a w,Q (.panic c) (a.put oi.dst v) w->Q (.panic c) a w) (n:Nat) (l:Array Bool) (a:Act) (w:World) (z:Cl ops l)
  (f:∀ j oj,ops[j]? = some oj->j≠i->l.getD j true=false->(∀ e∈oj.after,Region.binds .any e=true->e.on≠i)->oi.apart ops oj=true)
  (hr:i∈Region.ready .any ops l) (hy:YieldsIf P ops (fun w'=>pureOp oi.op=true\/Old w w') oi v a) (H:HeldR P ops B Q n (l.setIfInBounds i true) (a.put oi.dst v) w):HeldR P ops B Q (n+1) l a w:=by
 refine HeldR.first hB hi u h hQ (S:=fun w'=>pureOp oi.op=true\/Old w w') (fun _ _ h1 h2=>?_) n l a w z f hr hy (.inr (zv w)) H;rcases h1 with h1 | h1
 ·exact .inl h1
 ·cases hp:pureOp oi.op with
  | true=>exact .inl rfl
  | false=>exact .inr (h1.trans (h2 hp))

def qOf:Op->Bool
 | .store _ _ _=>false
 | .call ⟨.builtin .append,_,_⟩=>false
 | _=>true
def MF (ops:Array Oper) (B:List Nat):List Nat->Array Bool->Bool
 | [],l=>(Region.ready .any ops l).isEmpty
 | i::r,l=>(match ops[i]? with
   | none=>false
   | some o=>match isEff o.op with
    | true=>(match Region.ready .any ops l with | [j]=>Nat.beq i j | _=>false)&&(qOf o.op || !PK ops B i)
    | false=>Region.free .any ops l i&&(Region.ready .any ops l).contains i)&&MF ops B r (l.setIfInBounds i true)
def Ru (P:Program) (T:Tys) (n:Nat) (ops:Array Oper):List Nat->Fr->List AB->(Fr->List AB->Prop)->Prop
 | [],fr,H,K=>K fr H
 | i::r,fr,H,K=>match Km ops.toList i with
  | none=>False
  | some o=>IZ ops.toList o fr (fun fr=>HM P T n (qOf o.op) o fr H fun fr H=>Ru P T n ops r fr H K) fun fr=>Ou n o.dst (.v undef) fr fun fr=>Ru P T n ops r fr H K
variable {T:Tys} {w0:Fl} {M0:Ms} {n d0:Nat} {ce:Ctx}
theorem DC {c:Ctx} {fr:Fr} {a:Act} (hf:FR w0 c n fr a) {o:Oper} {run skip:Fr->Prop} (h:IZ ops.toList o fr run skip) :
  (Region.wanted o (yielded ops a.tmps)=true/\∃ fr',FR w0 c n fr' a/\run fr')\/(Region.wanted o (yielded ops a.tmps)=false/\∃ fr',FR w0 c n fr' a/\skip fr'):=by
 unfold IZ at h;split at h
 ·rename_i hg;exact .inl ⟨by simp [Region.wanted,hg],fr,hf,h⟩
 ·rename_i j want hg;rw [Ey] at h;split at h
  ·rename_i oj hj;have i:ops[j]? = some oj:=by simpa using hj
   split at h
   ·rename_i d hd;have f:=hf.get d;split at h
    ·rename_i t ht;rw [ht] at f;simp only [Rd] at f;have hy:yielded ops a.tmps j=some t:=by
      unfold yielded;simp only [i,Option.bind_some,hd];have:a.tmps[d]? = some (.bool t):=by
       rw [AJ] at f;cases hq:a.tmps[d]? with
       | none=>rw [hq] at f;simp [undef] at f
       | some x=>rw [hq] at f;simp at f;rw [f]
      rw [this]
     have hl:=hf.lit ht;split at h
     ·obtain⟨h1,h2⟩:=EN h;cases t with
      | true=>exact .inl ⟨by simp [Region.wanted,hg,hy],_,hl,h1 rfl⟩
      | false=>exact .inr ⟨by simp [Region.wanted,hg,hy],_,hl,h2 rfl⟩
     ·obtain⟨h1,h2⟩:=EN h;cases t with
      | true=>exact .inr ⟨by simp [Region.wanted,hg,hy],_,hl,h1 rfl⟩
      | false=>exact .inl ⟨by simp [Region.wanted,hg,hy],_,hl,h2 rfl⟩
    ·rename_i vs ht;rw [ht] at f;simp only [Rd] at f;have hy:yielded ops a.tmps j=none:=by
      unfold yielded;simp only [i,Option.bind_some,hd];rw [AJ] at f;cases hq:a.tmps[d]? with
      | none=>rfl
      | some x=>rw [hq] at f;simp at f;rw [f]
     exact .inr ⟨by simp [Region.wanted,hg,hy],fr,hf,h⟩
    ·exact h.elim
   ·exact h.elim
  ·exact h.elim
theorem Hj (hT:TOk P T) (hB:G3 ops B=true) (F:Region.noSelect ops=true) {K:Fr->List AB->Prop} (hq:∀ a w,Em w0 M0 ce n K a w->Q .normal a w) (z:∀ c a w,¬Q (.panic c) a w) :
  ∀ (r:List Nat) (m:Nat) (l:Array Bool) (c:Ctx) (fr:Fr) (H:List AB) (a:Act),r.length<=m->Cl ops l->MF ops B r l=true->HS w0 M0 c H->FR w0 c n fr a->Ext ce c->Ru P T n ops r fr H K->HeldR P ops B Q m l a c.w
 | [],m,l,c,fr,H,a,hm,hcl,hd,hs,hf,he,h=>by
  simp only [MF,List.isEmpty_iff] at hd;cases m with
  | zero=>exact⟨hd,hq _ _ ⟨c,fr,H,rfl,h,hs,hf,he⟩⟩
  | succ m=>exact⟨fun _=>hq _ _ ⟨c,fr,H,rfl,h,hs,hf,he⟩,by rw [hd];simp⟩
 | i::r,m,l,c,fr,H,a,hm,hcl,hd,hs,hf,he,h=>by
  cases m with
  | zero=>simp at hm
  | succ m=>
   simp only [Ao,Nat.add_le_add_iff_right] at hm;simp only [MF,Af] at hd;obtain⟨f,I⟩:=hd;simp only [Ru,Ey] at h;cases ho:ops[i]? with
   | none=>rw [ho] at f;simp at f
   | some o=>
    rw [ho] at f;simp only at f;rw [show ops.toList[i]? = some o by simpa using ho] at h;simp only at h;cases hE:isEff o.op with
    | true=>
     rw [hE] at f;simp only [Af] at f;obtain⟨hr,L⟩:=f;have G:Region.ready .any ops l=[i]:=by
      split at hr
      ·rename_i j hj;rw [hj,Al hr]
      ·cases hr
     have C:i∈Region.ready .any ops l:=by rw [G];simp
     refine⟨fun h0=>(by rw [G] at h0;cases h0),fun j hj=>?_⟩;rw [G,A2] at hj;subst hj;refine wpOp_step ho fun KK hK=>?_
     rcases DC hf h with ⟨hw,fr',u,h⟩ | ⟨hw,fr',u,h⟩
     ·rw [if_pos hw];refine FE hT hs u he h ?_;rintro a' w' ⟨c',fr2,H',rfl,h1,h2,h3,h4⟩ N;refine hK _ _ ⟨fun hmay=>N ?_,Hj hT hB F hq z r m _ c' fr2 H' a' hm (hcl.set C) I h2 h3 h4 h1⟩;rw [hmay] at L;simpa using L
     ·rw [if_neg (by rw [hw];simp)];obtain⟨fr2,h1,h2⟩:=C8 (v:=undef) u (by simp [Rd]) h;exact hK _ _ ⟨fun _=>zv _,Hj hT hB F hq z r m _ c fr2 H _ hm (hcl.set C) I hs h2 he h1⟩
    | false=>
     rw [hE] at f;simp only [Af] at f;obtain⟨J,hr⟩:=f;have C:i∈Region.ready .any ops l:=by simpa using hr
     have step:∀ v fr2,YieldsIf P ops (fun w'=>pureOp o.op=true\/Old c.w w') o v a->FR w0 c n fr2 (a.put o.dst v)->Ru P T n ops r fr2 H K->HeldR P ops B Q (m+1) l a c.w:=by
      intro v fr2 hy O h2;exact HeldR.first1 hB ho hE (Region.noSelect_spec F) (fun c a w h=>(z _ _ _ h).elim) m l a c.w hcl (Region.free_spec ho J) C hy
       (Hj hT hB F hq z r m _ c fr2 H _ hm (hcl.set C) I hs O he h2)
     rcases DC hf h with ⟨hw,fr',u,h⟩ | ⟨hw,fr',u,h⟩
     ·unfold HM at h;rw [hE] at h;obtain⟨rr,v,h1,h2,h3⟩:=(GR hT hs u h).y;obtain⟨fr2,h4,h5⟩:=C8 u h3 h1;exact step v fr2 (.inl ⟨hw,h2⟩) h5 h4
     ·obtain⟨fr2,h4,h5⟩:=C8 (v:=undef) u (by simp [Rd]) h;exact step undef fr2 (.inr ⟨hw,rfl⟩) h5 h4
def OJ (ops:Array Oper) (ord:List Nat):Bool:=G3 ops (K0 ops)&&Region.noSelect ops&&Nat.ble ord.length ops.size&&MF ops (K0 ops) ord (Array.replicate ops.size false)
theorem aDraw.of (hT:TOk P T) (hm:P.follows .mixedOrders=true) {id:Nat} {K:Fr->List AB->Prop} {fr:Fr} {H:List AB} (ord:List Nat) (f:OJ ops ord=true) (h:Ru P T n ops ord fr H K):aDraw P T n d0 id ops K fr H:=by
 simp only [OJ,Af] at f;obtain⟨⟨⟨hB,u⟩,i⟩,f⟩:=f;refine⟨fun w0 M0 ce c a hs hf he hd Q hQ=>?_⟩;refine wp_mono (Q:=fun e a w=>e = .normal/\Em w0 M0 ce n K a w) ?_ ?_
 ·refine wp_region_any hm (HeldR.any (B:=K0 ops) _ _ _ _ ?_);have hb:=(Below.refl c.w.heap.size c.w).drew;obtain⟨h1,h2⟩:=hs.grow hb;refine Hj (w0:=w0) (M0:=M0) (ce:=ce) hT hB u (fun a w hl=>⟨rfl,hl⟩) (fun c a w h=>by cases h.1) ord _ _ { c with w:=c.w.drew } fr H a (Ae i) ?_ f h1 (hf.ext h2) (he.trans h2) h;intro j o hj z;rcases Cd j ops.size with h' | h'
  ·simp [h'] at z
  ·simp [BS h'] at hj
 ·rintro e a w ⟨rfl,c',fr',H',rfl,h1,h2,h3,h4⟩;exact hQ c' fr' H' a h1 h2 h3 h4
def zA:=@aDraw.of
end
open Go.RowKit
theorem aLoop.rule {d0:Nat} {body:QA->Fr->List AB->Prop} {Q:QA} {fr:Fr} {H:List AB} (ι:Type) (st:ι->Fr × List AB) (I:ι->Prop) (μ:ι->Nat) (x0:ι) (h0:I x0) (hw:Wk d0 fr H (st x0).1 (st x0).2)
  (round:∀ x,I x->body (fun ex fr' H'=>match ex with | .normal=>∃ x',I x'/\μ x'<μ x/\Wk d0 fr' H' (st x').1 (st x').2 | e=>Q e fr' H') (st x).1 (st x).2):aLoop d0 body Q fr H:=
 ⟨.inr (.inl ⟨ι,st,I,μ,⟨x0,h0,hw⟩,round⟩)⟩
def zM:=@aLoop.rule
theorem aDraw.seq {P:Program} {T:Tys} {n d0:Nat} (hT:TOk P T) (hm:P.follows .mixedOrders=true) {id:Nat} {ops:Array Oper} {K:Fr->List AB->Prop} {fr:Fr} {H:List AB} (f:OJ ops (List.range ops.size)=true) (h:Ru P T n ops (List.range ops.size) fr H K):aDraw P T n d0 id ops K fr H:=
 zA hT hm _ f h
def zF:=@aDraw.seq
end
section
open Go.RowKit
class Say (b:Bool) (p q:outParam Prop):Prop where
 yes:b=true->p
 no:b=false->q
theorem A5 {t:Bool} {p q A B:Prop} [h:Say t p q] (h1:p->A) (h2:q->B):KT t A B:=Am (fun e=>h1 (h.yes e)) fun e=>h2 (h.no e)
instance (priority:=10) sayAny (b:Bool):Say b (b=true) (b=false):=⟨id,id⟩
instance (priority:=100) sayDec (p:Prop) [Decidable p]:Say (decide p) p (¬p):=⟨of_decide_eq_true,of_decide_eq_false⟩
instance sayLt (a b:Int):Say (decide (a<b)) (a<b) (b<=a):=⟨of_decide_eq_true,fun h=>Int.not_lt.1 (of_decide_eq_false h)⟩
instance sayLe (a b:Int):Say (decide (a<=b)) (a<=b) (b<a):=⟨of_decide_eq_true,fun h=>Int.not_le.1 (of_decide_eq_false h)⟩
instance sayGt (a b:Int):Say (decide (a > b)) (b<a) (a<=b):=⟨of_decide_eq_true,fun h=>Int.not_lt.1 (of_decide_eq_false h)⟩
instance sayGe (a b:Int):Say (decide (a>=b)) (b<=a) (a<b):=⟨of_decide_eq_true,fun h=>Int.not_le.1 (of_decide_eq_false h)⟩
instance (priority:=2000) sayLtN (a b:Nat):Say (decide ((a:Int)<(b:Int))) (a<b) (b<=a):=⟨fun h=>Int.ofNat_lt.1 (of_decide_eq_true h),fun h=>Int.ofNat_le.1 (Int.not_lt.1 (of_decide_eq_false h))⟩
instance (priority:=2000) sayLeN (a b:Nat):Say (decide ((a:Int)<=(b:Int))) (a<=b) (b<a):=⟨fun h=>Int.ofNat_le.1 (of_decide_eq_true h),fun h=>Int.ofNat_lt.1 (Int.not_le.1 (of_decide_eq_false h))⟩
instance (priority:=2000) sayGtN (a b:Nat):Say (decide ((a:Int) > (b:Int))) (b<a) (a<=b):=⟨fun h=>Int.ofNat_lt.1 (of_decide_eq_true h),fun h=>Int.ofNat_le.1 (Int.not_lt.1 (of_decide_eq_false h))⟩
instance (priority:=2000) sayGeN (a b:Nat):Say (decide ((a:Int)>=(b:Int))) (b<=a) (a<b):=⟨fun h=>Int.ofNat_le.1 (of_decide_eq_true h),fun h=>Int.ofNat_lt.1 (Int.not_le.1 (of_decide_eq_false h))⟩
instance (priority:=2000) sayEqN (a b:Nat):Say ((a:Int) == (b:Int)) (a=b) (a≠b):=⟨fun h=>Int.ofNat.inj (eq_of_beq h),fun h e=>ne_of_beq_false h (by rw [e])⟩
instance (priority:=2000) sayNeN (a b:Nat):Say ((a:Int) != (b:Int)) (a≠b) (a=b):=⟨fun h e=>bne_iff_ne.1 h (by rw [e]),fun h=>Int.ofNat.inj (by simpa using h)⟩
instance sayEq {α:Type} [BEq α] [LawfulBEq α] (a b:α):Say (a == b) (a=b) (a≠b):=⟨eq_of_beq,fun h=>ne_of_beq_false h⟩
instance sayNe {α:Type} [BEq α] [LawfulBEq α] (a b:α):Say (a != b) (a≠b) (a=b):=⟨fun h=>bne_iff_ne.1 h,fun h=>by simpa using h⟩
instance sayNot (b:Bool) (p q:Prop) [h:Say b p q]:Say (!b) q p:=⟨fun e=>h.no (by simpa using e),fun e=>h.yes (by simpa using e)⟩

inductive Tr where
 | fin
 | one (i:Nat) (r:Tr)
 | two (i:Nat) (a:Tr) (j:Nat) (b:Tr)
def Tr.o (l:List Nat) (t:Tr):Tr:=l.foldr .one t
def Tr.depth:Tr->Nat
 | .fin=>0
 | .one _ r=>r.depth+1
 | .two _ a _ b=>max a.depth b.depth+1
section
variable {P:Program} {ops:Array Oper} {B:List Nat} {Q:Exit->Act->World->Prop}
def Ym (ops:Array Oper) (B:List Nat) (i:Nat):Bool:=match ops[i]? with | some o=>isEff o.op&&(qOf o.op || !PK ops B i) | none=>false
def GZ (ops:Array Oper) (B:List Nat):Tr->Array Bool->Bool
 | .fin,l=>(Region.ready .any ops l).isEmpty
 | .one i r,l=>(match ops[i]? with
   | none=>false
   | some o=>match isEff o.op with
    | true=>(match Region.ready .any ops l with | [j]=>Nat.beq i j | _=>false)&&(qOf o.op || !PK ops B i)
    | false=>Region.free .any ops l i&&(Region.ready .any ops l).contains i)&&GZ ops B r (l.setIfInBounds i true)
 | .two i a j b,l=>(match Region.ready .any ops l with | [x,y]=>Nat.beq x i&&Nat.beq y j | _=>false)&&Ym ops B i&&Ym ops B j&&GZ ops B a (l.setIfInBounds i true)&&GZ ops B b (l.setIfInBounds j true)
def LB (P:Program) (T:Tys) (n:Nat) (ops:Array Oper) (i:Nat) (fr:Fr) (H:List AB) (K:Fr->List AB->Prop):Prop:=
 match Km ops.toList i with
 | none=>False
 | some o=>IZ ops.toList o fr (fun fr=>HM P T n (qOf o.op) o fr H K) fun fr=>Ou n o.dst (.v undef) fr fun fr=>K fr H
def Ow (P:Program) (T:Tys) (n:Nat) (ops:Array Oper):Tr->Fr->List AB->(Fr->List AB->Prop)->Prop
 | .fin,fr,H,K=>K fr H
 | .one i r,fr,H,K=>LB P T n ops i fr H fun fr H=>Ow P T n ops r fr H K
 | .two i a j b,fr,H,K=>(LB P T n ops i fr H fun fr H=>Ow P T n ops a fr H K)/\(LB P T n ops j fr H fun fr H=>Ow P T n ops b fr H K)
variable {T:Tys} {w0:Fl} {M0:Ms} {n d0:Nat} {ce:Ctx}
theorem MD (hT:TOk P T) {i:Nat} {o:Oper} (ho:ops[i]? = some o) {m:Nat} {l:Array Bool} (j:(qOf o.op || !PK ops B i)=true) {c:Ctx} {fr:Fr} {H:List AB} {a:Act} (hs:HS w0 M0 c H) (hf:FR w0 c n fr a) (he:Ext ce c) {K:Fr->List AB->Prop}
  (hk:∀ (c':Ctx) (fr':Fr) (H':List AB) (a':Act),HS w0 M0 c' H'->FR w0 c' n fr' a'->Ext ce c'->K fr' H'->HeldR P ops B Q m (l.setIfInBounds i true) a' c'.w)
  (h:LB P T n ops i fr H K):wpOp P ops Q i (fun a' w'=>(PK ops B i=true->Old c.w w')/\HeldR P ops B Q m (l.setIfInBounds i true) a' w') a c.w:=by
 simp only [LB,Ey] at h;rw [show ops.toList[i]? = some o by simpa using ho] at h;simp only at h;refine wpOp_step ho fun KK hK=>?_
 rcases DC hf h with ⟨hw,fr',f,h⟩ | ⟨hw,fr',f,h⟩
 ·rw [if_pos hw];refine FE hT hs f he h ?_;rintro a' w' ⟨c',fr2,H',rfl,h1,h2,h3,h4⟩ u;refine hK _ _ ⟨fun hmay=>u ?_,hk c' fr2 H' a' h2 h3 h4 h1⟩;rw [hmay] at j;simpa using j
 ·rw [if_neg (by rw [hw];simp)];obtain⟨fr2,h1,h2⟩:=C8 (v:=undef) f (by simp [Rd]) h;exact hK _ _ ⟨fun _=>zv _,hk c fr2 H _ hs h2 he h1⟩
theorem Ga (hT:TOk P T) (hB:G3 ops B=true) (C:Region.noSelect ops=true) {K:Fr->List AB->Prop} (hq:∀ a w,Em w0 M0 ce n K a w->Q .normal a w) (z:∀ c a w,¬Q (.panic c) a w) :
  ∀ (r:Tr) (m:Nat) (l:Array Bool) (c:Ctx) (fr:Fr) (H:List AB) (a:Act),r.depth<=m->Cl ops l->GZ ops B r l=true->HS w0 M0 c H->FR w0 c n fr a->Ext ce c->Ow P T n ops r fr H K->HeldR P ops B Q m l a c.w
 | .fin,m,l,c,fr,H,a,hm,hcl,hd,hs,hf,he,h=>by
  simp only [GZ,List.isEmpty_iff] at hd;cases m with
  | zero=>exact⟨hd,hq _ _ ⟨c,fr,H,rfl,h,hs,hf,he⟩⟩
  | succ m=>exact⟨fun _=>hq _ _ ⟨c,fr,H,rfl,h,hs,hf,he⟩,by rw [hd];simp⟩
 | .two i x j y,m,l,c,fr,H,a,hm,hcl,hd,hs,hf,he,h=>by
  cases m with
  | zero=>simp [Tr.depth] at hm
  | succ m=>
   simp only [Tr.depth] at hm;simp only [GZ,Af] at hd;obtain⟨⟨⟨⟨hr,hi⟩,hj⟩,hx⟩,hy⟩:=hd;have u:Region.ready .any ops l=[i,j]:=by
    split at hr
    ·rename_i p q hpq;simp only [Af] at hr;rw [hpq,Al hr.1,Al hr.2]
    ·cases hr
   obtain⟨h1,h2⟩:=h;have go:∀ k r,Ym ops B k=true->r.depth<=m->k∈Region.ready .any ops l->GZ ops B r (l.setIfInBounds k true)=true->(LB P T n ops k fr H fun fr H=>Ow P T n ops r fr H K)->(∀ (c:Ctx) (fr:Fr) (H:List AB) (a:Act),HS w0 M0 c H->FR w0 c n fr a->Ext ce c->Ow P T n ops r fr H K->HeldR P ops B Q m (l.setIfInBounds k true) a c.w)->
     wpOp P ops Q k (fun a' w'=>(PK ops B k=true->Old c.w w')/\HeldR P ops B Q m (l.setIfInBounds k true) a' w') a c.w:=by
    intro k r hk _ _ _ U O;unfold Ym at hk;split at hk
    ·rename_i o ho;simp only [Af] at hk;exact MD hT ho hk.2 hs hf he O U
    ·cases hk
   refine⟨fun h0=>(by rw [u] at h0;cases h0),fun k hk=>?_⟩;have L:i∈Region.ready .any ops l:=by rw [u];simp
   have J:j∈Region.ready .any ops l:=by rw [u];simp
   rw [u,Bd,A2] at hk;rcases hk with rfl | rfl
   ·exact go k x hi (by omega) L hx h1 fun c' fr' H' a' q1 q2 q3 q4=>Ga hT hB C hq z x m _ c' fr' H' a' (by omega) (hcl.set L) hx q1 q2 q3 q4
   ·exact go k y hj (by omega) J hy h2 fun c' fr' H' a' q1 q2 q3 q4=>Ga hT hB C hq z y m _ c' fr' H' a' (by omega) (hcl.set J) hy q1 q2 q3 q4
 | .one i r,m,l,c,fr,H,a,hm,hcl,hd,hs,hf,he,h=>by
  cases m with
  | zero=>simp [Tr.depth] at hm
  | succ m=>
   simp only [Tr.depth,Nat.add_le_add_iff_right] at hm;simp only [GZ,Af] at hd;obtain⟨f,N⟩:=hd;simp only [Ow] at h;cases ho:ops[i]? with
   | none=>rw [ho] at f;simp at f
   | some o=>
    rw [ho] at f;simp only at f;cases hE:isEff o.op with
    | true=>
     rw [hE] at f;simp only [Af] at f;obtain⟨hr,V⟩:=f;have u:Region.ready .any ops l=[i]:=by
      split at hr
      ·rename_i j hj;rw [hj,Al hr]
      ·cases hr
     have F:i∈Region.ready .any ops l:=by rw [u];simp
     refine⟨fun h0=>(by rw [u] at h0;cases h0),fun j hj=>?_⟩;rw [u,A2] at hj;subst hj;exact MD hT ho V hs hf he (fun c' fr' H' a' q1 q2 q3 q4=>Ga hT hB C hq z r m _ c' fr' H' a' hm (hcl.set F) N q1 q2 q3 q4) h
    | false=>
     rw [hE] at f;simp only [Af] at f;obtain⟨I,hr⟩:=f;have F:i∈Region.ready .any ops l:=by simpa using hr
     simp only [LB,Ey] at h;rw [show ops.toList[i]? = some o by simpa using ho] at h;simp only at h;have step:∀ v fr2,YieldsIf P ops (fun w'=>pureOp o.op=true\/Old c.w w') o v a->FR w0 c n fr2 (a.put o.dst v)->Ow P T n ops r fr2 H K->HeldR P ops B Q (m+1) l a c.w:=by
      intro v fr2 hy W h2;exact HeldR.first1 hB ho hE (Region.noSelect_spec C) (fun c a w h=>(z _ _ _ h).elim) m l a c.w hcl (Region.free_spec ho I) F hy
       (Ga hT hB C hq z r m _ c fr2 H _ hm (hcl.set F) N hs W he h2)
     rcases DC hf h with ⟨hw,fr',G,h⟩ | ⟨hw,fr',G,h⟩
     ·unfold HM at h;rw [hE] at h;obtain⟨rr,v,h1,h2,h3⟩:=(GR hT hs G h).y;obtain⟨fr2,h4,h5⟩:=C8 G h3 h1;exact step v fr2 (.inl ⟨hw,h2⟩) h5 h4
     ·obtain⟨fr2,h4,h5⟩:=C8 (v:=undef) G (by simp [Rd]) h;exact step undef fr2 (.inr ⟨hw,rfl⟩) h5 h4
def canonK:List Nat->Fr->(Fr->Prop)->Prop
 | [],_,k=>k []
 | d::r,fr,k=>D4 (fget fr d) fun x=>canonK r fr fun l=>k ((d,x)::l)
theorem canonK_iff:∀ {ds:List Nat} {fr:Fr} {k:Fr->Prop},canonK ds fr k->k (ds.map fun d=>(d,fget fr d))
 | [],_,_,h=>h
 | d::r,fr,k,h=>by simp only [canonK] at h;exact canonK_iff (ds:=r) (k:=fun l=>k ((d,fget fr d)::l)) (BV h)
theorem NQ (fr:Fr):∀ (ds:List Nat) (i:Nat),fget (ds.map fun d=>(d,fget fr d)) i = .top\/fget (ds.map fun d=>(d,fget fr d)) i=fget fr i
 | [],_=> .inl rfl
 | d::r,i=>by
  simp only [Az,fget];cases hb:Nat.beq d i with
  | true=>have:=Al hb;subst this;exact .inr rfl
  | false=>exact NQ fr r i
theorem FR.canon {c:Ctx} {fr:Fr} {a:Act} (h:FR w0 c n fr a) (ds:List Nat):FR w0 c n (ds.map fun d=>(d,fget fr d)) a:=by
 refine⟨h.size,h.defers,fun i=>?_⟩;rcases NQ fr ds i with e | e <;> rw [e]
 ·simp [Rd]
 ·exact h.get i
def slots:Fr->List Nat
 | []=> []
 | (i,_)::r=>i::slots r
def Sb (ops:Array Oper) (tr:Tr):Bool:=G3 ops (K0 ops)&&Region.noSelect ops&&Nat.ble tr.depth ops.size&&GZ ops (K0 ops) tr (Array.replicate ops.size false)
theorem aDraw.tree (hT:TOk P T) (hm:P.follows .mixedOrders=true) {id:Nat} {K:Fr->List AB->Prop} {fr:Fr} {H:List AB} (tr:Tr) (ds:List Nat) {F:Fr} {H2:List AB} (f:Sb ops tr=true)
  (h:Ow P T n ops tr fr H fun fr' H'=>canonK (ds ++ slots fr) fr' fun l=>l=F/\H'=H2) (hk:K F H2):aDraw P T n d0 id ops K fr H:=by
 simp only [Sb,Af] at f;obtain⟨⟨⟨hB,u⟩,i⟩,f⟩:=f;refine⟨fun w0 M0 ce c a hs hf he hd Q hQ=>?_⟩;refine wp_mono (Q:=fun e a w=>e = .normal/\Em w0 M0 ce n (fun fr' H'=>canonK (ds ++ slots fr) fr' fun l=>l=F/\H'=H2) a w) ?_ ?_
 ·refine wp_region_any hm (HeldR.any (B:=K0 ops) _ _ _ _ ?_);have hb:=(Below.refl c.w.heap.size c.w).drew;obtain⟨h1,h2⟩:=hs.grow hb;refine Ga (w0:=w0) (M0:=M0) (ce:=ce) hT hB u (fun a w hl=>⟨rfl,hl⟩) (fun c a w h=>by cases h.1) tr _ _ { c with w:=c.w.drew } fr H a (Ae i) ?_ f h1 (hf.ext h2) (he.trans h2) h;intro j o hj z;rcases Cd j ops.size with h' | h'
  ·simp [h'] at z
  ·simp [BS h'] at hj
 ·rintro e a w ⟨rfl,c',fr',H',rfl,h1,h2,h3,h4⟩;obtain⟨e1,rfl⟩:=canonK_iff h1;exact hQ c' F H' a hk h2 (e1 ▸ h3.canon _) h4
def zP:=@aDraw.tree
end
def tys:Tys:= [
 (2,⟨1,false, [.int .i64 0], .int .i64⟩),
 (3,⟨1,false, [.int .i64 0], .int .i64⟩),
 (4,⟨1,false, [.bool false], .bool⟩),
 (5,⟨1,false, [.int .u8 0], .int .u8⟩),
 (6,⟨1,false, [.int .u8 0], .int .u8⟩),
 (7,⟨4,true, [.int .i64 0, .int .i64 0, .bool false, .int .u8 0], .struct [(0,1),(1,1),(2,1),(3,1)]⟩),
 (8,⟨4,true, [.int .i64 0, .int .i64 0, .bool false, .int .u8 0], .struct [(0,1),(1,1),(2,1),(3,1)]⟩),
 (9,⟨1,false, [.string ⟨#[]⟩], .str⟩),
 (10,⟨1,false, [.string ⟨#[]⟩], .str⟩),
 (11,⟨1,false, [.string ⟨#[]⟩], .str⟩),
 (12,⟨1,false, [.int .u64 0], .int .u64⟩),
 (13,⟨2,true, [.string ⟨#[]⟩, .int .u64 0], .struct [(0,1),(1,1)]⟩),
 (14,⟨2,true, [.string ⟨#[]⟩, .int .u64 0], .struct [(0,1),(1,1)]⟩),
 (15,⟨1,false, [.pointer none], .other⟩),
 (16,⟨1,false, [.pointer none], .other⟩),
 (18,⟨1,true, [.pointer none], .struct [(0,1)]⟩),
 (19,⟨1,true, [.pointer none], .struct [(0,1)]⟩),
 (20,⟨1,false, [.nilIface], .ifc true⟩),
 (21,⟨1,false, [.int .i32 0], .int .i32⟩),
 (22,⟨1,false, [.slice none 0 0], .slice 5 1⟩),
 (23,⟨5,true, [.int .i64 0, .int .i64 0, .int .i64 0, .int .i64 0, .int .i64 0], .struct [(0,1),(1,1),(2,1),(3,1),(4,1)]⟩),
 (24,⟨5,true, [.int .i64 0, .int .i64 0, .int .i64 0, .int .i64 0, .int .i64 0], .struct [(0,1),(1,1),(2,1),(3,1),(4,1)]⟩),
 (26,⟨1,false, [.slice none 0 0], .slice 108 3⟩),
 (27,⟨7,true, [.int .i64 0, .int .i64 0, .int .i64 0, .int .i64 0, .int .i64 0, .string ⟨#[]⟩, .slice none 0 0], .struct [(0,1),(1,1),(2,1),(3,1),(4,1),(5,1),(6,1)]⟩),
 (28,⟨7,true, [.int .i64 0, .int .i64 0, .int .i64 0, .int .i64 0, .int .i64 0, .string ⟨#[]⟩, .slice none 0 0], .struct [(0,1),(1,1),(2,1),(3,1),(4,1),(5,1),(6,1)]⟩),
 (29,⟨1,false, [.slice none 0 0], .slice 170 4⟩),
 (30,⟨1,false, [.slice none 0 0], .slice 3 1⟩),
 (31,⟨4,true, [.int .i64 0, .int .i64 0, .int .i64 0, .slice none 0 0], .struct [(0,1),(1,1),(2,1),(3,1)]⟩),
 (32,⟨4,true, [.int .i64 0, .int .i64 0, .int .i64 0, .slice none 0 0], .struct [(0,1),(1,1),(2,1),(3,1)]⟩),
 (33,⟨14,true, [.int .i64 0, .int .i64 0, .int .i64 0, .int .i64 0, .int .i64 0, .string ⟨#[]⟩, .slice none 0 0, .slice none 0 0, .bool false, .int .i64 0, .int .i64 0, .int .i64 0, .int .i64 0, .slice none 0 0], .struct [(0,7),(7,1),(8,1),(9,1),(10,4)]⟩),
 (34,⟨14,true, [.int .i64 0, .int .i64 0, .int .i64 0, .int .i64 0, .int .i64 0, .string ⟨#[]⟩, .slice none 0 0, .slice none 0 0, .bool false, .int .i64 0, .int .i64 0, .int .i64 0, .int .i64 0, .slice none 0 0], .struct [(0,7),(7,1),(8,1),(9,1),(10,4)]⟩),
 (35,⟨1,false, [.slice none 0 0], .slice 68 3⟩),
 (36,⟨1,false, [.slice none 0 0], .slice 152 2⟩),
 (37,⟨4,true, [.slice none 0 0, .slice none 0 0, .int .i64 0, .int .i64 0], .struct [(0,1),(1,1),(2,1),(3,1)]⟩),
 (38,⟨4,true, [.slice none 0 0, .slice none 0 0, .int .i64 0, .int .i64 0], .struct [(0,1),(1,1),(2,1),(3,1)]⟩),
 (41,⟨1,false, [.int .u64 0], .int .u64⟩),
 (42,⟨1,false, [.int .i64 0], .int .i64⟩),
 (48,⟨1,false, [.slice none 0 0], .slice 22 1⟩),
 (59,⟨7,true, [.int .i64 0, .int .i64 0, .slice none 0 0, .int .i64 0, .int .i64 0, .int .i64 0, .slice none 0 0], .struct [(0,1),(1,1),(2,1),(3,4)]⟩),
 (62,⟨10,true, [.int .i64 0, .int .i64 0, .int .i64 0, .slice none 0 0, .int .i64 0, .int .i64 0, .int .i64 0, .int .i64 0, .int .i64 0, .int .i64 0], .struct [(0,1),(1,1),(2,1),(3,1),(4,1),(5,1),(6,1),(7,1),(8,1),(9,1)]⟩),
 (63,⟨10,true, [.int .i64 0, .int .i64 0, .int .i64 0, .slice none 0 0, .int .i64 0, .int .i64 0, .int .i64 0, .int .i64 0, .int .i64 0, .int .i64 0], .struct [(0,1),(1,1),(2,1),(3,1),(4,1),(5,1),(6,1),(7,1),(8,1),(9,1)]⟩),
 (67,⟨3,true, [.int .i64 0, .slice none 0 0, .slice none 0 0], .struct [(0,1),(1,1),(2,1)]⟩),
 (68,⟨3,true, [.int .i64 0, .slice none 0 0, .slice none 0 0], .struct [(0,1),(1,1),(2,1)]⟩),
 (70,⟨2,true, [.int .i64 0, .int .i64 0], .arr 2 3 1⟩),
 (73,⟨1,false, [.slice none 0 0], .slice 78 3⟩),
 (74,⟨1,false, [.slice none 0 0], .slice 216 3⟩),
 (78,⟨3,true, [.int .i64 0, .slice none 0 0, .slice none 0 0], .struct [(0,1),(1,1),(2,1)]⟩),
 (89,⟨1,false, [.pointer none], .other⟩),
 (92,⟨1,false, [.pointer none], .other⟩),
 (97,⟨1,false, [.pointer none], .other⟩),
 (98,⟨20,true, [.int .i64 0, .int .i64 0, .int .i64 0, .int .i64 0, .int .i64 0, .pointer none, .int .i64 0, .int .i64 0, .int .i64 0, .int .i64 0, .int .i64 0, .string ⟨#[]⟩, .slice none 0 0, .slice none 0 0, .bool false, .int .i64 0, .int .i64 0, .int .i64 0, .int .i64 0, .slice none 0 0], .struct [(0,5),(5,1),(6,14)]⟩),
 (99,⟨20,true, [.int .i64 0, .int .i64 0, .int .i64 0, .int .i64 0, .int .i64 0, .pointer none, .int .i64 0, .int .i64 0, .int .i64 0, .int .i64 0, .int .i64 0, .string ⟨#[]⟩, .slice none 0 0, .slice none 0 0, .bool false, .int .i64 0, .int .i64 0, .int .i64 0, .int .i64 0, .slice none 0 0], .struct [(0,5),(5,1),(6,14)]⟩),
 (106,⟨1,false, [.slice none 0 0], .slice 70 2⟩),
 (108,⟨3,true, [.slice none 0 0, .int .i64 0, .int .i64 0], .struct [(0,1),(1,1),(2,1)]⟩),
 (110,⟨26,true, [.int .i64 0, .int .i64 0, .int .i64 0, .int .i64 0, .int .i64 0, .slice none 0 0, .slice none 0 0, .int .i64 0, .int .i64 0, .bool false, .int .i64 0, .int .i64 0, .int .i64 0, .int .i64 0, .int .i64 0, .string ⟨#[]⟩, .slice none 0 0, .slice none 0 0, .bool false, .int .i64 0, .int .i64 0, .int .i64 0, .int .i64 0, .slice none 0 0, .slice none 0 0, .slice none 0 0], .struct [(0,5),(5,4),(9,1),(10,14),(24,1),(25,1)]⟩),
 (111,⟨26,true, [.int .i64 0, .int .i64 0, .int .i64 0, .int .i64 0, .int .i64 0, .slice none 0 0, .slice none 0 0, .int .i64 0, .int .i64 0, .bool false, .int .i64 0, .int .i64 0, .int .i64 0, .int .i64 0, .int .i64 0, .string ⟨#[]⟩, .slice none 0 0, .slice none 0 0, .bool false, .int .i64 0, .int .i64 0, .int .i64 0, .int .i64 0, .slice none 0 0, .slice none 0 0, .slice none 0 0], .struct [(0,5),(5,4),(9,1),(10,14),(24,1),(25,1)]⟩),
 (113,⟨1,false, [.pointer none], .other⟩),
 (115,⟨12,true, [.pointer none, .pointer none, .int .i64 0, .int .i64 0, .int .i64 0, .slice none 0 0, .int .i64 0, .int .i64 0, .int .i64 0, .int .i64 0, .int .i64 0, .int .i64 0], .struct [(0,1),(1,1),(2,10)]⟩),
 (116,⟨12,true, [.pointer none, .pointer none, .int .i64 0, .int .i64 0, .int .i64 0, .slice none 0 0, .int .i64 0, .int .i64 0, .int .i64 0, .int .i64 0, .int .i64 0, .int .i64 0], .struct [(0,1),(1,1),(2,10)]⟩),
 (118,⟨4,true, [.slice none 0 0, .slice none 0 0, .int .i64 0, .int .i64 0], .struct [(0,4)]⟩),
 (119,⟨4,true, [.slice none 0 0, .slice none 0 0, .int .i64 0, .int .i64 0], .struct [(0,4)]⟩),
 (127,⟨1,false, [.pointer none], .other⟩),
 (130,⟨1,false, [.pointer none], .other⟩),
 (132,⟨21,true, [.int .i64 0, .int .i64 0, .int .i64 0, .int .i64 0, .int .i64 0, .pointer none, .int .i64 0, .int .i64 0, .int .i64 0, .int .i64 0, .int .i64 0, .string ⟨#[]⟩, .slice none 0 0, .slice none 0 0, .bool false, .int .i64 0, .int .i64 0, .int .i64 0, .int .i64 0, .slice none 0 0, .int .i64 0], .struct [(0,5),(5,1),(6,14),(20,1)]⟩),
 (133,⟨4,true, [.slice none 0 0, .slice none 0 0, .int .i64 0, .int .i64 0], .struct [(0,4)]⟩),
 (139,⟨3,true, [.int .i64 0, .int .i64 0, .slice none 0 0], .struct [(0,1),(1,1),(2,1)]⟩),
 (141,⟨8,true, [.int .i64 0, .int .i64 0, .int .i64 0, .int .i64 0, .int .i64 0, .int .i64 0, .int .i64 0, .slice none 0 0], .struct [(0,1),(1,1),(2,1),(3,1),(4,1),(5,3)]⟩),
 (143,⟨1,false, [.slice none 0 0], .slice 189 3⟩),
 (144,⟨1,true, [.slice none 0 0], .struct [(0,1)]⟩),
 (145,⟨1,true, [.slice none 0 0], .struct [(0,1)]⟩),
 (151,⟨2,true, [.int .i64 0, .slice none 0 0], .struct [(0,1),(1,1)]⟩),
 (152,⟨2,true, [.int .i64 0, .slice none 0 0], .struct [(0,1),(1,1)]⟩),
 (156,⟨1,false, [.int .u32 0], .int .u32⟩),
 (160,⟨1,false, [.slice none 0 0], .slice 139 3⟩),
 (163,⟨1,false, [.slice none 0 0], .slice 141 8⟩),
 (169,⟨4,true, [.int .i64 0, .int .i64 0, .int .i64 0, .slice none 0 0], .struct [(0,1),(1,1),(2,1),(3,1)]⟩),
 (170,⟨4,true, [.int .i64 0, .int .i64 0, .int .i64 0, .slice none 0 0], .struct [(0,1),(1,1),(2,1),(3,1)]⟩),
 (179,⟨1,false, [.pointer none], .other⟩),
 (181,⟨9,true, [.pointer none, .int .i64 0, .int .i64 0, .int .i64 0, .int .i64 0, .int .i64 0, .string ⟨#[]⟩, .slice none 0 0, .int .i64 0], .struct [(0,1),(1,7),(8,1)]⟩),
 (189,⟨3,true, [.int .i64 0, .int .i64 0, .bool false], .struct [(0,1),(1,1),(2,1)]⟩),
 (196,⟨1,false, [.slice none 0 0], .slice 278 4⟩),
 (211,⟨3,true, [.int .i64 0, .int .i64 0, .slice none 0 0], .struct [(0,1),(1,1),(2,1)]⟩),
 (215,⟨3,true, [.int .i64 0, .slice none 0 0, .int .i64 0], .struct [(0,1),(1,1),(2,1)]⟩),
 (216,⟨3,true, [.int .i64 0, .slice none 0 0, .int .i64 0], .struct [(0,1),(1,1),(2,1)]⟩),
 (220,⟨1,false, [.slice none 0 0], .slice 222 2⟩),
 (222,⟨2,true, [.int .i64 0, .slice none 0 0], .struct [(0,1),(1,1)]⟩),
 (261,⟨1,false, [.pointer none], .other⟩),
 (278,⟨4,true, [.int .i64 0, .int .i64 0, .int .i64 0, .int .i64 0], .arr 4 3 1⟩),
 (319,⟨1,false, [.map none], .other⟩),
 (320,⟨1,false, [.slice none 0 0], .slice 4 1⟩),
 (337,⟨1,false, [.nilFunc], .other⟩),
 (340,⟨1,false, [.nilFunc], .other⟩),
 (347,⟨3,true, [.int .i64 0, .slice none 0 0, .slice none 0 0], .struct [(0,1),(1,1),(2,1)]⟩),
 (348,⟨3,true, [.int .i64 0, .slice none 0 0, .slice none 0 0], .struct [(0,1),(1,1),(2,1)]⟩),
 (365,⟨0,true, [], .struct []⟩),
 (368,⟨3,true, [.int .i64 0, .int .i64 0, .slice none 0 0], .struct [(0,1),(1,1),(2,1)]⟩),
 (418,⟨1,false, [.nilFunc], .other⟩),
 (429,⟨1,false, [.slice none 0 0], .slice 21 1⟩),
 (433,⟨1,false, [.int .u64 0], .int .u64⟩),
 (437,⟨1,false, [.int .u16 0], .int .u16⟩),
 (483,⟨2,true, [.int .u8 0, .int .u8 0], .struct [(0,1),(1,1)]⟩),
 (484,⟨32,true, [.int .u8 0, .int .u8 0, .int .u8 0, .int .u8 0, .int .u8 0, .int .u8 0, .int .u8 0, .int .u8 0, .int .u8 0, .int .u8 0, .int .u8 0, .int .u8 0, .int .u8 0, .int .u8 0, .int .u8 0, .int .u8 0, .int .u8 0, .int .u8 0, .int .u8 0, .int .u8 0, .int .u8 0, .int .u8 0, .int .u8 0, .int .u8 0, .int .u8 0, .int .u8 0, .int .u8 0, .int .u8 0, .int .u8 0, .int .u8 0, .int .u8 0, .int .u8 0], .arr 16 483 2⟩)]
theorem tys_ok:TOk Tryz.prog tys:=by
 refine⟨?_,?_,?_,?_,?_,?_,?_,?_,?_,?_,?_,?_,?_,?_,?_,?_,?_,?_,?_,?_,?_,?_,?_,?_,?_,?_,?_,?_,?_,?_,?_,?_,?_,?_,?_,?_,?_,?_,?_,?_,?_,?_,?_,?_,?_,?_,?_,?_,?_,?_,?_,?_,?_,?_,?_,?_,?_,?_,?_,?_,?_,?_,?_,?_,?_,?_,?_,?_,?_,?_,?_,?_,?_,?_,?_,?_,?_,?_,?_,?_,?_,?_,?_,?_,?_,?_,?_,?_,?_,?_,?_,?_,?_,?_,?_,?_,?_,?_,?_,?_,?_,?_,tv⟩ <;> (unfold TyOk;kernel_rfl)
theorem ri {A:AV} (c:Ctx) (v:Value) (h:Rd A c v):Rd A c v:=h
theorem Fn.st {f:FuncId} {fn:Func} {body:Code} {args:List AV} {K:AV→Prop} (hf:Tryz.prog.funcs[f]? = some fn) (hb:fn.body=some body) (h:C2 Tryz.prog tys fn.ntmps 0 body (av tys fn.results.toList K) (frOf 0 args) []) (i:(fn.name == "runtime.NumGoroutine")=false:=by rfl) (hn:Nat.ble args.length fn.ntmps=true:=by rfl):Fn Tryz.prog f args K:=Fn.of tys_ok hf hb i (Ae hn) h
def zR:=@Fn.st
theorem mixed:Tryz.prog.follows .mixedOrders=true:=by kernel_rfl
end
end Go.Proofs.YtpjkcgacjjbikaaGreatDoor.A
namespace Go.Proofs.YtpjkcgacjjbikaaGreatDoor
section
open Go.RowKit
structure Geo where
 z:Int
 d:Int
 sp:Int
 sl:Int
 an:Int
structure Img where
 zone:Int
 what:Int
 bytes:List UInt8
deriving DecidableEq
structure Rc where
 kind:Int
 seq:Int
 epoch:Int
 at_:Int
 of_:Int
 img:Img
deriving DecidableEq
structure Ent where
 stamp:Int
 sum:Int
 lost:Bool
deriving DecidableEq
instance:Rp Img where
 sz:=3
 agg:=true
 pos:=by omega
 E:=fun w M cs x=>∃ r,cs=[.int .i64 x.zone, .int .i64 x.what,r]/\SlR w M r x.bytes
 len:=fun h=>by obtain⟨b,rfl,_⟩:=h;rfl
 one:=fun h u hu=>by
  obtain⟨b,rfl,a,c,xs,rfl,_⟩:=h;simp at hu;rcases hu with rfl | rfl | rfl <;> rfl
 mono:=fun k h=>by obtain⟨b,rfl,h1⟩:=h;exact⟨b,rfl,h1.mono k⟩
instance:Rp Rc where
 sz:=8
 agg:=true
 pos:=by omega
 E:=fun w M cs x=>∃ r,cs=[.int .i64 x.kind, .int .i64 x.seq, .int .i64 x.epoch, .int .i64 x.at_, .int .i64 x.of_, .int .i64 x.img.zone, .int .i64 x.img.what,r]/\SlR w M r x.img.bytes
 len:=fun h=>by obtain⟨b,rfl,_⟩:=h;rfl
 one:=fun h u hu=>by
  obtain⟨b,rfl,a,c,xs,rfl,_⟩:=h;simp at hu;rcases hu with rfl | rfl | rfl | rfl | rfl | rfl | rfl | rfl <;> rfl
 mono:=fun k h=>by obtain⟨b,rfl,h1⟩:=h;exact⟨b,rfl,h1.mono k⟩
instance:Rp Ent where
 sz:=3
 agg:=true
 pos:=by omega
 E:=fun _ _ cs x=>cs=[.int .i64 x.stamp, .int .i64 x.sum, .bool x.lost]
 len:=fun h=>by rw [h];try rfl
 one:=fun h u hu=>by rw [h] at hu;simp at hu;rcases hu with rfl | rfl | rfl <;> rfl
 mono:=fun _ h=>h

section
variable {w:World} {M:Ms} {a:Option Addr} {n c k:Nat}
theorem Vf {l:List UInt8} (h:SlR w M (.slice a n c) l) (hk:k<l.length):∃ b off,a=some ⟨b,off,none⟩/\¬M b/\w.cell? ⟨b,off+k,none⟩=some (.int .u8 l[k].toNat):=by
 obtain⟨b,off,cs,rfl,hm,he,hc⟩:=h.at_ hk;have f:cs=[.int .u8 l[k].toNat]:=he;subst f;refine⟨b,off,rfl,hm,?_⟩;have:=hc 0 _ rfl;simpa [Rp.sz] using this
theorem O8 {l:List Int} (h:SlR w M (.slice a n c) l) (hk:k<l.length):∃ b off,a=some ⟨b,off,none⟩/\¬M b/\w.cell? ⟨b,off+k,none⟩=some (.int .i64 l[k]):=by
 obtain⟨b,off,cs,rfl,hm,he,hc⟩:=h.at_ hk;have f:cs=[.int .i64 l[k]]:=he;subst f;refine⟨b,off,rfl,hm,?_⟩;have:=hc 0 _ rfl;simpa [Rp.sz] using this
end
theorem SlR.bare {α:Type} [Rp α] {w:World} {M:Ms} {v:Value} {l:List α} (h:SlR w M v l):SlR w noM v l:=h.mono (Keep.less fun _ h'=>h'.elim)
theorem OwR.plain {α:Type} [Rp α] (hp:∀ w M M' cs (x:α),Rp.E w M cs x->Rp.E w M' cs x) {w:World} {M M':Ms} {base:Nat} {e:TypeId} {v:Value} {l:List α} (h:OwR w M base e v l):OwR w M' base e v l:=by
 obtain⟨xs,ho,he⟩:=h;exact⟨xs,ho,he.mono fun cs x _ h=>hp _ _ _ _ _ h⟩
theorem tyB:SlT Tryz.prog 22 5 UInt8:=⟨Tryz.underlying22, .int .u8 0,1,1,by kernel_rfl,rfl,by omega,rfl⟩
end
end Go.Proofs.YtpjkcgacjjbikaaGreatDoor
namespace Go.Proofs.YtpjkcgacjjbikaaGreatDoor.A
section
open Go.RowKit
def bA (b:List UInt8):AV:= .sl 1 b.length fun i=> [.v (.int .u8 (b.getD i 0).toNat)]
def iA (l:List Int):AV:= .sl 1 l.length fun i=> [iv (l.getD i 0)]
def Dz (x:Img):List AV:= [iv x.zone,iv x.what,bA x.bytes]
def D2 (l:List Img):AV:= .sl 3 l.length fun i=>Dz (l.getD i ⟨0,0, []⟩)
def J3 (x:Rc):List AV:= [iv x.kind,iv x.seq,iv x.epoch,iv x.at_,iv x.of_,iv x.img.zone,iv x.img.what,bA x.img.bytes]
def LO (l:List Rc):AV:= .sl 8 l.length fun i=>J3 (l.getD i ⟨0,0,0,0,0,⟨0,0, []⟩⟩)
def AK (g:Geo):List AV:= [iv g.z,iv g.d,iv g.sp,iv g.sl,iv g.an]

theorem wi {n:Int} (h : -9223372036854775808<=n/\n<=9223372036854775807):IntKind.i64.wrap n=n:=IntWalk.i64_in n h
theorem AG {k:Nat} (h:k<1000000000000):AV.v (.int .i64 (IntKind.i64.wrap ((k:Int)+1))) = iv ((k+1:Nat):Int):=by
 rw [wi (by omega)];try rfl

theorem Ir {c:Ctx} {u:Value} {b:List UInt8} (h:Rd (bA b) c u):SlR c.w c.M u b:=by
 simp only [bA,Rd] at h;obtain⟨a,k,rfl,h1,h2,h3⟩:=h;refine⟨a,k,b.map fun x=> .int .u8 x.toNat,rfl,h1,h2,?_,fun hne=>?_⟩
 ·refine Elems.of_get (by simp [Rp.sz]) fun i x hx=>⟨[.int .u8 x.toNat],rfl,rfl,fun j hj=>?_⟩
  have hj:j<1:=hj;obtain rfl:j=0:=by omega
  simp [Rp.sz,hx]
 ·rcases h3 with h3 | ⟨bl,off,rfl,hm,hb,hc⟩
  ·exact absurd (Be h3) hne
  ·refine⟨bl,off,rfl,hm,fun j u hu=>?_⟩;rw [Bb] at hu;cases hq:b[j]? with
   | none=>rw [hq] at hu;simp at hu
   | some x=>
    rw [hq] at hu;simp at hu;subst hu;have f:=(At.1 hq).1;have:=(hc j f).2;simp only [RdAt,Rd] at this;obtain⟨⟨u,e1,_,rfl⟩,_⟩:=this;rw [Nat.mul_one] at e1;rw [show b.getD j 0=x by rw [Ac,hq];try rfl] at e1;exact e1
theorem ofBytes {c:Ctx} {u:Value} {b:List UInt8} (h:SlR c.w c.M u b):Rd (bA b) c u:=by
 obtain⟨a,k,xs,rfl,h1,h2,h3,h4⟩:=h;simp only [bA,Rd];refine⟨a,k,rfl,h1,h2,?_⟩;by_cases f:b=[]
 ·exact .inl (by rw [f];try rfl)
 ·obtain⟨bl,off,rfl,hm,hc⟩:=h4 f;have cell:∀ i,i<b.length->c.w.cell? ⟨bl,off+i,none⟩=some (.int .u8 (b.getD i 0).toNat):=by
   intro i hi;obtain⟨cs,e1,e2,e3⟩:=h3.get (Ag hi);have e2:cs=[.int .u8 b[i].toNat]:=e2;subst e2;have:=hc (i*1+0) _ ((e3 0 (by decide)).trans rfl);rw [show b.getD i 0=b[i] by rw [Ac,Ag hi];try rfl];simpa using this
  have h0:=cell 0 (DP.2 f);refine .inr ⟨bl,off,rfl,hm,World.block_lt_of_cell? _ _ h0,fun i hi=>⟨rfl,?_⟩⟩;simp only [RdAt,Rd,Nat.mul_one,and_true];exact⟨_,cell i hi,rfl,rfl⟩
theorem VU {c0:Ctx} {w':World} {t:TypeId} {u:Value} {b:List UInt8} (h:OwR w' noM c0.w.heap.size t u b) (hM:∀ b,c0.M b->b<c0.w.heap.size):Rd (bA b) { c0 with w:=w' } u:=by
 refine ofBytes (c:={ c0 with w:=w' }) ?_;have h':OwR w' c0.M c0.w.heap.size t u b:=by
  obtain⟨xs,h1,h2⟩:=h;exact⟨xs,h1,h2.mono fun cs x _ h=>h⟩
 exact h'.sl fun b hb hm=>by have:=hM b hm;omega
theorem Ob {α:Type} {d:α} {a b:List α} {k:Nat} (h:a.take k=b.take k) (ha:k<a.length) (hb:k<b.length) (e:a.getD k d=b.getD k d):a.take (k+1)=b.take (k+1):=by
 rw [AW ha,AW hb,h];rw [Ac,Ac,Ag ha,Ag hb] at e;simp only [BH] at e;rw [e]
theorem Rx {α:Type} {d:α} {a b:List α} {k:Nat} (e:a.getD k d≠b.getD k d):a≠b:=fun h=>e (by rw [h])
theorem RC {α:Type} {a b:List α} {k:Nat} (h:a.take k=b.take k) (ha:a.length<=k) (hb:b.length<=k):a=b:=by
 rwa [A4 ha,A4 hb] at h
theorem Y8 {a b:UInt8}:((a.toNat:Int) != b.toNat)=(a != b):=by
 rw [Bool.eq_iff_iff,bne_iff_ne,bne_iff_ne,ne_eq,ne_eq,Int.natCast_inj,UInt8.toNat_inj]

theorem A3 {α:Type} {d:α} {l:List α} {k:Nat} (h:k<l.length):l.getD k d∈l:=by
 rw [Ac,Ag h];exact CD h
theorem EI {α:Type} {d:α} {f:Nat->α} {n i:Nat} (h:i<n):((List.range n).map f).getD i d=f i:=by
 rw [Ac,Bb,Bz h];try rfl
theorem G6 {α β:Type} {d:α} {f:α->β} {l:List α} {k:Nat} (h:k<l.length):(l.take (k+1)).map f=(l.take k).map f ++ [f (l.getD k d)]:=by
 rw [AW h,A8,Ac,Ag h];try rfl
theorem MP {α β:Type} {d:α} {e:β} {f:α->β} {l:List α} {k i:Nat} (h:i<l.length) (hk:i<k):((l.take k).map f).getD i e=f (l.getD i d):=by
 rw [Ac,Ac,Bb,BG hk,Ag h];try rfl
theorem Rd.congr {c:Ctx} {sz n n':Nat} {get get':Nat->List AV} {u:Value} (hn:n=n') (hg:∀ i,i<n->get i=get' i) (h:Rd (.sl sz n get) c u):Rd (.sl sz n' get') c u:=by
 subst hn;simp only [Rd] at h |-
 obtain⟨a,k,rfl,h1,h2,h3⟩:=h;refine⟨a,k,rfl,h1,h2,h3.imp id ?_⟩;rintro⟨b,off,rfl,q1,q2,q3⟩;exact⟨b,off,rfl,q1,q2,fun i hi=>by rw [<-hg i hi];exact q3 i hi⟩
def zB:=@Rd.congr
theorem Qv (a b:List UInt8) (ha:a.length<=100000000000):Fn Tryz.prog 17 [bA a,bA b] fun r=>r = .v (.bool (decide (a=b))):=by
 refine Fn.of tys_ok Tryz.func17 rfl rfl (by show 2<=26;decide) ?_;conv=>whnf
 refine Am (fun h=>?_) (fun h=>?_) <;> conv=>whnf
 ·exact⟨_,ri,by simp at h;rw [decide_eq_false (fun e=>h (by rw [e]))]⟩
 simp at h;refine zM Nat (fun k=>([(0,bA a),(1,bA b),(5,iv k)], [])) (fun k=>k<=a.length/\a.take k=b.take k) (fun k=>a.length - k) 0 ⟨Aj _,by simp⟩ ⟨[],tv,tA,tv,rfl,rfl,rfl⟩ ?_;rintro k ⟨hk,hI⟩;conv=>whnf
 refine Am (fun h2=>?_) (fun h2=>?_) <;> simp at h2 <;> conv=>whnf
 ·refine zF tys_ok mixed (by kernel_rfl) ?_;refine⟨⟨by omega,by omega⟩,?_⟩;refine⟨⟨by omega,by omega⟩,?_⟩;conv=>whnf
  refine Am (fun h3=>?_) (fun h3=>?_) <;> conv=>whnf
  ·exact⟨_,ri,by simp only [Y8,bne_iff_ne,Aa] at h3;rw [decide_eq_false (Rx h3)]⟩
  ·simp only [Y8,bne_eq_false_iff_eq,Aa] at h3;exact⟨k+1,⟨by omega,Ob hI (by omega) (by omega) h3⟩,by omega,⟨[],tv,⟨rfl,rfl,AG (by omega),tv⟩,tv,rfl,rfl,rfl⟩⟩
 ·exact⟨_,ri,by rw [decide_eq_true (RC hI (by omega) (by omega))]⟩
theorem Ew (b:List UInt8) (hb:b.length<=1000000000):Fn Tryz.prog 221 [bA b] fun r=>r=bA b:=by
 refine Fn.of tys_ok Tryz.func221 rfl rfl (by show 1<=7;decide) ?_;refine⟨hb,?_⟩;refine⟨by simp,?_⟩;exact⟨bA b,fun c v h=>zB rfl (fun i hi=>EI hi) h,rfl⟩
theorem Wj (x y:Img) (hx:x.bytes.length<=100000000000):Fn Tryz.prog 209 [.ag (Dz x), .ag (Dz y)] fun r=>r = .v (.bool (decide (x=y))):=by
 obtain⟨x1,x2,x3⟩:=x;obtain⟨y1,y2,y3⟩:=y;refine Fn.of tys_ok Tryz.func209 rfl rfl (by show 2<=24;decide) ?_;conv=>whnf
 repeat' (first | (refine Am (fun h=>?_) (fun h=>?_) <;> simp at h <;> conv=>whnf) | (refine zY (Qv x3 y3 hx) ?_;conv=>whnf))
 all_goals exact⟨_,ri,by simp [*]⟩
theorem IE (l:List Img) (hl:l.length<=1000000) (hb:∀ x∈l,x.bytes.length<=1000000000):Fn Tryz.prog 292 [D2 l] fun r=>r=D2 l:=by
 refine Fn.of tys_ok Tryz.func292 rfl rfl (by show 1<=32;decide) ?_;conv=>whnf
 refine zM Nat (fun k=>([(0,D2 l),(3, .ow 0 k),(4,iv k)], [.row 139 3 ((l.take k).map Dz)])) (fun k=>k<=l.length) (fun k=>l.length - k) 0 (Aj _) ⟨[(3,139,3)],tA,tA,tA,rfl,rfl,rfl⟩ ?_;rintro k hk;conv=>whnf
 refine Am (fun h2=>?_) (fun h2=>?_) <;> simp at h2 <;> conv=>whnf
 ·refine zF tys_ok mixed (by kernel_rfl) ?_;refine⟨⟨by omega,by omega⟩,?_⟩;refine⟨⟨by omega,by omega⟩,?_⟩;refine⟨⟨by omega,by omega⟩,?_⟩;conv=>whnf
  refine zH (Ew (l.getD k ⟨0,0, []⟩).bytes (hb _ (A3 h2))) rfl ?_;rintro _ rfl;refine⟨rfl,?_⟩;conv=>whnf
  refine⟨⟨by simp;omega,by omega⟩,?_⟩;exact⟨k+1,by omega,by omega, [],tv,⟨rfl,rfl,AG (by omega),tv⟩,⟨congrArg (AB.row _ _) (G6 h2),tv⟩,rfl,rfl,rfl⟩
 ·refine⟨by simp;omega,?_⟩;exact⟨D2 l,fun c v h=>zB (by omega) (fun i hi=>MP (by omega) (by omega)) h,rfl⟩
end
end Go.Proofs.YtpjkcgacjjbikaaGreatDoor.A
namespace Go.Proofs.YtpjkcgacjjbikaaGreatDoor
section
open Go.RowKit
def CQ (n lo hi:Int):Bool:=decide (lo<=n)&&decide (n<=hi)
theorem AE {n lo hi:Int}:CQ n lo hi=true↔lo<=n/\n<=hi:=by simp [CQ]
def F1 (b:Bool):Value:= .int .i64 (if b then 0 else 1)
def Bq (g:Geo):Bool:=CQ g.z 1 4&&CQ g.d 1 4&&CQ g.sp 0 2&&CQ g.sl 14 30&&CQ g.an 1 3
theorem Aq {g:Geo}:Bq g=true↔(1<=g.z/\g.z<=4)/\(1<=g.d/\g.d<=4)/\(0<=g.sp/\g.sp<=2)/\(14<=g.sl/\g.sl<=30)/\(1<=g.an/\g.an<=3):=by
 simp only [Bq,Af,AE,and_assoc]

def H6 (n:Int):Bool:=CQ n 0 4294967295
end
section
open Go.RowKit
attribute [local go_sem ↓] Go.wp_at_zero Go.wp_at_succ

def Dr (size:Int):Int:=if size=1 then 256 else if size=2 then 65536 else 4294967296
def ET (size:Int):Prop:=size=1\/size=2\/size=4
def FZ (n size:Int):Value:=if size=1 then .iface 5 (.int .u8 n) else if size=2 then .iface 437 (.int .u16 n) else .iface 156 (.int .u32 n)
theorem bz (w:World) (v:Value):(Instr.typeAssert (.iface 5 v) 20 5 true).run Tryz.prog w = .ok (.tuple #[v, .bool true]) w:=by kernel_rfl
theorem Y2 (w:World) (v:Value):(Instr.typeAssert (.iface 437 v) 20 5 true).run Tryz.prog w = .ok (.tuple #[.int .u8 0, .bool false]) w:=by kernel_rfl
theorem Y1 (w:World) (v:Value):(Instr.typeAssert (.iface 156 v) 20 5 true).run Tryz.prog w = .ok (.tuple #[.int .u8 0, .bool false]) w:=by kernel_rfl
theorem aV (w:World) (v:Value):(Instr.typeAssert (.iface 437 v) 20 437 true).run Tryz.prog w = .ok (.tuple #[v, .bool true]) w:=by kernel_rfl
theorem Xf (w:World) (v:Value):(Instr.typeAssert (.iface 156 v) 20 437 true).run Tryz.prog w = .ok (.tuple #[.int .u16 0, .bool false]) w:=by kernel_rfl
theorem aU (w:World) (v:Value):(Instr.typeAssert (.iface 156 v) 20 156 false).run Tryz.prog w = .ok v w:=by kernel_rfl
attribute [local go_sem] bz Y2 Y1 aV Xf aU
def leB:Nat->Nat->List UInt8
 | 0,_=> []
 | k+1,n=>UInt8.ofNat (n % 256)::leB k (n / 256)
theorem leB_len:∀ (k n:Nat),(leB k n).length=k
 | 0,_=>rfl
 | k+1,n=>by simp [leB,leB_len k]

theorem OwR.litB (w:World) (M:Ms) (l:List UInt8) (hl:l.length<=1000):OwR (w.alloc (.cells (l.map fun x=>Value.int .u8 x.toNat).toArray 5)) M w.heap.size 5 (.slice (some ⟨w.heap.size,0,none⟩) l.length l.length) l:=by
 refine⟨l.map fun x=>Value.int .u8 x.toNat,⟨by simp [Rp.sz], .inr ⟨w.heap.size,l.length,_,rfl,Ah _,heap_alloc_new w _,Ah _,by unfold maxLen;omega,by simp [Rp.sz],?_⟩⟩,?_⟩
 ·simp only [Rp.sz,Nat.mul_one];exact A4 (by simp)
 ·clear hl;induction l with
  | nil=>rfl
  | cons x l ih=>exact⟨[.int .u8 x.toNat],_,rfl,rfl,rfl,ih⟩

def zd:=@OwR.litB
theorem Tc (n size:Int) (w:World) (hs:ET size):Calls Tryz.prog 268 #[.int .i64 n, .int .i64 size] w fun e w'=>e = .returned (if 0<=n/\n<Dr size then FZ n size else .nilIface)/\w'=w:=by
 by_cases h0:0<=n
 ·by_cases h1:n<Dr size
  ·have w8:size=1->IntKind.u8.wrap n=n:=fun h=>by subst h;simp [Dr] at h1;rw [IntKind.wrap_u8];omega
   have w16:size=2->IntKind.u16.wrap n=n:=fun h=>by subst h;simp [Dr] at h1;rw [IntKind.wrap_u16];omega
   have w32:size=4->IntKind.u32.wrap n=n:=fun h=>by subst h;simp [Dr] at h1;rw [IntKind.wrap_u32];omega
   have hE:=Lib.hid (show (if 0<=n/\n<Dr size then FZ n size else .nilIface)=FZ n size from if_pos ⟨h0,h1⟩);rw [hE.out];rcases hs with rfl | rfl | rfl
   ·have h2:n<256:=h1;have w0:=w8 rfl;clear h1 w8 w16 w32 hE
    go_enter Tryz.func268,Tryz.ntmps268
    go_wp2
    go_ret
    exact tA
   ·have h2:n<65536:=h1;have w0:=w16 rfl;clear h1 w8 w16 w32 hE
    go_enter Tryz.func268,Tryz.ntmps268
    go_wp2
    go_ret
    exact tA
   ·have h2:n<4294967296:=h1;have w0:=w32 rfl;clear h1 w8 w16 w32 hE
    go_enter Tryz.func268,Tryz.ntmps268
    go_wp2
    go_ret
    exact tA
  ·have hE:=Lib.hid (show (if 0<=n/\n<Dr size then FZ n size else .nilIface) = .nilIface from if_neg (by omega));rw [hE.out];rcases hs with rfl | rfl | rfl
   ·have h2:¬n<256:=h1;clear h1 hE
    go_enter Tryz.func268,Tryz.ntmps268
    go_wp2
    go_ret
    exact tA
   ·have h2:¬n<65536:=h1;clear h1 hE
    go_enter Tryz.func268,Tryz.ntmps268
    go_wp2
    go_ret
    exact tA
   ·have h2:¬n<4294967296:=h1;clear h1 hE
    go_enter Tryz.func268,Tryz.ntmps268
    go_wp2
    go_ret
    exact tA
 ·have hE:=Lib.hid (show (if 0<=n/\n<Dr size then FZ n size else .nilIface) = .nilIface from if_neg (by omega));rw [hE.out];clear hE;rcases hs with rfl | rfl | rfl
  ·go_enter Tryz.func268,Tryz.ntmps268
   go_wp2
   go_ret
   exact tA
  ·go_enter Tryz.func268,Tryz.ntmps268
   go_wp2
   go_ret
   exact tA
  ·go_enter Tryz.func268,Tryz.ntmps268
   go_wp2
   go_ret
   exact tA

theorem Qw (n size:Int) (w:World) (M:Ms) (hs:ET size) (h0:0<=n) (h1:n<Dr size):Calls Tryz.prog 270 #[FZ n size] w fun e w'=>∃ r,e = .returned r/\OwR w' M w.heap.size 5 r (leB size.toNat n.toNat)/\Below w.heap.size w w':=by
 have hB:=fun o=>(Below.refl w.heap.size w).alloc (Ah _) o
 obtain⟨m,rfl⟩:∃ m:Nat,n=m:=⟨n.toNat,by omega⟩;rcases hs with rfl | rfl | rfl
 ·have h2:(m:Int)<256:=h1;have hL:=Lib.hid (zd w M (leB 1 m) (by rw [leB_len];omega));have e:(UInt8.ofNat (m % 256)).toNat=m:=by simp;omega
  simp only [leB,Az,Bx,e,Ao,Bv] at hL;have HB:=Lib.hid hB;clear hB h1 e h0;unfold FZ;simp only [if_true]
  go_enter Tryz.func270,Tryz.ntmps270
  go_wp2
  go_ret
  exact⟨_,rfl,hL.out,HB.out _⟩
 ·have h2:(m:Int)<65536:=h1;have hL:=Lib.hid (zd w M (leB 2 m) (by rw [leB_len];omega));have e0:((UInt8.ofNat (m % 256)).toNat:Int)=(m:Int) % 256:=by simp
  have e1:((UInt8.ofNat (m / 256 % 256)).toNat:Int)=(m:Int) / 256:=by simp;omega
  simp only [leB,Az,Bx,e0,e1,Ao,Bv] at hL;have HB:=Lib.hid hB;clear hB h1 e0 e1 h0;unfold FZ;simp only [if_true];rw [if_neg (by decide)]
  go_enter Tryz.func270,Tryz.ntmps270
  go_wp2
  go_ret
  exact⟨_,rfl,hL.out,HB.out _⟩
 ·have h2:(m:Int)<4294967296:=h1;have hL:=Lib.hid (zd w M (leB 4 m) (by rw [leB_len];omega));have e0:((UInt8.ofNat (m % 256)).toNat:Int)=(m:Int) % 256:=by simp
  have e1:((UInt8.ofNat (m / 256 % 256)).toNat:Int)=(m:Int) / 256 % 256:=by simp
  have e2:((UInt8.ofNat (m / 256 / 256 % 256)).toNat:Int)=(m:Int) / 65536 % 256:=by simp;omega
  have e3:((UInt8.ofNat (m / 256 / 256 / 256 % 256)).toNat:Int)=(m:Int) / 16777216:=by simp;omega
  simp only [leB,Az,Bx,e0,e1,e2,e3,Ao,Bv] at hL;have HB:=Lib.hid hB;clear hB h1 e0 e1 e2 e3 h0;unfold FZ;rw [if_neg (by decide),if_neg (by decide)]
  go_enter Tryz.func270,Tryz.ntmps270
  go_wp2
  go_ret
  exact⟨_,rfl,hL.out,HB.out _⟩
end
section
open Go.RowKit
attribute [local go_sem ↓] Go.wp_at_zero Go.wp_at_succ

theorem Wp (n:Nat) (w:World) (M:Ms) (hn:n<=1000000000):Calls Tryz.prog 329 #[.slice none 0 0, .int .i64 n] w fun e w'=>∃ r,e = .returned r/\OwR w' M w.heap.size 5 r ([]:List UInt8)/\Below w.heap.size w w':=by
 have hn0:¬(n:Int)<0:=by omega
 by_cases h0:n=0
 ·subst h0;clear hn
  go_enter Tryz.func329,Tryz.ntmps329
  go_wp2
  go_ret
  exact⟨_,rfl,OwR.nil _ _ _ _,Below.refl _ _⟩
 ·obtain⟨i0,hi0,hz0,hz1,hz2⟩:=info_parts (show (Tryz.prog.info? 5).map (fun i=>(i.zero,i.size,i.bytes))=some (some (.int .u8 0),1,1) by kernel_rfl);have hrz:∀ ty,_:=fun ty=>Lib.run_append_nil_zeros (P:=Tryz.prog) w 22 3 ty 5 i0 _ .i64 .i64 Tryz.underlying22 Tryz.underlying3 hi0 hz0 n (by omega) (by omega) (by omega) (by rw [hz2];omega)
  have hG:=grownCap_ge w n 0 5;have hGm:=grownCap_le_maxLen w n 0 5 (by unfold maxLen;omega);obtain⟨G,hGe⟩:∃ G,G=grownCap w n 0 5:=⟨_,rfl⟩;rw [<-hGe] at hG hGm;simp only [<-hGe] at hrz;obtain⟨Z,hZ⟩:∃ Z,Z=Builtin.zeroCells (Value.int .u8 0).cells n ++ Builtin.zeroCells (Value.int .u8 0).cells (G - n):=⟨_,rfl⟩;have hZs:Z.size=G*1:=by
   rw [hZ,Array.size_append,size_zeroCells,size_zeroCells];simp [Value.cells];omega
  rw [<-hZ] at hrz;have hO:=Lib.hid (show OwR (w.drew.alloc (.cells Z 5)) M w.heap.size 5 (.slice (some ⟨w.heap.size,0,none⟩) 0 G) ([]:List UInt8) from ⟨[],World.ownsRow_made w.drew Z G (Ah _) hGm hZs,rfl⟩);have hB:=Lib.hid ((MI w).trans ((Below.refl w.drew.heap.size w.drew).alloc (Ah _) (.cells Z 5)));have h0':(0:Int)<n:=by omega
  unfold maxLen at hGm;have hGi:(n:Int)<=G:=by omega
  clear hi0 hz0 hz1 hz2 hZ hZs hGe h0 hn
  go_enter Tryz.func329,Tryz.ntmps329
  go_wp2_with (with_reducible refine Lib.wpList_append_run w rfl (.tmp 20) (.tmp 21) _ _ rfl _ _ rfl rfl _ _ (hrz _) ?_)
  go_ret
  exact⟨_,rfl,hO.out,hB.out⟩
theorem Hb {α:Type} [Rp α] {w:World} {M:Ms} {a:Option Addr} {n c k:Nat} {l:List (List α)} (h:SlR w M (.slice a n c) l) (hk:k<l.length):∃ b off A C,a=some ⟨b,off,none⟩/\¬M b/\w.cell? ⟨b,off+k,none⟩=some (.slice A l[k].length C)/\SlR w M (.slice A l[k].length C) l[k]:=by
 obtain⟨b,off,cs,rfl,hm,he,hc⟩:=h.at_ hk;obtain⟨v,rfl,hv⟩:=he;obtain⟨A,C,rfl⟩:=hv.form;refine⟨b,off,A,C,rfl,hm,?_,hv⟩;have:=hc 0 _ rfl;simpa [Rp.sz] using this
theorem Keep.own {α:Type} [Rp α] {w w4:World} {M:Ms} {e:TypeId} {v:Value} {L:List α} (hb:Below w.heap.size w w4) (ho:OwR w4 M w.heap.size e v L):Keep w noM w4 (fun b=>noM b\/v.ownBlock=some b):=fun b hlt _=>
 ⟨fun h=>h.elim (fun h=>h) (fun h=>by have:=ho.own_ge h;omega),hb.block b hlt⟩
theorem NE {α:Type} {ls:List (List α)} {k:Nat} (hk:k<ls.length):(ls.take (k+1)).flatten=(ls.take k).flatten ++ ls[k]:=by
 rw [Ba,Ag hk,Ci];simp
theorem SF {α:Type} {ls:List (List α)} (k:Nat):(ls.take k).flatten.length<=ls.flatten.length:=by
 conv=>rhs;rw [<-Cj k ls]
 rw [Ci,Ai];omega

theorem RI (v:Value) (ls:List (List UInt8)) (w:World) (M Mi:Ms) (h:SlR w Mi v ls) (hl:ls.flatten.length<=1000000000) (hn:ls.length<=1000000) :
  Calls Tryz.prog 269 #[v] w fun e w'=>∃ r,e = .returned r/\OwR w' M w.heap.size 5 r ls.flatten/\Below w.heap.size w w':=by
 obtain⟨a,c,rfl⟩:=h.form;have H:=Lib.hid h.bare;have HL:=Lib.hid hl;clear h hl
 go_enter Tryz.func269,Tryz.ntmps269
 go_wp2
 go_loopg [3,11] ls.length (fun g s3 s11 wr=>∃ k s:Nat,s11 = .int .i64 k/\s3 = .int .i64 s/\k<=ls.length/\ls.length - k<=g/\Hid (s=(ls.take k).flatten.length)/\wr=w)
 case atStart=>exact⟨0,0,rfl,rfl,Aj _,by omega,Lib.hid (by simp),rfl⟩
 case round=>
  obtain⟨k,s,rfl,rfl,hkl,hg,hs,rfl⟩:=hrel;by_cases hlt:k<ls.length
  ·obtain⟨b,off,A,C,rfl, -,x1, -⟩:=Hb H.out hlt;have hlt':(k:Int)<ls.length:=by omega
   have hst:=Lib.hid (NE hlt);have hb:s+ls[k].length<=1000000000:=by
    have h1:=SF (ls:=ls) (k+1);rw [hst.out,Ai,<-hs.out] at h1;have:=HL.out;omega
   have hw1:IntKind.i64.wrap ((s:Int)+ls[k].length)=((s+ls[k].length:Nat):Int):=by rw [IntKind.wrap_i64];omega
   have hw0:¬(((s+ls[k].length:Nat):Int)<0):=by omega
   go_wp2
   go_roundg (ls.length - (k+1))
   case measure=>omega
   case rel=>exact⟨k+1,s+ls[k].length,by go_num,by first | rfl | go_num,by omega,by omega,Lib.hid (by rw [hst.out,Ai,hs.out]),rfl⟩
  ·obtain rfl:k=ls.length:=by omega
   have hb:s<=1000000000:=by
    have:=hs.out;rw [Aw] at this;have:=HL.out;omega
   obtain⟨w0,rfl⟩:∃ w0,w0=wr:=⟨_,rfl⟩;have hgr:=Lib.hid (Wp s w0 noM hb);clear hb hs
   go_wp2_with (go_at_call 329;go_must (with_reducible refine hgr.out.mono ?_);rintro e w2 ⟨r,rfl,ho2,hB2⟩)
   have HO:=Lib.hid (Ad ho2 hB2);clear ho2 hB2 hgr
   go_loopg [6,27] ls.length (fun g s6 s27 w3=>∃ k:Nat,s27 = .int .i64 k/\k<=ls.length/\ls.length - k<=g/\Hid (OwR w3 noM w0.heap.size 5 s6 ((ls.take k).flatten)/\Below w0.heap.size w0 w3))
   case atStart=>exact⟨0,rfl,Aj _,by omega,Lib.hid (by simpa using HO.out)⟩
   case round=>
    obtain⟨k,rfl,hkl,hg,hI⟩:=hrel;by_cases hlt:k<ls.length
    ·obtain⟨ho,hB⟩:=hI.out;obtain⟨b,off,A,C,rfl, -,x0,x2⟩:=Hb H.out hlt;have x1:=(zn (M:=noM) hB).cell (fun h=>h) x0;have hS:=Lib.hid (x2.mono (Keep.own hB ho));have O3:=Lib.hid ho;have HB3:=Lib.hid hB;have hlt':(k:Int)<ls.length:=by omega
     have hst:=Lib.hid (NE hlt);have hb:((ls.take k).flatten).length+ls[k].length<=1000000000:=by
      have h1:=SF (ls:=ls) (k+1);rw [hst.out,Ai] at h1;have:=HL.out;omega
     clear x0 x2 ho hB hI
     go_wp2_with (at_builtin;go_must (refine Hz (α:=UInt8) (M:=noM) (base:=w0.heap.size) (l:=(ls.take k).flatten) (m:=ls[k]) rfl (by rfl) tyB (by rfl) O3.out (by rfl) hS.out hb HB3.out.size ?_);intro v4 w4 ho4 hg4 hat4)
     go_roundg (ls.length - (k+1))
     case measure=>omega
     case rel=>exact⟨k+1,by go_num,by omega,by omega,Lib.hid ⟨by rw [hst.out];exact ho4,HB3.out.grown hg4 HB3.out.size (fun b e=>O3.out.own_ge e)⟩⟩
    ·obtain rfl:k=ls.length:=by omega
     obtain⟨ho,hB⟩:=hI.out;rw [Aw] at ho;have HF:=Lib.hid (Ad (OwR.plain (M':=M) (fun _ _ _ _ _ h=>h) ho) hB);clear ho hB hI
     go_wp2
     go_ret
     exact⟨_,rfl,HF.out.1,HF.out.2⟩
end
section
open Go.RowKit
attribute [local go_sem ↓] Go.wp_at_zero Go.wp_at_succ

theorem OwR.pair {w:World} {v1 v2:Value} {l1 l2:List UInt8} (h1:SlR w noM v1 l1) (h2:SlR w noM v2 l2) (t:TypeId):OwR (w.alloc (.cells #[v1,v2] t)) noM w.heap.size t (.slice (some ⟨w.heap.size,0,none⟩) 2 2) [l1,l2]:=
 ⟨[v1,v2],⟨rfl, .inr ⟨_,2,_,rfl,Ah _,heap_alloc_new w _,Ah _,by unfold maxLen;omega,rfl,rfl⟩⟩,⟨[v1], [v2],rfl,rfl,⟨v1,rfl,h1.mono Keep.ownNew⟩,⟨[v2], [],rfl,rfl,⟨v2,rfl,h2.mono Keep.ownNew⟩,rfl⟩⟩⟩
theorem Pj (n size:Int):∃ t u,FZ n size = .iface t u:=by
 unfold FZ;split
 ·exact⟨_,_,rfl⟩
 ·split <;> exact⟨_,_,rfl⟩

theorem J4 (v:Value) (l:List UInt8) (n size:Int) (w:World) (M Mi:Ms) (h:SlR w Mi v l) (hs:ET size) (hl:l.length<=1000000) (h0:0<=n) (h1:n<Dr size) :
  Calls Tryz.prog 192 #[v, .int .i64 n, .int .i64 size] w fun e w'=>∃ r,e = .returned (.tuple #[r, .int .i64 0])/\OwR w' M w.heap.size 5 r (l ++ leB size.toNat n.toNat)/\Below w.heap.size w w':=by
 obtain⟨a,c,rfl⟩:=h.form;have H:=Lib.hid h.bare;have hsz:=Lib.hid (Tc n size w hs);rw [if_pos ⟨h0,h1⟩] at hsz;have hby:=Lib.hid (Qw n size w noM hs h0 h1);obtain⟨t,u,e⟩:=Pj n size;rw [e] at hsz hby;have hlb:(leB size.toNat n.toNat).length<=4:=by rw [leB_len];rcases hs with rfl | rfl | rfl <;> decide
 obtain⟨L,hL⟩:∃ L,L=leB size.toNat n.toNat:=⟨_,rfl⟩;rw [<-hL] at hby hlb |-
 clear e hs h0 h1 h hL
 go_enter Tryz.func192,Tryz.ntmps192
 go_wp2_with fail
 ((with_reducible refine hsz.out.mono ?_);rintro e w1 ⟨rfl,rfl⟩)
 go_wp2_with fail
 ((with_reducible refine hby.out.mono ?_);rintro e w2 ⟨r1,rfl,ho1,hB1⟩);obtain⟨A1,C1,rfl⟩:=ho1.form;have HB1:=Lib.hid hB1;have HA:=Lib.hid ((Below.refl w2.heap.size w2).alloc (Ah _) (.cells #[.slice a l.length c, .slice A1 L.length C1] 22));have hcc:=Lib.hid (RI _ [l,L] (w2.alloc (.cells #[.slice a l.length c, .slice A1 L.length C1] 22)) M noM ((OwR.pair (H.out.mono (zn hB1)) (ho1.sl (fun _ _ h=>h)) 22).sl (fun _ _ h=>h)) (by simp;omega) (by simp));clear ho1 hB1 hby hsz
 go_wp2_with fail
 ((with_reducible refine hcc.out.mono ?_);rintro e w3 ⟨r3,rfl,ho3,hB3⟩);have HO:=Lib.hid (ho3.mono_base (base':=w1.heap.size) (Bo HB1.out.size HA.out.size));have HF:=Lib.hid (HB1.out.trans ((HA.out.trans (hB3.mono HA.out.size)).mono HB1.out.size));clear ho3 hB3 hcc
 go_wp2
 go_ret2
 refine⟨_,rfl,?_,HF.out⟩;have:=HO.out;simpa using this
end
section
open Go.RowKit
attribute [local go_sem ↓] Go.wp_at_zero Go.wp_at_succ

def rowB:List Int->List Int->List UInt8
 | n::ns,s::ss=>leB s.toNat n.toNat ++ rowB ns ss
 | _,_=> []
theorem rowB_step:∀ (ns ss:List Int) (k:Nat) (h1:k<ns.length) (h2:k<ss.length),rowB (ns.take (k+1)) (ss.take (k+1))=rowB (ns.take k) (ss.take k) ++ leB ss[k].toNat ns[k].toNat
 | n::ns,s::ss,0,_,_=>by simp [rowB]
 | n::ns,s::ss,k+1,h1,h2=>by
  have:=rowB_step ns ss k (by simpa using h1) (by simpa using h2);simp only [Dm,rowB,List.getElem_cons_succ,A7];rw [this]
theorem rowB_len:∀ (ns ss:List Int),(∀ s∈ss,ET s)->(rowB ns ss).length<=4*ss.length
 | [],ss,_=>by simp [rowB]
 | n::ns, [],_=>by simp [rowB]
 | n::ns,s::ss,h=>by
  have:=rowB_len ns ss (fun x hx=>h x (by simp [hx]));have h1:s.toNat<=4:=by rcases h s (by simp) with rfl | rfl | rfl <;> decide
  simp only [rowB,Ai,leB_len,Ao];omega

theorem XB (v1 v2:Value) (ns ss:List Int) (w:World) (M M1 M2:Ms) (h1:SlR w M1 v1 ns) (h2:SlR w M2 v2 ss) (hl:ns.length=ss.length) (hn:ns.length<=1000)
  (hf:∀ k (a:k<ns.length) (b:k<ss.length),ET ss[k]/\0<=ns[k]/\ns[k]<Dr ss[k]) :
  Calls Tryz.prog 189 #[v1,v2] w fun e w'=>∃ r,e = .returned (.tuple #[r, .int .i64 0])/\OwR w' M w.heap.size 5 r (rowB ns ss)/\Below w.heap.size w w':=by
 obtain⟨a1,c1,rfl⟩:=h1.form;obtain⟨a2,c2,rfl⟩:=h2.form;have H1:=Lib.hid h1.bare;have H2:=Lib.hid h2.bare;have HF:=Lib.hid hf;have hlen':((ns.length:Int) != ss.length)=false:=by simp [hl]
 have Hl:=Lib.hid hl;have Hss:Hid (∀ s∈ss,ET s):=Lib.hid fun s hs=>by
  obtain⟨k,hk,rfl⟩:=List.getElem_of_mem hs;exact(hf k (by omega) hk).1
 clear h1 h2 hf hl
 go_enter Tryz.func189,Tryz.ntmps189
 go_wp2
 clear hlen'
 go_loopg [6,18] ns.length (fun g s6 s18 wr=>∃ k:Nat,s18 = .int .i64 k/\k<=ns.length/\ns.length - k<=g/\Hid (OwR wr noM w.heap.size 5 s6 (rowB (ns.take k) (ss.take k))/\Below w.heap.size w wr))
 case atStart=>exact⟨0,rfl,Aj _,by omega,Lib.hid ⟨OwR.nil _ _ _ _,Below.refl _ _⟩⟩
 case round=>
  obtain⟨k,rfl,hkl,hg,hI⟩:=hrel;by_cases hlt:k<ns.length
  ·obtain⟨ho,hB⟩:=hI.out;have hl:=Hl.out;have hlt2:k<ss.length:=by omega
   have hl2:(ss.take k).length<=1000:=by rw [As];omega
   obtain⟨b1,o1,rfl, -,x1⟩:=O8 (H1.out.mono (zn hB)) hlt;obtain⟨b2,o2,rfl, -,x2⟩:=O8 (H2.out.mono (zn hB)) hlt2;have hlt':(k:Int)<ns.length:=by omega
   have hlt2':(k:Int)<ss.length:=by omega
   obtain⟨f1,f2,f3⟩:=HF.out k hlt hlt2;have hle:=rowB_len (ns.take k) (ss.take k) (fun s hs=>Hss.out s (Cn hs));have hp:=Lib.hid (J4 _ _ ns[k] ss[k] wr noM noM (ho.sl (fun _ _ h=>h)) f1 (by omega) f2 f3);have hst:=Lib.hid (rowB_step ns ss k hlt hlt2);have HB:=Lib.hid hB;clear f1 f2 f3 ho hB hI hle hl hl2
   go_wp2_with (go_at_call 192;go_must (with_reducible refine hp.out.mono ?_);rintro e w2 ⟨r,rfl,ho2,hB2⟩)
   go_roundg (ns.length - (k+1))
   case measure=>omega
   case rel=>exact⟨k+1,by go_num,by omega,by omega,Lib.hid ⟨by rw [hst.out];exact ho2.mono_base HB.out.size,HB.out.trans (hB2.mono HB.out.size)⟩⟩
  ·obtain rfl:k=ns.length:=by omega
   obtain⟨ho,hB⟩:=hI.out;rw [Aw,Hl.out,Aw] at ho;have HX:=Lib.hid (Ad (OwR.plain (M':=M) (fun _ _ _ _ _ h=>h) ho) hB);clear ho hB hI
   go_wp2
   go_ret2
   exact⟨_,rfl,HX.out.1,HX.out.2⟩
end
section
open Go.RowKit
attribute [local go_sem ↓] Go.wp_at_zero Go.wp_at_succ

theorem PD (v:Value) (l:List UInt8) (w:World) (M Mi:Ms) (h:SlR w Mi v l) (hl:l.length<=255) :
  Calls Tryz.prog 191 #[v] w fun e w'=>∃ r,e = .returned (.tuple #[r, .int .i64 0])/\OwR w' M w.heap.size 5 r (UInt8.ofNat l.length::l)/\Below w.heap.size w w':=by
 obtain⟨a,c,rfl⟩:=h.form;have hL:=zd w noM [UInt8.ofNat l.length] (by simp);have e:((UInt8.ofNat l.length).toNat:Int)=(l.length:Int):=by simp;omega
 simp only [Az,Bx,e,Ao,Bv] at hL;have hL:=Lib.hid hL;have hS:=Lib.hid (h.bare.mono (Keep.ownNew (o:= .cells #[Value.int .u8 (l.length:Int)] 5) (n:=1) (c:=1)));have HB:=Lib.hid ((Below.refl w.heap.size w).alloc (Ah _) (.cells #[Value.int .u8 (l.length:Int)] 5));have hl':¬(255:Int)<l.length:=by omega
 have hw8:IntKind.u8.wrap (l.length:Int)=l.length:=by rw [IntKind.wrap_u8];omega
 have hb : [UInt8.ofNat l.length].length+l.length<=1000000000:=by simp;omega
 clear h e hl
 go_enter Tryz.func191,Tryz.ntmps191
 go_wp2_with (at_builtin;go_must (refine Hz (α:=UInt8) (M:=noM) (base:=w.heap.size) (l:= [UInt8.ofNat l.length]) (m:=l) rfl (by rfl) tyB (by rfl) hL.out (by rfl) hS.out hb HB.out.size ?_);intro v4 w4 ho4 hg4 hat4)
 have HO:=Lib.hid (Ad (OwR.plain (M':=M) (fun _ _ _ _ _ h=>h) ho4) (HB.out.grown hg4 HB.out.size (fun b e=>hL.out.own_ge e)));clear ho4 hg4 hat4
 go_wp2
 go_ret2
 exact⟨_,rfl,HO.out.1,HO.out.2⟩
end
section
open Go.RowKit
theorem XO (a x k:Nat) (ha:a<256 ^ k) (hx:x<256) (hk:k<4):bits BinOp.or IntKind.i64 (a:Int) (wrap64 ((x:Int)*2 ^ (8*k)))=((a+256 ^ k*x:Nat):Int):=by
 have e:(256:Nat) ^ k=2 ^ (8*k):=by rw [Nat.pow_mul]
 have h1:256 ^ k<=16777216:=by
  rcases k with _ | _ | _ | _ | k
  all_goals first | decide | omega
 have h2:256 ^ k*x<4294967296:=by
  have:256 ^ k*x<=16777216*255:=Du h1 (by omega);omega
 have hw:wrap64 ((x:Int)*2 ^ (8*k))=((256 ^ k*x:Nat):Int):=by
  have:(x:Int)*2 ^ (8*k)=((256 ^ k*x:Nat):Int):=by rw [e];push_cast;rw [Int.mul_comm]
  rw [this];unfold wrap64;omega
 rw [hw];have f:(4294967296:Nat)<2 ^ 62:=by decide
 rw [(bits_nat .i64 62 (by decide) (fun n h0 h1=>by rw [IntKind.wrap_i64];omega) a (256 ^ k*x) (by omega) (by omega)).2];rw [e] at ha |-
 rw [Nat.or_comm,<-Nat.two_pow_add_eq_or_of_lt ha x,C5]
theorem SlR.cap {α:Type} [Rp α] {w:World} {M:Ms} {a:Option Addr} {n c:Nat} {l:List α} (h:SlR w M (.slice a n c) l):n=l.length/\l.length<=c/\c<=9223372036854775807:=by
 obtain⟨a',c',xs,e,h1,h2,_⟩:=h;cases e;exact⟨rfl,h1,by unfold maxLen at h2;omega⟩
theorem Elems.drop_ {α:Type} {sz:Nat} {E:List Value->α->Prop}:∀ {l:List α} {xs:List Value} (i:Nat),Elems sz E xs l->i<=l.length->Elems sz E (xs.drop (i*sz)) (l.drop i)
 | l,xs,0,h,_=>by simpa using h
 | x::l,_,i+1,⟨cs,ys,e,hc,he,hy⟩,hi=>by
  subst e;have e1:(i+1)*sz=cs.length+i*sz:=by rw [hc,B5];omega
  rw [e1,Cp,AC (by omega),B7,List.drop_succ_cons];rw [show cs.length+i*sz - cs.length=i*sz by omega];exact Elems.drop_ i hy (by simpa using hi)
 | [],xs,i+1,h,hi=>by simp at hi
theorem SlR.drop_ {α:Type} [Rp α] {w:World} {M:Ms} {b off n c i:Nat} {l:List α} (h:SlR w M (.slice (some ⟨b,off,none⟩) n c) l) (hi:i<=l.length):SlR w M (.slice (if c=i then some ⟨b,off,none⟩ else some ⟨b,off+i*Rp.sz α,none⟩) (n - i) (c - i)) (l.drop i):=by
 obtain⟨a',c',xs,e,h1,h2,h3,h4⟩:=h;cases e;have hl:(l.drop i).length=l.length - i:=by rw [Ak]
 refine⟨_,c - i,xs.drop (i*Rp.sz α),by rw [hl],by omega,by omega,h3.drop_ i hi,fun hne=>?_⟩;have f:c≠i:=fun e=>hne (by rw [AC (by omega)])
 rw [if_neg f];obtain⟨b',off',e,hm,hc⟩:=h4 (by intro e;rw [e] at hne;simp at hne);cases e;refine⟨b,off+i*Rp.sz α,rfl,hm,fun j u hu=>?_⟩;rw [BC] at hu;have:=hc _ u hu;rwa [<-CV] at this
def leN:List UInt8->Nat
 | []=>0
 | x::l=>x.toNat+256*leN l
theorem leN_lt:∀ l:List UInt8,leN l<256 ^ l.length
 | []=>by simp [leN]
 | x::l=>by
  have:=leN_lt l;have:=x.toNat_lt;simp only [leN,Ao,Nat.pow_succ];omega
theorem leN_snoc:∀ (l:List UInt8) (x:UInt8),leN (l ++ [x])=leN l+256 ^ l.length*x.toNat
 | [],x=>by simp [leN]
 | y::l,x=>by
  simp only [B6,leN,leN_snoc l x,Ao,Nat.pow_succ,Nat.mul_add];rw [<-CV,<-Nat.mul_assoc,Nat.mul_comm 256 (256 ^ l.length)]

theorem Wq {l:List UInt8} {k:Nat} (hk:k<l.length) (h4:k<4):bits BinOp.or IntKind.i64 ((leN (l.take k):Nat):Int) (wrap64 ((l[k].toNat:Int)*2 ^ (8*k)))=((leN (l.take (k+1)):Nat):Int):=by
 have f:(l.take k).length=k:=by rw [As];omega
 have:=leN_lt (l.take k);rw [f] at this;rw [XO _ _ k this l[k].toNat_lt h4,Ba,Ag hk];show _=((leN (l.take k ++ [l[k]]):Nat):Int);rw [leN_snoc,f]

abbrev OM (M:Ms) (v:Value):Ms:=fun b=>M b\/v.ownBlock=some b
theorem OwR.own_ne {α β:Type} [Rp α] [Rp β] {w:World} {M1 M2:Ms} {n1 n2:Nat} {e1 e2:TypeId} {v1 v2:Value} {l1:List α} {l2:List β} (h1:OwR w M1 n1 e1 v1 l1) (h2:OwR w M2 n2 e2 v2 l2) (j:e1≠e2) :
  v2.ownBlock=none\/v2.ownBlock≠v1.ownBlock:=by
 obtain⟨xs,i,_⟩:=h1;obtain⟨ys,h,_⟩:=h2;rcases h.2 with ⟨rfl,_⟩ | ⟨g2,cap2,cur2,rfl,_,f,_⟩
 ·exact .inl (by simp [Value.ownBlock])
 ·refine .inr fun e=>?_
  rcases i.2 with ⟨rfl,_⟩ | ⟨g1,cap,cur,rfl,_,hh,_⟩
  ·simp [Value.ownBlock] at e
  ·simp [Value.ownBlock] at e;subst e;rw [hh] at f;injection f with f
   injection f with _ ht
   exact j ht
theorem OwR.own_new {α β:Type} [Rp α] [Rp β] {w w':World} {M1 M2:Ms} {n1:Nat} {e1 e2:TypeId} {v1 v2:Value} {l1:List α} {l2:List β} (h1:OwR w M1 n1 e1 v1 l1) (h2:OwR w' M2 w.heap.size e2 v2 l2) :
  v2.ownBlock=none\/v2.ownBlock≠v1.ownBlock:=by
 cases h:v2.ownBlock with
 | none=>exact .inl rfl
 | some g=>
  refine .inr fun e=>?_
  have a:=h2.own_ge h;have b:=h1.own_lt e.symm;omega
theorem OwR.own_old {α β:Type} [Rp α] [Rp β] {w w':World} {M1 M2:Ms} {n1:Nat} {e1 e2:TypeId} {v1 v2:Value} {l1:List α} {l2:List β} (h1:OwR w M1 n1 e1 v1 l1) (h2:OwR w' M2 w.heap.size e2 v2 l2) :
  v1.ownBlock=none\/v1.ownBlock≠v2.ownBlock:=by
 cases h:v1.ownBlock with
 | none=>exact .inl rfl
 | some g=>
  refine .inr fun e=>?_
  have a:=h2.own_ge e.symm;have b:=h1.own_lt h;omega
abbrev Xn (α:Type) [Rp α]:Prop:=∀ w M w' M' cs (x:α),Rp.E w M cs x->Rp.E w' M' cs x
section
variable {α:Type} [Rp α] {w w':World} {M M':Ms} {base:Nat} {e:TypeId} {v:Value} {l:List α}
theorem OwR.pl (hp:Xn α) (h:OwR w M base e v l):OwR w M' base e v l:=OwR.plain (fun _ _ _ _ _ h=>hp _ _ _ _ _ _ h) h
theorem OwR.keptP (hp:Xn α) {row:Option Nat} (h:OwR w M base e v l) (hg:w.grownBy w' row) (f:v.ownBlock=none\/v.ownBlock≠row):OwR w' M base e v l:=
 OwR.pl (M:=fun _=>True) hp ((OwR.pl hp h).kept hg f fun _ _=>trivial)
theorem OwR.setP (hp:Xn α) (h:OwR w M base e v l) {p:Addr} (f:v.ownBlock≠some p.block) (u:Value):OwR (w.setCell p u) M base e v l:=
 OwR.pl (M:=fun _=>True) hp ((OwR.pl hp h).setCell f trivial u)
theorem OwR.sl' (h:OwR w M base e v l) (hM:∀ b,v.ownBlock=some b->¬M b):SlR w M v l:=by
 obtain⟨xs,ho,he⟩:=h;have f:Elems (Rp.sz α) (Rp.E w M) xs l:=he.mono fun cs x _=>Rp.mono fun b _ hb=>⟨fun hm=>hb (.inl hm),rfl⟩
 rcases ho.2 with ⟨rfl,hn⟩ | ⟨g,cap,cur,rfl,hb,hg,i,z,C,ht⟩
 ·have:l=[]:=Be hn;subst this;exact⟨none,0,xs,rfl,by simp,by simp [maxLen],f,fun h=>absurd rfl h⟩
 ·refine⟨_,cap,xs,rfl,i,z,f,fun _=>⟨g,0,rfl,hM g rfl,fun j u hu=>?_⟩⟩;have:=ho.cells (g:=g) rfl j u hu;rwa [Addr.add_lit] at this
end
theorem Elems.take_ {α:Type} {sz:Nat} {E:List Value->α->Prop}:∀ {l:List α} {xs:List Value} (i:Nat),Elems sz E xs l->i<=l.length->Elems sz E (xs.take (i*sz)) (l.take i)
 | l,xs,0,_,_=>by simp [Elems]
 | x::l,_,i+1,⟨cs,ys,e,hc,he,hy⟩,hi=>by
  subst e;have e1:(i+1)*sz=cs.length+i*sz:=by rw [hc,B5];omega
  rw [e1,List.take_append,A4 (by omega),Dm];rw [show cs.length+i*sz - cs.length=i*sz by omega];exact⟨cs,_,rfl,hc,he,Elems.take_ i hy (by simpa using hi)⟩
 | [],xs,i+1,h,hi=>by simp at hi
theorem SlR.take_ {α:Type} [Rp α] {w:World} {M:Ms} {a:Option Addr} {n c i:Nat} {l:List α} (h:SlR w M (.slice a n c) l) (hi:i<=l.length):SlR w M (.slice a i c) (l.take i):=by
 obtain⟨a',c',xs,e,h1,h2,h3,h4⟩:=h;cases e;have hl:(l.take i).length=i:=by rw [As];omega
 refine⟨a,c,xs.take (i*Rp.sz α),by rw [hl],by omega,h2,h3.take_ i hi,fun hne=>?_⟩;obtain⟨b,off,e,hm,hc⟩:=h4 (by intro e;rw [e] at hne;simp at hne);refine⟨b,off,e,hm,fun j u hu=>hc j u ?_⟩;rw [List.getElem?_take] at hu;split at hu
 ·exact hu
 ·cases hu
theorem SlR.dropN {α:Type} [Rp α] {w:World} {M:Ms} {n c:Nat} {l:List α} (h:SlR w M (.slice none n c) l):l=[]/\n=0:=by
 obtain⟨a',c',xs,e,h1,h2,h3,h4⟩:=h;cases e;by_cases hl:l=[]
 ·subst hl;exact tA
 ·obtain⟨b,off,e,_⟩:=h4 hl;cases e
theorem PV (w:World) (g i:Nat) (u:Value):w.grownBy (w.setCell ⟨g,i,none⟩ u) (some g):=
 ⟨rfl,rfl,rfl,by simp,fun k _ hne=>Below.heap_setCell _ _ _ _ (fun e=>hne (by rw [e]))⟩
theorem OwR.setF {α:Type} [Rp α] {w:World} {M:Ms} {base g c j f:Nat} {e:TypeId} {n:Nat} {l:List α} (h:OwR w M base e (.slice (some ⟨g,0,none⟩) n c) l) (hj:j<l.length) (hf:f<Rp.sz α) (u:Value) (y:α)
  (hE:∀ cs,Rp.E w (OM M (.slice (some ⟨g,0,none⟩) n c)) cs l[j]->Rp.E w (OM M (.slice (some ⟨g,0,none⟩) n c)) (cs.set f u) y) :
  OwR (w.setCell ⟨g,j*Rp.sz α+f,none⟩ u) M base e (.slice (some ⟨g,0,none⟩) n c) (l.set j y):=by
 have I:=PV w g (j*Rp.sz α+f) u;obtain⟨A',c',hv⟩:=h.form;simp only [Value.slice.injEq] at hv;obtain⟨-,G, -⟩:=hv;subst G;obtain⟨xs,ho,he⟩:=h;have s1:=(ho.stored (j*Rp.sz α+f) u).1;obtain⟨cs,J,F,K⟩:=he.get (Ag hj);have z:Keep w (OM M (.slice (some ⟨g,0,none⟩) l.length c)) (w.setCell ⟨g,j*Rp.sz α+f,none⟩ u) (OM M (.slice (some ⟨g,0,none⟩) l.length c)):=
  fun b hb hm=>⟨hm,I.block b hb (fun e=>hm (.inr (by simpa [Value.ownBlock] using e.symm)))⟩
 have L:=he.length;have N:j*Rp.sz α+Rp.sz α<=xs.length:=by
  have:(j+1)*Rp.sz α<=l.length*Rp.sz α:=CC _ hj;rw [Nat.succ_mul] at this;omega
 have hp:=Elems.put (xs':=xs.set (j*Rp.sz α+f) u) (y:=y) (cs:=cs.set f u) (he.mono fun cs x _=>Rp.mono z) hj (by simp)
  (fun i hi=>A9 (by omega)) (by simp [J]) (Rp.mono z (hE cs F)) (fun i hi=>by
   by_cases C:f=i
   ·subst C;rw [AA (by omega),AA (by omega)]
   ·rw [A9 (by omega),A9 C];exact K i hi)
 exact⟨_,by rw [AX];exact s1,hp⟩
theorem OwR.setI {w:World} {M:Ms} {base g c j n:Nat} {e:TypeId} {l:List Int} (h:OwR w M base e (.slice (some ⟨g,0,none⟩) n c) l) (hj:j<l.length) (y:Int) :
  OwR (w.setCell ⟨g,j,none⟩ (.int .i64 y)) M base e (.slice (some ⟨g,0,none⟩) n c) (l.set j y):=by
 have:=h.setF hj (f:=0) (show 0<1 by omega) (.int .i64 y) y (fun cs hcs=>by
  have i:cs=[.int .i64 l[j]]:=hcs;subst i;rfl)
 rwa [show j*Rp.sz Int+0=j by show j*1+0=j;omega] at this
theorem OwR.litI (w:World) (M:Ms) (l:List Int) (hl:l.length<=1000):OwR (w.alloc (.cells (l.map (Value.int .i64)).toArray 3)) M w.heap.size 3 (.slice (some ⟨w.heap.size,0,none⟩) l.length l.length) l:=by
 refine⟨l.map (Value.int .i64),⟨by simp [Rp.sz], .inr ⟨w.heap.size,l.length,_,rfl,Ah _,heap_alloc_new w _,Ah _,by unfold maxLen;omega,by simp [Rp.sz],?_⟩⟩,?_⟩
 ·simp only [Rp.sz,Nat.mul_one];exact A4 (by simp)
 ·clear hl;induction l with
  | nil=>rfl
  | cons x l ih=>exact⟨[.int .i64 x],_,rfl,rfl,rfl,ih⟩
end
section

def tot:List Int->Nat
 | []=>0
 | s::ss=>s.toNat+tot ss
def nums:List Int->List UInt8->List Int
 | [],_=> []
 | s::ss,b=>((leN (b.take s.toNat):Nat):Int)::nums ss (b.drop s.toNat)
theorem tot_step:∀ (ss:List Int) (k:Nat) (h:k<ss.length),tot (ss.take (k+1))=tot (ss.take k)+ss[k].toNat
 | s::ss,0,_=>by simp [tot]
 | s::ss,k+1,h=>by
  have:=tot_step ss k (by simpa using h);simp only [Dm,tot,List.getElem_cons_succ];omega
theorem tot_take_le:∀ (ss:List Int) (k:Nat),tot (ss.take k)<=tot ss
 | [],_=>by simp
 | s::ss,0=>by simp [tot]
 | s::ss,k+1=>by
  have:=tot_take_le ss k;simp only [Dm,tot];omega
theorem nums_step:∀ (ss:List Int) (b:List UInt8) (k:Nat) (h:k<ss.length),nums (ss.take (k+1)) b=nums (ss.take k) b ++ [((leN ((b.drop (tot (ss.take k))).take ss[k].toNat):Nat):Int)]
 | s::ss,b,0,_=>by simp [nums,tot]
 | s::ss,b,k+1,h=>by
  have:=nums_step ss (b.drop s.toNat) k (by simpa using h);simp only [Dm,nums,tot,List.getElem_cons_succ,B6];rw [this,Bc]
theorem nums_len:∀ (ss:List Int) (b:List UInt8),(nums ss b).length=ss.length
 | [],_=>rfl
 | s::ss,b=>by simp [nums,nums_len ss]
theorem leN_leB:∀ (k n:Nat),n<256 ^ k->leN (leB k n)=n
 | 0,n,h=>by simp at h;simp [leB,leN,h]
 | k+1,n,h=>by
  have h2:n / 256<256 ^ k:=by rw [Nat.pow_succ] at h;omega
  simp only [leB,leN,leN_leB k (n / 256) h2];simp;omega
theorem leB_leN:∀ (l:List UInt8),leB l.length (leN l)=l
 | []=>rfl
 | x::l=>by
  have hx:=x.toNat_lt;have e1:(x.toNat+256*leN l) % 256=x.toNat:=by omega
  have e2:(x.toNat+256*leN l) / 256=leN l:=by omega
  simp only [Ao,leB,leN,e1,e2,leB_leN l];simp
theorem S5 {s:Int} (h:ET s):Dr s=((256 ^ s.toNat:Nat):Int):=by rcases h with rfl | rfl | rfl <;> decide
theorem tot_rowB:∀ (ns ss:List Int),ns.length=ss.length->(rowB ns ss).length=tot ss
 | [], [],_=>rfl
 | n::ns,s::ss,h=>by
  have:=tot_rowB ns ss (by simpa using h);simp [rowB,tot,leB_len,this]
theorem nums_rowB:∀ (ns ss:List Int) (r:List UInt8),ns.length=ss.length->(∀ k (a:k<ns.length) (b:k<ss.length),ET ss[k]/\0<=ns[k]/\ns[k]<Dr ss[k])->nums ss (rowB ns ss ++ r)=ns
 | [], [],_,_,_=>rfl
 | n::ns,s::ss,r,h,hf=>by
  have ih:=nums_rowB ns ss r (by simpa using h) (fun k a b=>hf (k+1) (by simp;omega) (by simp;omega));obtain⟨h1,h2,h3⟩:=hf 0 (by simp) (by simp);simp only [List.getElem_cons_zero] at h1 h2 h3;rw [S5 h1] at h3;have e1:((leB s.toNat n.toNat ++ rowB ns ss) ++ r).take s.toNat=leB s.toNat n.toNat:=by
   rw [A7,List.take_append_of_le_length (by rw [leB_len];exact Ah _),A4 (by rw [leB_len];exact Ah _)]
  have e2:((leB s.toNat n.toNat ++ rowB ns ss) ++ r).drop s.toNat=rowB ns ss ++ r:=by
   rw [A7,Cp,AC (by rw [leB_len];exact Ah _),leB_len];simp
  simp only [rowB,nums,e1,e2,ih,leN_leB _ _ (show n.toNat<256 ^ s.toNat by omega)];rw [Int.toNat_of_nonneg h2]
theorem rowB_nums:∀ (ss:List Int) (b:List UInt8),tot ss<=b.length->rowB (nums ss b) ss=b.take (tot ss)
 | [],b,_=>by simp [rowB,tot,nums]
 | s::ss,b,h=>by
  simp only [tot] at h;have ih:=rowB_nums ss (b.drop s.toNat) (by rw [Ak];omega);have hl:(b.take s.toNat).length=s.toNat:=by rw [As];omega
  have e:=leB_leN (b.take s.toNat);rw [hl] at e;simp only [nums,rowB,ih,tot,Aa,e];rw [<-List.take_add]
theorem nums_fit:∀ (ss:List Int) (b:List UInt8),(∀ s∈ss,ET s)->∀ k (a:k<(nums ss b).length) (c:k<ss.length),ET ss[k]/\0<=(nums ss b)[k]/\(nums ss b)[k]<Dr ss[k]
 | [],_,_,k,a,c=>by simp at c
 | s::ss,b,h,0,a,c=>by
  have h1:=h s (by simp);refine⟨h1,by simp [nums],?_⟩;simp only [nums,List.getElem_cons_zero,S5 h1];have:=leN_lt (b.take s.toNat);have h2:256 ^ (b.take s.toNat).length<=256 ^ s.toNat:=Nat.pow_le_pow_right (by omega) (by rw [As];omega);omega
 | s::ss,b,h,k+1,a,c=>by
  have:=nums_fit ss (b.drop s.toNat) (fun x hx=>h x (by simp [hx])) k (by simpa [nums] using a) (by simpa using c);simpa [nums] using this
end
section
open Go.RowKit

theorem SlR.dropU {w:World} {M:Ms} {b off n c i:Nat} {l:List UInt8} (h:SlR w M (.slice (some ⟨b,off,none⟩) n c) l) (hi:i<=l.length):SlR w M (.slice (if c=i then some ⟨b,off,none⟩ else some ⟨b,off+i,none⟩) (n - i) (c - i)) (l.drop i):=by
 have:=h.drop_ hi;rwa [show Rp.sz UInt8=1 from rfl,Nat.mul_one] at this
def De (b:List UInt8):Nat:=(b.headD 0).toNat
def F_ (b:List UInt8):Bool:=decide (1<=b.length/\1+De b<=b.length)
def ev (x:Ent):Value:= .agg #[.int .i64 x.stamp, .int .i64 x.sum, .bool x.lost]
def DO (x:Ent):Bool:=H6 x.stamp&&H6 x.sum
def G8 (l:List Ent) (k:Nat):Bool:=(l[k]?.map Ent.lost).getD true
def FK (g:Geo) (l:List Ent):Bool:=Bq g&&decide ((l.length:Int)=g.d+1)&&l.all DO&&!G8 l g.d.toNat
def Dg (b:Bool):Int:=if b then 1 else 0
def Jb (x:Ent):List UInt8:=rowB [x.stamp,x.sum,Dg x.lost] [4,4,1]
def CM (l:List Ent):List UInt8:=(l.map Jb).flatten
theorem Nb {l:List Ent} {k:Nat} (hk:k<l.length):CM (l.take (k+1))=CM (l.take k) ++ Jb l[k]:=by
 unfold CM;rw [Ba,Ag hk,A8,Ci];simp
theorem JM (x:Ent):(Jb x).length=9:=by simp [Jb,tot_rowB,tot]
theorem EQ (l:List Ent):(CM l).length=9*l.length:=by
 unfold CM;induction l with
 | nil=>rfl
 | cons x l ih=>simp only [Az,AI,Ai,JM,ih,Ao];omega
theorem TI {n:Int}:H6 n=true↔0<=n/\n<4294967296:=by unfold H6;rw [AE];omega
theorem W9 {x:Ent} (h:DO x=true):∀ k (_:k < [x.stamp,x.sum,Dg x.lost].length) (b:k < [(4:Int),4,1].length),ET [(4:Int),4,1][k]/\0<= [x.stamp,x.sum,Dg x.lost][k]/\ [x.stamp,x.sum,Dg x.lost][k]<Dr [(4:Int),4,1][k]:=by
 simp only [DO,Af,TI] at h;intro k a _;match k,a with
 | 0,_=>exact⟨.inr (.inr rfl),h.1.1,h.1.2⟩
 | 1,_=>exact⟨.inr (.inr rfl),h.2.1,h.2.2⟩
 | 2,_=>refine⟨.inl rfl,?_,?_⟩ <;> (simp only [List.getElem_cons_succ,List.getElem_cons_zero];unfold Dg;split <;> decide)
end
section
open Go.RowKit
attribute [local go_sem ↓] Go.wp_at_zero Go.wp_at_succ

theorem Qq (v:Value) (l:List UInt8) (w:World) (Mi:Ms) (h:SlR w Mi v l):(convert 22 9 v).run Tryz.prog w = .ok (.string (strOfNums (l.map fun x=>(x.toNat:Int)))) w:=by
 by_cases hl:l=[]
 ·subst hl;obtain⟨a,c,rfl⟩:=h.form;rw [Bv,run_convert_bytes_string w 22 9 5 _ 0 c Tryz.underlying22 Tryz.underlying5 Tryz.underlying9];cases a <;> simp [Conv.bytesToString,loadCells];all_goals rfl
 ·have f:0<l.length:=DP.2 hl;obtain⟨a,c,rfl⟩:=h.form;obtain⟨b,off,rfl, -, -⟩:=Vf h f;refine run_convert_bytes_arg (P:=Tryz.prog) w 22 5 Tryz.underlying22 Tryz.underlying5 b off l.length c _ (by simp) (fun i hi=>?_) 9 Tryz.underlying9;obtain⟨b',off',e, -,x⟩:=Vf h hi;cases e;rw [x,Ac,Bb,Ag hi];try rfl
theorem LA (l:List UInt8):Lib.bytesOf (l.map fun x=>(x.toNat:Int))=l:=by
 unfold Lib.bytesOf;rw [List.map_map];conv=>rhs;rw [<-List.map_id l]
 apply CJ;intro x _;simp

theorem Uy (v1 v2:Value) (l1 l2:List UInt8) (w:World) (M1 M2:Ms) (h1:SlR w M1 v1 l1) (h2:SlR w M2 v2 l2) :
  Calls Tryz.prog 236 #[v1,v2] w fun e w'=>e = .returned (.bool (decide (l1=l2)))/\w'=w:=by
 have c1:=Qq v1 l1 w M1 h1;have c2:=Qq v2 l2 w M2 h2;have hE:decide (l1=l2)=(Lib.bytesOf (l1.map fun x=>(x.toNat:Int)) == Lib.bytesOf (l2.map fun x=>(x.toNat:Int))):=by rw [LA,LA];by_cases h:l1=l2 <;> simp [h]
 rw [hE,<-Lib.strOfNums_toList,<-Lib.strOfNums_toList];obtain⟨s1,hs1⟩:∃ s,s=strOfNums (l1.map fun x=>(x.toNat:Int)):=⟨_,rfl⟩;obtain⟨s2,hs2⟩:∃ s,s=strOfNums (l2.map fun x=>(x.toNat:Int)):=⟨_,rfl⟩;rw [<-hs1] at c1 |-
 rw [<-hs2] at c2 |-
 clear hE hs1 hs2 h1 h2
 go_enter Tryz.func236,Tryz.ntmps236
 go_wp2
 go_ret
 exact tA
end
section
open Go.RowKit
def IH (b:List UInt8):Ent:=⟨(nums [4,4,1] b).getD 0 0,(nums [4,4,1] b).getD 1 0,(nums [4,4,1] b).getD 2 0 == 1⟩
def entsOf:Nat->List UInt8->List Ent
 | 0,_=> []
 | n+1,b=>IH b::entsOf n (b.drop 9)
theorem entsOf_step:∀ (n:Nat) (b:List UInt8),entsOf (n+1) b=entsOf n b ++ [IH (b.drop (9*n))]
 | 0,b=>by simp [entsOf]
 | n+1,b=>by
  rw [entsOf,entsOf_step n (b.drop 9),entsOf,Bc];simp only [B6];rw [show 9+9*n=9*(n+1) by omega]
theorem entsOf_len:∀ (n:Nat) (b:List UInt8),(entsOf n b).length=n
 | 0,_=>rfl
 | n+1,b=>by simp [entsOf,entsOf_len n]
def Ce (g:Geo) (b:List UInt8):Option (List Ent):=if FK g (entsOf (g.d+1).toNat b)=true/\CM (entsOf (g.d+1).toNat b)=b then some (entsOf (g.d+1).toNat b) else none
theorem P2 {g:Geo} {b:List UInt8} (h:b.length<9*(g.d+1).toNat):Ce g b=none:=by
 unfold Ce;rw [if_neg];rintro⟨-,h2⟩;have:=congrArg List.length h2;rw [EQ,entsOf_len] at this;omega
theorem OwR.int3 {w:World} {M:Ms} {base:Nat} {e:TypeId} {v:Value} {x y z:Int} (h:OwR w M base e v [x,y,z]):∃ B c,v = .slice (some ⟨B,0,none⟩) 3 c/\base<=B/\w.cell? ⟨B,0,none⟩=some (.int .i64 x)/\w.cell? ⟨B,1,none⟩=some (.int .i64 y)/\w.cell? ⟨B,2,none⟩=some (.int .i64 z):=by
 obtain⟨B,c,cs,rfl,hb, -, -,he,hc⟩:=h.at_ (k:=0) (by simp);obtain⟨B1,c1,cs1,e1, -, -, -,i,u⟩:=h.at_ (k:=1) (by simp);obtain⟨B2,c2,cs2,e2, -, -, -,f,j⟩:=h.at_ (k:=2) (by simp);cases e1;cases e2;have he:cs=[.int .i64 x]:=he;have i:cs1=[.int .i64 y]:=i;have f:cs2=[.int .i64 z]:=f;subst he i f;exact⟨B,c,rfl,hb,hc 0 _ rfl,u 0 _ rfl,j 0 _ rfl⟩
theorem VV (b:List UInt8):∃ x y z,nums [4,4,1] b=[x,y,z]/\IH b=⟨x,y,z == 1⟩:=⟨_,_,_,rfl,rfl⟩
instance (s:Int):Decidable (ET s):=inferInstanceAs (Decidable (s=1\/s=2\/s=4))
def KP (x:Img):Bool:=x.zone == 0&&(x.what == 0&&(x.bytes.length:Int) == 0)
def Bn (g:Geo) (x:Img):Bool:=Bq g&&(CQ x.zone 0 (g.z - 1)&&(if x.what=255 then (Ce g x.bytes).isSome else CQ x.what (-1) (g.d - 1)&&decide (x.bytes.length=8)))
def KO (r:Rc):Bool:=CQ r.seq 0 4294967295&&(CQ r.epoch 0 4294967295&&CQ r.of_ 2 30)
def GT (g:Geo) (r:Rc):Bool:=
 if r.kind=0 then r.seq == 0&&(r.epoch == 0&&(r.at_ == 0&&(r.of_ == 0&&KP r.img)))
 else if r.kind=1 then KO r&&(CQ r.at_ 0 (r.of_ - 2)&&Bn g r.img)
 else if r.kind=2 then KO r&&(r.at_ == r.of_ - 1&&KP r.img)
 else false
def Gm (g:Geo) (r:Rc):Bool:=Bq g&&GT g r
def D1 (n:Int):Int:=if n = -1 then 254 else n
abbrev szR:List Int:= [1,4,4,1,1]
def C9 (r:Rc):List Int:= [r.kind,r.seq,r.epoch,r.at_,r.of_]
def IX (x:Img):List UInt8:=rowB [x.zone,D1 x.what] [1,1] ++ (UInt8.ofNat x.bytes.length::x.bytes)
def Ex (r:Rc):List UInt8:=rowB (C9 r) szR ++ (if r.kind=1 then IX r.img else [])

theorem G1 {g:Geo} {x:Img} (h:Bn g x=true):Bq g=true/\(0<=x.zone/\x.zone<=g.z - 1)/\((x.what=255/\∃ l,Ce g x.bytes=some l)\/(x.what≠255/\(-1<=x.what/\x.what<=g.d - 1)/\x.bytes.length=8)):=by
 simp only [Bn,Af] at h;obtain⟨h1,h2,h3⟩:=h;refine⟨h1,AE.1 h2,?_⟩;by_cases hw:x.what=255
 ·rw [if_pos hw] at h3;exact .inl ⟨hw,Cg.1 h3⟩
 ·rw [if_neg hw] at h3;simp only [Af,decide_eq_true_eq] at h3;exact .inr ⟨hw,AE.1 h3.1,h3.2⟩
theorem T0 {g:Geo} {b:List UInt8} {l:List Ent} (h:Ce g b=some l):b.length=9*(g.d+1).toNat:=by
 unfold Ce at h;split at h
 ·rename_i h2;have:=congrArg List.length h2.2;rw [EQ,entsOf_len] at this;exact this.symm
 ·cases h
theorem I2 {g:Geo} {x:Img} (h:Bn g x=true):x.bytes.length<=45:=by
 obtain⟨h1, -,h3⟩:=G1 h;obtain⟨-,hd, -⟩:=Aq.1 h1;rcases h3 with ⟨-,l,hl⟩ | ⟨-, -,h8⟩
 ·have:=T0 hl;omega
 ·omega
theorem PS {g:Geo} {x:Img} (h:Bn g x=true):∀ k (_:k < [x.zone,D1 x.what].length) (b:k < [(1:Int),1].length),ET [(1:Int),1][k]/\0<= [x.zone,D1 x.what][k]/\ [x.zone,D1 x.what][k]<Dr [(1:Int),1][k]:=by
 obtain⟨h1,h2,h3⟩:=G1 h;obtain⟨hz,hd, -⟩:=Aq.1 h1;intro k a _;match k,a with
 | 0,_=>
  refine⟨.inl rfl,h2.1,?_⟩;show x.zone<256;omega
 | 1,_=>
  refine⟨.inl rfl,?_,?_⟩
  ·show 0<=D1 x.what;unfold D1;split <;> omega
  ·show D1 x.what<256;unfold D1;split <;> omega
theorem Fw {g:Geo} {r:Rc} (h:Gm g r=true):Bq g=true/\
    ((r.kind=0/\r.seq=0/\r.epoch=0/\r.at_=0/\r.of_=0/\r.img.zone=0/\r.img.what=0/\r.img.bytes=[])\/
     (r.kind=1/\(0<=r.seq/\r.seq<=4294967295)/\(0<=r.epoch/\r.epoch<=4294967295)/\(2<=r.of_/\r.of_<=30)/\(0<=r.at_/\r.at_<=r.of_ - 2)/\Bn g r.img=true)\/
     (r.kind=2/\(0<=r.seq/\r.seq<=4294967295)/\(0<=r.epoch/\r.epoch<=4294967295)/\(2<=r.of_/\r.of_<=30)/\r.at_=r.of_ - 1/\r.img.zone=0/\r.img.what=0/\r.img.bytes=[])):=by
  simp only [Gm,Af] at h;refine⟨h.1,?_⟩;have h2:=h.2;unfold GT at h2;split at h2
  · rename_i hk;simp [KP] at h2;exact .inl ⟨hk,h2.1,h2.2.1,h2.2.2.1,h2.2.2.2.1,h2.2.2.2.2.1,h2.2.2.2.2.2.1,h2.2.2.2.2.2.2⟩
  · split at h2
    · rename_i hk;simp only [KO,Af,AE] at h2;exact .inr (.inl ⟨hk,h2.1.1,h2.1.2.1,h2.1.2.2,h2.2.1,h2.2.2⟩)
    · split at h2
      · rename_i hk;simp only [KO,KP,Af,AE,beq_iff_eq] at h2;refine .inr (.inr ⟨hk,h2.1.1,h2.1.2.1,h2.1.2.2,h2.2.1,h2.2.2.1,h2.2.2.2.1,?_⟩);exact Be (by omega)
      · cases h2
theorem P0 {g:Geo} {r:Rc} (h:Gm g r=true):∀ k (_:k<(C9 r).length) (b:k<szR.length),ET szR[k]/\0<=(C9 r)[k]/\(C9 r)[k]<Dr szR[k]:=by
 obtain⟨-,h⟩:=Fw h;intro k a _;have e1:Dr 1=256:=rfl;have e4:Dr 4=4294967296:=rfl;match k,a with
 | 0,_=>exact⟨.inl rfl,by show 0<=r.kind;omega,by show r.kind<Dr 1;omega⟩
 | 1,_=>exact⟨.inr (.inr rfl),by show 0<=r.seq;omega,by show r.seq<Dr 4;omega⟩
 | 2,_=>exact⟨.inr (.inr rfl),by show 0<=r.epoch;omega,by show r.epoch<Dr 4;omega⟩
 | 3,_=>exact⟨.inl rfl,by show 0<=r.at_;omega,by show r.at_<Dr 1;omega⟩
 | 4,_=>exact⟨.inl rfl,by show 0<=r.of_;omega,by show r.of_<Dr 1;omega⟩
theorem aC (w:World):(Instr.typeAssert .nilIface 20 365 true).run Tryz.prog w = .ok (.tuple #[.agg #[], .bool false]) w:=by kernel_rfl
theorem aD (w:World) (v:Value):(Instr.typeAssert (.iface 368 v) 20 365 true).run Tryz.prog w = .ok (.tuple #[.agg #[], .bool false]) w:=by kernel_rfl
theorem aE (w:World) (v:Value):(Instr.typeAssert (.iface 365 v) 20 365 true).run Tryz.prog w = .ok (.tuple #[v, .bool true]) w:=by kernel_rfl
theorem bn (w:World) (v:Value):(Instr.typeAssert (.iface 368 v) 20 368 false).run Tryz.prog w = .ok v w:=by kernel_rfl
theorem PU (x:Img):(IX x).length=3+x.bytes.length:=by
 simp only [IX,Ai,tot_rowB [x.zone,D1 x.what] [1,1] rfl,Ao];have:tot [1,1]=2:=rfl;omega
theorem J1 (r:Rc):(rowB (C9 r) szR).length=11:=by rw [tot_rowB (C9 r) szR rfl];try rfl
def RZ (n:Int):Int:=if n=254 then -1 else n
def Oe (b:List UInt8):Bool:=decide (2<=b.length)&&F_ (b.drop 2)
def N3 (b:List UInt8):Img:=⟨(nums [1,1] b).getD 0 0,RZ ((nums [1,1] b).getD 1 0),((b.drop 2).drop 1).take (De (b.drop 2))⟩
theorem OwR.int2 {w:World} {M:Ms} {base:Nat} {e:TypeId} {v:Value} {x y:Int} (h:OwR w M base e v [x,y]):∃ B c,v = .slice (some ⟨B,0,none⟩) 2 c/\base<=B/\B<w.heap.size/\(∀ i,w.frozen? ⟨B,i,none⟩=false)/\w.cell? ⟨B,0,none⟩=some (.int .i64 x)/\w.cell? ⟨B,1,none⟩=some (.int .i64 y):=by
 obtain⟨B,c,cs,rfl,hb, -,hf,he,hc⟩:=h.at_ (k:=0) (by simp);obtain⟨B1,c1,cs1,e1, -, -, -,f,j⟩:=h.at_ (k:=1) (by simp);cases e1;have he:cs=[.int .i64 x]:=he;have f:cs1=[.int .i64 y]:=f;subst he f;exact⟨B,c,rfl,hb,World.block_lt_of_cell? _ _ (hc 0 _ rfl),hf,hc 0 _ rfl,j 0 _ rfl⟩
def noImg:Img:=⟨0,0, []⟩
def HW (b:List UInt8):Rc:=⟨(nums szR b).getD 0 0,(nums szR b).getD 1 0,(nums szR b).getD 2 0,(nums szR b).getD 3 0,(nums szR b).getD 4 0,if (nums szR b).getD 0 0=1 then N3 (b.drop 11) else noImg⟩
def Su (g:Geo) (b:List UInt8):Option Rc:=
 if 11<=b.length/\((HW b).kind=1->Oe (b.drop 11)=true)/\Gm g (HW b)=true/\Ex (HW b)=b then some (HW b) else none
theorem OwR.int5 {w:World} {M:Ms} {base:Nat} {e:TypeId} {v:Value} {x0 x1 x2 x3 x4:Int} (h:OwR w M base e v [x0,x1,x2,x3,x4]):∃ B c,v = .slice (some ⟨B,0,none⟩) 5 c/\base<=B/\∀ i,i<5->w.cell? ⟨B,i,none⟩ = #[.int .i64 x0, .int .i64 x1, .int .i64 x2, .int .i64 x3, .int .i64 x4][i]? :=by
 obtain⟨B,c,cs,rfl,hb, -, -,he,hc⟩:=h.at_ (k:=0) (by simp);refine⟨B,c,rfl,hb,fun i hi=>?_⟩;obtain⟨b',off,e1, -,x1⟩:=O8 (h.sl' (M:=noM) (fun _ _ h=>h)) (k:=i) (by simpa using hi);cases e1;rw [A0] at x1;match i,hi with
 | 0,_=>exact x1
 | 1,_=>exact x1
 | 2,_=>exact x1
 | 3,_=>exact x1
 | 4,_=>exact x1
theorem OwR.box {α:Type} [Rp α] {w w':World} {M:Ms} {base g:Nat} {e:TypeId} {v:Value} {l:List α} (h:OwR w M base e v l) (hb:Below w.heap.size w w') (hg:w.heap.size<=g):OwR w' (Ms.and M g) base e v l:=by
 obtain⟨xs,ho,he⟩:=h;refine⟨xs,(ho.kept (row:=none) ⟨hb.os,hb.tape,hb.output,hb.size,fun k hk _=>hb.block k hk⟩ (by cases v.ownBlock <;> simp)),he.mono fun cs x _=>Rp.mono fun b hb' hm=>⟨fun h'=>?_,hb.block b hb'⟩⟩;rcases h' with (h' | h') | h'
 ·exact hm (.inl h')
 ·omega
 ·exact hm (.inr h')

def IB (seq epoch of_:Int) (k:Nat) (l:List Img):List Rc:=((l.take k).zipIdx).map fun p=>⟨1,seq,epoch,(p.2:Nat),of_,p.1⟩
theorem Uf (seq epoch of_:Int) {k:Nat} {l:List Img} (hk:k<l.length):IB seq epoch of_ (k+1) l=IB seq epoch of_ k l ++ [⟨1,seq,epoch,(k:Nat),of_,l[k]⟩]:=by
 unfold IB;rw [Ba,Ag hk,List.zipIdx_append,A8];simp [D8 (Nat.le_of_lt hk)]
theorem Ih (seq epoch of_:Int) (k:Nat) (l:List Img):(IB seq epoch of_ k l).length=min k l.length:=by
 unfold IB;simp
def CF (seq epoch:Int) (l:List Img):List Rc:=IB seq epoch (l.length+1) l.length l ++ [⟨2,seq,epoch,l.length,l.length+1,noImg⟩]
def KX (g:Geo) (seq epoch:Int) (l:List Img):Int:=
 if (Bq g&&(CQ seq 0 4294967295&&CQ epoch 0 4294967295))=false then 1
 else if l.all (Bn g)=false then 1
 else if CQ l.length 1 29=false then 2 else 0
end
section

theorem P1 {g:Geo} {r:Rc} (_h:Gm g r=true):(Ex r).length=if r.kind=1 then 14+r.img.bytes.length else 11:=by
 unfold Ex;rw [Ai,J1];split
 ·rw [PU];omega
 ·rfl
theorem Er {g:Geo} {r:Rc} (h:Gm g r=true):11<=(Ex r).length/\(Ex r).length<=59:=by
 rw [P1 h];split
 ·rename_i hk;rcases(Fw h).2 with h' | h' | h'
  ·omega
  ·have:=I2 h'.2.2.2.2.2;omega
  ·omega
 ·omega
theorem TH {g:Geo} {r:Rc} (h:Gm g r=true) (t:List UInt8):nums szR (Ex r ++ t)=C9 r:=by
 unfold Ex;rw [A7];exact nums_rowB _ _ _ rfl (fun k a b=>P0 h k a b)
theorem NM (r:Rc):(Ex r).drop 11=if r.kind=1 then IX r.img else []:=by
 unfold Ex;rw [Cp,J1,AC (by rw [J1];exact Ah _)];simp
theorem Pc {g:Geo} {x:Img} (h:Bn g x=true):RZ (D1 x.what)=x.what:=by
 obtain⟨h1, -,h3⟩:=G1 h;obtain⟨-,hd, -⟩:=Aq.1 h1;unfold RZ D1;split
 ·split at * <;> omega
 ·split at * <;> omega
theorem Ml (x:Img):(IX x).drop 2=UInt8.ofNat x.bytes.length::x.bytes:=by
 unfold IX;have hl:(rowB [x.zone,D1 x.what] [1,1]).length=2:=by rw [tot_rowB [x.zone,D1 x.what] [1,1] rfl];try rfl
 rw [Cp,hl,AC (by rw [hl];exact Ah _)];try rfl
theorem R4 {g:Geo} {x:Img} (h:Bn g x=true):N3 (IX x)=x:=by
 have h1:nums [1,1] (IX x)=[x.zone,D1 x.what]:=by
  unfold IX;exact nums_rowB [x.zone,D1 x.what] [1,1] _ rfl (fun k a b=>PS h k a b)
 have hs:=I2 h;have hp:De (UInt8.ofNat x.bytes.length::x.bytes)=x.bytes.length:=by
  simp only [De,List.headD_cons];simp;omega
 unfold N3;rw [h1,Ml,hp];simp [Pc h]
theorem QR {g:Geo} {x:Img} (h:Bn g x=true):Oe (IX x)=true:=by
 have hs:=I2 h;have hp:De (UInt8.ofNat x.bytes.length::x.bytes)=x.bytes.length:=by
  simp only [De,List.headD_cons];simp;omega
 have hl:=PU x;simp only [Oe,F_,Ml,hp,Ao,Af,decide_eq_true_eq];omega
theorem Rt {g:Geo} {r:Rc} (h:Gm g r=true):HW (Ex r)=r:=by
 have hn:=TH h [];rw [AR] at hn;unfold HW;rw [hn,NM];obtain⟨kind,seq,epoch,at_,of_,⟨zone,what,bytes⟩⟩:=r;simp only [C9];rcases(Fw h).2 with h' | h' | h'
 ·simp only at h';obtain⟨rfl,rfl,rfl,rfl,rfl,rfl,rfl,rfl⟩:=h';simp [noImg]
 ·simp only at h';obtain⟨rfl, -, -, -, -,hi⟩:=h';simp [R4 hi]
 ·simp only at h';obtain⟨rfl, -, -, -,rfl,rfl,rfl,rfl⟩:=h';simp [noImg]
theorem Ri {g:Geo} {r:Rc} (h:Gm g r=true):Su g (Ex r)=some r:=by
 unfold Su;rw [Rt h,if_pos];refine⟨(Er h).1,fun hk=>?_,h,rfl⟩;rw [NM,if_pos hk];rcases(Fw h).2 with h' | h' | h'
 ·omega
 ·exact QR h'.2.2.2.2.2
 ·omega
end
section
open Go.RowKit

theorem b8 (w:World):(Instr.makeSlice 22 (.int .i64 8) (.int .i64 8)).run Tryz.prog w = .ok (.slice (some ⟨w.heap.size,0,none⟩) 8 8) (w.alloc (.cells #[.int .u8 0, .int .u8 0, .int .u8 0, .int .u8 0, .int .u8 0, .int .u8 0, .int .u8 0, .int .u8 0] 5)):=by
 obtain⟨i,h1,h2,h3,h4⟩:=info_parts (show (Tryz.prog.info? 5).map (fun i=>(i.zero,i.size,i.bytes))=some (some (.int .u8 0),1,1) by kernel_rfl);have:=run_make (P:=Tryz.prog) w 22 5 i (.int .u8 0) (by kernel_rfl) h1 h2 .i64 .i64 8 8 (by omega) (by omega) (by rw [h4];omega) (by omega);rw [h3] at this;rw [show madeCells (Value.int IntKind.u8 0).cells (Int.toNat 8*1) = #[.int .u8 0, .int .u8 0, .int .u8 0, .int .u8 0, .int .u8 0, .int .u8 0, .int .u8 0, .int .u8 0] by kernel_rfl] at this;exact this

def Nv (x:List UInt8):Int:=(nums [4,4,1] x).getD 2 0
def Ln (n:Nat) (b:List UInt8):Prop:=∀ i,i<n->Nv (b.drop (9*i))<=1
theorem PL {x:List UInt8} (h:9<=x.length):Nv x=(x[8].toNat:Int):=by
 have e:(x.drop 8).take 1=[x[8]]:=by
  rw [Bt (by omega)];try rfl
 show (((leN (((x.drop (Int.toNat 4)).drop (Int.toNat 4)).take (Int.toNat 1)):Nat):Int))=_;rw [Bc];show (((leN ((x.drop 8).take 1):Nat):Int))=_;rw [e];simp [leN]
theorem Qf {x:List UInt8} (h:9<=x.length):Jb (IH x)=x.take 9↔Nv x<=1:=by
 obtain⟨a,b,c,hn,he⟩:=VV x;have hl:Nv x=c:=by simp [Nv,hn]
 have hr:=rowB_nums [4,4,1] x (by simpa [tot] using h);rw [hn] at hr;have hf:=nums_fit [4,4,1] x (by decide);rw [hl,he];constructor
 ·intro e;have h9:(x.take 9).length=9:=by rw [As];omega
  have e2:rowB [a,b,Dg (c == 1)] [4,4,1]=rowB [a,b,c] [4,4,1]:=by
   rw [hr];exact e
  have f0:=hf 0 (by rw [hn];simp) (by simp);have f1:=hf 1 (by rw [hn];simp) (by simp);have f2:=hf 2 (by rw [hn];simp) (by simp);simp only [hn] at f0 f1 f2;have n1:=nums_rowB [a,b,Dg (c == 1)] [4,4,1] [] rfl (by
   intro k h1 _;match k,h1 with
   | 0,_=>exact f0
   | 1,_=>exact f1
   | 2,_=>exact⟨.inl rfl,by show 0<=Dg _;unfold Dg;split <;> decide,by show Dg _<Dr 1;unfold Dg;split <;> decide⟩)
  have n2:=nums_rowB [a,b,c] [4,4,1] [] rfl (by
   intro k h1 _;match k,h1 with
   | 0,_=>exact f0
   | 1,_=>exact f1
   | 2,_=>exact f2)
  rw [e2,n2] at n1;injection n1 with _ n1
  injection n1 with _ n1
  injection n1 with n1
  rw [n1];unfold Dg;split <;> decide
 ·intro hc;have f2:=hf 2 (by rw [hn];simp) (by simp);simp only [hn] at f2;have f:0<=c:=f2.2.1;have:Dg (c == 1)=c:=by
   unfold Dg;by_cases h1:c=1
   ·simp [h1]
   ·have:c=0:=by omega
    simp [this]
  show rowB [a,b,Dg (c == 1)] [4,4,1]=x.take 9;rw [this,hr];try rfl
theorem tblB_iff:∀ (n:Nat) (b:List UInt8),9*n<=b.length->(CM (entsOf n b)=b.take (9*n)↔Ln n b)
 | 0,b,_=>⟨fun _ i hi=>absurd hi (Ap _),fun _=>by simp [entsOf,CM]⟩
 | n+1,b,h=>by
  have ih:=tblB_iff n (b.drop 9) (by rw [Ak];omega);have e1:CM (entsOf (n+1) b)=Jb (IH b) ++ CM (entsOf n (b.drop 9)):=by simp [entsOf,CM]
  have e2:b.take (9*(n+1))=b.take 9 ++ (b.drop 9).take (9*n):=by
   rw [show 9*(n+1)=9+9*n by omega,List.take_add]
  rw [e1,e2];constructor
  ·intro e;have h1:=List.append_inj e (by rw [JM,As];omega);intro i hi;cases i with
   | zero=>simpa using (Qf (by omega)).1 h1.1
   | succ i=>
    have:=ih.1 h1.2 i (by omega);rw [Bc] at this;rwa [show 9*(i+1)=9+9*i by omega]
  ·intro f;rw [(Qf (by omega)).2 (by simpa using f 0 (by omega)),ih.2 (fun i hi=>by
    have:=f (i+1) (by omega);rw [Bc];rwa [show 9*(i+1)=9+9*i by omega] at this)]
theorem Tz {g:Geo} {b:List UInt8} (hl:b.length=9*(g.d+1).toNat) (f:Ln (g.d+1).toNat b):Ce g b=if FK g (entsOf (g.d+1).toNat b)=true then some (entsOf (g.d+1).toNat b) else none:=by
 have:=(tblB_iff (g.d+1).toNat b (by omega)).2 f;rw [A4 (by omega)] at this;unfold Ce;simp only [this,and_true]
theorem Ke {g:Geo} {b:List UInt8} (h:b.length≠9*(g.d+1).toNat\/¬Ln (g.d+1).toNat b):Ce g b=none:=by
 unfold Ce;rw [if_neg];rintro⟨-,h2⟩;have hl:=congrArg List.length h2;rw [EQ,entsOf_len] at hl;rcases h with h | h
 ·exact h hl.symm
 ·apply h;apply (tblB_iff (g.d+1).toNat b (by omega)).1;rw [h2,A4 (by omega)]
theorem SlR.dropU' {w:World} {M:Ms} {b off n c i:Nat} {l:List UInt8} (h:SlR w M (.slice (some ⟨b,off,none⟩) n c) l) (hi:i<=l.length) (hc:¬c=i):SlR w M (.slice (some ⟨b,off+i,none⟩) (n - i) (c - i)) (l.drop i):=by
 have:=h.dropU hi;rwa [if_neg hc] at this


end
end Go.Proofs.YtpjkcgacjjbikaaGreatDoor
namespace Go.Proofs.YtpjkcgacjjbikaaGreatDoor.A
section
open Go.RowKit
theorem DS (z d sp sl an:Int):Fn Tryz.prog 118 [.ag (AK ⟨z,d,sp,sl,an⟩)] fun r=>r = .v (F1 (Bq ⟨z,d,sp,sl,an⟩)):=by
 have f:∀ n lo hi,Fn Tryz.prog 159 [iv n,iv lo,iv hi] fun r=>r = .v (.bool (CQ n lo hi)):=by
  intro n lo hi;refine zR Tryz.func159 rfl ?_;conv=>whnf
  repeat' (first | (refine Am (fun h=>?_) (fun h=>?_) <;> (try simp at h) <;> conv=>whnf) | (refine zF tys_ok mixed (by kernel_rfl) ?_;conv=>whnf) | (refine zZ ?_;conv=>whnf) | (refine Ad (by omega) ?_;conv=>whnf))
  all_goals exact⟨_,ri,by simp [CQ, *] <;> omega⟩
 refine zR Tryz.func118 rfl ?_;conv=>whnf
 repeat' (first | (refine Am (fun h=>?_) (fun h=>?_) <;> (try simp at h) <;> conv=>whnf) | (refine zF tys_ok mixed (by kernel_rfl) ?_;conv=>whnf) | (refine zZ ?_;conv=>whnf) | (refine zY (f _ _ _) ?_;conv=>whnf) | (refine Ad (by omega) ?_;conv=>whnf))
 all_goals exact⟨_,ri,by simp [Bq,F1, *]⟩
theorem IL (n lo hi:Int):Fn Tryz.prog 147 [iv n,iv lo,iv hi] fun r=>r = .v (.bool (CQ n lo hi)):=by
 refine zR Tryz.func147 rfl ?_;conv=>whnf
 repeat' (first | (refine Am (fun h=>?_) (fun h=>?_) <;> (try simp at h) <;> conv=>whnf) | (refine zF tys_ok mixed (by kernel_rfl) ?_;conv=>whnf) | (refine zZ ?_;conv=>whnf) | (refine Ad (by omega) ?_;conv=>whnf))
 all_goals exact⟨_,ri,by simp [CQ, *] <;> omega⟩
end
end Go.Proofs.YtpjkcgacjjbikaaGreatDoor.A
namespace Go.Proofs.YtpjkcgacjjbikaaGreatDoor
section

theorem YA {b:List UInt8} (f:11<=b.length):HW b=⟨(b[0].toNat:Nat),(leN ((b.drop 1).take 4):Nat),(leN ((b.drop 5).take 4):Nat),(b[9].toNat:Nat),(b[10].toNat:Nat),if (b[0].toNat:Int)=1 then N3 (b.drop 11) else noImg⟩:=by
 have e1:∀ i (h:i<b.length),leN ((b.drop i).take 1)=b[i].toNat:=fun i h=>by
  rw [Bt h];show b[i].toNat+256*0=b[i].toNat;omega
 have hn:nums szR b=[((leN (b.take 1):Nat):Int),((leN ((b.drop 1).take 4):Nat):Int),((leN ((b.drop 5).take 4):Nat):Int),((leN ((b.drop 9).take 1):Nat):Int),((leN ((b.drop 10).take 1):Nat):Int)]:=by
  simp [nums,Bc]
 unfold HW;rw [hn];have e0:=e1 0 (by omega);rw [List.drop_zero] at e0;rw [e0,e1 9 (by omega),e1 10 (by omega)];try rfl
theorem Dh {b:List UInt8} (h:b.length=14+De (b.drop 13)):N3 (b.drop 11)=⟨((b[11]'(by omega)).toNat:Nat),RZ ((b[12]'(by omega)).toNat:Nat),b.drop 14⟩:=by
 have e1:∀ i (h:i<b.length),leN ((b.drop i).take 1)=b[i].toNat:=fun i h=>by
  rw [Bt h];show b[i].toNat+256*0=b[i].toNat;omega
 have hn:nums [1,1] (b.drop 11)=[((leN ((b.drop 11).take 1):Nat):Int),((leN ((b.drop 12).take 1):Nat):Int)]:=by
  simp [nums,Bc]
 unfold N3;rw [hn,e1 11 (by omega),e1 12 (by omega)];simp only [Bc,Nat.reduceAdd];rw [A4 (by rw [Ak];omega)];try rfl
end
section
open Go.RowKit


end
section

def polyN:Nat:=2197175160
def FY (r:Nat):Nat:=r / 2 ^^^ (if r % 2=1 then polyN else 0)
def stepsC:Nat->Nat->Nat
 | 0,r=>r
 | k+1,r=>FY (stepsC k r)
def F3 (r:Nat):Nat:=stepsC 8 r
def Gh (r:Nat) (b:List UInt8):Nat:=b.foldl (fun r c=>F3 (r ^^^ c.toNat)) r
def C3 (b:List UInt8):Nat:=4294967295 - Gh 4294967295 b

theorem Lx {a b:Nat} (ha:a<4294967296) (hb:b<4294967296):a ^^^ b<4294967296:=Nat.xor_lt_two_pow (n:=32) ha hb
theorem Vl {r:Nat} (h:r<4294967296):FY r<4294967296:=by
 unfold FY;apply Lx
 ·omega
 ·split <;> decide
theorem stepsC_lt:∀ (k:Nat) {r:Nat},r<4294967296->stepsC k r<4294967296
 | 0,_,h=>h
 | k+1,_,h=>Vl (stepsC_lt k h)
theorem NK {r:Nat} (h:r<4294967296):F3 r<4294967296:=stepsC_lt 8 h
theorem foldC_lt:∀ (b:List UInt8) {r:Nat},r<4294967296->Gh r b<4294967296
 | [],_,h=>h
 | c::b,r,h=>by
  have hc:c.toNat<4294967296:=by have:=c.toNat_lt;omega
  exact foldC_lt b (NK (Lx h hc))
theorem Is (b:List UInt8):C3 b<=4294967295:=by unfold C3;omega
theorem UZ (a b:Nat):(a ^^^ b) / 2=a / 2 ^^^ b / 2:=Nat.xor_div_two
theorem Xq (a b:Nat):(a ^^^ b) % 2=(a+b) % 2:=by
 have h:=Nat.xor_mod_two_pow (a:=a) (b:=b) (n:=1);simp only [Nat.pow_one] at h;rw [h];rcases CI a with ha | ha <;> rcases CI b with hb | hb <;> rw [ha,hb] <;> (first | (show (0:Nat)=_;omega) | (show (1:Nat)=_;omega))
theorem Ta (a b:Nat):FY (a ^^^ b)=FY a ^^^ FY b:=by
 unfold FY;rw [UZ,Xq];have hx:∀ x y p q:Nat,(x ^^^ p) ^^^ (y ^^^ q)=(x ^^^ y) ^^^ (p ^^^ q):=fun x y p q=>by
  rw [Nat.xor_assoc,Nat.xor_assoc,<-Nat.xor_assoc p,Nat.xor_comm p y,Nat.xor_assoc]
 rw [hx];congr 1;rcases CI a with ha | ha <;> rcases CI b with hb | hb
 ·rw [if_neg (by omega),if_neg (by omega),if_neg (by omega)];try rfl
 ·rw [if_pos (by omega),if_neg (by omega),if_pos (by omega)];exact(Nat.zero_xor _).symm
 ·rw [if_pos (by omega),if_pos (by omega),if_neg (by omega)];exact(Nat.xor_zero _).symm
 ·rw [if_neg (by omega),if_pos (by omega),if_pos (by omega)];exact(Nat.xor_self _).symm
theorem stepsC_xor:∀ (k a b:Nat),stepsC k (a ^^^ b)=stepsC k a ^^^ stepsC k b
 | 0,_,_=>rfl
 | k+1,a,b=>by simp only [stepsC];rw [stepsC_xor k,Ta]
theorem D9 (x:Nat):FY (2*x)=x:=by
 unfold FY;rw [if_neg (by omega),Nat.mul_div_cancel_left x (by omega)];exact Nat.xor_zero x
theorem stepsC_succ:∀ (k r:Nat),stepsC (k+1) r=stepsC k (FY r)
 | 0,_=>rfl
 | k+1,r=>by rw [stepsC,stepsC_succ k r];rfl
theorem Qi (x:Nat):F3 (256*x)=x:=by
 unfold F3;rw [show 256*x=2*(128*x) by omega,stepsC_succ,D9,show 128*x=2*(64*x) by omega,stepsC_succ,D9,show 64*x=2*(32*x) by omega,stepsC_succ,D9,
  show 32*x=2*(16*x) by omega,stepsC_succ,D9,show 16*x=2*(8*x) by omega,stepsC_succ,D9,show 8*x=2*(4*x) by omega,stepsC_succ,D9,
  show 4*x=2*(2*x) by omega,stepsC_succ,D9,stepsC_succ,D9]
 rfl
theorem QQ (r:Nat):r=256*(r / 256) ^^^ r % 256:=by
 have h:r % 256<2 ^ 8:=by omega
 have h1:=Nat.two_pow_add_eq_or_of_lt h (r / 256);have h2:2 ^ 8*(r / 256) ||| r % 256=2 ^ 8*(r / 256) ^^^ r % 256:=by
  apply Nat.eq_of_testBit_eq;intro i;rw [Nat.testBit_or,Nat.testBit_xor];by_cases hi:i<8
  ·rw [Nat.testBit_two_pow_mul];simp [show ¬8<=i by omega]
  ·have:(r % 256).testBit i=false:=Nat.testBit_lt_two_pow (Au h (Nat.pow_le_pow_right (by omega) (by omega)));rw [this];simp
 calc r=2 ^ 8*(r / 256)+r % 256:=by omega
  _=2 ^ 8*(r / 256) ||| r % 256:=h1
  _=256*(r / 256) ^^^ r % 256:=h2
theorem Qj (r c:Nat):F3 (r ^^^ c)=r / 256 ^^^ F3 (r % 256 ^^^ c):=by
 conv=>lhs;rw [QQ r,Nat.xor_assoc]
 unfold F3;rw [stepsC_xor];congr 1;exact Qi _
theorem R9 (r:Nat) (b:List UInt8) (c:UInt8):Gh r (b ++ [c])=F3 (Gh r b ^^^ c.toNat):=by simp [Gh]
theorem Mu {r:Nat} {b:List UInt8} {k:Nat} (hk:k<b.length):Gh r (b.take (k+1))=F3 (Gh r (b.take k) ^^^ b[k].toNat):=by
 rw [Ba,Ag hk];exact R9 _ _ _
end
section
open Go.RowKit
attribute [local go_sem ↓] Go.wp_at_zero Go.wp_at_succ

theorem S7 (a b:Nat) (ha:a<4294967296) (hb:b<4294967296):bits .xor .i64 (a:Int) (b:Int)=((a ^^^ b:Nat):Int):=by
 have i:a % 2 ^ IntKind.i64.bits=a:=DU (show a<18446744073709551616 by omega);have f:b % 2 ^ IntKind.i64.bits=b:=DU (show b<18446744073709551616 by omega);have h:=Lx ha hb;simp only [bits,BitVec.ofInt_natCast,BitVec.toNat_xor,BitVec.toNat_ofNat,i,f];rw [IntKind.wrap_i64];omega
theorem XS (N:Nat) (h:N<4294967296):4294967295 ^^^ N=4294967295 - N:=by
 have e:=congrArg BitVec.toNat (BitVec.allOnes_xor (x:=BitVec.ofNat 32 N));rw [BitVec.toNat_xor,BitVec.toNat_not,BitVec.toNat_allOnes,BitVec.toNat_ofNat,DU h] at e;exact e
theorem VW (N:Nat) (h:N<4294967296):bits .xor .u32 IntKind.u32.max (N:Int)=((4294967295 - N:Nat):Int):=by
 rw [<-XS N h];exact u32_xor_nat 4294967295 N (by omega) h
theorem XY (r:Nat):r&&&1=r % 2:=Nat.and_one_is_mod r
theorem WS (r:Nat):r&&&255=r % 256:=Nat.and_two_pow_sub_one_eq_mod r 8

theorem WD (r:Nat) (w:World) (hr:r<4294967296):Calls Tryz.prog 325 #[.int .u32 r] w fun e w'=>e = .returned (.int .u32 (F3 r:Nat))/\w'=w:=by
 have hE:=Lib.hid (show F3 r=stepsC 8 r from rfl);rw [hE.out]
 go_enter Tryz.func325,Tryz.ntmps325
 go_wp2
 go_loopg [0,4] 8 (fun gk s0 s4 wr=>∃ k:Nat,s4 = .int .i64 k/\k<=8/\8 - k<=gk/\wr=w/\s0 = .int .u32 (stepsC k r:Nat))
 case atStart=>exact⟨0,rfl,by omega,by omega,rfl,rfl⟩
 case round=>
  obtain⟨k,rfl,hkl,hgk,rfl,rfl⟩:=hrel;by_cases hk:k<8
  ·have hk':(k:Int)<8:=by omega
   have hst:=Lib.hid (show stepsC (k+1) r=stepsC k r / 2 ^^^ (if stepsC k r % 2=1 then polyN else 0) from rfl);have hlt:=stepsC_lt k hr;obtain⟨N,hN⟩:∃ N,N=stepsC k r:=⟨_,rfl⟩;rw [<-hN] at hlt hst |-
   have hand:bits .and .u32 (N:Int) 1=((N % 2:Nat):Int):=by rw [<-XY];exact u32_and_nat N 1 hlt (by omega)
   have hdiv:((N / 2:Nat):Int)=(N:Int) / 2:=by omega
   have hxor:bits .xor .u32 ((N:Int) / 2) 2197175160=((N / 2 ^^^ 2197175160:Nat):Int):=by rw [<-hdiv];exact u32_xor_nat (N / 2) 2197175160 (by omega) (by omega)
   have HD:=Lib.hid hdiv;clear hN hdiv;rcases CI N with h2 | h2
   ·rw [h2,if_neg (by omega),Nat.xor_zero] at hst;rw [h2] at hand;have hand0:bits .and .u32 (N:Int) 1=0:=hand;clear h2 hxor hand
    go_wp2
    go_roundg (8 - (k+1))
    case measure=>omega
    case rel=>exact⟨k+1,by go_num,by omega,by omega,rfl,by rw [hst.out,HD.out]⟩
   ·rw [h2,if_pos rfl] at hst;rw [h2] at hand;have hand1:bits .and .u32 (N:Int) 1=1:=hand;clear h2 hand
    go_wp2
    go_roundg (8 - (k+1))
    case measure=>omega
    case rel=>exact⟨k+1,by go_num,by omega,by omega,rfl,by rw [hst.out];try rfl⟩
  ·obtain rfl:k=8:=by omega
   go_wp2
   go_ret
   exact tA

theorem Zr (v:Value) (b:List UInt8) (w:World) (Mi:Ms) (h:SlR w Mi v b):Calls Tryz.prog 263 #[.int .u32 4294967295,v] w fun e w'=>e = .returned (.int .u32 (Gh 4294967295 b:Nat))/\w'=w:=by
 obtain⟨a,c,rfl⟩:=h.form;have hcap:=h.cap;have H:=Lib.hid h.bare;clear h
 go_enter Tryz.func263,Tryz.ntmps263
 go_wp2
 go_loopg [0,9] b.length (fun gk s0 s9 wr=>∃ k:Nat,s9 = .int .i64 k/\k<=b.length/\b.length - k<=gk/\wr=w/\s0 = .int .u32 (Gh 4294967295 (b.take k):Nat))
 case atStart=>exact⟨0,rfl,by omega,by omega,rfl,rfl⟩
 case round=>
  obtain⟨k,rfl,hkl,hgk,rfl,rfl⟩:=hrel;by_cases hk:k<b.length
  ·have hk':(k:Int)<b.length:=by omega
   obtain⟨bb,off,rfl, -,x1⟩:=Vf H.out hk;have hst:=Mu (r:=4294967295) hk;have hlt:=foldC_lt (b.take k) (r:=4294967295) (by omega);obtain⟨N,hN⟩:∃ N,N=Gh 4294967295 (b.take k):=⟨_,rfl⟩;rw [<-hN] at hlt hst |-
   rw [Qj] at hst;obtain⟨y,hy⟩:∃ y,y=b[k].toNat:=⟨_,rfl⟩;have hyl:y<256:=by rw [hy];exact b[k].toNat_lt
   rw [<-hy] at x1 hst;have hand:bits .and .u32 (N:Int) 255=((N % 256:Nat):Int):=by rw [<-WS];exact u32_and_nat N 255 hlt (by omega)
   have hcy:IntKind.u32.wrap (y:Int)=y:=by rw [IntKind.wrap_u32];omega
   have hx1:bits .xor .u32 ((N % 256:Nat):Int) (y:Int)=((N % 256 ^^^ y:Nat):Int):=u32_xor_nat _ _ (by omega) (by omega);have hxl:N % 256 ^^^ y<4294967296:=Lx (by omega) (by omega);obtain⟨X,hX⟩:∃ X,X=N % 256 ^^^ y:=⟨_,rfl⟩;rw [<-hX] at hx1 hxl hst;have hdn:=Lib.hid (WD X wr hxl);have hel:=NK hxl;obtain⟨Z,hZ⟩:∃ Z,Z=F3 X:=⟨_,rfl⟩;rw [<-hZ] at hdn hel hst;have hdiv:((N / 256:Nat):Int)=(N:Int) / 256:=by omega
   have hx2:bits .xor .u32 ((N:Int) / 256) (Z:Int)=((N / 256 ^^^ Z:Nat):Int):=by rw [<-hdiv];exact u32_xor_nat _ _ (by omega) hel
   obtain⟨T,hT⟩:∃ T,T=N % 256:=⟨_,rfl⟩;rw [<-hT] at hand hx1;have hst:=Lib.hid hst;clear hN hy hX hZ hdiv hT
   go_wp2_with (go_at_call 325;go_must (with_reducible refine hdn.out.mono ?_);rintro e w1 ⟨rfl,rfl⟩)
   go_roundg (b.length - (k+1))
   case measure=>omega
   case rel=>exact⟨k+1,by go_num,by omega,by omega,rfl,by rw [hst.out]⟩
  ·obtain rfl:k=b.length:=by omega
   rw [Aw]
   go_wp2
   go_ret
   exact tA
theorem Nc (v:Value) (b:List UInt8) (w:World) (Mi:Ms) (h:SlR w Mi v b):Calls Tryz.prog 186 #[v] w fun e w'=>e = .returned (.int .i64 (C3 b:Nat))/\w'=w:=by
 have hon:=Lib.hid (Zr v b w Mi h);have hE:=Lib.hid (show C3 b=4294967295 - Gh 4294967295 b from rfl);have hlt:=foldC_lt b (r:=4294967295) (by omega);obtain⟨N,hN⟩:∃ N,N=Gh 4294967295 b:=⟨_,rfl⟩;rw [hE.out];rw [<-hN] at hon hlt |-
 obtain⟨a,c,rfl⟩:=h.form;have hnb:=VW N hlt;obtain⟨T,hT⟩:∃ T,T=4294967295 - N:=⟨_,rfl⟩;have hTl:T<=4294967295:=by omega
 rw [<-hT] at hnb |-
 have hw:wrap64 (T:Int)=T:=by unfold wrap64;omega
 clear hE hN h hT
 go_enter Tryz.func186,Tryz.ntmps186
 go_wp2_with (go_at_call 263;go_must (with_reducible refine hon.out.mono ?_);rintro e w1 ⟨rfl,rfl⟩)
 go_ret
 exact tA
end
section
open Go.RowKit

end
section
open Go.RowKit
attribute [local go_sem ↓] Go.wp_at_zero Go.wp_at_succ

def E9 (addr stamp:Int) (p:List UInt8):List UInt8:=((UInt8.ofNat p.length::p) ++ leB 2 addr.toNat) ++ leB 4 stamp.toNat
def Bk (addr stamp:Int) (p:List UInt8):List UInt8:=E9 addr stamp p ++ leB 4 (C3 (E9 addr stamp p))
def UW (addr stamp:Int) (p:List UInt8):Prop:=0<=addr/\addr<=65535/\0<=stamp/\stamp<=4294967295/\p.length<=96

theorem Wa (addr stamp:Int) (v:Value) (p:List UInt8) (w:World) (Mi:Ms) (h:SlR w Mi v p) (hok:UW addr stamp p) :
  Calls Tryz.prog 107 #[.agg #[.int .i64 addr, .int .i64 stamp,v]] w fun e w'=>∃ r,e = .returned (.tuple #[r, .int .i64 0])/\OwR w' noM w.heap.size 5 r (Bk addr stamp p)/\Below w.heap.size w w':=by
 obtain⟨a,c,rfl⟩:=h.form;obtain⟨h1,h2,h3,h4,h5⟩:=hok;have h1':¬addr<0:=by omega
 have h2':¬(65535:Int)<addr:=by omega
 have h3':¬stamp<0:=by omega
 have h4':¬(4294967295:Int)<stamp:=by omega
 have h5':¬(96:Int)<p.length:=by omega
 have hbA:=(Below.refl w.heap.size w).alloc (Ah _) (.cells #[.int .i64 addr, .int .i64 stamp, .slice a p.length c] 211);have HB:=Lib.hid hbA;have HQ:=Lib.hid (Blk.new w 211 #[.int .i64 addr, .int .i64 stamp, .slice a p.length c]);have hp1:=Lib.hid (PD _ p (w.alloc (.cells #[.int .i64 addr, .int .i64 stamp, .slice a p.length c] 211)) noM noM (h.bare.mono (zn hbA)) (by omega));obtain⟨X1,hX1⟩:∃ X,X=UInt8.ofNat p.length::p:=⟨_,rfl⟩;rw [<-hX1] at hp1;have hl1:X1.length<=97:=by rw [hX1];simp;omega
 have HX1:=Lib.hid hX1;clear hX1 hbA h
 go_enter Tryz.func107,Tryz.ntmps107
 go_wp2_with fail
 ((with_reducible refine hp1.out.mono ?_);rintro e w1 ⟨r1,rfl,ho1,hB1⟩);have HB1:=Lib.hid (HB.out.trans (hB1.mono HB.out.size));have HQ1:=Lib.hid (HQ.out.below hB1);have hp2:=Lib.hid (J4 r1 X1 addr 2 w1 noM noM (ho1.sl (fun _ _ h=>h)) (.inr (.inl rfl)) (by omega) h1 (by show addr<65536;omega));obtain⟨X2,hX2⟩:∃ X,X=X1 ++ leB (Int.toNat 2) addr.toNat:=⟨_,rfl⟩;rw [<-hX2] at hp2;have hl2:X2.length<=99:=by rw [hX2,Ai,leB_len];show _+2<=_;omega
 have HX2:=Lib.hid hX2;clear hX2 hB1 hp1 ho1 HB HQ;obtain⟨q1,q2,q3⟩:=HQ1.out.all
 go_wp2_with fail
 clear q1 q2 q3;((with_reducible refine hp2.out.mono ?_);rintro e w2 ⟨r2,rfl,ho2,hB2⟩);have HB2:=Lib.hid (HB1.out.trans (hB2.mono HB1.out.size));have HQ2:=Lib.hid (HQ1.out.below hB2);have hp3:=Lib.hid (J4 r2 X2 stamp 4 w2 noM noM (ho2.sl (fun _ _ h=>h)) (.inr (.inr rfl)) (by omega) h3 (by show stamp<4294967296;omega));obtain⟨X3,hX3⟩:∃ X,X=X2 ++ leB (Int.toNat 4) stamp.toNat:=⟨_,rfl⟩;rw [<-hX3] at hp3;have hl3:X3.length<=103:=by rw [hX3,Ai,leB_len];show _+4<=_;omega
 have HX3:=Lib.hid hX3;clear hX3 hB2 hp2 ho2 HB1 HQ1;obtain⟨q1,q2,q3⟩:=HQ2.out.all
 go_wp2_with fail
 clear q1 q2 q3;((with_reducible refine hp3.out.mono ?_);rintro e w3 ⟨r3,rfl,ho3,hB3⟩);have HB3:=Lib.hid (HB2.out.trans (hB3.mono HB2.out.size));have hsm:=Lib.hid (Nc r3 X3 w3 noM (ho3.sl (fun _ _ h=>h)));have hsl:=Is X3;have hp4:=Lib.hid (J4 r3 X3 (C3 X3:Nat) 4 w3 noM noM (ho3.sl (fun _ _ h=>h)) (.inr (.inr rfl)) (by omega) (by omega) (by show ((C3 X3:Nat):Int)<4294967296;omega));clear hB3 hp3 ho3 HB2 HQ2 hsl
 go_wp2_with fail
 ((with_reducible refine hsm.out.mono ?_);rintro e w4 ⟨rfl,rfl⟩)
 go_wp2_with fail
 ((with_reducible refine hp4.out.mono ?_);rintro e w5 ⟨r5,rfl,ho5,hB5⟩);have HX:=Lib.hid (Ad (ho5.mono_base (base':=w.heap.size) HB3.out.size) (HB3.out.trans (hB5.mono HB3.out.size)));clear ho5 hB5 hp4
 go_wp2
 go_ret2
 refine⟨_,rfl,?_,HX.out.2⟩;have hf:=HX.out.1;rw [HX3.out,HX2.out,HX1.out] at hf;exact hf
end
section
open Go.RowKit
def KN (g:Geo) (copy slot:Int):Bool:=CQ copy 0 1&&CQ slot 0 (g.sl - 1)
def Bi (g:Geo) (copy slot:Int):Int:=g.an+copy*g.sl+slot
def BF (g:Geo) (r:Rc) (copy slot:Int):List UInt8:=Bk (Bi g copy slot) r.seq (Ex r)
theorem Fd {g:Geo} {copy slot:Int} (hg:Bq g=true) (hl:KN g copy slot=true):0<=Bi g copy slot/\Bi g copy slot<=65535:=by
 obtain⟨-, -, -,hs,ha⟩:=Aq.1 hg;simp only [KN,Af,AE] at hl;unfold Bi;rcases(show copy=0\/copy=1 by omega) with rfl | rfl <;> omega
theorem JA {g:Geo} {r:Rc} (h:Gm g r=true):0<=r.seq/\r.seq<=4294967295:=by
 rcases(Fw h).2 with h' | h' | h' <;> omega
def zeroC:Rc:=⟨0,0,0,0,0,⟨0,0, []⟩⟩
end
end Go.Proofs.YtpjkcgacjjbikaaGreatDoor
namespace Go.Proofs.YtpjkcgacjjbikaaGreatDoor.A
section
open Go.RowKit
def S2 (x:AV) (H R:List AB) (k:AV->List AB->List AB->Prop):Prop:=
 match x with
 | .v u=>k (.v u) H R
 | .sl sz n get=>k (.sl sz n get) H R
 | .ow j n=>match hget H j with
  | some (.row t sz es)=>setK j .dead H fun H=>snocK R (.row t sz es) 0 fun i R=>k (.ow i n) H R
  | _=>False
 | _=>False
def openC:List AV->List AB->List AB->(List AV->List AB->List AB->Prop)->Prop
 | [],H,R,k=>k [] H R
 | x::l,H,R,k=>S2 x H R fun x H R=>openC l H R fun l H R=>k (x::l) H R
def S1 (x:AV) (H R:List AB) (k:AV->List AB->List AB->Prop):Prop:=
 match x with
 | .ag cs=>openC cs H R fun cs H R=>k (.ag cs) H R
 | x=>S2 x H R k
def openL:List AV->List AB->List AB->(List AV->List AB->List AB->Prop)->Prop
 | [],H,R,k=>k [] H R
 | x::l,H,R,k=>S1 x H R fun x H R=>openL l H R fun l H R=>k (x::l) H R
def S0 (x:AV) (H:List AB) (k:AV->List AB->Prop):Prop:=
 match x with
 | .tp l=>openL l H [] fun l _ R=>k (.tp l) R
 | x=>S1 x H [] fun x _ R=>k x R

section
variable {w0:Fl} {M0:Ms} {c cr:Ctx} {H R:List AB}
theorem HS.kill (h:HS w0 M0 c H) (k:Nat):HS w0 M0 c (H.set k .dead):=by
 have hget:∀ j y,(H.set k .dead)[j]? = some y->y.live=true->j≠k/\H[j]? = some y:=by
  intro j y hj hl;by_cases f:j=k
  ·subst f;by_cases u:j<H.length
   ·rw [AA u] at hj;cases hj;cases hl
   ·rw [AL (by simp;omega)] at hj;cases hj
  ·rw [A9 (Ne.symm f)] at hj;exact⟨f,hj⟩
 refine⟨h.low,h.base,by simp [h.dom],h.foreign,h.lt,fun j y hj=>?_,fun j y g hj hl ho=>?_,fun i j y z g hi hj hly hlz hoi hoj=>?_⟩
 ·cases hy:y.live with
  | false=>cases y <;> simp [AB.live] at hy;trivial
  | true=>exact h.blk j y (hget j y hj hy).2
 ·exact h.own j y g (hget j y hj hl).2 hl ho
 ·exact h.dis i j y z g (hget i y hi hly).2 (hget j z hj hlz).2 hly hlz hoi hoj

structure OpenSt (w0:Fl) (M0:Ms) (c:Ctx) (H:List AB) (cr:Ctx) (R:List AB):Prop where
 hs:HS w0 M0 c H
 hr:HS w0 M0 cr R
 w:cr.w=c.w
 M:cr.M=c.M
 dis:∀ i k x y g,R[i]? = some x->H[k]? = some y->x.live=true->y.live=true->oB (cr.rho i)=some g->oB (c.rho k)=some g->False
 rows:∀ x∈R,∃ t sz es,x = .row t sz es
theorem OpenSt.ext (h:OpenSt w0 M0 c H cr R):Ext c.closed cr:=
 ⟨by simp [Ctx.closed,h.w],by simp [Ctx.closed,h.w],by simp [Ctx.closed,h.w],by simp [Ctx.closed,h.w],fun b _ hm=>⟨by rw [h.M];exact hm,by simp [Ctx.closed,h.w]⟩,Aj _,fun k hk=>absurd hk (Ap k),fun k hk=>absurd hk (Ap k),fun k _ hk=>absurd hk (Ap k)⟩
theorem OpenSt.take (h:OpenSt w0 M0 c H cr R) {j:Nat} {t:TypeId} {sz:Nat} {es:List (List AV)} (hj:H[j]? = some (.row t sz es)) :
  ∃ cr',OpenSt w0 M0 c (H.set j .dead) cr' (R ++ [.row t sz es])/\Ext cr cr'/\∀ n u,Rd (.ow j n) c u->Rd (.ow R.length n) cr' u:=by
 let cr':Ctx:={ cr with dom:=cr.dom+1,rho:=fun k=>if k=cr.dom then c.rho j else cr.rho k,len:=fun k=>if k=cr.dom then c.len j else cr.len k };have C:∀ k,k<cr.dom->cr'.rho k=cr.rho k:=fun k hk=>by simp only [cr'];rw [if_neg (by omega)]
 have L:∀ k,k<cr.dom->cr'.len k=cr.len k:=fun k hk=>by simp only [cr'];rw [if_neg (by omega)]
 have G:cr'.rho cr.dom=c.rho j:=by simp [cr']
 have J:cr'.len cr.dom=c.len j:=by simp [cr']
 have e:Ext cr cr':=⟨rfl,rfl,rfl,Ah _,fun _ _ hm=>⟨hm,rfl⟩,Nat.le_succ _,fun k hk=>by rw [L k hk];exact Ah _,fun k hk _=>C k hk,fun k g hk hg=>by rw [C k hk];exact hg⟩;have hget:∀ k y,(R ++ [AB.row t sz es])[k]? = some y->(k<cr.dom/\R[k]? = some y)\/(k=cr.dom/\y = .row t sz es):=by
  intro k y hk;rw [h.hr.dom];rcases Nat.lt_trichotomy k R.length with f | rfl | W
  ·rw [AH f] at hk;exact .inl ⟨f,hk⟩
  ·simp at hk;exact .inr ⟨rfl,hk.symm⟩
  ·rw [AL (by simp;omega)] at hk;cases hk
 have O:∀ k y,(H.set j .dead)[k]? = some y->y.live=true->k≠j/\H[k]? = some y:=by
  intro k y hk hl;by_cases N:k=j
  ·subst N;rw [AA (At.1 hj).1] at hk;cases hk;cases hl
  ·rw [A9 (Ne.symm N)] at hk;exact⟨N,hk⟩
 have V:Ext c.closed cr'.closed:=⟨by simp [Ctx.closed,cr',h.w],by simp [Ctx.closed,cr',h.w],by simp [Ctx.closed,cr',h.w],by simp [Ctx.closed,cr',h.w],fun b _ hm=>⟨by simp only [Ctx.closed,cr'];rw [h.M];exact hm,by simp [Ctx.closed,cr',h.w]⟩,Aj _,fun k hk=>absurd hk (Ap k),fun k hk=>absurd hk (Ap k),fun k _ hk=>absurd hk (Ap k)⟩;refine⟨cr',⟨h.hs.kill j,⟨h.hr.low,h.hr.base,by simp [cr',h.hr.dom],h.hr.foreign,h.hr.lt,fun k y hk=>?_,fun k y g hk hl ho=>?_,fun i k y z g hi hk hly hlz hoi hok=>?_⟩,h.w,h.M,fun i k x y g hi hk hlx hly hoi hok=>?_,fun x hx=>?_⟩,e,fun n u hu=>?_⟩
 ·rcases hget k y hk with ⟨f,F⟩ | ⟨rfl,rfl⟩
  ·exact zp e rfl f (L k f) (fun _ _ _=>rfl) (h.hr.blk k y F)
  ·obtain⟨h1,h2,h3,xs,h4,h5,h6⟩:=h.hs.blk j _ hj;refine⟨by rw [J];exact h1,h2,h3,xs,?_,RdL.ext _ V h5,h6⟩;rw [G,show cr'.w=c.w from h.w,show cr'.base=c.base from h.hr.base.trans h.hs.base.symm];exact h4
 ·rcases hget k y hk with ⟨f,F⟩ | ⟨rfl,rfl⟩
  ·rw [C k f] at ho;exact h.hr.own k y g F hl ho
  ·rw [G] at ho;have:=h.hs.own j _ g hj rfl ho;exact⟨by show cr.M g;rw [h.M];exact this.1,this.2⟩
 ·rcases hget i y hi with ⟨f,I⟩ | ⟨rfl,rfl⟩ <;> rcases hget k z hk with ⟨K,F⟩ | ⟨rfl,rfl⟩
  ·rw [C i f] at hoi;rw [C k K] at hok;exact h.hr.dis i k y z g I F hly hlz hoi hok
  ·rw [C i f] at hoi;rw [G] at hok;exact(h.dis i j y _ g I hj hly rfl hoi hok).elim
  ·rw [G] at hoi;rw [C k K] at hok;exact(h.dis k j z _ g F hj hlz rfl hok hoi).elim
  ·rfl
 ·obtain⟨U,F⟩:=O k y hk hly;rcases hget i x hi with ⟨f,I⟩ | ⟨rfl,rfl⟩
  ·rw [C i f] at hoi;exact h.dis i k x y g I F hlx hly hoi hok
  ·rw [G] at hoi;exact U (h.hs.dis k j y _ g F hj hly rfl hok hoi)
 ·rcases A6.1 hx with hx | hx
  ·exact h.rows x hx
  ·exact⟨t,sz,es,by simpa using hx⟩
 ·simp only [Rd] at hu |-
  obtain⟨_,q2,q3,q4⟩:=hu;rw [<-h.hr.dom];exact⟨Nat.lt_succ_self _,by rw [J];exact q2,q3,by rw [J,G];exact q4⟩
theorem KM (h:OpenSt w0 M0 c H cr R) {x:AV} {u:Value} (hr:Rd x c u) {k:AV->List AB->List AB->Prop} (hk:S2 x H R k) :
  ∃ x' H' cr' R',k x' H' R'/\OpenSt w0 M0 c H' cr' R'/\Ext cr cr'/\Rd x' cr' u:=by
 unfold S2 at hk;split at hk
 ·exact⟨_,H,cr,R,hk,h,zJ _,by simpa [Rd] using hr⟩
 ·refine⟨_,H,cr,R,hk,h,zJ _,Rd.ext _ h.ext ?_⟩;simp only [Rd] at hr |-
  exact hr
 ·rename_i j n;rw [hget_eq] at hk;split at hk
  ·rename_i t sz es hj;have hk:=snocK_iff (setK_iff hk);rw [A0] at hk;obtain⟨cr',q1,q2,q3⟩:=h.take hj;exact⟨_,_,cr',_,hk,q1,q2,q3 n u hr⟩
  ·exact hk.elim
 ·exact hk.elim
theorem openC_sound:∀ {l:List AV} {H R:List AB} {cr:Ctx} (_:OpenSt w0 M0 c H cr R) {us:List Value} (_:RdL l c us) {k:List AV->List AB->List AB->Prop} (_:openC l H R k),
  ∃ l' H' cr' R',k l' H' R'/\OpenSt w0 M0 c H' cr' R'/\Ext cr cr'/\RdL l' cr' us
 | [],H,R,cr,h,us,hr,k,hk=>⟨[],H,cr,R,hk,h,zJ _,by simp only [RdL] at hr |-;exact hr⟩
 | x::l,H,R,cr,h,us,hr,k,hk=>by
  simp only [RdL] at hr;obtain⟨u,us,rfl,h1,h2⟩:=hr;simp only [openC] at hk;obtain⟨x',H1,c1,R1,q1,q2,q3,q4⟩:=KM h h1 hk;obtain⟨l',H2,c2,R2,p1,p2,p3,p4⟩:=openC_sound q2 h2 q1;exact⟨_,H2,c2,R2,p1,p2,q3.trans p3,by simp only [RdL];exact⟨u,us,rfl,Rd.ext _ p3 q4,p4⟩⟩
theorem KL (h:OpenSt w0 M0 c H cr R) {x:AV} {u:Value} (hr:Rd x c u) {k:AV->List AB->List AB->Prop} (hk:S1 x H R k) :
  ∃ x' H' cr' R',k x' H' R'/\OpenSt w0 M0 c H' cr' R'/\Ext cr cr'/\Rd x' cr' u:=by
 unfold S1 at hk;split at hk
 ·simp only [Rd] at hr;obtain⟨xs,rfl,hx⟩:=hr;obtain⟨l',H2,c2,R2,p1,p2,p3,p4⟩:=openC_sound h hx hk;exact⟨_,H2,c2,R2,p1,p2,p3,by simp only [Rd];exact⟨xs,rfl,p4⟩⟩
 ·exact KM h hr hk
theorem openL_sound:∀ {l:List AV} {H R:List AB} {cr:Ctx} (_:OpenSt w0 M0 c H cr R) {us:List Value} (_:RdL l c us) {k:List AV->List AB->List AB->Prop} (_:openL l H R k),
  ∃ l' H' cr' R',k l' H' R'/\OpenSt w0 M0 c H' cr' R'/\Ext cr cr'/\RdL l' cr' us
 | [],H,R,cr,h,us,hr,k,hk=>⟨[],H,cr,R,hk,h,zJ _,by simp only [RdL] at hr |-;exact hr⟩
 | x::l,H,R,cr,h,us,hr,k,hk=>by
  simp only [RdL] at hr;obtain⟨u,us,rfl,h1,h2⟩:=hr;simp only [openL] at hk;obtain⟨x',H1,c1,R1,q1,q2,q3,q4⟩:=KL h h1 hk;obtain⟨l',H2,c2,R2,p1,p2,p3,p4⟩:=openL_sound q2 h2 q1;exact⟨_,H2,c2,R2,p1,p2,q3.trans p3,by simp only [RdL];exact⟨u,us,rfl,Rd.ext _ p3 q4,p4⟩⟩
def aS (c:Ctx):Ctx:={ c with dom:=0 }
theorem OpenSt.begin (h:HS w0 M0 c H):OpenSt w0 M0 c H (aS c) []:=
 ⟨h,⟨h.low,h.base,rfl,h.foreign,h.lt,by simp,by simp,by simp⟩,rfl,rfl,by simp,by simp⟩
theorem PF (h:HS w0 M0 c H) {x:AV} {u:Value} (hr:Rd x c u) {k:AV->List AB->Prop} (hk:S0 x H k) :
  ∃ x' cr R,k x' R/\cr.w=c.w/\HS w0 M0 cr R/\Rd x' cr u/\∀ y∈R,∃ t sz es,y = .row t sz es:=by
 unfold S0 at hk;split at hk
 ·simp only [Rd] at hr;obtain⟨xs,rfl,hx⟩:=hr;obtain⟨l',H2,c2,R2,p1,p2,p3,p4⟩:=openL_sound (OpenSt.begin h) hx hk;exact⟨_,c2,R2,p1,p2.w,p2.hr,by simp only [Rd];exact⟨xs,rfl,p4⟩,p2.rows⟩
 ·obtain⟨x',H2,c2,R2,p1,p2,p3,p4⟩:=KL (OpenSt.begin h) hr hk;exact⟨_,c2,R2,p1,p2.w,p2.hr,p4,p2.rows⟩
end

structure FnO (P:Program) (f:FuncId) (args:List AV) (K:AV->List AB->Prop):Prop where
 go:Xo P f
 calls:∀ (c0:Ctx) (us:List Value) (hg:globOk c0.w),c0.dom=0->(∀ b,c0.M b->b<c0.w.heap.size)->RdL args c0 us->
  Calls P f us.toArray c0.w fun e w'=>∃ v r c' R,e = .returned v/\K r R/\c'.w=w'/\HS (Fl.all c0.w hg) c0.M c' R/\Rd r c' v/\∀ y∈R,∃ t sz es,y = .row t sz es
theorem FnO.mono {P:Program} {f:FuncId} {args:List AV} {K K':AV->List AB->Prop} (h:FnO P f args K) (hk:∀ r R,K r R->K' r R):FnO P f args K':=
 ⟨h.1,fun c0 us hg h1 h2 h3=>(h.2 c0 us hg h1 h2 h3).mono fun _ _ ⟨v,r,c',R,h4,h5,h6⟩=>⟨v,r,c',R,h4,hk _ _ h5,h6⟩⟩
def aO (T:Tys) (rs:List ResultVar) (K:AV->List AB->Prop):QA:=fun ex fr H=>match ex with
 | .exit _=>False
 | _=>I9 T rs fr H fun x=>S0 x H K
theorem FnO.of {P : Program} {T : Tys} (hT : TOk P T) {f : FuncId} {fn : Func} {body : Code} {args : List AV} {K : AV → List AB → Prop} (hf : P.funcs[f]? = some fn) (hb : fn.body = some body) (j : (fn.name == "runtime.NumGoroutine") = false) (hn : args.length ≤ fn.ntmps)
  (h:C2 P T fn.ntmps 0 body (aO T fn.results.toList K) (frOf 0 args) []):FnO P f args K:=by
 refine⟨⟨fn,hf,by rw [hb];try rfl,j⟩,fun c0 us hg hd hM hr=>?_⟩;let ce:Ctx:={ c0 with base:=0 };have u:Ext c0 ce:=⟨rfl,rfl,rfl,Ah _,fun _ _ h=>⟨h,rfl⟩,Ah _,fun _ _=>Ah _,fun _ _ _=>rfl,fun _ _ _ h=>h⟩;have z:HS (Fl.all c0.w hg) c0.M ce []:=⟨zi _ hg,rfl,hd,fun _ _=>Iff.rfl,hM,by simp,by simp,by simp⟩;have F:=hr.length;have C:FR (Fl.all c0.w hg) ce fn.ntmps (frOf 0 args) { tmps:=us.toArray ++ Array.replicate (fn.ntmps - us.toArray.size) undef,defers:= [] }:=by
  refine⟨by simp;omega,tv,fun i=>?_⟩;have:=Hp (c:=ce) (m:=fn.ntmps - us.length) (l:=args) (i:=0) (pre:= []) rfl (RdL.ext _ u hr) i;rw [AJ];have e:(us.toArray ++ Array.replicate (fn.ntmps - us.toArray.size) undef)[i]? = ([] ++ us ++ List.replicate (fn.ntmps - us.length) undef)[i]? :=by
   have:(us.toArray ++ Array.replicate (fn.ntmps - us.toArray.size) undef)=([] ++ us ++ List.replicate (fn.ntmps - us.length) undef).toArray:=Array.ext' (by simp);rw [this];simp only [Cy]
  rw [e];exact this
 have fin:∀ a w,Em (Fl.all c0.w hg) c0.M ce fn.ntmps (fun fr H=>I9 T fn.results.toList fr H fun x=>S0 x H K) a w->∃ v,(results fn a.tmps).run P w = .ok v w/\∃ v' r c' R,Ending.returned v = .returned v'/\K r R/\c'.w=w/\HS (Fl.all c0.w hg) c0.M c' R/\Rd r c' v'/\∀ y∈R,∃ t sz es,y = .row t sz es:=by
  rintro a w ⟨c,fr,H,rfl,h1,h2,h3,h4⟩;obtain⟨x,v,q1,q2,q3⟩:=EH hT h2 h3 h1;obtain⟨r,cr,R,p1,p2,p3,p4,p5⟩:=PF h2 q2 q1;exact⟨v,q3,v,r,cr,R,rfl,p1,p2,p3,p4,p5⟩
 refine Ev hf hb trivial (Ah _) fin ?_;refine BE (w0:=Fl.all c0.w hg) (M0:=c0.M) (ce:=ce) hT hd body _ _ ce _ [] _ (Fy rfl rfl fun _ _ _ h=>h) z C (zJ _) h

mutual
def AV.shift (d:Nat):AV->AV
 | .ow k n=> .ow (k+d) n
 | .bp k o=> .bp (k+d) o
 | .ep k n i sz off=> .ep (k+d) n i sz off
 | .ag l=> .ag (AV.shiftL d l)
 | .tp l=> .tp (AV.shiftL d l)
 | .fn f l=> .fn f (AV.shiftL d l)
 | .ic f l=> .ic f (AV.shiftL d l)
 | .top=> .top
 | .v x=> .v x
 | .sl sz n get=> .sl sz n get
 | .rp cs=> .rp cs
def AV.shiftL (d:Nat):List AV->List AV
 | []=> []
 | x::l=>x.shift d::AV.shiftL d l
end
def Ctx.beside (c c':Ctx):Ctx:={ w:=c'.w,base:=c.base,M:=c'.M,dom:=c.dom+c'.dom,rho:=fun k=>if k<c.dom then c.rho k else c'.rho (k - c.dom),len:=fun k=>if k<c.dom then c.len k else c'.len (k - c.dom) }
theorem Ext.closedBeside (c c':Ctx):Ext c'.closed (c.beside c').closed:=⟨rfl,rfl,rfl,Ah _,fun _ _ h=>⟨h,rfl⟩,Aj _,fun k hk=>absurd hk (Ap k),fun k hk=>absurd hk (Ap k),fun k _ hk=>absurd hk (Ap k)⟩
def zo:=@Ext.closedBeside
mutual
theorem Rd.shift:∀ (x:AV) {c c':Ctx} {u:Value},Rd x c' u->Rd (x.shift c.dom) (c.beside c') u
 | .top,_,_,_,_=>by simp [AV.shift,Rd]
 | .v _,_,_,_,h=>by simpa [AV.shift,Rd] using h
 | .sl sz n get,c,c',u,h=>by
  simp only [AV.shift,Rd] at h |-
  obtain⟨a,k,rfl,h1,h2,h3⟩:=h;refine⟨a,k,rfl,h1,h2,h3.imp id ?_⟩;rintro⟨b,off,rfl,hm,hb,hc⟩;exact⟨b,off,rfl,hm,hb,fun i hi=>⟨(hc i hi).1,RdAt.ext (get i) (zo c c') hb hm (hc i hi).2⟩⟩
 | .rp cs,c,c',u,h=>by
  simp only [AV.shift,Rd] at h |-
  obtain⟨b,off,rfl,hm,hb,hc⟩:=h;exact⟨b,off,rfl,hm,hb,RdAt.ext cs (zo c c') hb hm hc⟩
 | .bp k off,c,c',u,h=>by
  simp only [AV.shift,Rd] at h |-
  obtain⟨h1,g,h2,h3⟩:=h;refine⟨by simp only [Ctx.beside];omega,g,?_,h3⟩;simp only [Ctx.beside];rw [if_neg (by omega),Dw];exact h2
 | .ow k n,c,c',u,h=>by
  simp only [AV.shift,Rd] at h |-
  obtain⟨h1,h2,h3,h4⟩:=h;have e1:(c.beside c').len (k+c.dom)=c'.len k:=by simp only [Ctx.beside];rw [if_neg (by omega),Dw]
  have e2:(c.beside c').rho (k+c.dom)=c'.rho k:=by simp only [Ctx.beside];rw [if_neg (by omega),Dw]
  rw [e1,e2];exact⟨by simp only [Ctx.beside];omega,h2,h3,h4⟩
 | .ep k n i sz off,c,c',u,h=>by
  simp only [AV.shift,Rd] at h |-
  obtain⟨h1,h2,h3⟩:=h;have e1:(c.beside c').len (k+c.dom)=c'.len k:=by simp only [Ctx.beside];rw [if_neg (by omega),Dw]
  have e2:(c.beside c').rho (k+c.dom)=c'.rho k:=by simp only [Ctx.beside];rw [if_neg (by omega),Dw]
  rw [e1,e2];exact⟨by simp only [Ctx.beside];omega,h2,h3⟩
 | .ag l,c,c',u,h=>by
  simp only [AV.shift,Rd] at h |-
  obtain⟨xs,rfl,h1⟩:=h;exact⟨xs,rfl,RdL.shift l h1⟩
 | .tp l,c,c',u,h=>by
  simp only [AV.shift,Rd] at h |-
  obtain⟨xs,rfl,h1⟩:=h;exact⟨xs,rfl,RdL.shift l h1⟩
 | .fn f l,c,c',u,h=>by
  simp only [AV.shift,Rd] at h |-
  obtain⟨xs,rfl,h1⟩:=h;exact⟨xs,rfl,RdL.shift l h1⟩
 | .ic f l,c,c',u,h=>by
  simp only [AV.shift,Rd] at h |-
  obtain⟨xs,rfl,h1⟩:=h;exact⟨xs,rfl,RdL.shift l h1⟩
theorem RdL.shift:∀ (l:List AV) {c c':Ctx} {us:List Value},RdL l c' us->RdL (AV.shiftL c.dom l) (c.beside c') us
 | [],_,_,_,h=>by simp only [AV.shiftL,RdL] at h |-;exact h
 | x::l,c,c',us,h=>by
  simp only [AV.shiftL,RdL] at h |-
  obtain⟨u,us,rfl,h1,h2⟩:=h;exact⟨u,us,rfl,Rd.shift x h1,RdL.shift l h2⟩
end
theorem HS.beside {w0:Fl} {M0:Ms} {c c':Ctx} {H R:List AB} (h:HS w0 M0 c H) {hg:globOk c.w} (k:HS (Fl.all c.w hg) c.M c' R) (hR:∀ y∈R,∃ t sz es,y = .row t sz es) :
  HS w0 M0 (c.beside c') (H ++ R)/\Ext c (c.beside c'):=by
 have L:=h.low.size;have e:Ext c (c.beside c'):=by
  refine⟨k.low.os,k.low.tape,k.low.output,k.low.size,fun b hb hm=>⟨fun hm'=>hm ((k.foreign b hb).1 hm'),k.low.block b hb⟩,Nat.le_add_right _ _,fun i hi=>?_,fun i hi _=>?_,fun i g hi hg=>?_⟩
  ·simp only [Ctx.beside];rw [if_pos hi];exact Ah _
  ·simp only [Ctx.beside];rw [if_pos hi]
  ·simp only [Ctx.beside];rw [if_pos hi];exact hg
 have F:∀ i,i<c.dom->(c.beside c').rho i=c.rho i:=fun i hi=>by simp only [Ctx.beside];rw [if_pos hi]
 have C:∀ i,¬i<c.dom->(c.beside c').rho i=c'.rho (i - c.dom):=fun i hi=>by simp only [Ctx.beside];rw [if_neg hi]
 have hget:∀ i y,(H ++ R)[i]? = some y->(i<c.dom/\H[i]? = some y)\/(¬i<c.dom/\R[i - c.dom]? = some y):=by
  intro i y hi;rw [h.dom];by_cases u:i<H.length
  ·rw [AH u] at hi;exact .inl ⟨u,hi⟩
  ·rw [AN (by omega)] at hi;exact .inr ⟨u,hi⟩
 refine⟨⟨h.low.trans k.low.below,h.base,by simp [Ctx.beside,h.dom,k.dom],fun b hb=>?_,k.lt,fun i y hi=>?_,fun i y g hi hl ho=>?_,fun i j y z g hi hj hly hlz hoi hoj=>?_⟩,e⟩
 ·exact(k.foreign b (Au (w0.lt b hb) L)).trans (h.foreign b hb)
 ·rcases hget i y hi with ⟨u,f⟩ | ⟨G,f⟩
  ·exact zp e rfl u (by simp only [Ctx.beside];rw [if_pos u]) (fun g hl ho=>k.low.block g (h.sub f hl ho)) (h.blk i y f)
  ·obtain⟨t,sz,es,rfl⟩:=hR y (DG f);obtain⟨h1,h2,h3,xs,h4,h5,h6⟩:=k.blk _ _ f;refine⟨by simp only [Ctx.beside];rw [if_neg G];exact h1,h2,h3,xs,?_,RdL.ext _ (zo c c') h5,h6⟩;rw [C i G];refine⟨h4.1,h4.2.imp id ?_⟩;rintro⟨g,cap,cur,q1,q2,q3⟩;refine⟨g,cap,cur,q1,?_,q3⟩;show c.base<=g;rw [h.base];exact Aj _
 ·rcases hget i y hi with ⟨u,f⟩ | ⟨G,f⟩
  ·rw [F i u] at ho;have:=h.own i y g f hl ho;exact⟨(k.foreign g (h.lt g this.1)).2 this.1,this.2⟩
  ·rw [C i G] at ho;have:=k.own _ y g f hl ho;exact⟨this.1,fun ho=>this.2 (Au (w0.lt g ho) L)⟩
 ·rcases hget i y hi with ⟨u,f⟩ | ⟨G,f⟩ <;> rcases hget j z hj with ⟨J,I⟩ | ⟨K,I⟩
  ·rw [F i u] at hoi;rw [F j J] at hoj;exact h.dis i j y z g f I hly hlz hoi hoj
  ·rw [F i u] at hoi;rw [C j K] at hoj;have h1:=h.sub f hly hoi;exact((k.own _ z g I hlz hoj).2 h1).elim
  ·rw [C i G] at hoi;rw [F j J] at hoj;have h1:=h.sub I hlz hoj;exact((k.own _ y g f hly hoi).2 h1).elim
  ·rw [C i G] at hoi;rw [C j K] at hoj;have:=k.dis _ _ y z g f I hly hlz hoi hoj;omega
def appK:List AB->List AB->Nat->(Nat->List AB->Prop)->Prop
 | [],R,n,k=>k n R
 | y::r,R,n,k=>appK r R (n+1) fun m l=>k m (y::l)
theorem appK_iff:∀ {H R:List AB} {n:Nat} {k:Nat->List AB->Prop},appK H R n k->k (n+H.length) (H ++ R)
 | [],_,_,_,h=>h
 | y::r,R,n,k,h=>by
  simp only [appK] at h;have:=appK_iff h;rw [Ao,show n+(r.length+1)=n+1+r.length by omega];exact this
theorem FnO.call {P:Program} {f:FuncId} {args:List AV} {H:List AB} {K:AV->List AB->Prop} {q:Bool} {k:AV->List AB->Prop} (h:FnO P f args K) (hc:AV.ltL args 0=true) (hk:∀ r R,K r R->appK H R 0 fun d H=>D4 (r.shift d) fun r=>k r H):ACalls P q f args H k:=by
 refine⟨h.go,fun w0 M0 c us hs0 hr=>?_⟩;have i:Cut c c.closed:=⟨zJ _,fun k hk=>absurd hk (Ap k)⟩;refine(h.calls c.closed us hs0.glob rfl hs0.lt (RdL.cut args i hc hr)).mono ?_;rintro e w' ⟨v,r,c',R,rfl,q1,rfl,q2,q3,q4⟩;obtain⟨p1,p2⟩:=hs0.beside (c':=c') q2 q4;have h1:=BV (appK_iff (hk r R q1));rw [A0,<-hs0.dom] at h1;exact⟨v,c.beside c',_,_,rfl,rfl,h1,p1,p2,Rd.shift r q3,fun _=>q2.low.below.old⟩
theorem FnO.fn1 {P:Program} {f:FuncId} {args:List AV} {t:TypeId} {sz n:Nat} {es:List (List AV)} (h:FnO P f args fun r R=>r = .ow 0 n/\R=[.row t sz es]/\n=es.length):Fn P f args fun r=>r = .sl sz n fun i=>es.getD i []:=by
 refine⟨h.go,fun c0 us hd hM hg hr=>(h.calls c0 us hg hd hM hr).mono ?_⟩;rintro e w' ⟨v,r,c',R,rfl,⟨rfl,rfl,rfl⟩,rfl,q2,q3,q4⟩;obtain⟨c2,e1,e2,e3,e4⟩:=q2.freeze (k:=0) rfl;refine⟨v,_,rfl,rfl,q2.low.below,?_⟩;have hE:Ext c2.closed { c0 with w:=c'.w }:=by
  refine⟨by simp [Ctx.closed,e1],by simp [Ctx.closed,e1],by simp [Ctx.closed,e1],by simp [Ctx.closed,e1],fun b hb hm=>⟨fun h=>hm ?_,by simp [Ctx.closed,e1]⟩,Aj _,fun k hk=>absurd hk (Ap k),fun k hk=>absurd hk (Ap k),fun k _ hk=>absurd hk (Ap k)⟩;exact(e2.foreign b (hM b h)).2 h
 refine Rd.ext _ hE ?_;have:=e4 v q3;simp only [Rd] at this |-
 exact this
def ixm:List Nat->Nat->Nat->Nat
 | [],d,i=>d+i
 | x::_,_,0=>x
 | _::r,d,i+1=>ixm r d i
theorem ixm_or:∀ (s:List Nat) (d i:Nat),(i<s.length/\ixm s d i∈s)\/(s.length<=i/\ixm s d i=d+(i - s.length))
 | [],d,i=> .inr ⟨Aj _,by simp [ixm]⟩
 | x::r,d,0=> .inl ⟨by simp,by simp [ixm]⟩
 | x::r,d,i+1=>by
  rcases ixm_or r d i with ⟨h1,h2⟩ | ⟨h1,h2⟩
  ·exact .inl ⟨by simp;omega,by simp only [ixm];exact Bh _ h2⟩
  ·exact .inr ⟨by simp;omega,by simp only [ixm,h2,Ao];omega⟩
theorem ixm_inj:∀ {s:List Nat} {d i j:Nat},s.Nodup->(∀ x∈s,x<d)->ixm s d i=ixm s d j->i=j
 | [],d,i,j,_,_,h=>by simp only [ixm] at h;omega
 | x::r,d,0,0,_,_,_=>rfl
 | x::r,d,0,j+1,hn,hb,h=>by
  simp only [ixm] at h;have hx:=hb x (by simp);rcases ixm_or r d j with ⟨_,h2⟩ | ⟨_,h2⟩
  ·rw [<-h] at h2;exact((List.nodup_cons.1 hn).1 h2).elim
  ·omega
 | x::r,d,i+1,0,hn,hb,h=>by
  simp only [ixm] at h;have hx:=hb x (by simp);rcases ixm_or r d i with ⟨_,h2⟩ | ⟨_,h2⟩
  ·rw [h] at h2;exact((List.nodup_cons.1 hn).1 h2).elim
  ·omega
 | x::r,d,i+1,j+1,hn,hb,h=>by
  simp only [ixm] at h;rw [ixm_inj (List.nodup_cons.1 hn).2 (fun y hy=>hb y (Bh _ hy)) h]
def Ib (f:Nat->Nat):List Nat->List AB->List AB->List AB
 | [],R,H=>H ++ R.map (AB.ren f)
 | x::s,y::R,H=>Ib f s R (H.set x (y.ren f))
 | _::_, [],H=>H
theorem Mb (f:Nat->Nat):∀ {s:List Nat} {R H:List AB},s.length<=R.length->(Ib f s R H).length=H.length+(R.length - s.length)
 | [],R,H,_=>by simp [Ib]
 | x::s,y::R,H,h=>by simp only [Ib];rw [Mb f (by simpa using h)];simp
 | _::_, [],_,h=>by simp at h
theorem Ge (f:Nat->Nat):∀ {s:List Nat} {R H:List AB},s.length<=R.length->∀ {k:Nat} {y:AB},(Ib f s R H)[k]? = some y->
  (∃ j x,R[j]? = some x/\y=x.ren f/\k=ixm s H.length j)\/(k<H.length/\k ∉ s/\H[k]? = some y)
 | [],R,H,_,k,y,h=>by
  simp only [Ib] at h;by_cases hk:k<H.length
  ·rw [AH hk] at h;exact .inr ⟨hk,by simp,h⟩
  ·rw [AN (by omega),Bb] at h;cases hx:R[k - H.length]? with
   | none=>rw [hx] at h;simp at h
   | some x=>
    rw [hx] at h;simp at h;exact .inl ⟨k - H.length,x,hx,h.symm,by simp only [ixm];omega⟩
 | x::s,y0::R,H,hl,k,y,h=>by
  simp only [Ib] at h;rcases Ge f (by simpa using hl) h with ⟨j,z,h1,h2,h3⟩ | ⟨h1,h2,h3⟩
  ·exact .inl ⟨j+1,z,by simpa using h1,h2,by simpa [ixm] using h3⟩
  ·rw [AX] at h1;by_cases i:k=x
   ·subst i;rw [AA h1] at h3;cases h3;exact .inl ⟨0,y0,rfl,rfl,rfl⟩
   ·rw [A9 (Ne.symm i)] at h3;exact .inr ⟨h1,by simp only [Bd,not_or];exact⟨i,h2⟩,h3⟩
 | _::_, [],_,hl,_,_,_=>by simp at hl
def VL (f:Nat->Nat):List Nat->List AB->List AB->(List AB->Prop)->Prop
 | [],R,H,k=>appK H (R.map (AB.ren f)) 0 fun _ H=>k H
 | x::s,y::R,H,k=>setK x (y.ren f) H fun H=>VL f s R H k
 | _::_, [],_,_=>False
theorem P5 {f:Nat->Nat}:∀ {s:List Nat} {R H:List AB} {k:List AB->Prop},VL f s R H k->s.length<=R.length/\k (Ib f s R H)
 | [],R,H,k,h=>⟨Aj _,appK_iff (k:=fun _ H=>k H) h⟩
 | x::s,y::R,H,k,h=>by
  simp only [VL] at h;obtain⟨h1,h2⟩:=P5 (setK_iff h);exact⟨by simpa using h1,h2⟩
 | _::_, [],_,_,h=>h.elim
def cntK:List AB->Nat->(Nat->Prop)->Prop
 | [],n,k=>k n
 | _::r,n,k=>cntK r (n+1) k
theorem cntK_iff:∀ {H:List AB} {n:Nat} {k:Nat->Prop},cntK H n k->k (n+H.length)
 | [],_,_,h=>h
 | _::r,n,k,h=>by
  have:=cntK_iff (H:=r) h;rw [Ao,show n+(r.length+1)=n+1+r.length by omega];exact this
def SelOk (H:List AB) (f:Nat->Nat):List AB->Nat->Prop
 | [],_=>True
 | x::r,i=>hget H (f i)=some (x.ren f)/\SelOk H f r (i+1)
theorem SelOk.get {H:List AB} {f:Nat->Nat}:∀ {R:List AB} {i j:Nat} {x:AB},SelOk H f R i->R[j]? = some x->H[f (i+j)]? = some (x.ren f)
 | [],_,_,_,_,h=>by simp at h
 | y::r,i,0,x,h,hx=>by
  simp at hx;subst hx;have:=h.1;rwa [hget_eq] at this
 | y::r,i,j+1,x,h,hx=>by
  have:=SelOk.get (j:=j) h.2 (by simpa using hx);rwa [show i+1+j=i+(j+1) by omega] at this

open Classical in
noncomputable def Ctx.after (c c':Ctx) (f:Nat->Nat) (n:Nat):Ctx:=
  { w:=c'.w,base:=c.base,M:=c'.M,dom:=n,
    rho:=fun k=>if h:∃ i,i<c'.dom/\f i=k then c'.rho h.choose else c.rho k,
    len:=fun k=>if h:∃ i,i<c'.dom/\f i=k then c'.len h.choose else c.len k }
def noO:List AB->Bool
 | []=>true
 | .rowo _ _ _ _::_=>false
 | _::r=>noO r
theorem noO_get:∀ {H:List AB},noO H=true->∀ {k:Nat} {t:TypeId} {sz:Nat} {es:List (List AV)} {m:Nat},H[k]? = some (.rowo t sz es m)->False
 | [],_,k,_,_,_,_,h=>by simp at h
 | x::r,h,k,t,sz,es,m,hk=>by
  cases k with
  | zero=>simp at hk;subst hk;simp [noO] at h
  | succ k=>
   simp at hk;refine noO_get (H:=r) ?_ hk;cases x <;> simp only [noO] at h <;> first | exact h | cases h
theorem ACalls.frame {P:Program} {q:Bool} {f:FuncId} {args:List AV} {H:List AB} {k:AV->List AB->Prop} (s:List Nat) {args':List AV} {Hin:List AB} {K:AV->List AB->Prop} (h:ACalls P q f args' Hin K)
  (ha:args=AV.renL (ixm s H.length) args') (ke:AV.ltL args' Hin.length=true) (kg:Oz Hin.length Hin=true) (hs:s.length=Hin.length) (hn:s.Nodup) (hb:∀ x∈s,x<H.length) (ka:SelOk H (ixm s H.length) Hin 0)
  (hk:∀ r R,K r R->cntK H 0 fun d=>VL (ixm s d) s R H fun H=>D4 (r.ren (ixm s d)) fun r=>k r H) (kd:noO Hin=true:=by rfl):ACalls P q f args H k:=by
 refine⟨h.go,fun w0 M0 c us hs0 hr=>?_⟩;let g:=ixm s H.length;have hd:∀ {i j:Nat},g i=g j->i=j:=fun e=>ixm_inj hn hb e
 have G:∀ {i:Nat} {x:AB},Hin[i]? = some x->H[g i]? = some (x.ren g):=fun hx=>by have:=ka.get hx;rwa [A0] at this
 have hp:∀ {i:Nat},i<Hin.length->g i∈s:=fun hi=>by
  rcases ixm_or s H.length _ with ⟨_,h2⟩ | ⟨h1,_⟩
  ·exact h2
  ·omega
 have hv:∀ {i:Nat},g i<H.length->i<Hin.length:=fun {i} hi=>by
  rcases ixm_or s H.length i with ⟨h1,_⟩ | ⟨h1,h2⟩
  ·omega
  ·simp only [g] at hi;omega
 let cl:Ctx:={ w:=c.w,base:=c.base,M:=c.M,dom:=Hin.length,rho:=fun i=>c.rho (g i),len:=fun i=>c.len (g i) };let w1:Fl:=⟨c.w,fun b=>b<c.w.heap.size/\∀ i x,Hin[i]? = some x->x.live=true->oB (c.rho (g i))≠some b,fun _ h=>h.1,fun w' h1 h2=>w0.gl w' (Bo hs0.low.size h1) fun b hb'=>(h2 b ⟨Au (w0.lt b hb') hs0.low.size,fun i x hx hl ho=>(hs0.own _ _ _ (G hx) (by rw [zt];exact hl) ho).2 hb'⟩).trans (hs0.low.block b hb'),True⟩;have hq:Ext c.closed cl.closed:=⟨rfl,rfl,rfl,Ah _,fun _ _ h=>⟨h,rfl⟩,Aj _,fun k hk=>absurd hk (Ap k),fun k hk=>absurd hk (Ap k),fun k _ hk=>absurd hk (Ap k)⟩;have hw:∀ k,k<cl.dom->cl.rho k=c.rho (g k)/\cl.len k=c.len (g k):=fun _ _=>tA
 have Z:∀ {i:Nat} {x:AB} {b:Nat},Hin[i]? = some x->x.live=true->oB (c.rho (g i))=some b->c.M b/\¬w0.old b:=fun hx hl ho=>hs0.own _ _ _ (G hx) (by rw [zt];exact hl) ho
 have kj:HS w1 c.M cl Hin:=by
  refine⟨⟨rfl,rfl,rfl,Ah _,fun _ _=>rfl⟩,hs0.base,rfl,fun _ _=>Iff.rfl,hs0.lt,fun i x hx=>?_,fun i x b hx hl ho=>⟨(Z hx hl ho).1,fun L=>L.2 i x hx hl ho⟩,fun i j x y b hi hj hx hy ho U=>?_⟩
  ·have I:=hs0.blk _ _ (G hx);cases x with
   | dead=>trivial
   | box t cs=>
    obtain⟨b,xs,h1,h2,h3,h4⟩:=I;exact⟨b,xs,h1,h2,RdL.unren hw hq cs (Iz kg i t cs hx) h3,h4⟩
   | iter s pos=>
    obtain⟨b,h1,h2⟩:=I;exact⟨b,h1,h2⟩
   | row t sz es=>
    obtain⟨h1,h2,h3,xs,h4,h5,h6⟩:=I;exact⟨h1,h2,h3,xs,h4,RdL.ext _ hq h5,h6⟩
   | rowo t sz es m=>
    obtain⟨h1,h2,h3,hh,xs,h4,h5,h6⟩:=I;exact(noO_get kd hx).elim
  ·exact hd (hs0.dis _ _ _ _ b (G hi) (G hj) (by rw [zt];exact hx) (by rw [zt];exact hy) ho U)
 refine(h.calls w1 c.M cl us kj (RdL.unren hw hq args' ke (by rw [<-ha];exact hr))).mono ?_;rintro e w' ⟨v,c',r,R,rfl,rfl,q1,q2,q3,q4,q5⟩;have h1:=cntK_iff (hk r R q1);rw [A0] at h1;obtain⟨N,h1⟩:=P5 h1;have h1:=BV h1;have kb:c'.dom=R.length:=q2.dom;have kl:Hin.length<=R.length:=by omega
 let n:=H.length+(R.length - s.length);have kh:∀ {i:Nat},i<R.length->g i<n:=fun {i} hi=>by
  rcases ixm_or s H.length i with ⟨_,h2⟩ | ⟨h2,h3⟩
  ·have:=hb _ h2;simp only [g,n];omega
  ·simp only [g,n,h3];omega
 let cj:=c.after c' g n;have C:∀ {i:Nat},i<c'.dom->cj.rho (g i)=c'.rho i/\cj.len (g i)=c'.len i:=fun {i} hi=>by
  have V:∃ j,j<c'.dom/\g j=g i:=⟨i,hi,rfl⟩;have:=hd V.choose_spec.2;simp only [cj,Ctx.after];rw [dif_pos V,dif_pos V,this];exact tA
 have u:∀ {k:Nat},k<H.length->k ∉ s->cj.rho k=c.rho k/\cj.len k=c.len k:=fun {k} hk F=>by
  have V:¬∃ j,j<c'.dom/\g j=k:=by
   rintro⟨j,_,rfl⟩;exact F (hp (hv hk))
  simp only [cj,Ctx.after];rw [dif_neg V,dif_neg V];exact tA
 have hc:∀ {k:Nat},k∈s->∃ i,i<Hin.length/\g i=k:=by
  have:∀ (s:List Nat) (d k:Nat),k∈s->∃ i,i<s.length/\ixm s d i=k:=by
   intro s d k hk;induction s with
   | nil=>simp at hk
   | cons x r ih=>
    rcases Bd.1 hk with rfl | hk
    ·exact⟨0,by simp,rfl⟩
    ·obtain⟨i,h1,h2⟩:=ih hk;exact⟨i+1,by simp;omega,h2⟩
  intro k hk;obtain⟨i,h1,h2⟩:=this s H.length k hk;exact⟨i,by omega,h2⟩
 have L:∀ {b:Nat},w0.old b->w1.old b:=fun {b} hb'=>⟨Au (w0.lt b hb') hs0.low.size,fun i x hx hl ho=>(Z hx hl ho).2 hb'⟩
 have hu:∀ {b:Nat},b<c.w.heap.size->¬c.M b->w1.old b:=fun {b} hb' hm=>⟨hb',fun i x hx hl ho=>hm (Z hx hl ho).1⟩
 have J:∀ {k:Nat} {y:AB} {b:Nat},k ∉ s->H[k]? = some y->y.live=true->oB (c.rho k)=some b->w1.old b:=fun {k y b} F hy hl ho=>
  ⟨hs0.sub hy hl ho,fun i x hx hl' U=>by
   have:=hs0.dis k (g i) y _ b hy (G hx) hl (by rw [zt];exact hl') ho U;exact F (this ▸ hp (At.1 hx).1)⟩
 have hf:Ext c'.closed cj.closed:=⟨rfl,rfl,rfl,Ah _,fun _ _ h=>⟨h,rfl⟩,Aj _,fun k hk=>absurd hk (Ap k),fun k hk=>absurd hk (Ap k),fun k _ hk=>absurd hk (Ap k)⟩;have X:∀ k,k<c'.dom->g k<cj.dom/\cj.rho (g k)=c'.rho k/\cj.len (g k)=c'.len k:=fun k hk=>⟨kh (by omega),C hk⟩
 have hE:Ext c cj:=by
  refine⟨q2.low.os,q2.low.tape,q2.low.output,q2.low.size,fun b hb' hm=>?_,?_,fun k hk=>?_,fun k hk hl=>?_,fun k b hk hg=>?_⟩
  ·have ho:=hu hb' hm;exact⟨fun hm'=>hm ((q2.foreign b ho).1 hm'),q2.low.block b ho⟩
  ·show c.dom<=n;rw [hs0.dom];exact Nat.le_add_right _ _
  ·rw [hs0.dom] at hk;by_cases F:k∈s
   ·obtain⟨i,hi,rfl⟩:=hc F;rw [(C (by omega:i<c'.dom)).2];exact q3.len i hi
   ·rw [(u hk F).2];exact Ah _
  ·rw [hs0.dom] at hk;by_cases F:k∈s
   ·obtain⟨i,hi,rfl⟩:=hc F;rw [(C (by omega:i<c'.dom)).2] at hl;rw [(C (by omega:i<c'.dom)).1];exact q3.rho i hi hl
   ·exact(u hk F).1
  ·rw [hs0.dom] at hk;by_cases F:k∈s
   ·obtain⟨i,hi,rfl⟩:=hc F;rw [(C (by omega:i<c'.dom)).1];exact q3.box i b hi hg
   ·rw [(u hk F).1];exact hg
 refine⟨v,cj,r.ren g,_,rfl,rfl,h1,?_,hE,Rd.ren X hf r q4,q5⟩;have W:∀ {j:Nat} {x:AB},R[j]? = some x->j<c'.dom:=fun hx=>by rw [kb];exact(At.1 hx).1
 refine⟨⟨q2.low.os.trans hs0.low.os,q2.low.tape.trans hs0.low.tape,q2.low.output.trans hs0.low.output,Bo hs0.low.size q2.low.size,fun b hb'=>(q2.low.block b (L hb')).trans (hs0.low.block b hb')⟩,hs0.base,(Mb _ N).symm,fun b hb'=>(q2.foreign b (L hb')).trans (hs0.foreign b hb'),q2.lt,fun k y hy=>?_,fun k y b hy hl ho=>?_,fun i k y z b hi hk' hy hz hoi hok=>?_⟩
 ·rcases Ge _ N hy with ⟨j,x,h2,rfl,rfl⟩ | ⟨h2,h3,h4⟩
  ·have I:=q2.blk j x h2;have hj:=C (W h2);cases x with
   | dead=>trivial
   | box t cs=>
    obtain⟨b,xs,h5,h6,h7,h8⟩:=I;exact⟨b,xs,hj.1.trans h5,h6,RdL.ren X hf cs h7,h8⟩
   | iter s pos=>
    obtain⟨b,h5,h6⟩:=I;exact⟨b,hj.1.trans h5,h6⟩
   | row t sz es=>
    obtain⟨h5,h6,h7,xs,h8,h9,ht⟩:=I;refine⟨hj.2.trans h5,h6,h7,xs,?_,RdL.ext _ hf h9,ht⟩;have eb:cj.base=c'.base:=hs0.base.trans q2.base.symm;show c'.w.ownsRow cj.base t sz (cj.rho (g j)) es.length xs;rw [hj.1,eb];exact h8
   | rowo t sz es m=>
    obtain⟨h5,h6,h7,kk,xs,h8,h9,ht⟩:=I;refine⟨by rw [Ab];exact hj.2.trans h5,h6,fun e he=>?_,?_,xs,?_,?_,ht⟩
    ·obtain⟨e0,ki,rfl⟩:=AQ.1 he;rw [AV.renL_len];exact h7 e0 ki
    ·rw [zl];exact AV.renL_lt _ kk
    ·have eb:cj.base=c'.base:=hs0.base.trans q2.base.symm;show c'.w.ownsRow cj.base t sz (cj.rho (g j)) (es.map (AV.renL g)).length xs;rw [hj.1,eb,Ab];exact h8
    ·rw [zl];exact RdL.ren X hf _ h9
  ·have kf:k<c.dom:=by rw [hs0.dom];exact h2
   exact zp hE rfl kf (u h2 h3).2 (fun b hl ho=>q2.low.block b (J h3 h4 hl ho)) (hs0.blk k y h4)
 ·rcases Ge _ N hy with ⟨j,x,h2,rfl,rfl⟩ | ⟨h2,h3,h4⟩
  ·have U:oB (cj.rho (g j))=some b:=ho;rw [(C (W h2)).1] at U;have:=q2.own j x b h2 (by rw [zt] at hl;exact hl) U;exact⟨this.1,fun hb'=>this.2 (L hb')⟩
  ·rw [(u h2 h3).1] at ho;have kc:=J h3 h4 hl ho;have:=hs0.own k y b h4 hl ho;exact⟨(q2.foreign b kc).2 this.1,this.2⟩
 ·rcases Ge _ N hi with ⟨j,x,h2,rfl,rfl⟩ | ⟨h2,h3,h4⟩ <;> rcases Ge _ N hk' with ⟨j',x',O,rfl,rfl⟩ | ⟨O,hh,h0⟩
  ·have e1:oB (cj.rho (g j))=some b:=hoi;have e2:oB (cj.rho (g j'))=some b:=hok;rw [(C (W h2)).1] at e1;rw [(C (W O)).1] at e2;rw [zt] at hy hz;rw [q2.dis j j' x x' b h2 O hy hz e1 e2]
  ·have e1:oB (cj.rho (g j))=some b:=hoi;rw [(C (W h2)).1] at e1;rw [(u O hh).1] at hok;rw [zt] at hy;exact((q2.own j x b h2 hy e1).2 (J hh h0 hz hok)).elim
  ·have e2:oB (cj.rho (g j'))=some b:=hok;rw [(C (W O)).1] at e2;rw [(u h2 h3).1] at hoi;rw [zt] at hz;exact((q2.own j' x' b O hz e2).2 (J h3 h4 hy hoi)).elim
  ·rw [(u h2 h3).1] at hoi;rw [(u O hh).1] at hok;exact hs0.dis i k y z b h4 h0 hy hz hoi hok

def z_:=@ACalls.frame
theorem ze9 {P:Program} {q:Bool} {f:FuncId} {args:List AV} {H:List AB} {k:AV->List AB->Prop} (s:List Nat) {args':List AV} {Hin:List AB} {K:AV->List AB->Prop} (h:ACalls P q f args' Hin K) (hk:∀ r R,K r R->cntK H 0 fun d=>VL (ixm s d) s R H fun H=>D4 (r.ren (ixm s d)) fun r=>k r H) (ha:args=AV.renL (ixm s H.length) args':=by rfl) (u:AV.ltL args' Hin.length=true:=by rfl) (z:Oz Hin.length Hin=true:=by rfl) (hs:s.length=Hin.length:=by rfl) (hn:s.Nodup:=by decide) (hb:(s.all fun x=>Nat.ble (x+1) H.length)=true:=by rfl) (i:SelOk H (ixm s H.length) Hin 0:=by exact tA) (j:noO Hin=true:=by rfl):ACalls P q f args H k:=ACalls.frame s h ha u z hs hn (fun x hx=>Nat.le_of_ble_eq_true (List.all_eq_true.1 hb x hx)) i hk j
def Si (x:AV) (H:List AB) (k:AV->List AB->Prop):Prop:=
 match x with
 | .tp l=>sealA l H fun l H=>k (.tp l) H
 | x=>seal1 x H k
def aP (T:Tys) (m:Nat) (rs:List ResultVar) (K:AV->List AB->Prop):QA:=fun ex fr H=>match ex with
 | .exit _=>False
 | _=>I9 T rs fr H fun x=>Si x H fun x H=>∃ r H2,(∀ c v,Rd x c v->Rd r c v)/\wkH H2 H/\Oz H2.length H2=true/\Nat.ble m H2.length=true/\K r H2
theorem Po {w0:Fl} {M0:Ms} {c:Ctx} {H:List AB} {x:AV} {u:Value} {k:AV->List AB->Prop} (hs:HS w0 M0 c H) (hr:Rd x c u) (h:Si x H k) :
  ∃ r H' c',k r H'/\c'.w=c.w/\HS w0 M0 c' H'/\Ext c c'/\Rd r c'.closed u:=by
 unfold Si at h;split at h
 ·simp only [Rd] at hr;obtain⟨xs,rfl,hx⟩:=hr;obtain⟨l',H',c',q1,q2,q3,q4,q5,q6⟩:=sealA_sound hs hx h;exact⟨_,H',c',q1,q2,q3,q4,by simp only [Rd];exact⟨xs,rfl,q5⟩⟩
 ·obtain⟨r,H',c',q1,q2,q3,q4,q5,_⟩:=HN hs hr h;exact⟨r,H',c',q1,q2,q3,q4,q5⟩
theorem ACalls.of {P : Program} {T : Tys} (hT : TOk P T) {f : FuncId} {fn : Func} {body : Code} {args : List AV} {Hin : List AB} {K : AV → List AB → Prop} (hf : P.funcs[f]? = some fn) (hb : fn.body = some body) (C : (fn.name == "runtime.NumGoroutine") = false) (hn : args.length ≤ fn.ntmps)
  (h:C2 P T fn.ntmps Hin.length body (aP T Hin.length fn.results.toList K) (frOf 0 args) Hin):ACalls P false f args Hin K:=by
 refine⟨⟨fn,hf,by rw [hb];try rfl,C⟩,fun w0 M0 c0 us hs0 hr=>?_⟩;have J:=hr.length;have I:FR (w0.at c0.w hs0.low) c0 fn.ntmps (frOf 0 args) { tmps:=us.toArray ++ Array.replicate (fn.ntmps - us.toArray.size) undef,defers:= [] }:=by
  refine⟨by simp;omega,tv,fun i=>?_⟩;have:=Hp (c:=c0) (m:=fn.ntmps - us.length) (l:=args) (i:=0) (pre:= []) rfl hr i;rw [AJ];have e:(us.toArray ++ Array.replicate (fn.ntmps - us.toArray.size) undef)[i]? = ([] ++ us ++ List.replicate (fn.ntmps - us.length) undef)[i]? :=by
   have:(us.toArray ++ Array.replicate (fn.ntmps - us.toArray.size) undef)=([] ++ us ++ List.replicate (fn.ntmps - us.length) undef).toArray:=Array.ext' (by simp);rw [this];simp only [Cy]
  rw [e];exact this
 have fin:∀ a w,Em (w0.at c0.w hs0.low) M0 c0 fn.ntmps (fun fr H=>I9 T fn.results.toList fr H fun x=>Si x H fun x H=>∃ r H2,(∀ c v,Rd x c v->Rd r c v)/\wkH H2 H/\Oz H2.length H2=true/\Nat.ble Hin.length H2.length=true/\K r H2) a w->∃ v,(results fn a.tmps).run P w = .ok v w/\∃ v' c' r H',Ending.returned v = .returned v'/\c'.w=w/\K r H'/\HS w0 M0 c' H'/\Ext c0 c'/\Rd r c' v'/\(false=true->Old c0.w w):=by
  rintro a w ⟨c,fr,H,rfl,h1,h2,h3,h4⟩;obtain⟨x,v,q1,q2,q3⟩:=EH hT h2 h3 h1;obtain⟨x',H',c1,⟨r,H2,o1,o2,o3,o4,o5⟩,p2,p3,p4,p5⟩:=Po h2 q2 q1;have u:Cut c1 { c1 with dom:=H2.length }:=⟨⟨rfl,rfl,rfl,Ah _,fun _ _ h=>⟨h,rfl⟩,Ah _,fun k hk=>absurd hk (Ap k),fun k hk=>absurd hk (Ap k),fun k _ hk=>absurd hk (Ap k)⟩,fun _ _=>tA⟩;have G:=Ae o4;have he:=h4.trans p4;refine⟨v,q3,v,{ c1 with dom:=H2.length },r,H2,rfl,p2,o5,⟨zh p3.low,p3.base,rfl,p3.foreign,p3.lt,fun k y hk=>?_,fun k y g hk hl ho=>p3.own k y g (wkH_get o2 k y hk hl) hl ho,fun j k y z g hj hk hy hz ho ho'=>p3.dis j k y z g (wkH_get o2 j y hj hy) (wkH_get o2 k z hk hz) hy hz ho ho'⟩,⟨he.os,he.tape,he.output,he.size,he.keep,by show c0.dom<=H2.length;rw [hs0.dom];exact G,he.len,he.rho,he.box⟩,o1 _ _ (Rd.ext (c:=c1.closed) (c':={ c1 with dom:=H2.length }) _ ⟨rfl,rfl,rfl,Ah _,fun _ _ h=>⟨h,rfl⟩,Aj _,fun k hk=>absurd hk (Ap k),fun k hk=>absurd hk (Ap k),fun k _ hk=>absurd hk (Ap k)⟩ p5),fun e=>by cases e⟩;cases y with
  | dead=>trivial
  | box t cs=>
   obtain⟨g,xs,h1,h2,h3,h4⟩:=p3.blk k _ (wkH_get o2 k _ hk rfl);exact⟨g,xs,h1,h2,RdL.cut cs u (Iz o3 k t cs hk) h3,h4⟩
  | iter s pos=>
   obtain⟨g,h1,h2⟩:=p3.blk k _ (wkH_get o2 k _ hk rfl);exact⟨g,h1,h2⟩
  | row t sz es=>
   obtain⟨h1,h2,h3,xs,h4,h5,h6⟩:=p3.blk k _ (wkH_get o2 k _ hk rfl);exact⟨h1,h2,h3,xs,h4,h5,h6⟩
  | rowo t sz es m=>
   obtain⟨h1,h2,h3,F,xs,h4,h5,h6⟩:=p3.blk k _ (wkH_get o2 k _ hk rfl);exact⟨h1,h2,h3,F,xs,h4,RdL.cut _ u (H_ o3 hk F) h5,h6⟩
 refine Ev hf hb trivial (Ah _) fin ?_;refine BE (w0:=w0.at c0.w hs0.low) (M0:=M0) (ce:=c0) hT hs0.dom body _ _ c0 _ Hin _ (Fy rfl rfl fun _ _ _ h=>h) hs0.toAt I (zJ _) h
def ay (T:Tys) (m:Nat) (rs:List ResultVar) (K:AV->List AB->Prop):QA:=fun ex fr H=>match ex with
 | .exit _=>False
 | _=>I9 T rs fr H fun x=>∃ r H2,(∀ c v,Rd x c v->Rd r c v)/\wkH H2 H/\Oz H2.length H2=true/\(Nat.ble m H2.length=true/\r.lt H2.length=true)/\K r H2
theorem ACalls.ofO {P : Program} {T : Tys} (hT : TOk P T) {f : FuncId} {fn : Func} {body : Code} {args : List AV} {Hin : List AB} {K : AV → List AB → Prop} (hf : P.funcs[f]? = some fn) (hb : fn.body = some body) (F : (fn.name == "runtime.NumGoroutine") = false) (hn : args.length ≤ fn.ntmps)
  (h:C2 P T fn.ntmps Hin.length body (ay T Hin.length fn.results.toList K) (frOf 0 args) Hin):ACalls P false f args Hin K:=by
 refine⟨⟨fn,hf,by rw [hb];try rfl,F⟩,fun w0 M0 c0 us u hr=>?_⟩;have N:=hr.length;have L:FR (w0.at c0.w u.low) c0 fn.ntmps (frOf 0 args) { tmps:=us.toArray ++ Array.replicate (fn.ntmps - us.toArray.size) undef,defers:= [] }:=by
  refine⟨by simp;omega,tv,fun i=>?_⟩;have:=Hp (c:=c0) (m:=fn.ntmps - us.length) (l:=args) (i:=0) (pre:= []) rfl hr i;rw [AJ];have e:(us.toArray ++ Array.replicate (fn.ntmps - us.toArray.size) undef)[i]? = ([] ++ us ++ List.replicate (fn.ntmps - us.length) undef)[i]? :=by
   have:(us.toArray ++ Array.replicate (fn.ntmps - us.toArray.size) undef)=([] ++ us ++ List.replicate (fn.ntmps - us.length) undef).toArray:=Array.ext' (by simp);rw [this];simp only [Cy]
  rw [e];exact this
 have fin:∀ a w,Em (w0.at c0.w u.low) M0 c0 fn.ntmps (fun fr H=>I9 T fn.results.toList fr H fun x=>∃ r H2,(∀ c v,Rd x c v->Rd r c v)/\wkH H2 H/\Oz H2.length H2=true/\(Nat.ble Hin.length H2.length=true/\r.lt H2.length=true)/\K r H2) a w->∃ v,(results fn a.tmps).run P w = .ok v w/\∃ v' c' r H',Ending.returned v = .returned v'/\c'.w=w/\K r H'/\HS w0 M0 c' H'/\Ext c0 c'/\Rd r c' v'/\(false=true->Old c0.w w):=by
  rintro a w ⟨c,fr,H,rfl,h1,h2,h3,h4⟩;obtain⟨x,v,⟨r,H2,o1,o2,o3,⟨o4,o6⟩,o5⟩,q2,q3⟩:=EH hT h2 h3 h1;obtain⟨c1,p3,J⟩:∃ c1:Ctx,HS (w0.at c0.w u.low) M0 c1 H/\c1=c:=⟨c,h2,rfl⟩;subst J;have C:Cut c1 { c1 with dom:=H2.length }:=⟨⟨rfl,rfl,rfl,Ah _,fun _ _ h=>⟨h,rfl⟩,Ah _,fun k hk=>absurd hk (Ap k),fun k hk=>absurd hk (Ap k),fun k _ hk=>absurd hk (Ap k)⟩,fun _ _=>tA⟩;have I:=Ae o4;have he:=h4;refine⟨v,q3,v,{ c1 with dom:=H2.length },r,H2,rfl,rfl,o5,⟨zh p3.low,p3.base,rfl,p3.foreign,p3.lt,fun k y hk=>?_,fun k y g hk hl ho=>p3.own k y g (wkH_get o2 k y hk hl) hl ho,fun j k y z g hj hk hy hz ho ho'=>p3.dis j k y z g (wkH_get o2 j y hj hy) (wkH_get o2 k z hk hz) hy hz ho ho'⟩,⟨he.os,he.tape,he.output,he.size,he.keep,by show c0.dom<=H2.length;rw [u.dom];exact I,he.len,he.rho,he.box⟩,Rd.cut r C o6 (o1 _ _ q2),fun e=>by cases e⟩;cases y with
  | dead=>trivial
  | box t cs=>
   obtain⟨g,xs,h1,h2,h3,h4⟩:=p3.blk k _ (wkH_get o2 k _ hk rfl);exact⟨g,xs,h1,h2,RdL.cut cs C (Iz o3 k t cs hk) h3,h4⟩
  | iter s pos=>
   obtain⟨g,h1,h2⟩:=p3.blk k _ (wkH_get o2 k _ hk rfl);exact⟨g,h1,h2⟩
  | row t sz es=>
   obtain⟨h1,h2,h3,xs,h4,h5,h6⟩:=p3.blk k _ (wkH_get o2 k _ hk rfl);exact⟨h1,h2,h3,xs,h4,h5,h6⟩
  | rowo t sz es m=>
   obtain⟨h1,h2,h3,G,xs,h4,h5,h6⟩:=p3.blk k _ (wkH_get o2 k _ hk rfl);exact⟨h1,h2,h3,G,xs,h4,RdL.cut _ C (H_ o3 hk G) h5,h6⟩
 refine Ev hf hb trivial (Ah _) fin ?_;refine BE (w0:=w0.at c0.w u.low) (M0:=M0) (ce:=c0) hT u.dom body _ _ c0 _ Hin _ (Fy rfl rfl fun _ _ _ h=>h) u.toAt L (zJ _) h
def zg:=@ACalls.ofO
def aw (T:Tys) (m:Nat) (rs:List ResultVar) (K:AV->List AB->Prop):QA:=fun ex fr H=>match ex with
 | .exit _=>False
 | _=>I9 T rs fr H fun x=>∃ y r H2,(∀ c v,Rd x c v->Rd y c v)/\Wk m [(0,y)] H [(0,r)] H2/\K r H2
theorem ACalls.ofW {P : Program} {T : Tys} (hT : TOk P T) {f : FuncId} {fn : Func} {body : Code} {args : List AV} {Hin : List AB} {K : AV → List AB → Prop} (hf : P.funcs[f]? = some fn) (hb : fn.body = some body) (j : (fn.name == "runtime.NumGoroutine") = false) (hn : args.length ≤ fn.ntmps)
  (h:C2 P T fn.ntmps Hin.length body (aw T Hin.length fn.results.toList K) (frOf 0 args) Hin):ACalls P false f args Hin K:=by
 refine⟨⟨fn,hf,by rw [hb];try rfl,j⟩,fun w0 M0 c0 us hs0 hr=>?_⟩;have F:=hr.length;have C:FR (w0.at c0.w hs0.low) c0 fn.ntmps (frOf 0 args) { tmps:=us.toArray ++ Array.replicate (fn.ntmps - us.toArray.size) undef,defers:= [] }:=by
  refine⟨by simp;omega,tv,fun i=>?_⟩;have:=Hp (c:=c0) (m:=fn.ntmps - us.length) (l:=args) (i:=0) (pre:= []) rfl hr i;rw [AJ];have e:(us.toArray ++ Array.replicate (fn.ntmps - us.toArray.size) undef)[i]? = ([] ++ us ++ List.replicate (fn.ntmps - us.length) undef)[i]? :=by
   have:(us.toArray ++ Array.replicate (fn.ntmps - us.toArray.size) undef)=([] ++ us ++ List.replicate (fn.ntmps - us.length) undef).toArray:=Array.ext' (by simp);rw [this];simp only [Cy]
  rw [e];exact this
 have fin:∀ a w,Em (w0.at c0.w hs0.low) M0 c0 fn.ntmps (fun fr H=>I9 T fn.results.toList fr H fun x=>∃ y r H2,(∀ c v,Rd x c v->Rd y c v)/\Wk Hin.length [(0,y)] H [(0,r)] H2/\K r H2) a w->∃ v,(results fn a.tmps).run P w = .ok v w/\∃ v' c' r H',Ending.returned v = .returned v'/\c'.w=w/\K r H'/\HS w0 M0 c' H'/\Ext c0 c'/\Rd r c' v'/\(false=true->Old c0.w w):=by
  rintro a w ⟨c,fr,H,rfl,h1,h2,h3,h4⟩;obtain⟨x,v,⟨y,r,H2,o1,o2,o3⟩,q2,q3⟩:=EH hT h2 h3 h1;have z:FR (w0.at c0.w hs0.low) c 1 [(0,y)] { tmps:= #[v],defers:= [] }:=by
   refine⟨rfl,tv,fun i=>?_⟩;unfold fget;cases i with
   | zero=>exact o1 _ _ q2
   | succ i=>show Rd .top c _;simp [Rd]
  obtain⟨c',e1,e2,e3,e4⟩:=o2.sound hs0.dom h2 z h4;have u:=e3.get 0;refine⟨v,q3,v,c',r,H2,rfl,e1,o3,⟨zh e2.low,e2.base,e2.dom,e2.foreign,e2.lt,e2.blk,e2.own,e2.dis⟩,e4,?_,fun e=>by cases e⟩;simpa [fget] using u
 refine Ev hf hb trivial (Ah _) fin ?_;refine BE (w0:=w0.at c0.w hs0.low) (M0:=M0) (ce:=c0) hT hs0.dom body _ _ c0 _ Hin _ (Fy rfl rfl fun _ _ _ h=>h) hs0.toAt C (zJ _) h
theorem aLoop.ruleC {d0:Nat} {body:QA->Fr->List AB->Prop} {Q:QA} {fr:Fr} {H:List AB} (ι:Type) (st:ι->Fr × List AB) (I:ι->Prop) (μ:ι->Nat) (x0:ι) (h0:I x0) (hw:WkC d0 fr H (st x0).1 (st x0).2)
  (round:∀ x,I x->body (fun ex fr' H'=>match ex with | .normal=>∃ x',I x'/\μ x'<μ x/\WkC d0 fr' H' (st x').1 (st x').2 | e=>Q e fr' H') (st x).1 (st x).2):aLoop d0 body Q fr H:=
 ⟨.inr (.inr (.inl ⟨ι,st,I,μ,⟨x0,h0,hw⟩,round⟩))⟩
def zm:=@aLoop.ruleC
theorem aLoop.ruleR {d0:Nat} {body:QA->Fr->List AB->Prop} {Q:QA} {fr:Fr} {H:List AB} (ι:Type) (st:ι->Fr × List AB) (I:ι->Prop) (μ:ι->Nat) (x0:ι) (h0:I x0) (hw:WkC d0 fr H (st x0).1 (st x0).2)
  (round:∀ x,I x->body (fun ex fr' H'=>match ex with | .normal=>∃ x',I x'/\μ x'<μ x/\WkR d0 fr' H' (st x').1 (st x').2 | e=>Q e fr' H') (st x).1 (st x).2):aLoop d0 body Q fr H:=
 ⟨.inr (.inr (.inr ⟨ι,st,I,μ,⟨x0,h0, .inl hw⟩,round⟩))⟩
def zj:=@aLoop.ruleR
theorem aLoop.ruleRR {d0:Nat} {body:QA->Fr->List AB->Prop} {Q:QA} {fr:Fr} {H:List AB} (ι:Type) (st:ι->Fr × List AB) (I:ι->Prop) (μ:ι->Nat) (x0:ι) (h0:I x0) (hw:WkR d0 fr H (st x0).1 (st x0).2)
  (round:∀ x,I x->body (fun ex fr' H'=>match ex with | .normal=>∃ x',I x'/\μ x'<μ x/\WkR d0 fr' H' (st x').1 (st x').2 | e=>Q e fr' H') (st x).1 (st x).2):aLoop d0 body Q fr H:=
 ⟨.inr (.inr (.inr ⟨ι,st,I,μ,⟨x0,h0, .inr hw⟩,round⟩))⟩

def zU:=@aLoop.ruleRR
theorem ConvH.rowo {H:List AB} {k:Nat} {t:TypeId} {sz:Nat} {es:List (List AV)} (hk:H[k]? = some (.row t sz es)):ConvH H (H.set k (.rowo t sz es 0)):=fun _ _ c hs=>
 ⟨c,rfl,hs.recell hk rfl fun⟨h1,h2,h3,xs,h4,h5,h6⟩=>⟨h1,h2,h3,RdL.lt_dom _ h5,xs,h4,RdL.ext _ (zz c) h5,h6⟩,zJ c⟩
theorem ConvH.row {H:List AB} {k:Nat} {t:TypeId} {sz m:Nat} {es:List (List AV)} (hk:H[k]? = some (.rowo t sz es m)) (hl:AV.ltL es.flatten 0=true):ConvH H (H.set k (.row t sz es)):=fun _ _ c hs=>
 ⟨c,rfl,hs.recell hk rfl fun⟨h1,h2,h3,_,xs,h4,h5,h6⟩=>⟨h1,h2,h3,xs,h4,RdL.cut (c:=c) (c':=c.closed) _ ⟨zJ c.closed,fun k hk=>absurd hk (Ap k)⟩ hl h5,h6⟩,zJ c⟩
def AV.slIn (k n:Nat) (s:AV) (x:AV):AV:=match x with
 | .ow j m=>if j=k then (if m=n then s else .top) else .ow j m
 | x=>x
theorem X4 {k n:Nat} {y:AV} (hs:y.lt 0=true) {m:Nat} {x:AV} (h:x.lt m=true):(AV.slIn k n y x).lt m=true:=by
 unfold AV.slIn;split
 ·split
  ·split
   ·exact AV.lt_mono y (Aj _) hs
   ·rfl
  ·exact h
 ·exact h
theorem ConvH.sealIn {H:List AB} (j k:Nat) {t t':TypeId} {sz sz' m:Nat} {es es' es2:List (List AV)} (hj:H[j]? = some (.rowo t sz es m)) (hk:H[k]? = some (.row t' sz' es'))
  (he:es.map (List.map (AV.slIn k es'.length (.sl sz' es'.length fun i=>es'.getD i [])))=es2):ConvH H ((H.set k .dead).set j (.rowo t sz es2 m)):=by
 intro w0 M0 c hs;subst he;have C:j≠k:=by rintro rfl;rw [hj] at hk;cases hk
 obtain⟨c1,e1,s1,x1,r1⟩:=hs.freeze hk;have F:(H.set k .dead)[j]? = some (.rowo t sz es m):=by rw [A9 (Ne.symm C)];exact hj
 refine⟨c1,e1,s1.recell F rfl ?_,x1⟩;rintro⟨h1,h2,h3,h4,_⟩;obtain⟨q0,_,_,_,ys,q1,q2,q3⟩:=hs.blk j _ hj;have z:=x1.rho j (hs.klt hj) (by omega);have f:c1.base=c.base:=s1.base.trans hs.base.symm;refine⟨by rw [Ab];exact h1,h2,fun e he=>?_,?_,ys,by rw [Ab,e1,z,f];exact q1,?_,q3⟩
 ·obtain⟨e0,h8,rfl⟩:=AQ.1 he;rw [Ab];exact h3 e0 h8
 ·rw [<-List.map_flatten,Dx];intro x hx;obtain⟨y,hy,rfl⟩:=AQ.1 hx;exact X4 rfl (Dx.1 h4 y hy)
 ·rw [<-List.map_flatten];have h8:∀ (l:List AV) (us:List Value),RdL l c us->RdL (l.map (AV.slIn k es'.length (.sl sz' es'.length fun i=>es'.getD i []))) c1 us:=by
   intro l;induction l with
   | nil=>intro us h;simp only [RdL] at h;subst h;simp [RdL]
   | cons x l ih=>
    intro us h;simp only [RdL] at h;obtain⟨u,vs,rfl,a1,a2⟩:=h;simp only [Az,RdL];refine⟨u,vs,rfl,?_,ih vs a2⟩;unfold AV.slIn;split
    ·rename_i i n;split
     ·rename_i hik;subst hik;split
      ·rename_i hn;subst hn;exact r1 u a1
      ·simp [Rd]
     ·exact Rd.ext _ x1 a1
    ·exact Rd.ext _ x1 a1
  exact h8 _ _ q2

def az (T:Tys) (m:Nat) (rs:List ResultVar) (K:AV->List AB->Prop):QA:=fun ex fr H=>match ex with
 | .exit _=>False
 | _=>I9 T rs fr H fun x=>∃ y r H2,(∀ c v,Rd x c v->Rd y c v)/\WkC m [(0,y)] H [(0,r)] H2/\K r H2
theorem ACalls.ofC {P : Program} {T : Tys} (hT : TOk P T) {f : FuncId} {fn : Func} {body : Code} {args : List AV} {Hin : List AB} {K : AV → List AB → Prop} (hf : P.funcs[f]? = some fn) (hb : fn.body = some body) (j : (fn.name == "runtime.NumGoroutine") = false) (hn : args.length ≤ fn.ntmps)
  (h:C2 P T fn.ntmps Hin.length body (az T Hin.length fn.results.toList K) (frOf 0 args) Hin):ACalls P false f args Hin K:=by
 refine⟨⟨fn,hf,by rw [hb];try rfl,j⟩,fun w0 M0 c0 us hs0 hr=>?_⟩;have F:=hr.length;have C:FR (w0.at c0.w hs0.low) c0 fn.ntmps (frOf 0 args) { tmps:=us.toArray ++ Array.replicate (fn.ntmps - us.toArray.size) undef,defers:= [] }:=by
  refine⟨by simp;omega,tv,fun i=>?_⟩;have:=Hp (c:=c0) (m:=fn.ntmps - us.length) (l:=args) (i:=0) (pre:= []) rfl hr i;rw [AJ];have e:(us.toArray ++ Array.replicate (fn.ntmps - us.toArray.size) undef)[i]? = ([] ++ us ++ List.replicate (fn.ntmps - us.length) undef)[i]? :=by
   have:(us.toArray ++ Array.replicate (fn.ntmps - us.toArray.size) undef)=([] ++ us ++ List.replicate (fn.ntmps - us.length) undef).toArray:=Array.ext' (by simp);rw [this];simp only [Cy]
  rw [e];exact this
 have fin:∀ a w,Em (w0.at c0.w hs0.low) M0 c0 fn.ntmps (fun fr H=>I9 T fn.results.toList fr H fun x=>∃ y r H2,(∀ c v,Rd x c v->Rd y c v)/\WkC Hin.length [(0,y)] H [(0,r)] H2/\K r H2) a w->∃ v,(results fn a.tmps).run P w = .ok v w/\∃ v' c' r H',Ending.returned v = .returned v'/\c'.w=w/\K r H'/\HS w0 M0 c' H'/\Ext c0 c'/\Rd r c' v'/\(false=true->Old c0.w w):=by
  rintro a w ⟨c,fr,H,rfl,h1,h2,h3,h4⟩;obtain⟨x,v,⟨y,r,H2,o1,o2,o3⟩,q2,q3⟩:=EH hT h2 h3 h1;have z:FR (w0.at c0.w hs0.low) c 1 [(0,y)] { tmps:= #[v],defers:= [] }:=by
   refine⟨rfl,tv,fun i=>?_⟩;unfold fget;cases i with
   | zero=>exact o1 _ _ q2
   | succ i=>show Rd .top c _;simp [Rd]
  obtain⟨c',e1,e2,e3,e4⟩:=o2.sound hs0.dom h2 z h4;have u:=e3.get 0;refine⟨v,q3,v,c',r,H2,rfl,e1,o3,⟨zh e2.low,e2.base,e2.dom,e2.foreign,e2.lt,e2.blk,e2.own,e2.dis⟩,e4,?_,fun e=>by cases e⟩;simpa [fget] using u
 refine Ev hf hb trivial (Ah _) fin ?_;refine BE (w0:=w0.at c0.w hs0.low) (M0:=M0) (ce:=c0) hT hs0.dom body _ _ c0 _ Hin _ (Fy rfl rfl fun _ _ _ h=>h) hs0.toAt C (zJ _) h

def zx:=@ACalls.ofC
theorem ACalls.fn {P:Program} {q:Bool} {f:FuncId} {args:List AV} {K:AV->List AB->Prop} {K':AV->Prop} (h:ACalls P q f args [] K) (hk:∀ r H,K r H->∃ Hc,ConvH H Hc/\Pn r Hc fun x=>∃ y,(∀ c v,Rd x c v->Rd y c v)/\K' y):Fn P f args K':=by
 refine⟨h.go,fun c0 us hd hM hg hr=>?_⟩;let ce:Ctx:={ c0 with base:=0 };have i:Ext c0 ce:=⟨rfl,rfl,rfl,Ah _,fun _ _ h=>⟨h,rfl⟩,Ah _,fun _ _=>Ah _,fun _ _ _=>rfl,fun _ _ _ h=>h⟩;have j:HS (Fl.all c0.w hg) c0.M ce []:=⟨zi _ hg,rfl,hd,fun _ _=>Iff.rfl,hM,by simp,by simp,by simp⟩;refine(h.calls (Fl.all c0.w hg) c0.M ce us j (RdL.ext _ i hr)).mono ?_;rintro e w' ⟨v,c',r,H',rfl,rfl,q1,q2,q3,q4,_⟩;obtain⟨Hc,o1,o2⟩:=hk r H' q1;obtain⟨c1,e1,s1,x1⟩:=o1 _ _ c' q2;obtain⟨x,H2,c2,⟨y,p0,p1⟩,p2,p3,p4,p5⟩:=KE s1 (Rd.ext _ x1 q4) o2;refine⟨v,y,rfl,p1,q2.low.below,p0 _ _ ?_⟩;have e2:c2.w=c'.w:=p2.trans e1;have hE:Ext c2.closed { c0 with w:=c'.w }:=by
  refine⟨by simp [Ctx.closed,e2],by simp [Ctx.closed,e2],by simp [Ctx.closed,e2],by simp [Ctx.closed,e2],fun b hb hm=>⟨fun h=>hm ?_,by simp [Ctx.closed,e2]⟩,Aj _,fun k hk=>absurd hk (Ap k),fun k hk=>absurd hk (Ap k),fun k _ hk=>absurd hk (Ap k)⟩;exact(p3.foreign b (hM b h)).2 h
 exact Rd.ext _ hE p5
theorem ACalls.conv {P:Program} {q:Bool} {f:FuncId} {args:List AV} {H:List AB} {K K':AV->List AB->Prop} (h:ACalls P q f args H K) (hk:∀ r H',K r H'->∃ H'',ConvH H' H''/\K' r H''):ACalls P q f args H K':=by
 refine⟨h.go,fun w0 M0 c us hs hr=>(h.calls w0 M0 c us hs hr).mono ?_⟩;rintro e w' ⟨v,c',r,H',rfl,rfl,q1,q2,q3,q4,q5⟩;obtain⟨H'',o1,o2⟩:=hk r H' q1;obtain⟨c1,e1,s1,x1⟩:=o1 _ _ c' q2;exact⟨v,c1,r,H'',rfl,e1,o2,s1,q3.trans x1,Rd.ext _ x1 q4,q5⟩
mutual
theorem AV.ren_id {f:Nat->Nat}:∀ (x:AV),x.lt 0=true->x.ren f=x
 | .top,_=>rfl
 | .v _,_=>rfl
 | .sl _ _ _,_=>rfl
 | .rp _,_=>rfl
 | .bp k _,h=>by simp [AV.lt,Nat.blt] at h
 | .ow k _,h=>by simp [AV.lt,Nat.blt] at h
 | .ep k _ _ _ _,h=>by simp [AV.lt,Nat.blt] at h
 | .ag cs,h=>by simp only [AV.lt] at h;simp only [AV.ren,AV.renL_id cs h]
 | .tp cs,h=>by simp only [AV.lt] at h;simp only [AV.ren,AV.renL_id cs h]
 | .fn _ cs,h=>by simp only [AV.lt] at h;simp only [AV.ren,AV.renL_id cs h]
 | .ic _ cs,h=>by simp only [AV.lt] at h;simp only [AV.ren,AV.renL_id cs h]
theorem AV.renL_id {f:Nat->Nat}:∀ (l:List AV),AV.ltL l 0=true->AV.renL f l=l
 | [],_=>rfl
 | x::l,h=>by
  simp only [AV.ltL,Af] at h;simp only [AV.renL,AV.ren_id x h.1,AV.renL_id l h.2]
end
theorem ACalls.quiet {P:Program} {q q':Bool} {f:FuncId} {args:List AV} {K:AV->List AB->Prop} (h:ACalls P q f args [] K):ACalls P q' f args [] K:=by
 refine⟨h.go,fun w0 M0 c us hs hr=>?_⟩;have j:HS (Fl.all c.w hs.glob) c.M c []:=⟨zi _ _,hs.base,hs.dom,fun _ _=>Iff.rfl,hs.lt,by simp,by simp,by simp⟩;refine(h.calls _ c.M c us j hr).mono ?_;rintro e w' ⟨v,c',r,H',rfl,rfl,q1,q2,q3,q4,_⟩;have i:∀ b,w0.old b->b<c.w.heap.size:=fun b hb=>Au (w0.lt b hb) hs.low.size
 exact⟨v,c',r,H',rfl,rfl,q1,⟨hs.low.trans q2.low.below,q2.base,q2.dom,fun b hb=>(q2.foreign b (i b hb)).trans (hs.foreign b hb),q2.lt,q2.blk,fun k x g hk hl ho=>⟨(q2.own k x g hk hl ho).1,fun hb=>(q2.own k x g hk hl ho).2 (i g hb)⟩,q2.dis⟩,q3,q4,fun _=>q2.low.below.old⟩
theorem ACalls.beside {P:Program} {q q':Bool} {f:FuncId} {args:List AV} {H:List AB} {k K:AV->List AB->Prop} (h:ACalls P q' f args [] K) (hc:AV.ltL args 0=true)
  (hk:∀ r R,K r R->cntK H 0 fun d=>VL (ixm [] d) [] R H fun H=>D4 (r.ren (ixm [] d)) fun r=>k r H):ACalls P q f args H k:=
 z_ [] (h.quiet (q':=q)) (AV.renL_id args hc).symm hc rfl rfl List.nodup_nil (fun _ h=>by cases h) trivial hk
def zW:=@ACalls.beside
def flatV:AV->Bool
 | .v _=>true
 | .tp l=>l.all fun x=>match x with | .v _=>true | _=>false
 | _=>false
theorem W4 {x:AV} (h:flatV x=true) {c c':Ctx} {v:Value} (hr:Rd x c v):Rd x c' v:=by
 unfold flatV at h;split at h
 ·simpa [Rd] using hr
 ·rename_i l;simp only [Rd] at hr |-
  obtain⟨xs,rfl,hx⟩:=hr;refine⟨xs,rfl,?_⟩;induction l generalizing xs with
  | nil=>simpa [RdL] using hx
  | cons x l ih=>
   simp only [A_,Af] at h;simp only [RdL] at hx |-
   obtain⟨u,us,rfl,h1,h2⟩:=hx;refine⟨u,us,rfl,?_,ih h.2 us h2⟩;cases x <;> simp at h;simpa [Rd] using h1
 ·cases h
theorem Fn.lend {P:Program} {f:FuncId} {args args':List AV} {H:List AB} {K:AV->Prop} {q:Bool} {k:AV->List AB->Prop} (h:Fn P f args' K) (hs:sealA args H fun a _=>a=args') (hk:∀ r,K r->flatV r=true/\k r H):ACalls P q f args H k:=by
 refine⟨h.1,fun w0 M0 c us hs0 hr=>?_⟩;obtain⟨l',H',c',rfl,h2,h3,h4,h5,_⟩:=sealA_sound hs0 hr hs;have:=h.2 c'.closed us rfl h3.lt h3.glob h5;rw [show c'.closed.w=c.w from h2] at this;refine this.mono ?_;rintro e w' ⟨v,r,rfl,q1,q2,q3⟩;obtain⟨p1,p2⟩:=hs0.grow q2;obtain⟨p3,p4⟩:=hk r q1;exact⟨v,_,r,H,rfl,rfl,p4,p1,p2,W4 p3 q3,fun _=>q2.old⟩

def zq:=@Fn.lend
end
end Go.Proofs.YtpjkcgacjjbikaaGreatDoor.A
namespace Go.Proofs.YtpjkcgacjjbikaaGreatDoor
section
open Go.RowKit
theorem leB_step:∀ (k n:Nat),leB (k+1) n=leB k n ++ [UInt8.ofNat (n / 256 ^ k % 256)]
 | 0,n=>by simp [leB]
 | k+1,n=>by
  show UInt8.ofNat (n % 256)::leB (k+1) (n / 256)=(UInt8.ofNat (n % 256)::leB k (n / 256)) ++ _;rw [leB_step k (n / 256),Nat.div_div_eq_div_mul,Nat.pow_succ,Nat.mul_comm 256];try rfl

theorem QI (k:Nat) (h:k<256):((UInt8.ofNat k).toNat:Int)=(k:Int):=by rw [B8 h]
theorem OwR.lit1 (w:World) (k:Nat) (h:k<256):OwR (w.alloc (.cells #[.int .u8 (k:Int)] 5)) noM w.heap.size 5 (.slice (some ⟨w.heap.size,0,none⟩) 1 1) [UInt8.ofNat k]:=by
 have hL:=zd w noM [UInt8.ofNat k] (by simp);simpa only [Az,Bx,QI k h,Ao,Bv] using hL
theorem OwR.lit2 (w:World) (k m:Nat) (h:k<256) (h':m<256):OwR (w.alloc (.cells #[.int .u8 (k:Int), .int .u8 (m:Int)] 5)) noM w.heap.size 5 (.slice (some ⟨w.heap.size,0,none⟩) 2 2) [UInt8.ofNat k,UInt8.ofNat m]:=by
 have hL:=zd w noM [UInt8.ofNat k,UInt8.ofNat m] (by simp);simpa only [Az,Bx,QI k h,QI m h',Ao,Bv] using hL
theorem XP {g:Geo} {r:Rc} (h:Gm g r=true):∃ K S E A O:Nat,r.kind=K/\r.seq=S/\r.epoch=E/\r.at_=A/\r.of_=O/\S<=4294967295/\E<=4294967295:=by
 obtain⟨-,h⟩:=Fw h;refine⟨r.kind.toNat,r.seq.toNat,r.epoch.toNat,r.at_.toNat,r.of_.toNat,?_⟩;rcases h with h | h | h <;> omega
theorem XQ {g:Geo} {r:Rc} (h:Gm g r=true) (hk:r.kind=1):∃ Z W:Nat,r.img.zone=Z/\D1 r.img.what=W/\Z<=3/\r.img.bytes.length<=255:=by
 have hb:=Er h;rw [P1 h,if_pos hk] at hb;obtain⟨hg,h⟩:=Fw h;obtain⟨hz,hd, -⟩:=Aq.1 hg;rcases h with h | ⟨-, -, -, -, -,h⟩ | h
 ·omega
 ·obtain⟨-,h1,h2⟩:=G1 h;refine⟨r.img.zone.toNat,(D1 r.img.what).toNat,by omega,?_,by omega,by omega⟩;unfold D1;split
  ·rfl
  ·rcases h2 with ⟨h3, -⟩ | ⟨-,h3, -⟩ <;> omega
 ·omega

end
end Go.Proofs.YtpjkcgacjjbikaaGreatDoor
namespace Go.Proofs.YtpjkcgacjjbikaaGreatDoor.A
section
open Go.RowKit
theorem ab {a:AV} {c:Ctx} {us:List Value} (h:RdL [a] c us):∃ u,us=[u]/\Rd a c u:=by
 simp only [RdL] at h;obtain⟨u,r,rfl,h1,rfl⟩:=h;exact⟨u,rfl,h1⟩
theorem aL {a b:AV} {c:Ctx} {us:List Value} (h:RdL [a,b] c us):∃ u v,us=[u,v]/\Rd a c u/\Rd b c v:=by
 simp only [RdL] at h;obtain⟨u,r,rfl,h1,v,q,rfl,h2,rfl⟩:=h;exact⟨u,v,rfl,h1,h2⟩
theorem O1 {c:Ctx} {a b:AV} {u v:Value} (h:Rd a c u) (k:Rd b c v):Rd (.tp [a,b]) c (.tuple #[u,v]):=by
 simp only [Rd,RdL];exact⟨_,rfl,_,_,rfl,h,_,_,rfl,k,rfl⟩
theorem P3 {c:Ctx} (v:Value):Rd (.v v) c v:=by simp [Rd]
def Ef (x:UInt8):List AV:= [.v (.int .u8 x.toNat)]
def OX (x:Int):List AV:= [iv x]
theorem Qh {w:World} {M:Ms}:∀ {l:List UInt8} {xs:List Value},Elems (Rp.sz UInt8) (Rp.E w M) xs l->xs=l.map fun x=> .int .u8 x.toNat
 | [],_,h=>h
 | x::l,_,h=>by
  obtain⟨cs,ys,rfl,_,h2,h3⟩:=h;have h2:cs=[.int .u8 x.toNat]:=h2;rw [h2,Qh h3];try rfl
theorem Sv (c:Ctx):∀ l:List UInt8,RdL (l.map Ef).flatten c (l.map fun x=> .int .u8 x.toNat)
 | []=>by simp [RdL]
 | x::l=>by
  simp only [Az,AI,Ef,B6,B7,RdL];exact⟨_,_,rfl,by simp [Rd],Sv c l⟩
theorem HS.bytes {w0:Fl} {M0:Ms} {c:Ctx} {H:List AB} (h:HS w0 M0 c H) {w':World} (hb:Below c.w.heap.size c.w w') {M:Ms} {v:Value} {l:List UInt8} (ho:OwR w' M c.w.heap.size 5 v l) :
  ∃ c',c'.w=w'/\HS w0 M0 c' (H ++ [.row 5 1 (l.map Ef)])/\Ext c c'/\Rd (.ow H.length l.length) c' v:=by
 obtain⟨xs,h1,h2⟩:=ho;have hx:=Qh h2;subst hx;obtain⟨a,b,d⟩:=h.newrow (es:=l.map Ef) (t:=5) (sz:=1) hb (by omega) (fun e he=>by obtain⟨x,_,rfl⟩:=AQ.1 he;rfl) (by rw [Ab];exact h1) (fun u hu=>by obtain⟨x,_,rfl⟩:=AQ.1 hu;rfl) (Sv _ l);rw [Ab] at a b d;exact⟨_,rfl,a,b,d⟩
theorem ACalls.ofBytes {P:Program} {f:FuncId} {args:List AV} {l:List UInt8} (hg:Xo P f)
  (h:∀ (c:Ctx) (us:List Value),RdL args c us->Calls P f us.toArray c.w fun e w'=>∃ r,e = .returned (.tuple #[r, .int .i64 0])/\OwR w' noM c.w.heap.size 5 r l/\Below c.w.heap.size c.w w') :
  ACalls P false f args [] fun r H=>r = .tp [.ow 0 l.length,iv 0]/\H=[.row 5 1 (l.map Ef)]:=by
 refine⟨hg,fun w0 M0 c us hs hr=>(h c us hr).mono ?_⟩;rintro e w' ⟨r,rfl,ho,hB⟩;obtain⟨c',e1,e2,e3,e4⟩:=hs.bytes hB ho;exact⟨_,c',_,_,rfl,e1,tA,e2,e3,O1 e4 (P3 _),fun h=>by cases h⟩
def zk:=@ACalls.ofBytes
theorem QK {c:Ctx} {u:Value} {b:List Int} (h:Rd (iA b) c u):SlR c.w c.M u b:=by
 simp only [iA,Rd] at h;obtain⟨a,k,rfl,h1,h2,h3⟩:=h;refine⟨a,k,b.map fun x=> .int .i64 x,rfl,h1,h2,?_,fun hne=>?_⟩
 ·refine Elems.of_get (by simp [Rp.sz]) fun i x hx=>⟨[.int .i64 x],rfl,rfl,fun j hj=>?_⟩
  have hj:j<1:=hj;obtain rfl:j=0:=by omega
  simp [Rp.sz,hx]
 ·rcases h3 with h3 | ⟨bl,off,rfl,hm,hb,hc⟩
  ·exact absurd (Be h3) hne
  ·refine⟨bl,off,rfl,hm,fun j u hu=>?_⟩;rw [Bb] at hu;cases hq:b[j]? with
   | none=>rw [hq] at hu;simp at hu
   | some x=>
    rw [hq] at hu;simp at hu;subst hu;have f:=(At.1 hq).1;have:=(hc j f).2;simp only [RdAt,Rd] at this;obtain⟨⟨u,e1,_,rfl⟩,_⟩:=this;rw [Nat.mul_one] at e1;rw [show b.getD j 0=x by rw [Ac,hq];try rfl] at e1;exact e1
theorem J0 (ns ss:List Int) (hl:ns.length=ss.length) (hn:ns.length<=1000) (hf:∀ k (a:k<ns.length) (b:k<ss.length),ET ss[k]/\0<=ns[k]/\ns[k]<Dr ss[k]) :
  ACalls Tryz.prog false 189 [iA ns,iA ss] [] fun r H=>r = .tp [.ow 0 (rowB ns ss).length,iv 0]/\H=[.row 5 1 ((rowB ns ss).map Ef)]:=by
 refine zk ⟨_,Tryz.func189,rfl,by decide⟩ fun c us hr=>?_
 obtain⟨u1,u2,rfl,h1,h2⟩:=aL hr;exact XB u1 u2 ns ss c.w noM c.M c.M (QK h1) (QK h2) hl hn hf
theorem VN (l:List UInt8) (hl:l.length<=255):ACalls Tryz.prog false 191 [bA l] [] fun r H=>r = .tp [.ow 0 (UInt8.ofNat l.length::l).length,iv 0]/\H=[.row 5 1 ((UInt8.ofNat l.length::l).map Ef)]:=by
 refine zk ⟨_,Tryz.func191,rfl,by decide⟩ fun c us hr=>?_
 obtain⟨u1,rfl,h1⟩:=ab hr;exact PD u1 l c.w noM c.M (Ir h1) hl
theorem XL (l:List UInt8) (n size:Int) (hs:ET size) (hl:l.length<=1000000) (h0:0<=n) (h1:n<Dr size):ACalls Tryz.prog false 192 [bA l,iv n,iv size] [] fun r H=>r = .tp [.ow 0 (l ++ leB size.toNat n.toNat).length,iv 0]/\H=[.row 5 1 ((l ++ leB size.toNat n.toNat).map Ef)]:=by
 refine zk ⟨_,Tryz.func192,rfl,by decide⟩ fun c us hr=>?_
 simp only [RdL] at hr;obtain⟨u1,_,rfl,i,u2,_,rfl,h,u3,_,rfl,f,rfl⟩:=hr;simp only [Rd] at h f;subst h f;exact J4 u1 l n size c.w noM c.M (Ir i) hs hl h0 h1
structure Gt where
 err:Int
 bytes:List UInt8
 deriving DecidableEq
structure Sec where
 addr:Int
 stamp:Int
 pay:List UInt8
 deriving DecidableEq
structure Wr where
 addr:Int
 bytes:List UInt8
 deriving DecidableEq
structure Tx where
 seq:Int
 pos:Int
 n:Int
 images:List Img
 deriving DecidableEq
structure Hm where
 places:List Int
 next:Int
 root:Int
 deriving DecidableEq
structure An where
 gen:Int
 epoch:Int
 pos:Int
 seq:Int
 last:Int
 label:ByteArray
 homes:List Hm
 deriving DecidableEq
instance:Inhabited Gt:=⟨⟨0, []⟩⟩
instance:Inhabited Wr:=⟨⟨0, []⟩⟩
instance:Inhabited Tx:=⟨⟨0,0,0, []⟩⟩
instance:Inhabited Hm:=⟨⟨[],0,0⟩⟩
def Dt (x:Gt):List AV:= [iv x.err,bA x.bytes]
def Ij (l:List Gt):AV:= .sl 2 l.length fun i=>Dt (l.getD i ⟨0, []⟩)
def Of (x:Sec):List AV:= [iv x.addr,iv x.stamp,bA x.pay]
def Ei (x:Wr):List AV:= [iv x.addr,bA x.bytes]
def Ly (l:List Wr):AV:= .sl 2 l.length fun i=>Ei (l.getD i ⟨0, []⟩)
def CG (x:Tx):List AV:= [iv x.seq,iv x.pos,iv x.n,D2 x.images]
def CS (l:List Tx):AV:= .sl 4 l.length fun i=>CG (l.getD i ⟨0,0,0, []⟩)
def DL (x:Hm):List AV:= [iA x.places,iv x.next,iv x.root]
def HE (l:List Hm):AV:= .sl 3 l.length fun i=>DL (l.getD i ⟨[],0,0⟩)
def Ek (x:An):List AV:= [iv x.gen,iv x.epoch,iv x.pos,iv x.seq,iv x.last, .v (.string x.label),HE x.homes]
inductive TrM where
 | fin
 | one (i:Nat) (r:TrM)
 | two (i:Nat) (a:TrM) (j:Nat) (b:TrM)
 | three (i:Nat) (a:TrM) (j:Nat) (b:TrM) (k:Nat) (d:TrM)
def TrM.o (l:List Nat) (t:TrM):TrM:=l.foldr .one t
def TrM.depth:TrM->Nat
 | .fin=>0
 | .one _ r=>r.depth+1
 | .two _ a _ b=>max a.depth b.depth+1
 | .three _ a _ b _ d=>max a.depth (max b.depth d.depth)+1
def JB (ops:Array Oper) (B:List Nat) (mk:Nat) (j:Nat):Bool:=
 (List.range ops.size).any fun i=>!(((ops[i]?).map fun o=>isEff o.op || pureOp o.op).getD true)&&!mk.testBit i&&i != j&&!(B.getD j 0).testBit i&&!(B.getD i 0).testBit j
section
variable {P:Program} {ops:Array Oper} {B:List Nat} {Q:Exit->Act->World->Prop} {mk:Nat}
def HeldM (P:Program) (ops:Array Oper) (B:List Nat) (mk:Nat) (Q:Exit->Act->World->Prop):Nat->Array Bool->Act->World->Prop
 | 0,l,a,w=>Region.ready .any ops l=[]/\Q .normal a w
 | n+1,l,a,w=>(Region.ready .any ops l=[]->Q .normal a w)/\
   ∀ i∈Region.ready .any ops l,wpOp P ops Q i (fun a' w'=>(JB ops B mk i=true->Old w w')/\HeldM P ops B mk Q n (l.setIfInBounds i true) a' w') a w
theorem HeldM.any:∀ (n:Nat) (l:Array Bool) (a:Act) (w:World),HeldM P ops B mk Q n l a w->wpAny P .any ops Q n l a w
 | 0,_,_,_,h=>h
 | n+1,_,_,_,h=>⟨h.1,fun i hi=>wpOp_mono (fun a' w' h'=>HeldM.any n _ a' w' h'.2) (h.2 i hi)⟩
theorem HeldM.first (hB:G3 ops B=true) {i:Nat} {oi:Oper} {v:Value} (hi:ops[i]? = some oi) (Z:mk.testBit i=false) (V:isEff oi.op=false)
  (F:∀ (j:Nat) (o:Oper) cs b,ops[j]? = some o->o.op≠ .select cs b)
  (hQ:∀ c a w,Q (.panic c) (a.put oi.dst v) w->Q (.panic c) a w) {S:World->Prop} (hk:∀ w w',S w->(pureOp oi.op=false->Old w w')->S w'):∀ (n:Nat) (l:Array Bool) (a:Act) (w:World),Cl ops l->
   (∀ j oj,ops[j]? = some oj->j≠i->l.getD j true=false->(∀ e∈oj.after,Region.binds .any e=true->e.on≠i)->oi.apart ops oj=true)->
   i∈Region.ready .any ops l->YieldsIf P ops S oi v a->S w->HeldM P ops B mk Q n (l.setIfInBounds i true) (a.put oi.dst v) w->HeldM P ops B mk Q (n+1) l a w:=by
 intro n;induction n with
 | zero=>
  intro l a w _ _ hr hy hS H;refine⟨fun h=>(by rw [h] at hr;cases hr),fun j hj=>?_⟩;by_cases f:j=i
  ·subst f;exact hy.wpOp hi hS ⟨fun _=>zv _,H⟩
  ·have h1:=ready_mono hj f;rw [H.1] at h1;cases h1
 | succ n ih=>
  intro l a w J C hr hy hS H;refine⟨fun h=>(by rw [h] at hr;cases hr),fun j hj=>?_⟩;by_cases f:j=i
  ·subst f;exact hy.wpOp hi hS ⟨fun _=>zv _,H⟩
  have h1:=H.2 j (ready_mono hj f);obtain⟨u,oj,z,K⟩:=mem_ready.1 hj;obtain⟨I,oi',G,L⟩:=mem_ready.1 hr;rw [hi] at G;cases G;have unl:∀ k,l.getD k true=false->l.getD k false=true->False:=by
   intro k h1 h2;rcases Cd k l.size with h' | h'
   ·simp [h'] at h1 h2;rw [h1] at h2;cases h2
   ·simp [BS h'] at h2
  have O:∀ e∈oj.after,Region.binds .any e=true->e.on≠i:=fun e he hb heq=>unl i I (heq ▸ K e he hb)
  have U:pureOp oi.op=false->JB ops B mk j=true:=by
   intro W;refine Ds.2 ⟨i,AS.2 (Ay.1 hi).1,?_⟩;have X:(i != j)=true:=by rw [bne_iff_ne];exact fun h=>f h.symm
   have b1:(B.getD j 0).testBit i=false:=by
    rw [<-BM];exact fun h=>unl i I (aJ hB J j oj z K i h)
   have b2:(B.getD i 0).testBit j=false:=by
    rw [<-BM];exact fun h=>unl j u (aJ hB J i oi hi L j h)
   simp only [hi,Option.map_some,BH,V,W,X,b1,b2,Z,Bool.or_false,Bool.not_false,B3]
  have h2:=wpOp_putIf z (C j oj z f u O) (fun cs b=>F i oi cs b hi) (fun cs b=>F j oj cs b z) hQ hy h1;refine wpOp_mono (fun a' w' h3=>⟨h3.2.1,ih (l.setIfInBounds j true) a' w' (J.set hj) (fun k ok hk hki hun hno=>?_) (ready_mono hr (Ne.symm f)) h3.1 (hk _ _ hS fun hp=>h3.2.1 (U hp)) ?_⟩) h2
  ·refine C k ok hk hki ?_ hno;by_cases N:j=k
   ·subst N;exact u
   ·rw [getD_set_ne true N] at hun;exact hun
  ·rw [Array.setIfInBounds_comm _ _ f];exact h3.2.2

theorem HeldM.first1 (hB:G3 ops B=true) {i:Nat} {oi:Oper} {v:Value} (hi:ops[i]? = some oi) (z:mk.testBit i=false) (u:isEff oi.op=false)
  (h:∀ (j:Nat) (o:Oper) cs b,ops[j]? = some o->o.op≠ .select cs b)
  (hQ:∀ c a w,Q (.panic c) (a.put oi.dst v) w->Q (.panic c) a w) (n:Nat) (l:Array Bool) (a:Act) (w:World) (C:Cl ops l)
  (f:∀ j oj,ops[j]? = some oj->j≠i->l.getD j true=false->(∀ e∈oj.after,Region.binds .any e=true->e.on≠i)->oi.apart ops oj=true)
  (hr:i∈Region.ready .any ops l) (hy:YieldsIf P ops (fun w'=>pureOp oi.op=true\/Old w w') oi v a) (H:HeldM P ops B mk Q n (l.setIfInBounds i true) (a.put oi.dst v) w):HeldM P ops B mk Q (n+1) l a w:=by
 refine HeldM.first hB hi z u h hQ (S:=fun w'=>pureOp oi.op=true\/Old w w') (fun _ _ h1 h2=>?_) n l a w C f hr hy (.inr (zv w)) H;rcases h1 with h1 | h1
 ·exact .inl h1
 ·cases hp:pureOp oi.op with
  | true=>exact .inl rfl
  | false=>exact .inr (h1.trans (h2 hp))

def qM (mk:Nat) (i:Nat) (o:Op):Bool:=qOf o&&!mk.testBit (i+128)
def EU (P:Program) (T:Tys) (n mk:Nat) (ops:Array Oper) (i:Nat) (fr:Fr) (H:List AB) (K:Fr->List AB->Prop):Prop:=
 match Km ops.toList i with
 | none=>False
 | some o=>IZ ops.toList o fr (fun fr=>HM P T n (qM mk i o.op) o fr H K) fun fr=>Ou n o.dst (.v undef) fr fun fr=>K fr H
def Lc (ops:Array Oper) (B:List Nat) (mk:Nat) (i:Nat):Bool:=match ops[i]? with | some o=>(qM mk i o.op || !JB ops B mk i) | none=>false
def treeM (ops:Array Oper) (B:List Nat) (mk:Nat):TrM->Array Bool->Bool
 | .fin,l=>(Region.ready .any ops l).isEmpty
 | .one i r,l=>(match ops[i]? with
   | none=>false
   | some o=>match isEff o.op with
    | true=>(match Region.ready .any ops l with | [j]=>Nat.beq i j | _=>false)&&(qM mk i o.op || !JB ops B mk i)
    | false=>match mk.testBit i with
     | true=>(match Region.ready .any ops l with | [j]=>Nat.beq i j | _=>false)&&(qM mk i o.op || !JB ops B mk i)
     | false=>Region.free .any ops l i&&(Region.ready .any ops l).contains i)&&treeM ops B mk r (l.setIfInBounds i true)
 | .two i a j b,l=>(match Region.ready .any ops l with | [x,y]=>Nat.beq x i&&Nat.beq y j | _=>false)&&Lc ops B mk i&&Lc ops B mk j&&treeM ops B mk a (l.setIfInBounds i true)&&treeM ops B mk b (l.setIfInBounds j true)
 | .three i a j b k d,l=>(match Region.ready .any ops l with | [x,y,z]=>Nat.beq x i&&Nat.beq y j&&Nat.beq z k | _=>false)&&Lc ops B mk i&&Lc ops B mk j&&Lc ops B mk k&&treeM ops B mk a (l.setIfInBounds i true)&&treeM ops B mk b (l.setIfInBounds j true)&&treeM ops B mk d (l.setIfInBounds k true)
def IP (P:Program) (T:Tys) (n mk:Nat) (ops:Array Oper):TrM->Fr->List AB->(Fr->List AB->Prop)->Prop
 | .fin,fr,H,K=>K fr H
 | .one i r,fr,H,K=>EU P T n mk ops i fr H fun fr H=>IP P T n mk ops r fr H K
 | .two i a j b,fr,H,K=>(EU P T n mk ops i fr H fun fr H=>IP P T n mk ops a fr H K)/\(EU P T n mk ops j fr H fun fr H=>IP P T n mk ops b fr H K)
 | .three i a j b k d,fr,H,K=>(EU P T n mk ops i fr H fun fr H=>IP P T n mk ops a fr H K)/\(EU P T n mk ops j fr H fun fr H=>IP P T n mk ops b fr H K)/\(EU P T n mk ops k fr H fun fr H=>IP P T n mk ops d fr H K)
variable {T:Tys} {w0:Fl} {M0:Ms} {n d0:Nat} {ce:Ctx}
theorem F4 (hT:TOk P T) {i:Nat} {o:Oper} (ho:ops[i]? = some o) {m:Nat} {l:Array Bool} (j:(qM mk i o.op || !JB ops B mk i)=true) {c:Ctx} {fr:Fr} {H:List AB} {a:Act} (hs:HS w0 M0 c H) (hf:FR w0 c n fr a) (he:Ext ce c) {K:Fr->List AB->Prop}
  (hk:∀ (c':Ctx) (fr':Fr) (H':List AB) (a':Act),HS w0 M0 c' H'->FR w0 c' n fr' a'->Ext ce c'->K fr' H'->HeldM P ops B mk Q m (l.setIfInBounds i true) a' c'.w)
  (h:EU P T n mk ops i fr H K):wpOp P ops Q i (fun a' w'=>(JB ops B mk i=true->Old c.w w')/\HeldM P ops B mk Q m (l.setIfInBounds i true) a' w') a c.w:=by
 simp only [EU,Ey] at h;rw [show ops.toList[i]? = some o by simpa using ho] at h;simp only at h;refine wpOp_step ho fun KK hK=>?_
 rcases DC hf h with ⟨hw,fr',f,h⟩ | ⟨hw,fr',f,h⟩
 ·rw [if_pos hw];refine FE hT hs f he h ?_;rintro a' w' ⟨c',fr2,H',rfl,h1,h2,h3,h4⟩ u;refine hK _ _ ⟨fun hmay=>u ?_,hk c' fr2 H' a' h2 h3 h4 h1⟩;rw [hmay] at j;simpa using j
 ·rw [if_neg (by rw [hw];simp)];obtain⟨fr2,h1,h2⟩:=C8 (v:=undef) f (by simp [Rd]) h;exact hK _ _ ⟨fun _=>zv _,hk c fr2 H _ hs h2 he h1⟩
theorem DJ (hT:TOk P T) (hB:G3 ops B=true) (G:Region.noSelect ops=true) {K:Fr->List AB->Prop} (hq:∀ a w,Em w0 M0 ce n K a w->Q .normal a w) (F:∀ c a w,¬Q (.panic c) a w) :
  ∀ (r:TrM) (m:Nat) (l:Array Bool) (c:Ctx) (fr:Fr) (H:List AB) (a:Act),r.depth<=m->Cl ops l->treeM ops B mk r l=true->HS w0 M0 c H->FR w0 c n fr a->Ext ce c->IP P T n mk ops r fr H K->HeldM P ops B mk Q m l a c.w
 | .fin,m,l,c,fr,H,a,hm,hcl,hd,hs,hf,he,h=>by
  simp only [treeM,List.isEmpty_iff] at hd;cases m with
  | zero=>exact⟨hd,hq _ _ ⟨c,fr,H,rfl,h,hs,hf,he⟩⟩
  | succ m=>exact⟨fun _=>hq _ _ ⟨c,fr,H,rfl,h,hs,hf,he⟩,by rw [hd];simp⟩
 | .two i x j y,m,l,c,fr,H,a,hm,hcl,hd,hs,hf,he,h=>by
  cases m with
  | zero=>simp [TrM.depth] at hm
  | succ m=>
   simp only [TrM.depth] at hm;simp only [treeM,Af] at hd;obtain⟨⟨⟨⟨hr,hi⟩,hj⟩,hx⟩,hy⟩:=hd;have f:Region.ready .any ops l=[i,j]:=by
    split at hr
    ·rename_i p q hpq;simp only [Af] at hr;rw [hpq,Al hr.1,Al hr.2]
    ·cases hr
   obtain⟨h1,h2⟩:=h;have go:∀ k r,Lc ops B mk k=true->r.depth<=m->k∈Region.ready .any ops l->treeM ops B mk r (l.setIfInBounds k true)=true->(EU P T n mk ops k fr H fun fr H=>IP P T n mk ops r fr H K)->(∀ (c:Ctx) (fr:Fr) (H:List AB) (a:Act),HS w0 M0 c H->FR w0 c n fr a->Ext ce c->IP P T n mk ops r fr H K->HeldM P ops B mk Q m (l.setIfInBounds k true) a c.w)->
     wpOp P ops Q k (fun a' w'=>(JB ops B mk k=true->Old c.w w')/\HeldM P ops B mk Q m (l.setIfInBounds k true) a' w') a c.w:=by
    intro k r hk _ _ _ U N;unfold Lc at hk;split at hk
    ·rename_i o ho;exact F4 hT ho hk hs hf he N U
    ·cases hk
   refine⟨fun h0=>(by rw [f] at h0;cases h0),fun k hk=>?_⟩;have L:i∈Region.ready .any ops l:=by rw [f];simp
   have J:j∈Region.ready .any ops l:=by rw [f];simp
   rw [f,Bd,A2] at hk;rcases hk with rfl | rfl
   ·exact go k x hi (by omega) L hx h1 fun c' fr' H' a' q1 q2 q3 q4=>DJ hT hB G hq F x m _ c' fr' H' a' (by omega) (hcl.set L) hx q1 q2 q3 q4
   ·exact go k y hj (by omega) J hy h2 fun c' fr' H' a' q1 q2 q3 q4=>DJ hT hB G hq F y m _ c' fr' H' a' (by omega) (hcl.set J) hy q1 q2 q3 q4
 | .three i x j y k0 z,m,l,c,fr,H,a,hm,hcl,hd,hs,hf,he,h=>by
  cases m with
  | zero=>simp [TrM.depth] at hm
  | succ m=>
   simp only [TrM.depth] at hm;simp only [treeM,Af] at hd;obtain⟨⟨⟨⟨⟨⟨hr,hi⟩,hj⟩,ha⟩,hx⟩,hy⟩,hz⟩:=hd;have f:Region.ready .any ops l=[i,j,k0]:=by
    split at hr
    ·rename_i p q u hpq;simp only [Af] at hr;rw [hpq,Al hr.1.1,Al hr.1.2,Al hr.2]
    ·cases hr
   obtain⟨h1,h2,h3⟩:=h;have go:∀ k r,Lc ops B mk k=true->r.depth<=m->k∈Region.ready .any ops l->treeM ops B mk r (l.setIfInBounds k true)=true->(EU P T n mk ops k fr H fun fr H=>IP P T n mk ops r fr H K)->(∀ (c:Ctx) (fr:Fr) (H:List AB) (a:Act),HS w0 M0 c H->FR w0 c n fr a->Ext ce c->IP P T n mk ops r fr H K->HeldM P ops B mk Q m (l.setIfInBounds k true) a c.w)->
     wpOp P ops Q k (fun a' w'=>(JB ops B mk k=true->Old c.w w')/\HeldM P ops B mk Q m (l.setIfInBounds k true) a' w') a c.w:=by
    intro k r hk _ _ _ U N;unfold Lc at hk;split at hk
    ·rename_i o ho;exact F4 hT ho hk hs hf he N U
    ·cases hk
   refine⟨fun h0=>(by rw [f] at h0;cases h0),fun k hk=>?_⟩;have L:i∈Region.ready .any ops l:=by rw [f];simp
   have J:j∈Region.ready .any ops l:=by rw [f];simp
   have Z:k0∈Region.ready .any ops l:=by rw [f];simp
   rw [f,Bd,Bd,A2] at hk;rcases hk with rfl | rfl | rfl
   ·exact go k x hi (by omega) L hx h1 fun c' fr' H' a' q1 q2 q3 q4=>DJ hT hB G hq F x m _ c' fr' H' a' (by omega) (hcl.set L) hx q1 q2 q3 q4
   ·exact go k y hj (by omega) J hy h2 fun c' fr' H' a' q1 q2 q3 q4=>DJ hT hB G hq F y m _ c' fr' H' a' (by omega) (hcl.set J) hy q1 q2 q3 q4
   ·exact go k z ha (by omega) Z hz h3 fun c' fr' H' a' q1 q2 q3 q4=>DJ hT hB G hq F z m _ c' fr' H' a' (by omega) (hcl.set Z) hz q1 q2 q3 q4
 | .one i r,m,l,c,fr,H,a,hm,hcl,hd,hs,hf,he,h=>by
  cases m with
  | zero=>simp [TrM.depth] at hm
  | succ m=>
   simp only [TrM.depth,Nat.add_le_add_iff_right] at hm;simp only [treeM,Af] at hd;obtain⟨C,W⟩:=hd;simp only [IP] at h;cases ho:ops[i]? with
   | none=>rw [ho] at C;simp at C
   | some o=>
    rw [ho] at C;simp only at C;cases hE:isEff o.op with
    | true=>
     rw [hE] at C;simp only [Af] at C;obtain⟨hr,V⟩:=C;have f:Region.ready .any ops l=[i]:=by
      split at hr
      ·rename_i j hj;rw [hj,Al hr]
      ·cases hr
     have I:i∈Region.ready .any ops l:=by rw [f];simp
     refine⟨fun h0=>(by rw [f] at h0;cases h0),fun j hj=>?_⟩;rw [f,A2] at hj;subst hj;exact F4 hT ho V hs hf he (fun c' fr' H' a' q1 q2 q3 q4=>DJ hT hB G hq F r m _ c' fr' H' a' hm (hcl.set I) W q1 q2 q3 q4) h
    | false=>
     rw [hE] at C;dsimp only at C;cases hM:mk.testBit i with
     | true=>
      rw [hM] at C;simp only [Af] at C;obtain⟨hr,V⟩:=C;have f:Region.ready .any ops l=[i]:=by
       split at hr
       ·rename_i j hj;rw [hj,Al hr]
       ·cases hr
      have I:i∈Region.ready .any ops l:=by rw [f];simp
      refine⟨fun h0=>(by rw [f] at h0;cases h0),fun j hj=>?_⟩;rw [f,A2] at hj;subst hj;exact F4 hT ho V hs hf he (fun c' fr' H' a' q1 q2 q3 q4=>DJ hT hB G hq F r m _ c' fr' H' a' hm (hcl.set I) W q1 q2 q3 q4) h
     | false=>
     rw [hM] at C;simp only [Af] at C;obtain⟨X,hr⟩:=C;have I:i∈Region.ready .any ops l:=by simpa using hr
     simp only [EU,Ey] at h;rw [show ops.toList[i]? = some o by simpa using ho] at h;simp only at h;have step:∀ v fr2,YieldsIf P ops (fun w'=>pureOp o.op=true\/Old c.w w') o v a->FR w0 c n fr2 (a.put o.dst v)->IP P T n mk ops r fr2 H K->HeldM P ops B mk Q (m+1) l a c.w:=by
      intro v fr2 hy hb h2;exact HeldM.first1 hB ho hM hE (Region.noSelect_spec G) (fun c a w h=>(F _ _ _ h).elim) m l a c.w hcl (Region.free_spec ho X) I hy
       (DJ hT hB G hq F r m _ c fr2 H _ hm (hcl.set I) W hs hb he h2)
     rcases DC hf h with ⟨hw,fr',O,h⟩ | ⟨hw,fr',O,h⟩
     ·unfold HM at h;rw [hE] at h;obtain⟨rr,v,h1,h2,h3⟩:=(GR hT hs O h).y;obtain⟨fr2,h4,h5⟩:=C8 O h3 h1;exact step v fr2 (.inl ⟨hw,h2⟩) h5 h4
     ·obtain⟨fr2,h4,h5⟩:=C8 (v:=undef) O (by simp [Rd]) h;exact step undef fr2 (.inr ⟨hw,rfl⟩) h5 h4
def Jj (ops:Array Oper) (mk:Nat) (tr:TrM):Bool:=G3 ops (K0 ops)&&Region.noSelect ops&&Nat.ble tr.depth ops.size&&treeM ops (K0 ops) mk tr (Array.replicate ops.size false)
theorem aDraw.treeM (mk:Nat) (hT:TOk P T) (hm:P.follows .mixedOrders=true) {id:Nat} {K:Fr->List AB->Prop} {fr:Fr} {H:List AB} (tr:TrM) (ds:List Nat) {F:Fr} {H2:List AB} (f:Jj ops mk tr=true)
  (h:IP P T n mk ops tr fr H fun fr' H'=>canonK (ds ++ slots fr) fr' fun l=>l=F/\H'=H2) (hk:K F H2):aDraw P T n d0 id ops K fr H:=by
 simp only [Jj,Af] at f;obtain⟨⟨⟨hB,u⟩,i⟩,f⟩:=f;refine⟨fun w0 M0 ce c a hs hf he hd Q hQ=>?_⟩;refine wp_mono (Q:=fun e a w=>e = .normal/\Em w0 M0 ce n (fun fr' H'=>canonK (ds ++ slots fr) fr' fun l=>l=F/\H'=H2) a w) ?_ ?_
 ·refine wp_region_any hm (HeldM.any (B:=K0 ops) (mk:=mk) _ _ _ _ ?_);have hb:=(Below.refl c.w.heap.size c.w).drew;obtain⟨h1,h2⟩:=hs.grow hb;refine DJ (w0:=w0) (M0:=M0) (ce:=ce) hT hB u (fun a w hl=>⟨rfl,hl⟩) (fun c a w h=>by cases h.1) tr _ _ { c with w:=c.w.drew } fr H a (Ae i) ?_ f h1 (hf.ext h2) (he.trans h2) h;intro j o hj z;rcases Cd j ops.size with h' | h'
  ·simp [h'] at z
  ·simp [BS h'] at hj
 ·rintro e a w ⟨rfl,c',fr',H',rfl,h1,h2,h3,h4⟩;obtain⟨e1,rfl⟩:=canonK_iff h1;exact hQ c' F H' a hk h2 (e1 ▸ h3.canon _) h4
def z8:=@aDraw.treeM
theorem aDraw.treeK (mk:Nat) (hT:TOk P T) (hm:P.follows .mixedOrders=true) {id:Nat} {K:Fr->List AB->Prop} {fr:Fr} {H:List AB} (tr:TrM) (f:Jj ops mk tr=true)
  (h:IP P T n mk ops tr fr H K):aDraw P T n d0 id ops K fr H:=by
 simp only [Jj,Af] at f;obtain⟨⟨⟨hB,u⟩,i⟩,f⟩:=f;refine⟨fun w0 M0 ce c a hs hf he hd Q hQ=>?_⟩;refine wp_mono (Q:=fun e a w=>e = .normal/\Em w0 M0 ce n K a w) ?_ ?_
 ·refine wp_region_any hm (HeldM.any (B:=K0 ops) (mk:=mk) _ _ _ _ ?_);have hb:=(Below.refl c.w.heap.size c.w).drew;obtain⟨h1,h2⟩:=hs.grow hb;refine DJ (w0:=w0) (M0:=M0) (ce:=ce) hT hB u (fun a w hl=>⟨rfl,hl⟩) (fun c a w h=>by cases h.1) tr _ _ { c with w:=c.w.drew } fr H a (Ae i) ?_ f h1 (hf.ext h2) (he.trans h2) h;intro j o hj z;rcases Cd j ops.size with h' | h'
  ·simp [h'] at z
  ·simp [BS h'] at hj
 ·rintro e a w ⟨rfl,c',fr',H',rfl,h1,h2,h3,h4⟩;exact hQ c' fr' H' a h1 h2 h3 h4
def zX:=@aDraw.treeK
end
theorem AY {α β:Type} {d:α} {e:β} {f:α->β} {l:List α} {i:Nat} (h:i<l.length):(l.map f).getD i e=f (l.getD i d):=by
 rw [Ac,Ac,Bb,Ag h];try rfl
theorem Y9 {t sz:Nat} {a b c:List (List AV)} (h:a=b ++ c):AB.row t sz a = .row t sz (b ++ c):=by rw [h]
theorem JH {α:Type} {d:α} {a b:List α} {i:Nat} (h:i<a.length):(a ++ b).getD i d=a.getD i d:=by
 rw [Ac,Ac,AH h]
theorem I3 {α:Type} {d:α} {a b:List α} {i:Nat} (h:a.length<=i):(a ++ b).getD i d=b.getD (i - a.length) d:=by
 rw [Ac,Ac,AN h]
def SubL:List AV->List AV->Prop
 | [], []=>True
 | x::l,y::m=>(∀ c u,Rd x c u->Rd y c u)/\SubL l m
 | _,_=>False
theorem SubL.refl:∀ l,SubL l l
 | []=>trivial
 | _::l=>⟨ri,SubL.refl l⟩
theorem SubL.len:∀ {l m},SubL l m->l.length=m.length
 | [], [],_=>rfl
 | _::_,_::_,h=>by simp [SubL.len h.2]
 | [],_::_,h=>h.elim
 | _::_, [],h=>h.elim
theorem SubL.rd:∀ {l m} {c:Ctx} {b off:Nat},SubL l m->RdAt l c b off->RdAt m c b off
 | [], [],_,_,_,_,_=>by simp [RdAt]
 | x::l,y::m,c,b,off,h,hr=>by
  simp only [RdAt] at hr |-
  obtain⟨⟨u,h1,h2,h3⟩,h4⟩:=hr;exact⟨⟨u,h1,h2,h.1 _ _ h3⟩,SubL.rd h.2 h4⟩
 | [],_::_,_,_,_,h,_=>h.elim
 | _::_, [],_,_,_,h,_=>h.elim
theorem Rd.sub {c:Ctx} {sz n n':Nat} {get get':Nat->List AV} {u:Value} (hn:n=n') (hg:∀ i,i<n->SubL (get i) (get' i)) (h:Rd (.sl sz n get) c u):Rd (.sl sz n' get') c u:=by
 subst hn;simp only [Rd] at h |-
 obtain⟨a,k,rfl,h1,h2,h3⟩:=h;refine⟨a,k,rfl,h1,h2,h3.imp id ?_⟩;rintro⟨b,off,rfl,q1,q2,q3⟩;exact⟨b,off,rfl,q1,q2,fun i hi=>⟨by rw [<-(hg i hi).len];exact(q3 i hi).1,(hg i hi).rd (q3 i hi).2⟩⟩
theorem Bg (sz:Nat) (get:Nat->List AV) (c:Ctx) (u:Value) (h:Rd (.v (.slice none 0 0)) c u):Rd (.sl sz 0 get) c u:=by
 simp only [Rd] at h |-
 exact⟨none,0,h,by omega,by simp [maxLen], .inl trivial⟩
theorem SubL.rdl:∀ {l m} {c:Ctx} {xs:List Value},SubL l m->RdL l c xs->RdL m c xs
 | [], [],_,_,_,h=>h
 | x::l,y::m,c,xs,h,hr=>by
  simp only [RdL] at hr |-
  obtain⟨u,us,rfl,h1,h2⟩:=hr;exact⟨u,us,rfl,h.1 _ _ h1,SubL.rdl h.2 h2⟩
 | [],_::_,_,_,h,_=>h.elim
 | _::_, [],_,_,h,_=>h.elim
theorem Bf {l m:List AV} (h:SubL l m) (c:Ctx) (u:Value) (hr:Rd (.ag l) c u):Rd (.ag m) c u:=by
 simp only [Rd] at hr |-
 obtain⟨xs,rfl,h1⟩:=hr;exact⟨xs,rfl,h.rdl h1⟩
theorem ACalls.sub {P:Program} {q:Bool} {f:FuncId} {args:List AV} {H:List AB} {k:AV->List AB->Prop} (args':List AV) (hs:SubL args args') (h:ACalls P q f args' H k):ACalls P q f args H k:=
 ⟨h.go,fun w0 M0 c us h1 h2=>h.calls w0 M0 c us h1 (hs.rdl h2)⟩
def zV:=@ACalls.sub
theorem BK {es:List (List AV)} {l:List Int} (h:es=l.map fun x=> [iv x]):SubL [.sl 1 l.length fun i=>es.getD i []] [iA l]:=
 ⟨fun _ _ hr=>zB rfl (fun i hi=>by rw [h,AY (d:=0) hi]) hr,tv⟩
theorem BL (b:List UInt8) (hb:b.length<=1000000000):Fn Tryz.prog 33 [bA b] fun r=>r=bA b:=by
 refine zR Tryz.func33 rfl ?_;refine Ad (fun h=>?_) ?_
 ·conv=>whnf
  exact⟨bA b,fun c v hv=>by rw [AT.1 h];exact Bg 1 _ c v hv,rfl⟩
 ·refine⟨⟨rfl,by omega⟩,?_⟩;refine⟨by simp,?_⟩;exact⟨bA b,fun c v hv=>zB (by omega) (fun i hi=>EI (by omega)) hv,rfl⟩
theorem Kt {l:List UInt8} {k:Nat} (hk:k<l.length) (h4:k<4):IntKind.i64.wrap ((BitVec.ofInt IntKind.i64.bits ((leN (l.take k):Nat):Int) ||| BitVec.ofInt IntKind.i64.bits (IntKind.i64.wrap (IntKind.i64.wrap ((l.getD k 0).toNat:Int)*2 ^ min (IntKind.i64.wrap (8*(k:Int))).toNat IntKind.i64.bits))).toNat:Int)=((leN (l.take (k+1)):Nat):Int):=by
 have h:=Wq hk h4;have e1:IntKind.i64.wrap (8*(k:Int))=8*(k:Int):=IntWalk.i64_in _ (by omega);have e2:IntKind.i64.wrap ((l.getD k 0).toNat:Int)=((l.getD k 0).toNat:Int):=IntWalk.i64_in _ (by have:=(l.getD k 0).toNat_lt;omega);have e3:l.getD k 0=l[k]:=by rw [Ac,Ag hk];try rfl
 rw [e1,e2,show (8*(k:Int)).toNat=8*k by omega,D8 (by show 8*k<=64;omega),e3];have e4:∀ n:Int,wrap64 n=IntKind.i64.wrap n:=fun n=>by rw [IntKind.wrap_i64,wrap64]
 rw [e4] at h;exact h
theorem AP {b:List UInt8} {n m:Nat} (hn:n=b.length - m) (c:Ctx) (u:Value) (h:Rd (.sl 1 n fun i=> [.v (.int .u8 (b.getD (i+m) 0).toNat)]) c u):Rd (bA (b.drop m)) c u:=
 zB (by rw [Ak];exact hn) (fun i _=>by rw [Ac,Ac,BC,C5]) h
theorem OA (b:List UInt8) (m:Int) (hs:ET m) (hm:m<=b.length) (hl:b.length<=1000000):Fn Tryz.prog 311 [bA b,iv m] fun r=>r = .tp [iv (leN (b.take m.toNat):Nat),bA (b.drop m.toNat),iv 0]:=by
 rcases hs with rfl | rfl | rfl
 ·refine zR Tryz.func311 rfl ?_;conv=>whnf
  refine A5 (fun h=>?_) (fun h=>?_) <;> conv=>whnf
  ·exfalso;omega
  refine⟨by omega,?_⟩;conv=>whnf
  refine zM Nat (fun k=>([(0,bA b),(1,iv 1),(4,iv (leN (b.take k):Nat)),(27, .sl 1 1 fun i=> [.v (.int .u8 (b.getD i 0).toNat)]),(28,iv 1),(29,iv k)], [])) (fun k=>k<=1) (fun k=>1 - k) 0 (Aj _) ⟨[],tv,tA,tv,rfl,rfl,rfl⟩ ?_;rintro k hk;conv=>whnf
  refine A5 (fun h2=>?_) (fun h2=>?_) <;> conv=>whnf
  ·have hs:=Kt (l:=b) (k:=k) (by omega) (by omega);refine⟨by omega,?_⟩;conv=>whnf
   refine Ad (by rw [IntWalk.i64_in _ (by omega)];omega) ?_;refine⟨k+1,by omega,by omega, [],tv,⟨rfl,rfl,?_,rfl,rfl,AG (by omega),tv⟩,tv,rfl,rfl,rfl⟩;rw [Aa];exact congrArg (fun x=>AV.v (.int .i64 x)) hs
  ·have f:k=1:=by omega
   subst f;refine⟨by omega,?_⟩;conv=>whnf
   refine zV [bA (b.drop 1)] ⟨AP (by omega),tv⟩ ?_;refine zY (BL (b.drop 1) (by rw [Ak];omega)) ?_;exact⟨_,ri,rfl⟩
 ·refine zR Tryz.func311 rfl ?_;conv=>whnf
  refine A5 (fun h=>?_) (fun h=>?_) <;> conv=>whnf
  ·exfalso;omega
  refine⟨by omega,?_⟩;conv=>whnf
  refine zM Nat (fun k=>([(0,bA b),(1,iv 2),(4,iv (leN (b.take k):Nat)),(27, .sl 1 2 fun i=> [.v (.int .u8 (b.getD i 0).toNat)]),(28,iv 2),(29,iv k)], [])) (fun k=>k<=2) (fun k=>2 - k) 0 (Aj _) ⟨[],tv,tA,tv,rfl,rfl,rfl⟩ ?_;rintro k hk;conv=>whnf
  refine A5 (fun h2=>?_) (fun h2=>?_) <;> conv=>whnf
  ·have hs:=Kt (l:=b) (k:=k) (by omega) (by omega);refine⟨by omega,?_⟩;conv=>whnf
   refine Ad (by rw [IntWalk.i64_in _ (by omega)];omega) ?_;refine⟨k+1,by omega,by omega, [],tv,⟨rfl,rfl,?_,rfl,rfl,AG (by omega),tv⟩,tv,rfl,rfl,rfl⟩;rw [Aa];exact congrArg (fun x=>AV.v (.int .i64 x)) hs
  ·have f:k=2:=by omega
   subst f;refine⟨by omega,?_⟩;conv=>whnf
   refine zV [bA (b.drop 2)] ⟨AP (by omega),tv⟩ ?_;refine zY (BL (b.drop 2) (by rw [Ak];omega)) ?_;exact⟨_,ri,rfl⟩
 ·refine zR Tryz.func311 rfl ?_;conv=>whnf
  refine A5 (fun h=>?_) (fun h=>?_) <;> conv=>whnf
  ·exfalso;omega
  refine⟨by omega,?_⟩;conv=>whnf
  refine zM Nat (fun k=>([(0,bA b),(1,iv 4),(4,iv (leN (b.take k):Nat)),(27, .sl 1 4 fun i=> [.v (.int .u8 (b.getD i 0).toNat)]),(28,iv 4),(29,iv k)], [])) (fun k=>k<=4) (fun k=>4 - k) 0 (Aj _) ⟨[],tv,tA,tv,rfl,rfl,rfl⟩ ?_;rintro k hk;conv=>whnf
  refine A5 (fun h2=>?_) (fun h2=>?_) <;> conv=>whnf
  ·have hs:=Kt (l:=b) (k:=k) (by omega) (by omega);refine⟨by omega,?_⟩;conv=>whnf
   refine Ad (by rw [IntWalk.i64_in _ (by omega)];omega) ?_;refine⟨k+1,by omega,by omega, [],tv,⟨rfl,rfl,?_,rfl,rfl,AG (by omega),tv⟩,tv,rfl,rfl,rfl⟩;rw [Aa];exact congrArg (fun x=>AV.v (.int .i64 x)) hs
  ·have f:k=4:=by omega
   subst f;refine⟨by omega,?_⟩;conv=>whnf
   refine zV [bA (b.drop 4)] ⟨AP (by omega),tv⟩ ?_;refine zY (BL (b.drop 4) (by rw [Ak];omega)) ?_;exact⟨_,ri,rfl⟩
theorem XU {e:Int} (c:Ctx) (v:Value) (h:Rd (.tp [iv 0, .v (.slice none 0 0),iv e]) c v):Rd (.tp [iv 0,bA [],iv e]) c v:=by
 simp only [Rd,RdL] at h |-
 obtain⟨xs,rfl,x,xs,rfl,hx,y,ys,rfl,rfl,h⟩:=h;exact⟨_,rfl,_,_,rfl,hx,_,_,rfl,Bg 1 (fun i=> [.v (.int .u8 (([]:List UInt8).getD i 0).toNat)]) c (.slice none 0 0) (by simp [Rd]),h⟩
theorem Z2 (b:List UInt8) (m:Int) (hs:ET m) (hm:b.length<m):Fn Tryz.prog 311 [bA b,iv m] fun r=>r = .tp [iv 0,bA [],iv 4]:=by
 rcases hs with rfl | rfl | rfl
 all_goals
  refine zR Tryz.func311 rfl ?_;conv=>whnf
  refine A5 (fun h=>?_) (fun h=>?_) <;> conv=>whnf
  ·exact⟨_,XU,rfl⟩
  ·exfalso;omega
theorem JY (b:List UInt8) (ss:List Int) (i:∀ s∈ss,ET s) (hl:b.length<=1000000) (hn:ss.length<=1000) (ht:tot ss<=b.length) :
  ACalls Tryz.prog false 235 [bA b,iA ss] [] fun r H=>r = .tp [.ow 0 ss.length,bA (b.drop (tot ss)),iv 0]/\H=[.row 3 1 ((nums ss b).map OX)]:=by
 refine zx tys_ok Tryz.func235 rfl rfl (Ae rfl) ?_;conv=>whnf
 refine zY (BL b (by omega)) ?_;conv=>whnf
 refine zm Nat (fun k=>([(4, .ow 0 k),(5,bA (b.drop (tot (ss.take k)))),(14,iA ss),(15,iv ss.length),(16,iv k)], [.row 3 1 ((nums (ss.take k) b).map OX)])) (fun k=>k<=ss.length) (fun k=>ss.length - k) 0 (Aj _) (zE ⟨[(4,3,1)],tA,tA,tA,rfl,rfl,rfl⟩) ?_;rintro k hk;conv=>whnf
 refine A5 (fun h2=>?_) (fun h2=>?_) <;> (repeat rw [Aa] at h2) <;> conv=>whnf
 ·have f:k<ss.length:=by omega
  have h5:=tot_step ss k f;have h6:=tot_take_le ss (k+1);have h7:=nums_step ss b k f;have h8:ET ss[k]:=i _ (CD f);have h9:ss.getD k 0=ss[k]:=by rw [Ac,Ag f];try rfl
  have z:ss[k]=(ss[k].toNat:Int):=by rcases h8 with h | h | h <;> rw [h] <;> rfl
  have hg:=OA (b.drop (tot (ss.take k))) ss[k] h8 (by rw [Ak];omega) (by rw [Ak];omega);refine⟨by omega,?_⟩;conv=>whnf
  rw [Aa,h9];refine zY hg ?_;conv=>whnf
  have u:(nums (ss.take k) b).length=k:=by rw [nums_len,As];omega
  refine⟨rfl,?_⟩;conv=>whnf
  refine Ad ⟨by rw [Ab];exact u.symm,by omega⟩ ?_;refine⟨k+1,by omega,by omega,zE ⟨[],tv,⟨rfl,?_,rfl,rfl,AG (by omega),tv⟩,⟨?_,tv⟩,rfl,rfl,rfl⟩⟩
  ·rw [h5,<-Bc];try rfl
  ·rw [h7,A8];try rfl
 ·have j:k=ss.length:=by omega
  subst j;rw [Aw];exact⟨.tp [.ow 0 ss.length,bA (b.drop (tot ss)),iv 0],_, [.row 3 1 ((nums ss b).map OX)],fun _ _ h=>h,zE ⟨[],tv,tA,tA,rfl,rfl,rfl⟩,rfl,rfl⟩
theorem Vd (b:List UInt8) (ss:List Int) (i:∀ s∈ss,ET s) (hl:b.length<=1000000) (hn:ss.length<=1000) (ht:b.length<tot ss) :
  Fn Tryz.prog 235 [bA b,iA ss] fun r=>r = .tp [.v (.slice none 0 0), .v (.slice none 0 0),iv 4]:=by
 refine zR Tryz.func235 rfl ?_;conv=>whnf
 refine zY (BL b (by omega)) ?_;conv=>whnf
 refine zm Nat (fun k=>([(4, .ow 0 k),(5,bA (b.drop (tot (ss.take k)))),(14,iA ss),(15,iv ss.length),(16,iv k)], [.row 3 1 ((nums (ss.take k) b).map OX)])) (fun k=>k<=ss.length/\tot (ss.take k)<=b.length) (fun k=>ss.length - k) 0 ⟨Aj _,by simp [tot]⟩ (zE ⟨[(4,3,1)],tA,tA,tA,rfl,rfl,rfl⟩) ?_;rintro k ⟨hk,u⟩;conv=>whnf
 refine A5 (fun h2=>?_) (fun h2=>?_) <;> (repeat rw [Aa] at h2) <;> conv=>whnf
 ·have f:k<ss.length:=by omega
  have h5:=tot_step ss k f;have h7:=nums_step ss b k f;have h8:ET ss[k]:=i _ (CD f);have h9:ss.getD k 0=ss[k]:=by rw [Ac,Ag f];try rfl
  have F:ss[k]=(ss[k].toNat:Int):=by rcases h8 with h | h | h <;> rw [h] <;> rfl
  by_cases j:tot (ss.take (k+1))<=b.length
  ·have hg:=OA (b.drop (tot (ss.take k))) ss[k] h8 (by rw [Ak];omega) (by rw [Ak];omega);refine⟨by omega,?_⟩;conv=>whnf
   rw [Aa,h9];refine zY hg ?_;conv=>whnf
   have C:(nums (ss.take k) b).length=k:=by rw [nums_len,As];omega
   refine⟨rfl,?_⟩;conv=>whnf
   refine Ad ⟨by rw [Ab];exact C.symm,by omega⟩ ?_;refine⟨k+1,⟨by omega,j⟩,by omega,zE ⟨[],tv,⟨rfl,?_,rfl,rfl,AG (by omega),tv⟩,⟨?_,tv⟩,rfl,rfl,rfl⟩⟩
   ·rw [h5,<-Bc];try rfl
   ·rw [h7,A8];try rfl
  ·have hg:=Z2 (b.drop (tot (ss.take k))) ss[k] h8 (by rw [Ak];omega);refine⟨by omega,?_⟩;conv=>whnf
   rw [Aa,h9];refine zY hg ?_;exact⟨_,ri,rfl⟩
 ·have z:k=ss.length:=by omega
  subst z;rw [Aw] at u;omega
theorem Yn {b:List UInt8} {n m k:Nat} (hn:n=k) (hk:m+k<=b.length) (c:Ctx) (u:Value) (h:Rd (.sl 1 n fun i=> [.v (.int .u8 (b.getD (i+m) 0).toNat)]) c u):Rd (bA ((b.drop m).take k)) c u:=
 zB (by rw [As,Ak];omega) (fun i hi=>by rw [Ac,Ac,BG (by omega),BC,C5]) h
theorem L3 (b:List UInt8) (hl:b.length<=1000000) (hp:F_ b=true):Fn Tryz.prog 372 [bA b] fun r=>r = .tp [bA ((b.drop 1).take (De b)),bA (b.drop (1+De b)),iv 0]:=by
 simp only [F_,decide_eq_true_eq] at hp;have h0:(b.getD 0 0).toNat=De b:=by cases b <;> rfl
 have f:=(b.getD 0 0).toNat_lt;have e1:IntKind.i64.wrap ((b.getD 0 0).toNat:Int)=(De b:Int):=by rw [IntWalk.i64_in _ (by omega),h0]
 have e2:IntKind.i64.wrap (1+(De b:Int))=((1+De b:Nat):Int):=by rw [IntWalk.i64_in _ (by omega)];omega
 refine zR Tryz.func372 rfl ?_;conv=>whnf
 refine A5 (fun h=>?_) (fun h=>?_) <;> conv=>whnf
 ·exfalso;omega
 refine⟨by omega,?_⟩;conv=>whnf
 rw [show Int.toNat 0=0 from rfl,e1,e2];refine A5 (fun h2=>?_) (fun h2=>?_) <;> conv=>whnf
 ·exfalso;omega
 refine⟨by omega,?_⟩;conv=>whnf
 rw [show Int.toNat 0=0 from rfl,e1,e2];apply zP tys_ok mixed (.o [0,1,2,4,5,6,3,7,8,9,10] .fin) [2,3,4,24,25,26,27,28,29,30,31] (by kernel_rfl)
 ·conv=>whnf
  try (refine Ad (by first | omega | exact ixA | exact ixB | (simp;done)) ?_;conv=>whnf)
  try (refine Ad (by first | omega | exact ixA | exact ixB | (simp;done)) ?_;conv=>whnf)
  (refine zV [bA ((b.drop 1).take (De b))] ⟨Yn (by omega) (by omega),tv⟩ ?_;refine zY (BL _ (by rw [As];omega)) ?_)
  conv=>whnf
  (refine zV [bA (b.drop (1+De b))] ⟨AP (by omega),tv⟩ ?_;refine zY (BL _ (by rw [Ak];omega)) ?_)
  exact tA
 exact⟨_,ri,rfl⟩
theorem SV (b:List UInt8) (hp:F_ b=false):Fn Tryz.prog 372 [bA b] fun r=>r = .tp [.v (.slice none 0 0), .v (.slice none 0 0),iv 4]:=by
 simp only [F_,decide_eq_false_iff_not] at hp;have h0:(b.getD 0 0).toNat=De b:=by cases b <;> rfl
 have f:=(b.getD 0 0).toNat_lt;have e1:IntKind.i64.wrap ((b.getD 0 0).toNat:Int)=(De b:Int):=by rw [IntWalk.i64_in _ (by omega),h0]
 have e2:IntKind.i64.wrap (1+(De b:Int))=((1+De b:Nat):Int):=by rw [IntWalk.i64_in _ (by omega)];omega
 refine zR Tryz.func372 rfl ?_;conv=>whnf
 refine A5 (fun h=>?_) (fun h=>?_) <;> conv=>whnf
 ·exact⟨_,ri,rfl⟩
 refine⟨by omega,?_⟩;conv=>whnf
 rw [show Int.toNat 0=0 from rfl,e1,e2];refine A5 (fun h2=>?_) (fun h2=>?_) <;> conv=>whnf
 ·exact⟨_,ri,rfl⟩
 ·exfalso;omega
theorem W8 (a b:List UInt8):Fn Tryz.prog 236 [bA a,bA b] fun r=>r = .v (.bool (decide (a=b))):=by
 refine⟨⟨_,Tryz.func236,rfl,by decide⟩,fun c0 us hd hM _ hr=>?_⟩;obtain⟨u1,u2,rfl,h1,h2⟩:=aL hr;refine(Uy u1 u2 a b c0.w c0.M c0.M (Ir h1) (Ir h2)).mono ?_;rintro e w' ⟨rfl,rfl⟩;exact⟨_,_,rfl,rfl,Below.refl _ _,P3 _⟩
end
section
open Go.Lib
def MU (r:Nat):Bool:=decide (r<32) || decide (r=127)
theorem Hv {l:List UInt8} (h:¬l=[]):(l.drop (decodeL l).2).length<l.length:=by
 have:=decodeL_width l;have:=DP.2 h;rw [Ak];omega
def TG (l:List UInt8):Bool:=if _h:l=[] then true else !MU (decodeL l).1&&TG (l.drop (decodeL l).2)
termination_by l.length
decreasing_by exact Hv _h
def E_ (l:List UInt8):Nat:=if _h:l=[] then 0 else 1+E_ (l.drop (decodeL l).2)
termination_by l.length
decreasing_by exact Hv _h
def Ct (l:List UInt8):Bool:=decide ((decodeL l).1=65533/\(decodeL l).2=1)
def IW (l:List UInt8) (n:Nat):Int:=if _h:l=[] then (if 6<n then 2 else 0) else if Ct l || MU (decodeL l).1 then 3 else IW (l.drop (decodeL l).2) (n+1)
termination_by l.length
decreasing_by exact Hv _h
def EO (l:List UInt8):Int:=if !(TG l&&validD l) then 3 else if 6<E_ l then 2 else 0
theorem okW_nil:TG []=true:=by rw [TG];simp
theorem runesW_nil:E_ []=0:=by rw [E_];simp
theorem LW (l:List UInt8) (h:¬l=[]):TG l=(!MU (decodeL l).1&&TG (l.drop (decodeL l).2)):=by rw [TG,dif_neg h]
theorem HP (l:List UInt8) (h:¬l=[]):E_ l=1+E_ (l.drop (decodeL l).2):=by rw [E_,dif_neg h]
theorem Ya (l:List UInt8) (n:Nat):IW l n=if !(TG l&&validD l) then 3 else if 6<n+E_ l then 2 else 0:=by
 induction l,n using IW.induct with
 | case1 n h=>rw [IW];simp [TG,E_,validD_nil,h]
 | case2 n h=>rw [IW];simp [TG,E_,validD_nil,h]
 | case3 l n h h2=>
  rw [IW,dif_neg h,if_pos h2,LW l h,validD_step l h];simp only [Ct,CK,decide_eq_true_eq] at h2;rcases h2 with h2 | h2
  ·rw [if_pos h2];simp
  ·rw [h2];simp
 | case4 l n h h2 ih=>
  rw [IW,dif_neg h,if_neg h2,ih,LW l h,HP l h,validD_step l h];simp only [Ct,CK,decide_eq_true_eq,not_or,BM] at h2;rw [if_neg h2.1,h2.2,CV];simp
theorem Nz (l:List UInt8):IW l 0=EO l:=by rw [Ya,EO,A0]
theorem Ea (s:ByteArray):s.data.toList.length=s.size:=rfl
theorem Il (s:ByteArray) (p:Nat):Utf8.decode s p=decodeL (s.data.toList.drop p):=by
 rw [decode_N,decodeL_N,Ak];simp only [Ac,BC,CU]
end
section
open Go.RowKit

theorem VF (s:ByteArray) (hv:Fn Tryz.prog 323 [.v (.string s)] fun r=>r = .v (.bool (Lib.validD s.data.toList))):Fn Tryz.prog 258 [.v (.string s)] fun r=>r = .v (.bool (TG s.data.toList&&Lib.validD s.data.toList)):=by
 refine zR Tryz.func258 rfl ?_;conv=>whnf
 refine zM Nat (fun p=>([(0, .v (.string s)),(6, .bp 0 0)], [.iter s p])) (fun p=>TG s.data.toList=TG (s.data.toList.drop p)) (fun p=>s.size - p) 0 rfl ⟨[],tv,tA,tA,rfl,rfl,rfl⟩ ?_;intro p hI;conv=>whnf
 have hd:=Il s p;refine Am (fun hp=>?_) (fun hp=>?_) <;> simp only [decide_eq_true_eq,decide_eq_false_iff_not] at hp <;> conv=>whnf
 ·have i:¬s.data.toList.drop p=[]:=by
   intro e;have:=congrArg List.length e;rw [Ak,Ea] at this;simp at this;omega
  have f:=LW _ i;rw [<-hd] at f;have hw:1<=(Utf8.decode s p).2:=by rw [hd];exact Lib.decodeL_width _
  refine Am (fun h1=>?_) (fun h1=>?_) <;> simp at h1 <;> conv=>whnf
  ·have j:(Utf8.decode s p).1<32:=by omega
   exact⟨_,ri,by rw [hI,f];simp [MU,j]⟩
  refine Am (fun h2=>?_) (fun h2=>?_) <;> simp at h2 <;> conv=>whnf
  ·exact⟨_,ri,by rw [hI,f];simp [MU];omega⟩
  ·refine⟨p+(Utf8.decode s p).2,?_,by omega, [],tv,tA,tA,rfl,rfl,rfl⟩;rw [hI,f,Bc];simp [MU];omega
 ·have h:s.data.toList.drop p=[]:=AC (by rw [Ea];omega);refine zY hv ?_;conv=>whnf
  exact⟨_,ri,by rw [hI,h,okW_nil];try rfl⟩
theorem Vv (s:ByteArray) (hs:s.size<=1000000):Fn Tryz.prog 259 [.v (.string s)] fun r=>r = iv (E_ s.data.toList):=by
 refine zR Tryz.func259 rfl ?_;conv=>whnf
 refine zM (Nat × Nat) (fun q=>([(3,iv q.2),(5, .bp 0 0)], [.iter s q.1])) (fun q=>E_ s.data.toList=q.2+E_ (s.data.toList.drop q.1)/\q.2<=q.1/\q.2<=s.size) (fun q=>s.size - q.1) (0,0) ⟨by simp,Ah _,Aj _⟩ ⟨[],tv,tA,tA,rfl,rfl,rfl⟩ ?_;rintro⟨p,n⟩ ⟨hI,hn,j⟩;conv=>whnf
 have hd:=Il s p;refine Am (fun hp=>?_) (fun hp=>?_) <;> simp only [decide_eq_true_eq,decide_eq_false_iff_not] at hp <;> conv=>whnf
 ·have i:¬s.data.toList.drop p=[]:=by
   intro e;have:=congrArg List.length e;rw [Ak,Ea] at this;simp at this;omega
  have f:=HP _ i;rw [<-hd] at f;have hw:1<=(Utf8.decode s p).2:=by rw [hd];exact Lib.decodeL_width _
  refine⟨(p+(Utf8.decode s p).2,n+1),⟨?_,?_,?_⟩,?_, [],tv,⟨AG ?_,rfl,tv⟩,tA,rfl,rfl,rfl⟩
  ·simp only at hI |-
   rw [hI,f,Bc];omega
  ·simp only at hn |-;omega
  ·simp only at hn |-;omega
  ·simp only;omega
  ·simp only at j;omega
 ·have h:s.data.toList.drop p=[]:=AC (by rw [Ea];omega);exact⟨_,ri,by simp only at hI;rw [hI,h,runesW_nil];try rfl⟩
theorem TL (s:ByteArray) (hs:s.size<=1000000) (hv:Fn Tryz.prog 323 [.v (.string s)] fun r=>r = .v (.bool (Lib.validD s.data.toList))):Fn Tryz.prog 181 [.v (.string s)] fun r=>r = iv (EO s.data.toList):=by
 refine zR Tryz.func181 rfl ?_;conv=>whnf
 refine zY (VF s hv) ?_;conv=>whnf
 refine Am (fun h=>?_) (fun h=>?_) <;> conv=>whnf
 ·exact⟨_,ri,by simp only [EO,h,if_true]⟩
 refine zY (Vv s hs) ?_;conv=>whnf
 refine Am (fun h2=>?_) (fun h2=>?_) <;> simp at h2 <;> conv=>whnf
 ·exact⟨_,ri,by simp only [EO,h];rw [if_neg (by simp),if_pos (by omega)]⟩
 ·exact⟨_,ri,by simp only [EO,h];rw [if_neg (by simp),if_neg (by omega)]⟩
end
end Go.Proofs.YtpjkcgacjjbikaaGreatDoor.A
section
namespace Go.Proofs
open Go.RowKit Go.Shelf Go.Lib

def Tryz.laysValid_ren:Go.Shelf.Ren:=⟨fun | 196=>323 | 259=>374 | n=>n,fun | 9=>9 | 4=>4 | 3=>3 | 5=>5 | 12=>12 | 119=>481 | 0=>0 | 46=>41 | 139=>484 | 138=>483 | 53=>433 | n=>n,fun | 3=>0 | 4=>1 | n=>n⟩
theorem Tryz.laysValid:Go.Proofs.Lays.n196 Tryz.prog Tryz.laysValid_ren where
 mixed:=by kernel_rfl
 f196:=Tryz.func323.trans (congrArg some (by kernel_rfl))
 f259:=Tryz.func374.trans (congrArg some (by kernel_rfl))
 t0:=Tryz.underlying0
 a0:=Tryz.isAgg0
 z0:=Tryz.sizeOf0
 v0:=Tryz.zeroValue0
 t3:=Tryz.underlying3
 a3:=Tryz.isAgg3
 z3:=Tryz.sizeOf3
 v3:=Tryz.zeroValue3
 t4:=Tryz.underlying4
 a4:=Tryz.isAgg4
 z4:=Tryz.sizeOf4
 v4:=Tryz.zeroValue4
 t5:=Tryz.underlying5
 a5:=Tryz.isAgg5
 z5:=Tryz.sizeOf5
 v5:=Tryz.zeroValue5
 t9:=Tryz.underlying9
 a9:=Tryz.isAgg9
 z9:=Tryz.sizeOf9
 v9:=Tryz.zeroValue9
 t12:=Tryz.underlying12
 a12:=Tryz.isAgg12
 z12:=Tryz.sizeOf12
 v12:=Tryz.zeroValue12
 t46:=Tryz.underlying41
 a46:=Tryz.isAgg41
 z46:=Tryz.sizeOf41
 v46:=Tryz.zeroValue41
 t53:=Tryz.underlying433
 a53:=Tryz.isAgg433
 z53:=Tryz.sizeOf433
 v53:=Tryz.zeroValue433
 t119:=Tryz.underlying481
 a119:=Tryz.isAgg481
 z119:=Tryz.sizeOf481
 t138:=Tryz.underlying483
 a138:=Tryz.isAgg483
 z138:=Tryz.sizeOf483
 v138:=Tryz.zeroValue483
 t139:=Tryz.underlying484
 a139:=Tryz.isAgg484
 z139:=Tryz.sizeOf484
 v139:=Tryz.zeroValue484
 g3:=by kernel_rfl
 g4:=by kernel_rfl
end Go.Proofs
namespace Go.Proofs.YtpjkcgacjjbikaaGreatDoor.A
open Go.RowKit

theorem Vc (s:ByteArray) (hs:s.size<=1000000):Fn Tryz.prog 323 [.v (.string s)] fun r=>r = .v (.bool (Lib.validD s.data.toList)):=by
 refine⟨⟨_,Tryz.func323,rfl,by decide⟩,fun c0 us hd hM hg hr=>?_⟩;simp only [RdL,Rd] at hr;obtain⟨u,l,rfl,rfl,rfl⟩:=hr;have hT:Lib.Utf8Tabs (Tryz.laysValid_ren.g 3) (Tryz.laysValid_ren.g 4) c0.w:=hg;refine Calls.mono (show Calls Tryz.prog 323 #[.string s] c0.w _ from Any.utf8_ValidString Tryz.laysValid s c0.w (by omega) hT) ?_;rintro e w' ⟨rfl,hb⟩;exact⟨_,_,rfl,rfl,hb,by simp [Rd]⟩
theorem IT (s:ByteArray) (hs:s.size<=1000000):Fn Tryz.prog 181 [.v (.string s)] fun r=>r = iv (EO s.data.toList):=TL s hs (Vc s hs)
end Go.Proofs.YtpjkcgacjjbikaaGreatDoor.A
end
namespace Go.Proofs.YtpjkcgacjjbikaaGreatDoor.A
section
open Go.RowKit
def JO (a:Nat):Nat:=if 192<=a/\a<224 then 2 else if 224<=a/\a<240 then 3 else if 240<=a/\a<248 then 4 else 0
def rb (k a:Nat):Int:=if k=2 then (a:Int) - 192 else if k=3 then (a:Int) - 224 else if k=4 then (a:Int) - 240 else 0
def lb (k:Nat):Int:=if k=2 then 128 else if k=3 then 2048 else if k=4 then 65536 else 0
def Ni (a0:Int) (l:List UInt8):Nat->Int
 | 0=>a0
 | 1=>a0
 | n+2=>64*Ni a0 l (n+1)+(l.getD (n+1) 0).toNat - 128
def Fj (k:Nat) (r:Int):Prop:=r<lb k\/r > 1114111\/(55296<=r/\r<57344)
def EY (l:List UInt8):Int:=if Ct l then 0 else (Lib.decodeL l).2
def FF (l:List UInt8):Int:=if Ct l then 0 else (Lib.decodeL l).1
theorem QX {l:List UInt8} (h:(l.getD 0 0).toNat<128):EY l=1/\FF l=(l.getD 0 0).toNat:=by
 have e:Lib.decodeL l=((l.getD 0 0).toNat,1):=by rw [Lib.decodeL_N];unfold Lib.decodeN;rw [if_pos h]
 have hi:Ct l=false:=by simp only [Ct,e];rw [decide_eq_false];omega
 simp [EY,FF,hi,e]
theorem Ng {l:List UInt8} (h:128<=(l.getD 0 0).toNat) (hk:JO (l.getD 0 0).toNat=0\/l.length<JO (l.getD 0 0).toNat):EY l=0/\FF l=0:=by
 have e:Lib.decodeL l=(65533,1):=by
  rw [Lib.decodeL_N];unfold JO at hk;unfold Lib.decodeN;generalize (l.getD 0 0).toNat=a at *
  repeat' split
  all_goals first | rfl | (exfalso;split at hk <;> (try split at hk) <;> (try split at hk) <;> omega)
 have hi:Ct l=true:=by simp [Ct,e]
 simp [EY,FF,hi]
theorem Ps {l:List UInt8} {j:Nat} (h:128<=(l.getD 0 0).toNat) (h1:1<=j) (hj:j<JO (l.getD 0 0).toNat) (hb:(l.getD j 0).toNat<128\/192<=(l.getD j 0).toNat):EY l=0/\FF l=0:=by
 have e:Lib.decodeL l=(65533,1):=by
  rw [Lib.decodeL_N];unfold JO at hj;unfold Lib.decodeN;have f:j=1\/j=2\/j=3:=by
   split at hj <;> (try split at hj) <;> (try split at hj) <;> omega
  generalize (l.getD 0 0).toNat=a at *
  rcases f with rfl | rfl | rfl
  all_goals
   repeat' split
   all_goals first | rfl | (exfalso;split at hj <;> (try split at hj) <;> (try split at hj) <;> omega)
 have hi:Ct l=true:=by simp [Ct,e]
 simp [EY,FF,hi]
theorem QW {l:List UInt8} (_h:128<=(l.getD 0 0).toNat) (h0:JO (l.getD 0 0).toNat≠0) (hl:JO (l.getD 0 0).toNat<=l.length) (hb:∀ j,1<=j->j<JO (l.getD 0 0).toNat->128<=(l.getD j 0).toNat/\(l.getD j 0).toNat<192) :
  (Fj (JO (l.getD 0 0).toNat) (Ni (rb (JO (l.getD 0 0).toNat) (l.getD 0 0).toNat) l (JO (l.getD 0 0).toNat))->EY l=0/\FF l=0)/\
  (¬Fj (JO (l.getD 0 0).toNat) (Ni (rb (JO (l.getD 0 0).toNat) (l.getD 0 0).toNat) l (JO (l.getD 0 0).toNat))->EY l=JO (l.getD 0 0).toNat/\FF l=Ni (rb (JO (l.getD 0 0).toNat) (l.getD 0 0).toNat) l (JO (l.getD 0 0).toNat)):=by
 have hd:=Lib.decodeL_N l;generalize (l.getD 0 0).toNat=a at *
 have hk:(192<=a/\a<224/\JO a=2)\/(224<=a/\a<240/\JO a=3)\/(240<=a/\a<248/\JO a=4):=by
  unfold JO at h0 |-
  repeat' split at h0
  all_goals first | (exfalso;omega) | skip
  all_goals (repeat' split) <;> omega
 rcases hk with ⟨q1,q2,e⟩ | ⟨q1,q2,e⟩ | ⟨q1,q2,e⟩
 ·rw [e] at hb hl |-
  have b1:=hb 1 (by omega) (by omega);have er:Ni (rb 2 a) l 2=64*((a:Int) - 192)+(l.getD 1 0).toNat - 128:=rfl;rw [er];generalize hv:64*(a - 192)+(l.getD 1 0).toNat - 128=v at *
  have hN:Lib.decodeL l=if v>=128 then (v,2) else (65533,1):=by
   rw [hd];unfold Lib.decodeN;rw [if_neg (by omega),if_pos (by omega),show a % 32*64+(l.getD 1 0).toNat % 64=v by omega]
  have ev:64*((a:Int) - 192)+(l.getD 1 0).toNat - 128=(v:Int):=by omega
  have f:v<=2047:=by omega
  rw [ev];refine⟨fun hbad=>?_,fun hok=>?_⟩
  ·rw [if_neg (by simp only [Fj,lb] at hbad;simp at hbad;omega)] at hN;simp [EY,FF,Ct,hN]
  ·rw [if_pos (by simp only [Fj,lb] at hok;simp at hok;omega)] at hN;have hi:Ct l=false:=by simp [Ct,hN]
   simp [EY,FF,hi,hN]
 ·rw [e] at hb hl |-
  have b1:=hb 1 (by omega) (by omega);have b2:=hb 2 (by omega) (by omega);have er:Ni (rb 3 a) l 3=64*(64*((a:Int) - 224)+(l.getD 1 0).toNat - 128)+(l.getD 2 0).toNat - 128:=rfl;rw [er];generalize hv:64*(64*(a - 224)+(l.getD 1 0).toNat - 128)+(l.getD 2 0).toNat - 128=v at *
  have hN:Lib.decodeL l=if v>=2048/\(v<55296\/(57344<=v/\v<=1114111)) then (v,3) else (65533,1):=by
   rw [hd];unfold Lib.decodeN;rw [if_neg (by omega),if_neg (by omega),if_pos (by omega),show a % 16*4096+(l.getD 1 0).toNat % 64*64+(l.getD 2 0).toNat % 64=v by omega]
  have ev:64*(64*((a:Int) - 224)+(l.getD 1 0).toNat - 128)+(l.getD 2 0).toNat - 128=(v:Int):=by omega
  rw [ev];refine⟨fun hbad=>?_,fun hok=>?_⟩
  ·rw [if_neg (by simp only [Fj,lb] at hbad;simp at hbad;omega)] at hN;simp [EY,FF,Ct,hN]
  ·rw [if_pos (by simp only [Fj,lb] at hok;simp at hok;omega)] at hN;have hi:Ct l=false:=by simp [Ct,hN]
   simp [EY,FF,hi,hN]
 ·rw [e] at hb hl |-
  have b1:=hb 1 (by omega) (by omega);have b2:=hb 2 (by omega) (by omega);have b3:=hb 3 (by omega) (by omega);have er:Ni (rb 4 a) l 4=64*(64*(64*((a:Int) - 240)+(l.getD 1 0).toNat - 128)+(l.getD 2 0).toNat - 128)+(l.getD 3 0).toNat - 128:=rfl;rw [er];generalize hv:64*(64*(64*(a - 240)+(l.getD 1 0).toNat - 128)+(l.getD 2 0).toNat - 128)+(l.getD 3 0).toNat - 128=v at *
  have hN:Lib.decodeL l=if v>=65536/\(v<55296\/(57344<=v/\v<=1114111)) then (v,4) else (65533,1):=by
   rw [hd];unfold Lib.decodeN;rw [if_neg (by omega),if_neg (by omega),if_neg (by omega),if_pos (by omega),show a % 8*262144+(l.getD 1 0).toNat % 64*4096+(l.getD 2 0).toNat % 64*64+(l.getD 3 0).toNat % 64=v by omega]
  have ev:64*(64*(64*((a:Int) - 240)+(l.getD 1 0).toNat - 128)+(l.getD 2 0).toNat - 128)+(l.getD 3 0).toNat - 128=(v:Int):=by omega
  rw [ev];refine⟨fun hbad=>?_,fun hok=>?_⟩
  ·rw [if_neg (by simp only [Fj,lb] at hbad;simp at hbad;omega)] at hN;simp [EY,FF,Ct,hN]
  ·rw [if_pos (by simp only [Fj,lb] at hok;simp at hok;omega)] at hN;have hi:Ct l=false:=by simp [Ct,hN]
   simp [EY,FF,hi,hN]
theorem YL {k:Nat} (h:k<9223372036854775807):AV.v (.int .i64 (IntKind.i64.wrap ((k:Int)+1))) = iv ((k+1:Nat):Int):=by
 rw [wi (by omega)];try rfl
theorem Vw (s:ByteArray) (h0:0<s.size) (hs:s.size<=9223372036854775807):Fn Tryz.prog 407 [.v (.string s)] fun r=>r = .tp [iv (EY s.data.toList),iv (FF s.data.toList)]:=by
 refine zR Tryz.func407 rfl ?_;refine⟨⟨by omega,by omega⟩,?_⟩;conv=>whnf
 obtain⟨a,ha⟩:∃ a,a=(s.data.toList.getD 0 0).toNat:=⟨_,rfl⟩;have Z:a<256:=by rw [ha];exact UInt8.toNat_lt _
 have hw:IntKind.i64.wrap (((s.data.toList.getD (Int.toNat 0) 0).toNat:Nat):Int)=a:=by rw [show Int.toNat 0=0 from rfl,<-ha];exact wi (by omega)
 refine aSeq.cut Nat (fun k=>([(0, .v (.string s)),(5,iv k),(6,iv (rb k a)),(7,iv (lb k))], [])) (fun k=>k=JO a/\128<=a) ?_ ?_
 ·conv=>whnf
  refine Am (fun h1=>?_) (fun h1=>?_) <;> simp only [hw,decide_eq_true_eq,decide_eq_false_iff_not] at h1 <;> conv=>whnf
  ·obtain⟨e1,e2⟩:=QX (l:=s.data.toList) (by omega);exact⟨_,ri,by rw [e1,e2,hw,ha]⟩
  repeat' (refine Am (fun h=>?_) (fun h=>?_) <;> simp only [hw,decide_eq_true_eq,decide_eq_false_iff_not,ge_iff_le] at h <;> conv=>whnf)
  all_goals first
   | (exfalso;omega)
   | exact⟨2,⟨by unfold JO;rw [if_pos (by omega)],by omega⟩, [],tv,⟨rfl,rfl,by rw [hw];exact congrArg (fun n=>AV.v (.int .i64 n)) (wi (by omega)),rfl,tv⟩,tv,rfl,rfl,rfl⟩
   | exact⟨3,⟨by unfold JO;rw [if_neg (by omega),if_pos (by omega)],by omega⟩, [],tv,⟨rfl,rfl,by rw [hw];exact congrArg (fun n=>AV.v (.int .i64 n)) (wi (by omega)),rfl,tv⟩,tv,rfl,rfl,rfl⟩
   | exact⟨4,⟨by unfold JO;rw [if_neg (by omega),if_neg (by omega),if_pos (by omega)],by omega⟩, [],tv,⟨rfl,rfl,by rw [hw];exact congrArg (fun n=>AV.v (.int .i64 n)) (wi (by omega)),rfl,tv⟩,tv,rfl,rfl,rfl⟩
   | exact⟨0,⟨by unfold JO;rw [if_neg (by omega),if_neg (by omega),if_neg (by omega)],by omega⟩, [],tv,tA,tv,rfl,rfl,rfl⟩
 ·rintro k ⟨hk,hc⟩;obtain⟨l,hl⟩:∃ l,l=s.data.toList:=⟨_,rfl⟩;have U:l.length=s.size:=by rw [hl,Ea]
  rw [<-hl] at ha |-
  have f:128<=(l.getD 0 0).toNat:=by omega
  have L:k=JO (l.getD 0 0).toNat:=by rw [hk,ha]
  have V:k<=4:=by rw [hk];unfold JO;(repeat' split) <;> omega
  conv=>whnf
  refine Am (fun h1=>?_) (fun h1=>?_) <;> simp at h1 <;> conv=>whnf
  ·obtain⟨e1,e2⟩:=Ng f (.inl (by omega));exact⟨_,ri,by rw [e1,e2]⟩
  refine Am (fun h2=>?_) (fun h2=>?_) <;> simp only [decide_eq_true_eq,decide_eq_false_iff_not] at h2 <;> conv=>whnf
  ·obtain⟨e1,e2⟩:=Ng f (.inr (by omega));exact⟨_,ri,by rw [e1,e2]⟩
  have C:0<=rb k a/\rb k a<=31:=by
   rw [hk];unfold rb JO;repeat' split
   all_goals omega
  refine zM Nat (fun i=>([(0, .v (.string s)),(5,iv k),(6,iv (Ni (rb k a) l i)),(7,iv (lb k)),(8,iv i)], [])) (fun i=>1<=i/\i<=k/\0<=Ni (rb k a) l i/\(i=1->Ni (rb k a) l i<=31)/\(i=2->Ni (rb k a) l i<=2047)/\(i=3->Ni (rb k a) l i<=131071)/\(i=4->Ni (rb k a) l i<=8388607)/\∀ j,1<=j->j<i->128<=(l.getD j 0).toNat/\(l.getD j 0).toNat<192) (fun i=>k - i) 1 ⟨Ah _,by omega,C.1,fun _=>C.2,by omega,by omega,by omega,by omega⟩ ⟨[],tv,tA,tv,rfl,rfl,rfl⟩ ?_;rintro i ⟨J,W,O,I,G,F,N,hI⟩;conv=>whnf
  refine Am (fun h3=>?_) (fun h3=>?_) <;> simp only [decide_eq_true_eq,decide_eq_false_iff_not] at h3 <;> conv=>whnf
  ·refine⟨⟨by omega,by omega⟩,?_⟩;conv=>whnf
   obtain⟨b,hb⟩:∃ b,b=(l.getD i 0).toNat:=⟨_,rfl⟩;have X:b<256:=by rw [hb];exact UInt8.toNat_lt _
   have z:IntKind.i64.wrap (((s.data.toList.getD (Int.toNat (i:Int)) 0).toNat:Nat):Int)=b:=by rw [Aa,<-hl,<-hb];exact wi (by omega)
   refine Am (fun h4=>?_) (fun h4=>?_) <;> simp only [z,decide_eq_true_eq,decide_eq_false_iff_not] at h4 <;> conv=>whnf
   ·obtain⟨e1,e2⟩:=Ps (j:=i) f J (by omega) (.inl (by omega));exact⟨_,ri,by rw [e1,e2]⟩
   refine Am (fun h5=>?_) (fun h5=>?_) <;> simp only [z,decide_eq_true_eq,decide_eq_false_iff_not] at h5 <;> conv=>whnf
   ·obtain⟨e1,e2⟩:=Ps (j:=i) f J (by omega) (.inr (by omega));exact⟨_,ri,by rw [e1,e2]⟩
   have K:Ni (rb k a) l (i+1)=64*Ni (rb k a) l i+b - 128:=by
    obtain⟨m,rfl⟩:∃ m,i=m+1:=⟨i - 1,by omega⟩;rw [hb];try rfl
   have hR:Ni (rb k a) l i<=131071:=by
    rcases(show i=1\/i=2\/i=3 by omega) with e | e | e
    ·have:=I e;omega
    ·have:=G e;omega
    ·exact F e
   refine⟨i+1,⟨by omega,by omega,by omega,by omega,fun e=>?_,fun e=>?_,fun e=>?_,fun j h1 h2=>?_⟩,by omega, [],tv,⟨rfl,rfl,?_,rfl,AG (by omega),tv⟩,tv,rfl,rfl,rfl⟩
   ·have:=I (by omega);omega
   ·have:=G (by omega);omega
   ·have:=F (by omega);omega
   ·rcases Cd j i with h | h
    ·exact hI j h1 h
    ·obtain rfl:j=i:=by omega
     rw [<-hb];omega
   ·rw [z,K,wi (n:=64*Ni (rb k a) l i) (by omega),wi (n:=64*Ni (rb k a) l i+b) (by omega),wi (n:=64*Ni (rb k a) l i+b - 128) (by omega)];try rfl
  ·obtain rfl:i=k:=by omega
   have hW:=QW f (by omega) (by omega) (fun j h1 h2=>hI j h1 (by omega));rw [<-L,<-ha] at hW;by_cases u:Fj i (Ni (rb i a) l i)
   ·obtain⟨e1,e2⟩:=hW.1 u;unfold Fj at u;repeat' (refine Am (fun h=>?_) (fun h=>?_) <;> simp only [decide_eq_true_eq,decide_eq_false_iff_not,ge_iff_le,gt_iff_lt] at h <;> conv=>whnf)
    all_goals first | (exfalso;omega) | exact⟨_,ri,by rw [e1,e2]⟩
   ·obtain⟨e1,e2⟩:=hW.2 u;unfold Fj at u;repeat' (refine Am (fun h=>?_) (fun h=>?_) <;> simp only [decide_eq_true_eq,decide_eq_false_iff_not,ge_iff_le,gt_iff_lt] at h <;> conv=>whnf)
    all_goals first | (exfalso;omega) | exact⟨_,ri,by rw [e1,e2]⟩
theorem Nj (s:ByteArray) (hs:s.size<=9223372036854775807):Fn Tryz.prog 395 [.v (.string s)] fun r=>r = iv (EO s.data.toList):=by
 refine zR Tryz.func395 rfl ?_;conv=>whnf
 refine zM (Nat × Nat) (fun q=>([(0, .v (.string s)),(3,iv q.2),(4,iv q.1)], [])) (fun q=>EO s.data.toList=IW (s.data.toList.drop q.1) q.2/\q.1<=s.size/\q.2<=q.1) (fun q=>s.size - q.1) (0,0) ⟨by rw [<-Nz];try rfl,Aj _,Ah _⟩ ⟨[],tv,tA,tv,rfl,rfl,rfl⟩ ?_;rintro⟨p,n⟩ ⟨hI,hp,hn⟩;simp only at hI hp hn;conv=>whnf
 refine Am (fun h1=>?_) (fun h1=>?_) <;> simp only [decide_eq_true_eq,decide_eq_false_iff_not] at h1 <;> conv=>whnf
 ·refine⟨⟨by simp only;omega,by simp only;omega,by omega⟩,?_⟩;conv=>whnf
  have hx:(s.extract p s.size).data.toList=s.data.toList.drop p:=Lib.extract_to_end s p;have u:(s.extract p s.size).size=s.size - p:=by rw [<-Ea,hx,Ak,Ea]
  have hr:=Vw (s.extract p s.size) (by omega) (by omega);rw [hx] at hr;refine zY hr ?_;conv=>whnf
  have i:¬s.data.toList.drop p=[]:=by
   intro e;have:=congrArg List.length e;rw [Ak,Ea] at this;simp at this;omega
  have f:IW (s.data.toList.drop p) n=if Ct (s.data.toList.drop p) || MU (Lib.decodeL (s.data.toList.drop p)).1 then 3 else IW ((s.data.toList.drop p).drop (Lib.decodeL (s.data.toList.drop p)).2) (n+1):=by rw [IW,dif_neg i]
  have hw:=Lib.decodeL_width (s.data.toList.drop p);obtain⟨D,hD⟩:∃ D,D=s.data.toList.drop p:=⟨_,rfl⟩;rw [<-hD] at f hw hI |-
  have z:(Lib.decodeL D).2<=D.length:=by
   have j:0<D.length:=by rw [hD,Ak,Ea];omega
   rw [Lib.decodeL_N];unfold Lib.decodeN;repeat' split
   all_goals (simp only;omega)
  cases h:Ct D with
  | true=>
   have e1:EY D=0:=by simp [EY,h]
   rw [h,Bool.true_or,if_pos rfl] at f;refine Am (fun h2=>?_) (fun h2=>?_) <;> conv=>whnf
   ·exact⟨_,ri,by rw [hI,f]⟩
   ·exfalso;rw [e1] at h2;simp at h2
  | false=>
   have e1:EY D=(Lib.decodeL D).2:=by simp [EY,h]
   have e2:FF D=(Lib.decodeL D).1:=by simp [FF,h]
   rw [h,Bool.false_or] at f;refine Am (fun h2=>?_) (fun h2=>?_) <;> conv=>whnf
   ·exfalso;rw [e1] at h2;simp at h2;omega
   refine Am (fun h3=>?_) (fun h3=>?_) <;> simp only [e2,decide_eq_true_eq,decide_eq_false_iff_not] at h3 <;> conv=>whnf
   ·exact⟨_,ri,by rw [hI,f,if_pos (by simp [MU];omega)]⟩
   refine Am (fun h4=>?_) (fun h4=>?_) <;> simp only [e2,beq_iff_eq,beq_eq_false_iff_ne] at h4 <;> conv=>whnf
   ·exact⟨_,ri,by rw [hI,f,if_pos (by simp [MU];omega)]⟩
   ·rw [if_neg (by simp [MU];omega)] at f;have C:D.length=s.size - p:=by rw [hD,Ak,Ea]
    refine⟨(p+(Lib.decodeL D).2,n+1),⟨?_,?_,?_⟩,?_, [],tv,⟨rfl,YL ?_,?_,tv⟩,tv,rfl,rfl,rfl⟩
    ·simp only;rw [hI,f,hD,Bc]
    ·simp only;omega
    ·simp only;omega
    ·simp only;omega
    ·simp only;omega
    ·rw [e1];exact congrArg (fun n=>AV.v (.int .i64 n)) (wi (by simp only;omega))
 ·refine Am (fun h2=>?_) (fun h2=>?_) <;> simp at h2 <;> conv=>whnf
  ·exact⟨_,ri,by rw [hI,AC (by rw [Ea];omega),IW];simp;omega⟩
  ·exact⟨_,ri,by rw [hI,AC (by rw [Ea];omega),IW];simp;omega⟩
end
end Go.Proofs.YtpjkcgacjjbikaaGreatDoor.A
