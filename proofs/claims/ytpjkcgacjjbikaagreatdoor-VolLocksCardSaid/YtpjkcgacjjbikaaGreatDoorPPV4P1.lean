/-
Several texts in one.
-/
import Derived.Test.YtpjkcgacjjbikaaGreatDoorPPV4P0
import Derived.Test.YtpjkcgacjjbikaaGreatDoorProg
import Derived.Deep.DeepMust
import Derived.Lib.AppendZeros
import Derived.Deep.LoopGhost
import Derived.Laws.BitsLemmas
import Derived.Shelf.Abstract
import Derived.Laws.BytesArg
import Derived.Lib.Strings
import Derived.Lib.Slices
import Derived.Lib.Walk
import Derived.Lib.Bytes
import Derived.Laws.MakeOwn
import Derived.Deep.DeepCutAuto
import Derived.Laws.BitsAllLaws
import Derived.Lib.ValidLaws
import Derived.Lib.TrimUEq
import Derived.Ground.NamesProg
import Derived.Shelf.Unicode.ValidAny
import Derived.Lib.IndexBytes
set_option linter.defProp false
set_option maxRecDepth 100000
set_option maxHeartbeats 8000000
set_option linter.unusedSimpArgs false
set_option linter.unusedVariables false
set_option linter.deprecated false
namespace Go.Proofs.YtpjkcgacjjbikaaGreatDoor
section

section
variable {P:Program} {ops:Array Oper} {Q:Exit->Act->World->Prop} {D:List Nat} {S:World->Prop}

def HeldP (P:Program) (ops:Array Oper) (Q:Exit->Act->World->Prop) (D:List Nat) (S:World->Prop):Nat->Array Bool->Act->World->Prop
 | 0,l,a,w=>Region.ready .any ops l=[]/\Q .normal a w
 | n+1,l,a,w=>(Region.ready .any ops l=[]->Q .normal a w)/\
   ∀ i∈Region.ready .any ops l,wpOp P ops Q i (fun a' w'=>(Oh ops D i=true->S w->S w')/\HeldP P ops Q D S n (l.setIfInBounds i true) a' w') a w

theorem HeldP.any:∀ (n:Nat) (l:Array Bool) (a:Act) (w:World),HeldP P ops Q D S n l a w->wpAny P .any ops Q n l a w
 | 0,_,_,_,h=>h
 | n+1,_,_,_,h=>⟨h.1,fun i hi=>wpOp_mono (fun a' w' h'=>HeldP.any n _ a' w' h'.2) (h.2 i hi)⟩

theorem HeldP.first {S':World->Prop} {i:Nat} {oi:Oper} {v:Value} (hi:ops[i]? = some oi)
  (hD:∀ (j:Nat) (oj:Oper) (w w':World),ops[j]? = some oj->j≠i->(∀ e∈oj.after,Region.binds .any e=true->e.on≠i)->(Oh ops D j=true->S w->S w')->S' w->S' w')
  (hsel:∀ (j:Nat) (o:Oper) cs b,ops[j]? = some o->o.op≠ .select cs b)
  (hQ:∀ c a w,Q (.panic c) (a.put oi.dst v) w->Q (.panic c) a w):∀ (n:Nat) (l:Array Bool) (a:Act) (w:World),
   (∀ j oj,ops[j]? = some oj->j≠i->l.getD j true=false->(∀ e∈oj.after,Region.binds .any e=true->e.on≠i)->oi.apart ops oj=true)->
   i∈Region.ready .any ops l->YieldsIf P ops S' oi v a->S' w->HeldP P ops Q D S n (l.setIfInBounds i true) (a.put oi.dst v) w->HeldP P ops Q D S (n+1) l a w:=by
 intro n;induction n with
 | zero=>
  intro l a w _ hr hy hS H;refine⟨fun h=>(by rw [h] at hr;cases hr),fun j hj=>?_⟩;by_cases hji:j=i
  ·subst hji;exact hy.wpOp hi hS ⟨fun _ h=>h,H⟩
  ·have h1:=ready_mono hj hji;rw [H.1] at h1;cases h1
 | succ n ih=>
  intro l a w hfree hr hy hS H;refine⟨fun h=>(by rw [h] at hr;cases hr),fun j hj=>?_⟩;by_cases hji:j=i
  ·subst hji;exact hy.wpOp hi hS ⟨fun _ h=>h,H⟩
  have h1:=H.2 j (ready_mono hj hji);obtain⟨hjun,oj,hoj,hall⟩:=mem_ready.1 hj;have hnot:∀ e∈oj.after,Region.binds .any e=true->e.on≠i:=fun e he hb heq=>by
   have h2:=hall e he hb;have h3:=(mem_ready.1 hr).1;rw [heq] at h2;rcases BT i l.size with h' | h'
   ·simp [h'] at h2 h3;rw [h3] at h2;cases h2
   ·simp [B4 h'] at h2
  have h2:=wpOp_putIf hoj (hfree j oj hoj hji hjun hnot) (fun cs b=>hsel i oi cs b hi) (fun cs b=>hsel j oj cs b hoj) hQ hy h1;refine wpOp_mono (fun a' w' h3=>⟨h3.2.1,ih (l.setIfInBounds j true) a' w' (fun k ok hk hki hun hno=>?_) (ready_mono hr (Ne.symm hji)) h3.1 (hD j oj w w' hoj hji hnot h3.2.1 hS) ?_⟩) h2
  ·refine hfree k ok hk hki ?_ hno;by_cases hjk:j=k
   ·subst hjk;exact hjun
   ·rw [getD_set_ne true hjk] at hun;exact hun
  ·rw [Array.setIfInBounds_comm _ _ hji];exact h3.2.2

theorem Pq (D:List Nat) (S:World->Prop) {id:Nat} {a:Act} {w:World} (hm:P.follows .mixedOrders=true)
  (h:HeldP P ops Q D S ops.size (Array.replicate ops.size false) a w.drew):(Code.region id ops true).wp P Q a w:=
 wp_region_any hm (HeldP.any _ _ _ _ h)
theorem De (i:Nat) {oi:Oper} {v:Value} {n:Nat} {l:Array Bool} {a:Act} {w:World} (hi:ops[i]? = some oi)
  (hs:(Region.noSelect ops&&Region.free .any ops l i&&(Region.ready .any ops l).contains i)=true)
  (hQ:∀ c a w,Q (.panic c) (a.put oi.dst v) w->Q (.panic c) a w) (hw:Region.wanted oi (yielded ops a.tmps)=true)
  (hy:∀ w,(execOp a.eval oi).run P w = .ok (.value v) w) {a':Act} (ha:a.put oi.dst v=a')
  (h:HeldP P ops Q D S n (l.setIfInBounds i true) a' w):HeldP P ops Q D S (n+1) l a w:=by
 subst ha;simp only [Ad] at hs;exact HeldP.first (S':=fun _=>True) hi (fun _ _ _ _ _ _ _ _ _=>trivial) (Region.noSelect_spec hs.1.1) hQ n l a w (Region.free_spec hi hs.1.2) (by simpa using hs.2) (.inl ⟨hw,fun w _=>hy w⟩) trivial h
theorem R_ (i:Nat) {o:Oper} {n:Nat} {l:Array Bool} {a:Act} {w:World} (hr:Region.ready .any ops l=[i]) (ho:ops[i]? = some o)
  (h:∀ K:Act->World->Prop,(∀ a w',(Oh ops D i=true->S w->S w')/\HeldP P ops Q D S n (l.setIfInBounds i true) a w'->K a w')->
   if Region.wanted o (yielded ops a.tmps)=true then Oper.wp P o a w K Q else K (a.put o.dst undef) w):HeldP P ops Q D S (n+1) l a w:=
 ⟨fun h0=>(by rw [h0] at hr;cases hr),fun j hj=>by
  rw [hr,Ay] at hj;subst hj;exact wpOp_step ho fun K hK=>h K hK⟩
theorem Sa {l:Array Bool} {a:Act} {w:World} {n:Nat} (hr:Region.ready .any ops l=[]) (h:Q .normal a w):HeldP P ops Q D S n l a w:=by
 cases n with
 | zero=>exact⟨hr,h⟩
 | succ n=>exact⟨fun _=>h,by rw [hr];simp⟩
end
end
end Go.Proofs.YtpjkcgacjjbikaaGreatDoor
namespace Go.Proofs.YtpjkcgacjjbikaaGreatDoor.A
section
open Go.RowKit

def ay (B:List Nat) (l:List Edge):Nat:=l.foldl (fun s e=>s ||| (match Region.binds .any e with | true=>2 ^ e.on ||| B.getD e.on 0 | false=>0)) 0
def Kk (ops:Array Oper):List Nat:=ops.toList.foldl (fun B o=>B ++ [ay B o.after.toList]) []
def FN (ops:Array Oper) (B:List Nat):Bool:=
 (List.range ops.size).all fun j=>match ops[j]? with
  | none=>true
  | some o=>o.after.toList.all (fun e=>!Region.binds .any e || Nat.blt e.on j)&&Nat.beq (B.getD j 0) (ay B o.after.toList)
def PE (ops:Array Oper) (B:List Nat) (j:Nat):Bool:=
 (List.range ops.size).any fun i=>!(((ops[i]?).map fun o=>isEff o.op || pureOp o.op).getD true)&&i != j&&!(B.getD j 0).testBit i&&!(B.getD i 0).testBit j
theorem Sg {B:List Nat} {i:Nat}:∀ (l:List Edge) (s:Nat),(l.foldl (fun s e=>s ||| (match Region.binds .any e with | true=>2 ^ e.on ||| B.getD e.on 0 | false=>0)) s).testBit i=true->
  s.testBit i=true\/∃ e∈l,Region.binds .any e=true/\(e.on=i\/(B.getD e.on 0).testBit i=true)
 | [],s,h=> .inl h
 | e::l,s,h=>by
  rw [List.foldl_cons] at h;rcases Sg l _ h with h | ⟨x,hx,h1,h2⟩
  ·rw [Nat.testBit_or,Bool.or_eq_true] at h;rcases h with h | h
   ·exact .inl h
   ·cases hb:Region.binds .any e with
    | false=>rw [hb] at h;simp at h
    | true=>
     rw [hb] at h;simp only [Nat.testBit_or,Bool.or_eq_true,Nat.testBit_two_pow,decide_eq_true_eq] at h;exact .inr ⟨e,by simp,hb,h⟩
  ·exact .inr ⟨x,by simp [hx],h1,h2⟩

section
variable {P:Program} {ops:Array Oper} {B:List Nat} {Q:Exit->Act->World->Prop}
def Cl (ops:Array Oper) (l:Array Bool):Prop:=∀ j o,ops[j]? = some o->l.getD j false=true->∀ e∈o.after,Region.binds .any e=true->l.getD e.on false=true
theorem ZP (hB:FN ops B=true) {l:Array Bool} (hl:Cl ops l):∀ (j:Nat) (o:Oper),ops[j]? = some o->(∀ e∈o.after,Region.binds .any e=true->l.getD e.on false=true)->∀ i,(B.getD j 0).testBit i=true->l.getD i false=true:=by
 intro j;induction j using Nat.strongRecOn with
 | _ j ih=>
  intro o ho hall i hi;have h1:=Av.1 hB j (AJ.2 (Aw.1 ho).1);rw [ho] at h1;simp only [Ad] at h1;obtain⟨h2,h3⟩:=h1;rw [Am h3] at hi;rcases Sg _ _ hi with h | ⟨e,he,hb,h⟩
  ·simp at h
  ·have he':e∈o.after:=by simpa using he
   have hl1:=hall e he' hb;rcases h with rfl | h
   ·exact hl1
   ·have hlt:=Av.1 h2 e he;simp only [hb,Bool.not_true,Bool.false_or] at hlt;have hlt:e.on<j:=by simpa using hlt
    have hsz:e.on<ops.size:=Nat.lt_trans hlt (Aw.1 ho).1;exact ih e.on hlt ops[e.on] (Ce hsz) (fun e' he2 hb2=>hl e.on _ (Ce hsz) hl1 e' he2 hb2) i h
theorem Cl.set {l:Array Bool} (hl:Cl ops l) {j:Nat} (hj:j∈Region.ready .any ops l):Cl ops (l.setIfInBounds j true):=by
 obtain⟨hjun,oj,hoj,hall⟩:=mem_ready.1 hj;intro k o hk hlk e he hb;refine getD_set_true ?_;by_cases hkj:k=j
 ·subst hkj;rw [hoj] at hk;cases hk;exact hall e he hb
 ·rw [getD_set_ne false (Ne.symm hkj)] at hlk;exact hl k o hk hlk e he hb
def HeldR (P:Program) (ops:Array Oper) (B:List Nat) (Q:Exit->Act->World->Prop):Nat->Array Bool->Act->World->Prop
 | 0,l,a,w=>Region.ready .any ops l=[]/\Q .normal a w
 | n+1,l,a,w=>(Region.ready .any ops l=[]->Q .normal a w)/\
   ∀ i∈Region.ready .any ops l,wpOp P ops Q i (fun a' w'=>(PE ops B i=true->Old w w')/\HeldR P ops B Q n (l.setIfInBounds i true) a' w') a w
theorem HeldR.any:∀ (n:Nat) (l:Array Bool) (a:Act) (w:World),HeldR P ops B Q n l a w->wpAny P .any ops Q n l a w
 | 0,_,_,_,h=>h
 | n+1,_,_,_,h=>⟨h.1,fun i hi=>wpOp_mono (fun a' w' h'=>HeldR.any n _ a' w' h'.2) (h.2 i hi)⟩
theorem HeldR.first (hB:FN ops B=true) {i:Nat} {oi:Oper} {v:Value} (hi:ops[i]? = some oi) (hdet:isEff oi.op=false)
  (hsel:∀ (j:Nat) (o:Oper) cs b,ops[j]? = some o->o.op≠ .select cs b)
  (hQ:∀ c a w,Q (.panic c) (a.put oi.dst v) w->Q (.panic c) a w) {S:World->Prop} (hk:∀ w w',S w->(pureOp oi.op=false->Old w w')->S w'):∀ (n:Nat) (l:Array Bool) (a:Act) (w:World),Cl ops l->
   (∀ j oj,ops[j]? = some oj->j≠i->l.getD j true=false->(∀ e∈oj.after,Region.binds .any e=true->e.on≠i)->oi.apart ops oj=true)->
   i∈Region.ready .any ops l->YieldsIf P ops S oi v a->S w->HeldR P ops B Q n (l.setIfInBounds i true) (a.put oi.dst v) w->HeldR P ops B Q (n+1) l a w:=by
 intro n;induction n with
 | zero=>
  intro l a w _ _ hr hy hS H;refine⟨fun h=>(by rw [h] at hr;cases hr),fun j hj=>?_⟩;by_cases hji:j=i
  ·subst hji;exact hy.wpOp hi hS ⟨fun _=>zy _,H⟩
  ·have h1:=ready_mono hj hji;rw [H.1] at h1;cases h1
 | succ n ih=>
  intro l a w hcl hfree hr hy hS H;refine⟨fun h=>(by rw [h] at hr;cases hr),fun j hj=>?_⟩;by_cases hji:j=i
  ·subst hji;exact hy.wpOp hi hS ⟨fun _=>zy _,H⟩
  have h1:=H.2 j (ready_mono hj hji);obtain⟨hjun,oj,hoj,hall⟩:=mem_ready.1 hj;obtain⟨hiun,oi',hoi',halli⟩:=mem_ready.1 hr;rw [hi] at hoi';cases hoi';have unl:∀ k,l.getD k true=false->l.getD k false=true->False:=by
   intro k h1 h2;rcases BT k l.size with h' | h'
   ·simp [h'] at h1 h2;rw [h1] at h2;cases h2
   ·simp [B4 h'] at h2
  have hnot:∀ e∈oj.after,Region.binds .any e=true->e.on≠i:=fun e he hb heq=>unl i hiun (heq ▸ hall e he hb)
  have hmay:pureOp oi.op=false->PE ops B j=true:=by
   intro hpu;refine CT.2 ⟨i,AJ.2 (Aw.1 hi).1,?_⟩;have hne:(i != j)=true:=by rw [bne_iff_ne];exact fun h=>hji h.symm
   have b1:(B.getD j 0).testBit i=false:=by
    rw [<-CU];exact fun h=>unl i hiun (ZP hB hcl j oj hoj hall i h)
   have b2:(B.getD i 0).testBit j=false:=by
    rw [<-CU];exact fun h=>unl j hjun (ZP hB hcl i oi hi halli j h)
   simp only [hi,Option.map_some,BO,hdet,hpu,hne,b1,b2,Bool.or_false,Bool.not_false,B6]
  have h2:=wpOp_putIf hoj (hfree j oj hoj hji hjun hnot) (fun cs b=>hsel i oi cs b hi) (fun cs b=>hsel j oj cs b hoj) hQ hy h1;refine wpOp_mono (fun a' w' h3=>⟨h3.2.1,ih (l.setIfInBounds j true) a' w' (hcl.set hj) (fun k ok hk hki hun hno=>?_) (ready_mono hr (Ne.symm hji)) h3.1 (hk _ _ hS fun hp=>h3.2.1 (hmay hp)) ?_⟩) h2
  ·refine hfree k ok hk hki ?_ hno;by_cases hjk:j=k
   ·subst hjk;exact hjun
   ·rw [getD_set_ne true hjk] at hun;exact hun
  ·rw [Array.setIfInBounds_comm _ _ hji];exact h3.2.2

theorem HeldR.first1 (hB:FN ops B=true) {i:Nat} {oi:Oper} {v:Value} (hi:ops[i]? = some oi) (hdet:isEff oi.op=false)
  (hsel:∀ (j:Nat) (o:Oper) cs b,ops[j]? = some o->o.op≠ .select cs b)
  (hQ:∀ c a w,Q (.panic c) (a.put oi.dst v) w->Q (.panic c) a w) (n:Nat) (l:Array Bool) (a:Act) (w:World) (hcl:Cl ops l)
  (hfree:∀ j oj,ops[j]? = some oj->j≠i->l.getD j true=false->(∀ e∈oj.after,Region.binds .any e=true->e.on≠i)->oi.apart ops oj=true)
  (hr:i∈Region.ready .any ops l) (hy:YieldsIf P ops (fun w'=>pureOp oi.op=true\/Old w w') oi v a) (H:HeldR P ops B Q n (l.setIfInBounds i true) (a.put oi.dst v) w):HeldR P ops B Q (n+1) l a w:=by
 refine HeldR.first hB hi hdet hsel hQ (S:=fun w'=>pureOp oi.op=true\/Old w w') (fun _ _ h1 h2=>?_) n l a w hcl hfree hr hy (.inr (zy w)) H;rcases h1 with h1 | h1
 ·exact .inl h1
 ·cases hp:pureOp oi.op with
  | true=>exact .inl rfl
  | false=>exact .inr (h1.trans (h2 hp))

def qOf:Op->Bool
 | .store _ _ _=>false
 | .call ⟨.builtin .append,_,_⟩=>false
 | _=>true
def Mv (ops:Array Oper) (B:List Nat):List Nat->Array Bool->Bool
 | [],l=>(Region.ready .any ops l).isEmpty
 | i::r,l=>(match ops[i]? with
   | none=>false
   | some o=>match isEff o.op with
    | true=>(match Region.ready .any ops l with | [j]=>Nat.beq i j | _=>false)&&(qOf o.op || !PE ops B i)
    | false=>Region.free .any ops l i&&(Region.ready .any ops l).contains i)&&Mv ops B r (l.setIfInBounds i true)
def Rg (P:Program) (T:Tys) (n:Nat) (ops:Array Oper):List Nat->Fr->List AB->(Fr->List AB->Prop)->Prop
 | [],fr,H,K=>K fr H
 | i::r,fr,H,K=>match IJ ops.toList i with
  | none=>False
  | some o=>IN ops.toList o fr (fun fr=>Hf P T n (qOf o.op) o fr H fun fr H=>Rg P T n ops r fr H K) fun fr=>NV n o.dst (.v undef) fr fun fr=>Rg P T n ops r fr H K
variable {T:Tys} {w0:Fl} {M0:Ms} {n d0:Nat} {ce:Ctx}
theorem Dn {c:Ctx} {fr:Fr} {a:Act} (hf:FR w0 c n fr a) {o:Oper} {run skip:Fr->Prop} (h:IN ops.toList o fr run skip) :
  (Region.wanted o (yielded ops a.tmps)=true/\∃ fr',FR w0 c n fr' a/\run fr')\/(Region.wanted o (yielded ops a.tmps)=false/\∃ fr',FR w0 c n fr' a/\skip fr'):=by
 unfold IN at h;split at h
 ·rename_i hg;exact .inl ⟨by simp [Region.wanted,hg],fr,hf,h⟩
 ·rename_i j want hg;rw [DN] at h;split at h
  ·rename_i oj hj;have hj':ops[j]? = some oj:=by simpa using hj
   split at h
   ·rename_i d hd;have hgd:=hf.get d;split at h
    ·rename_i t ht;rw [ht] at hgd;simp only [Rd] at hgd;have hy:yielded ops a.tmps j=some t:=by
      unfold yielded;simp only [hj',Option.bind_some,hd];have:a.tmps[d]? = some (.bool t):=by
       rw [AH] at hgd;cases hq:a.tmps[d]? with
       | none=>rw [hq] at hgd;simp [undef] at hgd
       | some x=>rw [hq] at hgd;simp at hgd;rw [hgd]
      rw [this]
     have hl:=hf.lit ht;split at h
     ·obtain⟨h1,h2⟩:=E0 h;cases t with
      | true=>exact .inl ⟨by simp [Region.wanted,hg,hy],_,hl,h1 rfl⟩
      | false=>exact .inr ⟨by simp [Region.wanted,hg,hy],_,hl,h2 rfl⟩
     ·obtain⟨h1,h2⟩:=E0 h;cases t with
      | true=>exact .inr ⟨by simp [Region.wanted,hg,hy],_,hl,h1 rfl⟩
      | false=>exact .inl ⟨by simp [Region.wanted,hg,hy],_,hl,h2 rfl⟩
    ·rename_i vs ht;rw [ht] at hgd;simp only [Rd] at hgd;have hy:yielded ops a.tmps j=none:=by
      unfold yielded;simp only [hj',Option.bind_some,hd];rw [AH] at hgd;cases hq:a.tmps[d]? with
      | none=>rfl
      | some x=>rw [hq] at hgd;simp at hgd;rw [hgd]
     exact .inr ⟨by simp [Region.wanted,hg,hy],fr,hf,h⟩
    ·exact h.elim
   ·exact h.elim
  ·exact h.elim
theorem G5 (hT:TOk P T) (hB:FN ops B=true) (hns:Region.noSelect ops=true) {K:Fr->List AB->Prop} (hq:∀ a w,DP w0 M0 ce n K a w->Q .normal a w) (hpan:∀ c a w,¬Q (.panic c) a w) :
  ∀ (r:List Nat) (m:Nat) (l:Array Bool) (c:Ctx) (fr:Fr) (H:List AB) (a:Act),r.length<=m->Cl ops l->Mv ops B r l=true->HS w0 M0 c H->FR w0 c n fr a->Ext ce c->Rg P T n ops r fr H K->HeldR P ops B Q m l a c.w
 | [],m,l,c,fr,H,a,hm,hcl,hd,hs,hf,he,h=>by
  simp only [Mv,List.isEmpty_iff] at hd;cases m with
  | zero=>exact⟨hd,hq _ _ ⟨c,fr,H,rfl,h,hs,hf,he⟩⟩
  | succ m=>exact⟨fun _=>hq _ _ ⟨c,fr,H,rfl,h,hs,hf,he⟩,by rw [hd];simp⟩
 | i::r,m,l,c,fr,H,a,hm,hcl,hd,hs,hf,he,h=>by
  cases m with
  | zero=>simp at hm
  | succ m=>
   simp only [Ao,Nat.add_le_add_iff_right] at hm;simp only [Mv,Ad] at hd;obtain⟨hd1,hd2⟩:=hd;simp only [Rg,DN] at h;cases ho:ops[i]? with
   | none=>rw [ho] at hd1;simp at hd1
   | some o=>
    rw [ho] at hd1;simp only at hd1;rw [show ops.toList[i]? = some o by simpa using ho] at h;simp only at h;cases hE:isEff o.op with
    | true=>
     rw [hE] at hd1;simp only [Ad] at hd1;obtain⟨hr,hmq⟩:=hd1;have hr':Region.ready .any ops l=[i]:=by
      split at hr
      ·rename_i j hj;rw [hj,Am hr]
      ·cases hr
     have hri:i∈Region.ready .any ops l:=by rw [hr'];simp
     refine⟨fun h0=>(by rw [hr'] at h0;cases h0),fun j hj=>?_⟩;rw [hr',Ay] at hj;subst hj;refine wpOp_step ho fun KK hK=>?_
     rcases Dn hf h with ⟨hw,fr',hf',h⟩ | ⟨hw,fr',hf',h⟩
     ·rw [if_pos hw];refine E_ hT hs hf' he h ?_;rintro a' w' ⟨c',fr2,H',rfl,h1,h2,h3,h4⟩ hold;refine hK _ _ ⟨fun hmay=>hold ?_,G5 hT hB hns hq hpan r m _ c' fr2 H' a' hm (hcl.set hri) hd2 h2 h3 h4 h1⟩;rw [hmay] at hmq;simpa using hmq
     ·rw [if_neg (by rw [hw];simp)];obtain⟨fr2,h1,h2⟩:=Co (v:=undef) hf' (by simp [Rd]) h;exact hK _ _ ⟨fun _=>zy _,G5 hT hB hns hq hpan r m _ c fr2 H _ hm (hcl.set hri) hd2 hs h2 he h1⟩
    | false=>
     rw [hE] at hd1;simp only [Ad] at hd1;obtain⟨hfree,hr⟩:=hd1;have hri:i∈Region.ready .any ops l:=by simpa using hr
     have step:∀ v fr2,YieldsIf P ops (fun w'=>pureOp o.op=true\/Old c.w w') o v a->FR w0 c n fr2 (a.put o.dst v)->Rg P T n ops r fr2 H K->HeldR P ops B Q (m+1) l a c.w:=by
      intro v fr2 hy hf2 h2;exact HeldR.first1 hB ho hE (Region.noSelect_spec hns) (fun c a w h=>(hpan _ _ _ h).elim) m l a c.w hcl (Region.free_spec ho hfree) hri hy
       (G5 hT hB hns hq hpan r m _ c fr2 H _ hm (hcl.set hri) hd2 hs hf2 he h2)
     rcases Dn hf h with ⟨hw,fr',hf',h⟩ | ⟨hw,fr',hf',h⟩
     ·unfold Hf at h;rw [hE] at h;obtain⟨rr,v,h1,h2,h3⟩:=(Gp hT hs hf' h).y;obtain⟨fr2,h4,h5⟩:=Co hf' h3 h1;exact step v fr2 (.inl ⟨hw,h2⟩) h5 h4
     ·obtain⟨fr2,h4,h5⟩:=Co (v:=undef) hf' (by simp [Rd]) h;exact step undef fr2 (.inr ⟨hw,rfl⟩) h5 h4
def O5 (ops:Array Oper) (ord:List Nat):Bool:=FN ops (Kk ops)&&Region.noSelect ops&&Nat.ble ord.length ops.size&&Mv ops (Kk ops) ord (Array.replicate ops.size false)
theorem aDraw.of (hT:TOk P T) (hm:P.follows .mixedOrders=true) {id:Nat} {K:Fr->List AB->Prop} {fr:Fr} {H:List AB} (ord:List Nat) (hok:O5 ops ord=true) (h:Rg P T n ops ord fr H K):aDraw P T n d0 id ops K fr H:=by
 simp only [O5,Ad] at hok;obtain⟨⟨⟨hB,hns⟩,hlen⟩,hok⟩:=hok;refine⟨fun w0 M0 ce c a hs hf he hd Q hQ=>?_⟩;refine wp_mono (Q:=fun e a w=>e = .normal/\DP w0 M0 ce n K a w) ?_ ?_
 ·refine wp_region_any hm (HeldR.any (B:=Kk ops) _ _ _ _ ?_);have hb:=(Below.refl c.w.heap.size c.w).drew;obtain⟨h1,h2⟩:=hs.grow hb;refine G5 (w0:=w0) (M0:=M0) (ce:=ce) hT hB hns (fun a w hl=>⟨rfl,hl⟩) (fun c a w h=>by cases h.1) ord _ _ { c with w:=c.w.drew } fr H a (Ae hlen) ?_ hok h1 (hf.ext h2) (he.trans h2) h;intro j o hj hlj;rcases BT j ops.size with h' | h'
  ·simp [h'] at hlj
  ·simp [B4 h'] at hj
 ·rintro e a w ⟨rfl,c',fr',H',rfl,h1,h2,h3,h4⟩;exact hQ c' fr' H' a h1 h2 h3 h4
def zw:=@aDraw.of
end
open Go.RowKit
theorem aLoop.rule {d0:Nat} {body:QA->Fr->List AB->Prop} {Q:QA} {fr:Fr} {H:List AB} (ι:Type) (st:ι->Fr × List AB) (I:ι->Prop) (μ:ι->Nat) (x0:ι) (h0:I x0) (hw:Wk d0 fr H (st x0).1 (st x0).2)
  (round:∀ x,I x->body (fun ex fr' H'=>match ex with | .normal=>∃ x',I x'/\μ x'<μ x/\Wk d0 fr' H' (st x').1 (st x').2 | e=>Q e fr' H') (st x).1 (st x).2):aLoop d0 body Q fr H:=
 ⟨.inr (.inl ⟨ι,st,I,μ,⟨x0,h0,hw⟩,round⟩)⟩
def zP:=@aLoop.rule
theorem aDraw.seq {P:Program} {T:Tys} {n d0:Nat} (hT:TOk P T) (hm:P.follows .mixedOrders=true) {id:Nat} {ops:Array Oper} {K:Fr->List AB->Prop} {fr:Fr} {H:List AB} (hok:O5 ops (List.range ops.size)=true) (h:Rg P T n ops (List.range ops.size) fr H K):aDraw P T n d0 id ops K fr H:=
 zw hT hm _ hok h
def zH:=@aDraw.seq
end
section
open Go.RowKit
class Say (b:Bool) (p q:outParam Prop):Prop where
 yes:b=true->p
 no:b=false->q
theorem AS {t:Bool} {p q A B:Prop} [h:Say t p q] (h1:p->A) (h2:q->B):KF t A B:=Ak (fun e=>h1 (h.yes e)) fun e=>h2 (h.no e)
instance (priority:=10) sayAny (b:Bool):Say b (b=true) (b=false):=⟨id,id⟩
instance (priority:=100) sayDec (p:Prop) [Decidable p]:Say (decide p) p (¬p):=⟨of_decide_eq_true,of_decide_eq_false⟩
instance sayLt (a b:Int):Say (decide (a<b)) (a<b) (b<=a):=⟨of_decide_eq_true,fun h=>Int.not_lt.1 (of_decide_eq_false h)⟩
instance sayLe (a b:Int):Say (decide (a<=b)) (a<=b) (b<a):=⟨of_decide_eq_true,fun h=>Int.not_le.1 (of_decide_eq_false h)⟩
instance sayGt (a b:Int):Say (decide (a > b)) (b<a) (a<=b):=⟨of_decide_eq_true,fun h=>Int.not_lt.1 (of_decide_eq_false h)⟩
instance sayGe (a b:Int):Say (decide (a>=b)) (b<=a) (a<b):=⟨of_decide_eq_true,fun h=>Int.not_le.1 (of_decide_eq_false h)⟩
instance (priority:=2000) sayLtN (a b:Nat):Say (decide ((a:Int)<(b:Int))) (a<b) (b<=a):=⟨fun h=>Int.ofNat_lt.1 (of_decide_eq_true h),fun h=>Int.ofNat_le.1 (Int.not_lt.1 (of_decide_eq_false h))⟩
instance (priority:=2000) sayLeN (a b:Nat):Say (decide ((a:Int)<=(b:Int))) (a<=b) (b<a):=⟨fun h=>Int.ofNat_le.1 (of_decide_eq_true h),fun h=>Int.ofNat_lt.1 (Int.not_le.1 (of_decide_eq_false h))⟩
instance (priority:=2000) sayGtN (a b:Nat):Say (decide ((a:Int) > (b:Int))) (b<a) (a<=b):=⟨fun h=>Int.ofNat_lt.1 (of_decide_eq_true h),fun h=>Int.ofNat_le.1 (Int.not_lt.1 (of_decide_eq_false h))⟩
instance (priority:=2000) sayGeN (a b:Nat):Say (decide ((a:Int)>=(b:Int))) (b<=a) (a<b):=⟨fun h=>Int.ofNat_le.1 (of_decide_eq_true h),fun h=>Int.ofNat_lt.1 (Int.not_le.1 (of_decide_eq_false h))⟩
instance (priority:=2000) sayEqN (a b:Nat):Say ((a:Int) == (b:Int)) (a=b) (a≠b):=⟨fun h=>Int.ofNat.inj (eq_of_beq h),fun h e=>ne_of_beq_false h (by rw [e])⟩
instance (priority:=2000) sayNeN (a b:Nat):Say ((a:Int) != (b:Int)) (a≠b) (a=b):=⟨fun h e=>bne_iff_ne.1 h (by rw [e]),fun h=>Int.ofNat.inj (by simpa using h)⟩
instance sayEq {α:Type} [BEq α] [LawfulBEq α] (a b:α):Say (a == b) (a=b) (a≠b):=⟨eq_of_beq,fun h=>ne_of_beq_false h⟩
instance sayNe {α:Type} [BEq α] [LawfulBEq α] (a b:α):Say (a != b) (a≠b) (a=b):=⟨fun h=>bne_iff_ne.1 h,fun h=>by simpa using h⟩
instance sayNot (b:Bool) (p q:Prop) [h:Say b p q]:Say (!b) q p:=⟨fun e=>h.no (by simpa using e),fun e=>h.yes (by simpa using e)⟩

inductive Tr where
 | fin
 | one (i:Nat) (r:Tr)
 | two (i:Nat) (a:Tr) (j:Nat) (b:Tr)
def Tr.o (l:List Nat) (t:Tr):Tr:=l.foldr .one t
def Tr.depth:Tr->Nat
 | .fin=>0
 | .one _ r=>r.depth+1
 | .two _ a _ b=>max a.depth b.depth+1
section
variable {P:Program} {ops:Array Oper} {B:List Nat} {Q:Exit->Act->World->Prop}
def XH (ops:Array Oper) (B:List Nat) (i:Nat):Bool:=match ops[i]? with | some o=>isEff o.op&&(qOf o.op || !PE ops B i) | none=>false
def Gx (ops:Array Oper) (B:List Nat):Tr->Array Bool->Bool
 | .fin,l=>(Region.ready .any ops l).isEmpty
 | .one i r,l=>(match ops[i]? with
   | none=>false
   | some o=>match isEff o.op with
    | true=>(match Region.ready .any ops l with | [j]=>Nat.beq i j | _=>false)&&(qOf o.op || !PE ops B i)
    | false=>Region.free .any ops l i&&(Region.ready .any ops l).contains i)&&Gx ops B r (l.setIfInBounds i true)
 | .two i a j b,l=>(match Region.ready .any ops l with | [x,y]=>Nat.beq x i&&Nat.beq y j | _=>false)&&XH ops B i&&XH ops B j&&Gx ops B a (l.setIfInBounds i true)&&Gx ops B b (l.setIfInBounds j true)
def Lq (P:Program) (T:Tys) (n:Nat) (ops:Array Oper) (i:Nat) (fr:Fr) (H:List AB) (K:Fr->List AB->Prop):Prop:=
 match IJ ops.toList i with
 | none=>False
 | some o=>IN ops.toList o fr (fun fr=>Hf P T n (qOf o.op) o fr H K) fun fr=>NV n o.dst (.v undef) fr fun fr=>K fr H
def NX (P:Program) (T:Tys) (n:Nat) (ops:Array Oper):Tr->Fr->List AB->(Fr->List AB->Prop)->Prop
 | .fin,fr,H,K=>K fr H
 | .one i r,fr,H,K=>Lq P T n ops i fr H fun fr H=>NX P T n ops r fr H K
 | .two i a j b,fr,H,K=>(Lq P T n ops i fr H fun fr H=>NX P T n ops a fr H K)/\(Lq P T n ops j fr H fun fr H=>NX P T n ops b fr H K)
variable {T:Tys} {w0:Fl} {M0:Ms} {n d0:Nat} {ce:Ctx}
theorem Mt (hT:TOk P T) {i:Nat} {o:Oper} (ho:ops[i]? = some o) {m:Nat} {l:Array Bool} (hmq:(qOf o.op || !PE ops B i)=true) {c:Ctx} {fr:Fr} {H:List AB} {a:Act} (hs:HS w0 M0 c H) (hf:FR w0 c n fr a) (he:Ext ce c) {K:Fr->List AB->Prop}
  (hk:∀ (c':Ctx) (fr':Fr) (H':List AB) (a':Act),HS w0 M0 c' H'->FR w0 c' n fr' a'->Ext ce c'->K fr' H'->HeldR P ops B Q m (l.setIfInBounds i true) a' c'.w)
  (h:Lq P T n ops i fr H K):wpOp P ops Q i (fun a' w'=>(PE ops B i=true->Old c.w w')/\HeldR P ops B Q m (l.setIfInBounds i true) a' w') a c.w:=by
 simp only [Lq,DN] at h;rw [show ops.toList[i]? = some o by simpa using ho] at h;simp only at h;refine wpOp_step ho fun KK hK=>?_
 rcases Dn hf h with ⟨hw,fr',hf',h⟩ | ⟨hw,fr',hf',h⟩
 ·rw [if_pos hw];refine E_ hT hs hf' he h ?_;rintro a' w' ⟨c',fr2,H',rfl,h1,h2,h3,h4⟩ hold;refine hK _ _ ⟨fun hmay=>hold ?_,hk c' fr2 H' a' h2 h3 h4 h1⟩;rw [hmay] at hmq;simpa using hmq
 ·rw [if_neg (by rw [hw];simp)];obtain⟨fr2,h1,h2⟩:=Co (v:=undef) hf' (by simp [Rd]) h;exact hK _ _ ⟨fun _=>zy _,hk c fr2 H _ hs h2 he h1⟩
theorem F1 (hT:TOk P T) (hB:FN ops B=true) (hns:Region.noSelect ops=true) {K:Fr->List AB->Prop} (hq:∀ a w,DP w0 M0 ce n K a w->Q .normal a w) (hpan:∀ c a w,¬Q (.panic c) a w) :
  ∀ (r:Tr) (m:Nat) (l:Array Bool) (c:Ctx) (fr:Fr) (H:List AB) (a:Act),r.depth<=m->Cl ops l->Gx ops B r l=true->HS w0 M0 c H->FR w0 c n fr a->Ext ce c->NX P T n ops r fr H K->HeldR P ops B Q m l a c.w
 | .fin,m,l,c,fr,H,a,hm,hcl,hd,hs,hf,he,h=>by
  simp only [Gx,List.isEmpty_iff] at hd;cases m with
  | zero=>exact⟨hd,hq _ _ ⟨c,fr,H,rfl,h,hs,hf,he⟩⟩
  | succ m=>exact⟨fun _=>hq _ _ ⟨c,fr,H,rfl,h,hs,hf,he⟩,by rw [hd];simp⟩
 | .two i x j y,m,l,c,fr,H,a,hm,hcl,hd,hs,hf,he,h=>by
  cases m with
  | zero=>simp [Tr.depth] at hm
  | succ m=>
   simp only [Tr.depth] at hm;simp only [Gx,Ad] at hd;obtain⟨⟨⟨⟨hr,hi⟩,hj⟩,hx⟩,hy⟩:=hd;have hr':Region.ready .any ops l=[i,j]:=by
    split at hr
    ·rename_i p q hpq;simp only [Ad] at hr;rw [hpq,Am hr.1,Am hr.2]
    ·cases hr
   obtain⟨h1,h2⟩:=h;have go:∀ k r,XH ops B k=true->r.depth<=m->k∈Region.ready .any ops l->Gx ops B r (l.setIfInBounds k true)=true->(Lq P T n ops k fr H fun fr H=>NX P T n ops r fr H K)->(∀ (c:Ctx) (fr:Fr) (H:List AB) (a:Act),HS w0 M0 c H->FR w0 c n fr a->Ext ce c->NX P T n ops r fr H K->HeldR P ops B Q m (l.setIfInBounds k true) a c.w)->
     wpOp P ops Q k (fun a' w'=>(PE ops B k=true->Old c.w w')/\HeldR P ops B Q m (l.setIfInBounds k true) a' w') a c.w:=by
    intro k r hk _ _ _ hst hrec;unfold XH at hk;split at hk
    ·rename_i o ho;simp only [Ad] at hk;exact Mt hT ho hk.2 hs hf he hrec hst
    ·cases hk
   refine⟨fun h0=>(by rw [hr'] at h0;cases h0),fun k hk=>?_⟩;have hi':i∈Region.ready .any ops l:=by rw [hr'];simp
   have hj':j∈Region.ready .any ops l:=by rw [hr'];simp
   rw [hr',AQ,Ay] at hk;rcases hk with rfl | rfl
   ·exact go k x hi (by omega) hi' hx h1 fun c' fr' H' a' q1 q2 q3 q4=>F1 hT hB hns hq hpan x m _ c' fr' H' a' (by omega) (hcl.set hi') hx q1 q2 q3 q4
   ·exact go k y hj (by omega) hj' hy h2 fun c' fr' H' a' q1 q2 q3 q4=>F1 hT hB hns hq hpan y m _ c' fr' H' a' (by omega) (hcl.set hj') hy q1 q2 q3 q4
 | .one i r,m,l,c,fr,H,a,hm,hcl,hd,hs,hf,he,h=>by
  cases m with
  | zero=>simp [Tr.depth] at hm
  | succ m=>
   simp only [Tr.depth,Nat.add_le_add_iff_right] at hm;simp only [Gx,Ad] at hd;obtain⟨hd1,hd2⟩:=hd;simp only [NX] at h;cases ho:ops[i]? with
   | none=>rw [ho] at hd1;simp at hd1
   | some o=>
    rw [ho] at hd1;simp only at hd1;cases hE:isEff o.op with
    | true=>
     rw [hE] at hd1;simp only [Ad] at hd1;obtain⟨hr,hmq⟩:=hd1;have hr':Region.ready .any ops l=[i]:=by
      split at hr
      ·rename_i j hj;rw [hj,Am hr]
      ·cases hr
     have hri:i∈Region.ready .any ops l:=by rw [hr'];simp
     refine⟨fun h0=>(by rw [hr'] at h0;cases h0),fun j hj=>?_⟩;rw [hr',Ay] at hj;subst hj;exact Mt hT ho hmq hs hf he (fun c' fr' H' a' q1 q2 q3 q4=>F1 hT hB hns hq hpan r m _ c' fr' H' a' hm (hcl.set hri) hd2 q1 q2 q3 q4) h
    | false=>
     rw [hE] at hd1;simp only [Ad] at hd1;obtain⟨hfree,hr⟩:=hd1;have hri:i∈Region.ready .any ops l:=by simpa using hr
     simp only [Lq,DN] at h;rw [show ops.toList[i]? = some o by simpa using ho] at h;simp only at h;have step:∀ v fr2,YieldsIf P ops (fun w'=>pureOp o.op=true\/Old c.w w') o v a->FR w0 c n fr2 (a.put o.dst v)->NX P T n ops r fr2 H K->HeldR P ops B Q (m+1) l a c.w:=by
      intro v fr2 hy hf2 h2;exact HeldR.first1 hB ho hE (Region.noSelect_spec hns) (fun c a w h=>(hpan _ _ _ h).elim) m l a c.w hcl (Region.free_spec ho hfree) hri hy
       (F1 hT hB hns hq hpan r m _ c fr2 H _ hm (hcl.set hri) hd2 hs hf2 he h2)
     rcases Dn hf h with ⟨hw,fr',hf',h⟩ | ⟨hw,fr',hf',h⟩
     ·unfold Hf at h;rw [hE] at h;obtain⟨rr,v,h1,h2,h3⟩:=(Gp hT hs hf' h).y;obtain⟨fr2,h4,h5⟩:=Co hf' h3 h1;exact step v fr2 (.inl ⟨hw,h2⟩) h5 h4
     ·obtain⟨fr2,h4,h5⟩:=Co (v:=undef) hf' (by simp [Rd]) h;exact step undef fr2 (.inr ⟨hw,rfl⟩) h5 h4
def canonK:List Nat->Fr->(Fr->Prop)->Prop
 | [],_,k=>k []
 | d::r,fr,k=>CZ (fget fr d) fun x=>canonK r fr fun l=>k ((d,x)::l)
theorem canonK_iff:∀ {ds:List Nat} {fr:Fr} {k:Fr->Prop},canonK ds fr k->k (ds.map fun d=>(d,fget fr d))
 | [],_,_,h=>h
 | d::r,fr,k,h=>by simp only [canonK] at h;exact canonK_iff (ds:=r) (k:=fun l=>k ((d,fget fr d)::l)) (BD h)
theorem N5 (fr:Fr):∀ (ds:List Nat) (i:Nat),fget (ds.map fun d=>(d,fget fr d)) i = .top\/fget (ds.map fun d=>(d,fget fr d)) i=fget fr i
 | [],_=> .inl rfl
 | d::r,i=>by
  simp only [A5,fget];cases hb:Nat.beq d i with
  | true=>have:=Am hb;subst this;exact .inr rfl
  | false=>exact N5 fr r i
theorem FR.canon {c:Ctx} {fr:Fr} {a:Act} (h:FR w0 c n fr a) (ds:List Nat):FR w0 c n (ds.map fun d=>(d,fget fr d)) a:=by
 refine⟨h.size,h.defers,fun i=>?_⟩;rcases N5 fr ds i with e | e <;> rw [e]
 ·simp [Rd]
 ·exact h.get i
def slots:Fr->List Nat
 | []=> []
 | (i,_)::r=>i::slots r
def RT (ops:Array Oper) (tr:Tr):Bool:=FN ops (Kk ops)&&Region.noSelect ops&&Nat.ble tr.depth ops.size&&Gx ops (Kk ops) tr (Array.replicate ops.size false)
theorem aDraw.tree (hT:TOk P T) (hm:P.follows .mixedOrders=true) {id:Nat} {K:Fr->List AB->Prop} {fr:Fr} {H:List AB} (tr:Tr) (ds:List Nat) {F:Fr} {H2:List AB} (hok:RT ops tr=true)
  (h:NX P T n ops tr fr H fun fr' H'=>canonK (ds ++ slots fr) fr' fun l=>l=F/\H'=H2) (hk:K F H2):aDraw P T n d0 id ops K fr H:=by
 simp only [RT,Ad] at hok;obtain⟨⟨⟨hB,hns⟩,hlen⟩,hok⟩:=hok;refine⟨fun w0 M0 ce c a hs hf he hd Q hQ=>?_⟩;refine wp_mono (Q:=fun e a w=>e = .normal/\DP w0 M0 ce n (fun fr' H'=>canonK (ds ++ slots fr) fr' fun l=>l=F/\H'=H2) a w) ?_ ?_
 ·refine wp_region_any hm (HeldR.any (B:=Kk ops) _ _ _ _ ?_);have hb:=(Below.refl c.w.heap.size c.w).drew;obtain⟨h1,h2⟩:=hs.grow hb;refine F1 (w0:=w0) (M0:=M0) (ce:=ce) hT hB hns (fun a w hl=>⟨rfl,hl⟩) (fun c a w h=>by cases h.1) tr _ _ { c with w:=c.w.drew } fr H a (Ae hlen) ?_ hok h1 (hf.ext h2) (he.trans h2) h;intro j o hj hlj;rcases BT j ops.size with h' | h'
  ·simp [h'] at hlj
  ·simp [B4 h'] at hj
 ·rintro e a w ⟨rfl,c',fr',H',rfl,h1,h2,h3,h4⟩;obtain⟨e1,rfl⟩:=canonK_iff h1;exact hQ c' F H' a hk h2 (e1 ▸ h3.canon _) h4
def zI:=@aDraw.tree
end
def tys:Tys:= [
 (2,⟨1,false, [.int .i64 0], .int .i64⟩),
 (3,⟨1,false, [.int .i64 0], .int .i64⟩),
 (4,⟨1,false, [.bool false], .bool⟩),
 (5,⟨1,false, [.int .u8 0], .int .u8⟩),
 (6,⟨1,false, [.int .u8 0], .int .u8⟩),
 (7,⟨4,true, [.int .i64 0, .int .i64 0, .bool false, .int .u8 0], .struct [(0,1),(1,1),(2,1),(3,1)] [2,2,2,2]⟩),
 (8,⟨4,true, [.int .i64 0, .int .i64 0, .bool false, .int .u8 0], .struct [(0,1),(1,1),(2,1),(3,1)] [2,2,2,2]⟩),
 (9,⟨1,false, [.string ⟨#[]⟩], .str⟩),
 (10,⟨1,false, [.string ⟨#[]⟩], .str⟩),
 (11,⟨1,false, [.string ⟨#[]⟩], .str⟩),
 (12,⟨1,false, [.int .u64 0], .int .u64⟩),
 (13,⟨2,true, [.string ⟨#[]⟩, .int .u64 0], .struct [(0,1),(1,1)] [2,2]⟩),
 (14,⟨2,true, [.string ⟨#[]⟩, .int .u64 0], .struct [(0,1),(1,1)] [2,2]⟩),
 (15,⟨1,false, [.pointer none], .ptr⟩),
 (16,⟨1,false, [.pointer none], .ptr⟩),
 (17,⟨1,false, [.pointer none], .ptr⟩),
 (18,⟨1,true, [.pointer none], .struct [(0,1)] [2]⟩),
 (19,⟨1,true, [.pointer none], .struct [(0,1)] [2]⟩),
 (20,⟨1,false, [.nilIface], .ifc true⟩),
 (21,⟨1,false, [.int .i32 0], .int .i32⟩),
 (22,⟨1,false, [.slice none 0 0], .slice 5 1⟩),
 (23,⟨5,true, [.int .i64 0, .int .i64 0, .int .i64 0, .int .i64 0, .int .i64 0], .struct [(0,1),(1,1),(2,1),(3,1),(4,1)] [2,2,2,2,2]⟩),
 (24,⟨5,true, [.int .i64 0, .int .i64 0, .int .i64 0, .int .i64 0, .int .i64 0], .struct [(0,1),(1,1),(2,1),(3,1),(4,1)] [2,2,2,2,2]⟩),
 (26,⟨1,false, [.slice none 0 0], .slice 108 3⟩),
 (27,⟨7,true, [.int .i64 0, .int .i64 0, .int .i64 0, .int .i64 0, .int .i64 0, .string ⟨#[]⟩, .slice none 0 0], .struct [(0,1),(1,1),(2,1),(3,1),(4,1),(5,1),(6,1)] [2,2,2,2,2,2,2]⟩),
 (28,⟨7,true, [.int .i64 0, .int .i64 0, .int .i64 0, .int .i64 0, .int .i64 0, .string ⟨#[]⟩, .slice none 0 0], .struct [(0,1),(1,1),(2,1),(3,1),(4,1),(5,1),(6,1)] [2,2,2,2,2,2,2]⟩),
 (29,⟨1,false, [.slice none 0 0], .slice 170 4⟩),
 (30,⟨1,false, [.slice none 0 0], .slice 3 1⟩),
 (31,⟨4,true, [.int .i64 0, .int .i64 0, .int .i64 0, .slice none 0 0], .struct [(0,1),(1,1),(2,1),(3,1)] [2,2,2,2]⟩),
 (32,⟨4,true, [.int .i64 0, .int .i64 0, .int .i64 0, .slice none 0 0], .struct [(0,1),(1,1),(2,1),(3,1)] [2,2,2,2]⟩),
 (33,⟨14,true, [.int .i64 0, .int .i64 0, .int .i64 0, .int .i64 0, .int .i64 0, .string ⟨#[]⟩, .slice none 0 0, .slice none 0 0, .bool false, .int .i64 0, .int .i64 0, .int .i64 0, .int .i64 0, .slice none 0 0], .struct [(0,7),(7,1),(8,1),(9,1),(10,4)] [1,2,2,2,1]⟩),
 (34,⟨14,true, [.int .i64 0, .int .i64 0, .int .i64 0, .int .i64 0, .int .i64 0, .string ⟨#[]⟩, .slice none 0 0, .slice none 0 0, .bool false, .int .i64 0, .int .i64 0, .int .i64 0, .int .i64 0, .slice none 0 0], .struct [(0,7),(7,1),(8,1),(9,1),(10,4)] [1,2,2,2,1]⟩),
 (35,⟨1,false, [.slice none 0 0], .slice 68 3⟩),
 (36,⟨1,false, [.slice none 0 0], .slice 152 2⟩),
 (37,⟨4,true, [.slice none 0 0, .slice none 0 0, .int .i64 0, .int .i64 0], .struct [(0,1),(1,1),(2,1),(3,1)] [2,2,2,2]⟩),
 (38,⟨4,true, [.slice none 0 0, .slice none 0 0, .int .i64 0, .int .i64 0], .struct [(0,1),(1,1),(2,1),(3,1)] [2,2,2,2]⟩),
 (41,⟨1,false, [.int .u64 0], .int .u64⟩),
 (42,⟨1,false, [.int .i64 0], .int .i64⟩),
 (48,⟨1,false, [.slice none 0 0], .slice 22 1⟩),
 (56,⟨1,false, [.pointer none], .ptr⟩),
 (59,⟨7,true, [.int .i64 0, .int .i64 0, .slice none 0 0, .int .i64 0, .int .i64 0, .int .i64 0, .slice none 0 0], .struct [(0,1),(1,1),(2,1),(3,4)] [2,2,2,1]⟩),
 (60,⟨7,true, [.int .i64 0, .int .i64 0, .slice none 0 0, .int .i64 0, .int .i64 0, .int .i64 0, .slice none 0 0], .struct [(0,1),(1,1),(2,1),(3,4)] [2,2,2,1]⟩),
 (62,⟨10,true, [.int .i64 0, .int .i64 0, .int .i64 0, .slice none 0 0, .int .i64 0, .int .i64 0, .int .i64 0, .int .i64 0, .int .i64 0, .int .i64 0], .struct [(0,1),(1,1),(2,1),(3,1),(4,1),(5,1),(6,1),(7,1),(8,1),(9,1)] [2,2,2,2,2,2,2,2,2,2]⟩),
 (63,⟨10,true, [.int .i64 0, .int .i64 0, .int .i64 0, .slice none 0 0, .int .i64 0, .int .i64 0, .int .i64 0, .int .i64 0, .int .i64 0, .int .i64 0], .struct [(0,1),(1,1),(2,1),(3,1),(4,1),(5,1),(6,1),(7,1),(8,1),(9,1)] [2,2,2,2,2,2,2,2,2,2]⟩),
 (67,⟨3,true, [.int .i64 0, .slice none 0 0, .slice none 0 0], .struct [(0,1),(1,1),(2,1)] [2,2,2]⟩),
 (68,⟨3,true, [.int .i64 0, .slice none 0 0, .slice none 0 0], .struct [(0,1),(1,1),(2,1)] [2,2,2]⟩),
 (70,⟨2,true, [.int .i64 0, .int .i64 0], .arr 2 3 1⟩),
 (73,⟨1,false, [.slice none 0 0], .slice 78 3⟩),
 (74,⟨1,false, [.slice none 0 0], .slice 216 3⟩),
 (77,⟨3,true, [.int .i64 0, .slice none 0 0, .slice none 0 0], .struct [(0,1),(1,1),(2,1)] [2,2,2]⟩),
 (78,⟨3,true, [.int .i64 0, .slice none 0 0, .slice none 0 0], .struct [(0,1),(1,1),(2,1)] [2,2,2]⟩),
 (89,⟨1,false, [.pointer none], .ptr⟩),
 (92,⟨1,false, [.pointer none], .ptr⟩),
 (97,⟨1,false, [.pointer none], .ptr⟩),
 (98,⟨20,true, [.int .i64 0, .int .i64 0, .int .i64 0, .int .i64 0, .int .i64 0, .pointer none, .int .i64 0, .int .i64 0, .int .i64 0, .int .i64 0, .int .i64 0, .string ⟨#[]⟩, .slice none 0 0, .slice none 0 0, .bool false, .int .i64 0, .int .i64 0, .int .i64 0, .int .i64 0, .slice none 0 0], .struct [(0,5),(5,1),(6,14)] [1,2,1]⟩),
 (99,⟨20,true, [.int .i64 0, .int .i64 0, .int .i64 0, .int .i64 0, .int .i64 0, .pointer none, .int .i64 0, .int .i64 0, .int .i64 0, .int .i64 0, .int .i64 0, .string ⟨#[]⟩, .slice none 0 0, .slice none 0 0, .bool false, .int .i64 0, .int .i64 0, .int .i64 0, .int .i64 0, .slice none 0 0], .struct [(0,5),(5,1),(6,14)] [1,2,1]⟩),
 (106,⟨1,false, [.slice none 0 0], .slice 70 2⟩),
 (107,⟨3,true, [.slice none 0 0, .int .i64 0, .int .i64 0], .struct [(0,1),(1,1),(2,1)] [2,2,2]⟩),
 (108,⟨3,true, [.slice none 0 0, .int .i64 0, .int .i64 0], .struct [(0,1),(1,1),(2,1)] [2,2,2]⟩),
 (110,⟨26,true, [.int .i64 0, .int .i64 0, .int .i64 0, .int .i64 0, .int .i64 0, .slice none 0 0, .slice none 0 0, .int .i64 0, .int .i64 0, .bool false, .int .i64 0, .int .i64 0, .int .i64 0, .int .i64 0, .int .i64 0, .string ⟨#[]⟩, .slice none 0 0, .slice none 0 0, .bool false, .int .i64 0, .int .i64 0, .int .i64 0, .int .i64 0, .slice none 0 0, .slice none 0 0, .slice none 0 0], .struct [(0,5),(5,4),(9,1),(10,14),(24,1),(25,1)] [1,1,2,1,2,2]⟩),
 (111,⟨26,true, [.int .i64 0, .int .i64 0, .int .i64 0, .int .i64 0, .int .i64 0, .slice none 0 0, .slice none 0 0, .int .i64 0, .int .i64 0, .bool false, .int .i64 0, .int .i64 0, .int .i64 0, .int .i64 0, .int .i64 0, .string ⟨#[]⟩, .slice none 0 0, .slice none 0 0, .bool false, .int .i64 0, .int .i64 0, .int .i64 0, .int .i64 0, .slice none 0 0, .slice none 0 0, .slice none 0 0], .struct [(0,5),(5,4),(9,1),(10,14),(24,1),(25,1)] [1,1,2,1,2,2]⟩),
 (113,⟨1,false, [.pointer none], .ptr⟩),
 (115,⟨12,true, [.pointer none, .pointer none, .int .i64 0, .int .i64 0, .int .i64 0, .slice none 0 0, .int .i64 0, .int .i64 0, .int .i64 0, .int .i64 0, .int .i64 0, .int .i64 0], .struct [(0,1),(1,1),(2,10)] [2,2,1]⟩),
 (116,⟨12,true, [.pointer none, .pointer none, .int .i64 0, .int .i64 0, .int .i64 0, .slice none 0 0, .int .i64 0, .int .i64 0, .int .i64 0, .int .i64 0, .int .i64 0, .int .i64 0], .struct [(0,1),(1,1),(2,10)] [2,2,1]⟩),
 (118,⟨4,true, [.slice none 0 0, .slice none 0 0, .int .i64 0, .int .i64 0], .struct [(0,4)] [1]⟩),
 (119,⟨4,true, [.slice none 0 0, .slice none 0 0, .int .i64 0, .int .i64 0], .struct [(0,4)] [1]⟩),
 (127,⟨1,false, [.pointer none], .ptr⟩),
 (130,⟨1,false, [.pointer none], .ptr⟩),
 (131,⟨21,true, [.int .i64 0, .int .i64 0, .int .i64 0, .int .i64 0, .int .i64 0, .pointer none, .int .i64 0, .int .i64 0, .int .i64 0, .int .i64 0, .int .i64 0, .string ⟨#[]⟩, .slice none 0 0, .slice none 0 0, .bool false, .int .i64 0, .int .i64 0, .int .i64 0, .int .i64 0, .slice none 0 0, .int .i64 0], .struct [(0,5),(5,1),(6,14),(20,1)] [1,2,1,2]⟩),
 (132,⟨21,true, [.int .i64 0, .int .i64 0, .int .i64 0, .int .i64 0, .int .i64 0, .pointer none, .int .i64 0, .int .i64 0, .int .i64 0, .int .i64 0, .int .i64 0, .string ⟨#[]⟩, .slice none 0 0, .slice none 0 0, .bool false, .int .i64 0, .int .i64 0, .int .i64 0, .int .i64 0, .slice none 0 0, .int .i64 0], .struct [(0,5),(5,1),(6,14),(20,1)] [1,2,1,2]⟩),
 (133,⟨4,true, [.slice none 0 0, .slice none 0 0, .int .i64 0, .int .i64 0], .struct [(0,4)] [1]⟩),
 (138,⟨3,true, [.int .i64 0, .int .i64 0, .slice none 0 0], .struct [(0,1),(1,1),(2,1)] [2,2,2]⟩),
 (139,⟨3,true, [.int .i64 0, .int .i64 0, .slice none 0 0], .struct [(0,1),(1,1),(2,1)] [2,2,2]⟩),
 (140,⟨8,true, [.int .i64 0, .int .i64 0, .int .i64 0, .int .i64 0, .int .i64 0, .int .i64 0, .int .i64 0, .slice none 0 0], .struct [(0,1),(1,1),(2,1),(3,1),(4,1),(5,3)] [2,2,2,2,2,1]⟩),
 (141,⟨8,true, [.int .i64 0, .int .i64 0, .int .i64 0, .int .i64 0, .int .i64 0, .int .i64 0, .int .i64 0, .slice none 0 0], .struct [(0,1),(1,1),(2,1),(3,1),(4,1),(5,3)] [2,2,2,2,2,1]⟩),
 (143,⟨1,false, [.slice none 0 0], .slice 189 3⟩),
 (144,⟨1,true, [.slice none 0 0], .struct [(0,1)] [2]⟩),
 (145,⟨1,true, [.slice none 0 0], .struct [(0,1)] [2]⟩),
 (151,⟨2,true, [.int .i64 0, .slice none 0 0], .struct [(0,1),(1,1)] [2,2]⟩),
 (152,⟨2,true, [.int .i64 0, .slice none 0 0], .struct [(0,1),(1,1)] [2,2]⟩),
 (156,⟨1,false, [.int .u32 0], .int .u32⟩),
 (160,⟨1,false, [.slice none 0 0], .slice 139 3⟩),
 (163,⟨1,false, [.slice none 0 0], .slice 141 8⟩),
 (169,⟨4,true, [.int .i64 0, .int .i64 0, .int .i64 0, .slice none 0 0], .struct [(0,1),(1,1),(2,1),(3,1)] [2,2,2,2]⟩),
 (170,⟨4,true, [.int .i64 0, .int .i64 0, .int .i64 0, .slice none 0 0], .struct [(0,1),(1,1),(2,1),(3,1)] [2,2,2,2]⟩),
 (179,⟨1,false, [.pointer none], .ptr⟩),
 (180,⟨9,true, [.pointer none, .int .i64 0, .int .i64 0, .int .i64 0, .int .i64 0, .int .i64 0, .string ⟨#[]⟩, .slice none 0 0, .int .i64 0], .struct [(0,1),(1,7),(8,1)] [2,1,2]⟩),
 (181,⟨9,true, [.pointer none, .int .i64 0, .int .i64 0, .int .i64 0, .int .i64 0, .int .i64 0, .string ⟨#[]⟩, .slice none 0 0, .int .i64 0], .struct [(0,1),(1,7),(8,1)] [2,1,2]⟩),
 (188,⟨3,true, [.int .i64 0, .int .i64 0, .bool false], .struct [(0,1),(1,1),(2,1)] [2,2,2]⟩),
 (189,⟨3,true, [.int .i64 0, .int .i64 0, .bool false], .struct [(0,1),(1,1),(2,1)] [2,2,2]⟩),
 (196,⟨1,false, [.slice none 0 0], .slice 278 4⟩),
 (210,⟨3,true, [.int .i64 0, .int .i64 0, .slice none 0 0], .struct [(0,1),(1,1),(2,1)] [2,2,2]⟩),
 (211,⟨3,true, [.int .i64 0, .int .i64 0, .slice none 0 0], .struct [(0,1),(1,1),(2,1)] [2,2,2]⟩),
 (215,⟨3,true, [.int .i64 0, .slice none 0 0, .int .i64 0], .struct [(0,1),(1,1),(2,1)] [2,2,2]⟩),
 (216,⟨3,true, [.int .i64 0, .slice none 0 0, .int .i64 0], .struct [(0,1),(1,1),(2,1)] [2,2,2]⟩),
 (220,⟨1,false, [.slice none 0 0], .slice 222 2⟩),
 (221,⟨2,true, [.int .i64 0, .slice none 0 0], .struct [(0,1),(1,1)] [2,2]⟩),
 (222,⟨2,true, [.int .i64 0, .slice none 0 0], .struct [(0,1),(1,1)] [2,2]⟩),
 (261,⟨1,false, [.pointer none], .ptr⟩),
 (278,⟨4,true, [.int .i64 0, .int .i64 0, .int .i64 0, .int .i64 0], .arr 4 3 1⟩),
 (299,⟨1,false, [.pointer none], .ptr⟩),
 (304,⟨1,false, [.pointer none], .ptr⟩),
 (305,⟨10,true, [.pointer none, .bool false, .int .i64 0, .int .i64 0, .int .i64 0, .int .i64 0, .int .i64 0, .string ⟨#[]⟩, .slice none 0 0, .bool false], .struct [(0,1),(1,1),(2,7),(9,1)] [2,2,1,2]⟩),
 (306,⟨10,true, [.pointer none, .bool false, .int .i64 0, .int .i64 0, .int .i64 0, .int .i64 0, .int .i64 0, .string ⟨#[]⟩, .slice none 0 0, .bool false], .struct [(0,1),(1,1),(2,7),(9,1)] [2,2,1,2]⟩),
 (319,⟨1,false, [.map none], .other⟩),
 (320,⟨1,false, [.slice none 0 0], .slice 4 1⟩),
 (337,⟨1,false, [.nilFunc], .other⟩),
 (340,⟨1,false, [.nilFunc], .other⟩),
 (347,⟨3,true, [.int .i64 0, .slice none 0 0, .slice none 0 0], .struct [(0,1),(1,1),(2,1)] [2,1,2]⟩),
 (348,⟨3,true, [.int .i64 0, .slice none 0 0, .slice none 0 0], .struct [(0,1),(1,1),(2,1)] [2,1,2]⟩),
 (364,⟨0,true, [], .struct [] []⟩),
 (365,⟨0,true, [], .struct [] []⟩),
 (367,⟨3,true, [.int .i64 0, .int .i64 0, .slice none 0 0], .struct [(0,1),(1,1),(2,1)] [2,2,2]⟩),
 (368,⟨3,true, [.int .i64 0, .int .i64 0, .slice none 0 0], .struct [(0,1),(1,1),(2,1)] [2,2,2]⟩),
 (388,⟨1,false, [.pointer none], .ptr⟩),
 (393,⟨1,false, [.pointer none], .ptr⟩),
 (418,⟨1,false, [.nilFunc], .other⟩),
 (427,⟨1,false, [.pointer none], .ptr⟩),
 (429,⟨1,false, [.slice none 0 0], .slice 21 1⟩),
 (433,⟨1,false, [.int .u64 0], .int .u64⟩),
 (437,⟨1,false, [.int .u16 0], .int .u16⟩),
 (441,⟨1,false, [.pointer none], .ptr⟩),
 (442,⟨18,true, [.int .i64 0, .int .i64 0, .int .i64 0, .int .i64 0, .int .i64 0, .int .i64 0, .int .i64 0, .int .i64 0, .int .i64 0, .int .i64 0, .string ⟨#[]⟩, .slice none 0 0, .slice none 0 0, .slice none 0 0, .int .i64 0, .int .i64 0, .int .i64 0, .slice none 0 0], .struct [(0,5),(5,7),(12,1),(13,1),(14,1),(15,1),(16,1),(17,1)] [1,1,2,2,2,2,2,2]⟩),
 (443,⟨18,true, [.int .i64 0, .int .i64 0, .int .i64 0, .int .i64 0, .int .i64 0, .int .i64 0, .int .i64 0, .int .i64 0, .int .i64 0, .int .i64 0, .string ⟨#[]⟩, .slice none 0 0, .slice none 0 0, .slice none 0 0, .int .i64 0, .int .i64 0, .int .i64 0, .slice none 0 0], .struct [(0,5),(5,7),(12,1),(13,1),(14,1),(15,1),(16,1),(17,1)] [1,1,2,2,2,2,2,2]⟩),
 (482,⟨2,true, [.int .u8 0, .int .u8 0], .struct [(0,1),(1,1)] [2,2]⟩),
 (483,⟨2,true, [.int .u8 0, .int .u8 0], .struct [(0,1),(1,1)] [2,2]⟩),
 (484,⟨32,true, [.int .u8 0, .int .u8 0, .int .u8 0, .int .u8 0, .int .u8 0, .int .u8 0, .int .u8 0, .int .u8 0, .int .u8 0, .int .u8 0, .int .u8 0, .int .u8 0, .int .u8 0, .int .u8 0, .int .u8 0, .int .u8 0, .int .u8 0, .int .u8 0, .int .u8 0, .int .u8 0, .int .u8 0, .int .u8 0, .int .u8 0, .int .u8 0, .int .u8 0, .int .u8 0, .int .u8 0, .int .u8 0, .int .u8 0, .int .u8 0, .int .u8 0, .int .u8 0], .arr 16 483 2⟩),
 (515,⟨4,true, [.pointer none, .pointer none, .pointer none, .string ⟨#[]⟩], .struct [(0,1),(1,1),(2,1),(3,1)] [2,2,2,2]⟩),
 (516,⟨4,true, [.pointer none, .pointer none, .pointer none, .string ⟨#[]⟩], .struct [(0,1),(1,1),(2,1),(3,1)] [2,2,2,2]⟩),
 (521,⟨1,false, [.int .u8 0], .int .u8⟩),
 (522,⟨1,false, [.int .u8 0], .int .u8⟩),
 (524,⟨1,false, [.pointer none], .ptr⟩),
 (525,⟨1,false, [.int .i32 0], .int .i32⟩),
 (526,⟨1,false, [.int .i32 0], .int .i32⟩),
 (529,⟨1,false, [.pointer none], .other⟩)]
theorem tys_ok:TOk Tryz.prog tys:=by
 refine⟨?_,?_,?_,?_,?_,?_,?_,?_,?_,?_,?_,?_,?_,?_,?_,?_,?_,?_,?_,?_,?_,?_,?_,?_,?_,?_,?_,?_,?_,?_,?_,?_,?_,?_,?_,?_,?_,?_,?_,?_,?_,?_,?_,?_,?_,?_,?_,?_,?_,?_,?_,?_,?_,?_,?_,?_,?_,?_,?_,?_,?_,?_,?_,?_,?_,?_,?_,?_,?_,?_,?_,?_,?_,?_,?_,?_,?_,?_,?_,?_,?_,?_,?_,?_,?_,?_,?_,?_,?_,?_,?_,?_,?_,?_,?_,?_,?_,?_,?_,?_,?_,?_,?_,?_,?_,?_,?_,?_,?_,?_,?_,?_,?_,?_,?_,?_,?_,?_,?_,?_,?_,?_,?_,?_,?_,?_,?_,?_,?_,?_,?_,?_,?_,?_,?_,tv⟩ <;> (unfold TyOk;kernel_rfl)
theorem ri {A:AV} (c:Ctx) (v:Value) (h:Rd A c v):Rd A c v:=h
theorem Fn.st {f:FuncId} {fn:Func} {body:Code} {args:List AV} {K:AV→Prop} (hf:Tryz.prog.funcs[f]? = some fn) (hb:fn.body=some body) (h:Ck Tryz.prog tys fn.ntmps 0 body (Z6 tys fn.results.toList K) (frOf 0 args) []) (hname:(fn.name == "runtime.NumGoroutine")=false:=by rfl) (hn:Nat.ble args.length fn.ntmps=true:=by rfl):Fn Tryz.prog f args K:=Fn.of tys_ok hf hb hname (Ae hn) h
def zT:=@Fn.st
theorem mixed:Tryz.prog.follows .mixedOrders=true:=by kernel_rfl
end
end Go.Proofs.YtpjkcgacjjbikaaGreatDoor.A
namespace Go.Proofs.YtpjkcgacjjbikaaGreatDoor
section
open Go.RowKit
structure Geo where
 z:Int
 d:Int
 sp:Int
 sl:Int
 an:Int
structure Img where
 zone:Int
 what:Int
 bytes:List UInt8
deriving DecidableEq
structure Rc where
 kind:Int
 seq:Int
 epoch:Int
 at_:Int
 of_:Int
 img:Img
deriving DecidableEq
structure Ent where
 stamp:Int
 sum:Int
 lost:Bool
deriving DecidableEq
instance:Rp Img where
 sz:=3
 agg:=true
 pos:=by omega
 E:=fun w M cs x=>∃ r,cs=[.int .i64 x.zone, .int .i64 x.what,r]/\SlR w M r x.bytes
 len:=fun h=>by obtain⟨b,rfl,_⟩:=h;rfl
 one:=fun h u hu=>by
  obtain⟨b,rfl,a,c,xs,rfl,_⟩:=h;simp at hu;rcases hu with rfl | rfl | rfl <;> rfl
 mono:=fun k h=>by obtain⟨b,rfl,h1⟩:=h;exact⟨b,rfl,h1.mono k⟩
instance:Rp Rc where
 sz:=8
 agg:=true
 pos:=by omega
 E:=fun w M cs x=>∃ r,cs=[.int .i64 x.kind, .int .i64 x.seq, .int .i64 x.epoch, .int .i64 x.at_, .int .i64 x.of_, .int .i64 x.img.zone, .int .i64 x.img.what,r]/\SlR w M r x.img.bytes
 len:=fun h=>by obtain⟨b,rfl,_⟩:=h;rfl
 one:=fun h u hu=>by
  obtain⟨b,rfl,a,c,xs,rfl,_⟩:=h;simp at hu;rcases hu with rfl | rfl | rfl | rfl | rfl | rfl | rfl | rfl <;> rfl
 mono:=fun k h=>by obtain⟨b,rfl,h1⟩:=h;exact⟨b,rfl,h1.mono k⟩
instance:Rp Ent where
 sz:=3
 agg:=true
 pos:=by omega
 E:=fun _ _ cs x=>cs=[.int .i64 x.stamp, .int .i64 x.sum, .bool x.lost]
 len:=fun h=>by rw [h];try rfl
 one:=fun h u hu=>by rw [h] at hu;simp at hu;rcases hu with rfl | rfl | rfl <;> rfl
 mono:=fun _ h=>h

section
variable {w:World} {M:Ms} {a:Option Addr} {n c k:Nat}
theorem Uu {l:List UInt8} (h:SlR w M (.slice a n c) l) (hk:k<l.length):∃ b off,a=some ⟨b,off,none⟩/\¬M b/\w.cell? ⟨b,off+k,none⟩=some (.int .u8 l[k].toNat):=by
 obtain⟨b,off,cs,rfl,hm,he,hc⟩:=h.at_ hk;have he':cs=[.int .u8 l[k].toNat]:=he;subst he';refine⟨b,off,rfl,hm,?_⟩;have:=hc 0 _ rfl;simpa [Rp.sz] using this
theorem Oj {l:List Int} (h:SlR w M (.slice a n c) l) (hk:k<l.length):∃ b off,a=some ⟨b,off,none⟩/\¬M b/\w.cell? ⟨b,off+k,none⟩=some (.int .i64 l[k]):=by
 obtain⟨b,off,cs,rfl,hm,he,hc⟩:=h.at_ hk;have he':cs=[.int .i64 l[k]]:=he;subst he';refine⟨b,off,rfl,hm,?_⟩;have:=hc 0 _ rfl;simpa [Rp.sz] using this
end
theorem SlR.bare {α:Type} [Rp α] {w:World} {M:Ms} {v:Value} {l:List α} (h:SlR w M v l):SlR w noM v l:=h.mono (Keep.less fun _ h'=>h'.elim)
theorem OwR.plain {α:Type} [Rp α] (hp:∀ w M M' cs (x:α),Rp.E w M cs x->Rp.E w M' cs x) {w:World} {M M':Ms} {base:Nat} {e:TypeId} {v:Value} {l:List α} (h:OwR w M base e v l):OwR w M' base e v l:=by
 obtain⟨xs,ho,he⟩:=h;exact⟨xs,ho,he.mono fun cs x _ h=>hp _ _ _ _ _ h⟩
theorem tyB:SlT Tryz.prog 22 5 UInt8:=⟨Tryz.underlying22, .int .u8 0,1,1,by kernel_rfl,rfl,by omega,rfl⟩
end
end Go.Proofs.YtpjkcgacjjbikaaGreatDoor
namespace Go.Proofs.YtpjkcgacjjbikaaGreatDoor.A
section
open Go.RowKit
def bA (b:List UInt8):AV:= .sl 1 b.length fun i=> [.v (.int .u8 (b.getD i 0).toNat)]
def iA (l:List Int):AV:= .sl 1 l.length fun i=> [iv (l.getD i 0)]
def GV (x:Img):List AV:= [iv x.zone,iv x.what,bA x.bytes]
def Fb (l:List Img):AV:= .sl 3 l.length fun i=>GV (l.getD i ⟨0,0, []⟩)
def Hq (x:Rc):List AV:= [iv x.kind,iv x.seq,iv x.epoch,iv x.at_,iv x.of_,iv x.img.zone,iv x.img.what,bA x.img.bytes]
def Sb (l:List Rc):AV:= .sl 8 l.length fun i=>Hq (l.getD i ⟨0,0,0,0,0,⟨0,0, []⟩⟩)
def Bm (g:Geo):List AV:= [iv g.z,iv g.d,iv g.sp,iv g.sl,iv g.an]

theorem wi {n:Int} (h : -9223372036854775808<=n/\n<=9223372036854775807):IntKind.i64.wrap n=n:=IntWalk.i64_in n h
theorem AT {k:Nat} (h:k<1000000000000):AV.v (.int .i64 (IntKind.i64.wrap ((k:Int)+1))) = iv ((k+1:Nat):Int):=by
 rw [wi (by omega)];try rfl

theorem HW {c:Ctx} {u:Value} {b:List UInt8} (h:Rd (bA b) c u):SlR c.w c.M u b:=by
 simp only [bA,Rd] at h;obtain⟨a,k,rfl,h1,h2,h3⟩:=h;refine⟨a,k,b.map fun x=> .int .u8 x.toNat,rfl,h1,h2,?_,fun hne=>?_⟩
 ·refine Elems.of_get (by simp [Rp.sz]) fun i x hx=>⟨[.int .u8 x.toNat],rfl,rfl,fun j hj=>?_⟩
  have hj:j<1:=hj;obtain rfl:j=0:=by omega
  simp [Rp.sz,hx]
 ·rcases h3 with h3 | ⟨bl,off,rfl,hm,hb,hc⟩
  ·exact absurd (Bt h3) hne
  ·refine⟨bl,off,rfl,hm,fun j u hu=>?_⟩;rw [Bd] at hu;cases hq:b[j]? with
   | none=>rw [hq] at hu;simp at hu
   | some x=>
    rw [hq] at hu;simp at hu;subst hu;have hlt:=(Ar.1 hq).1;have:=(hc j hlt).2;simp only [RdAt,Rd] at this;obtain⟨⟨u,e1,_,rfl⟩,_⟩:=this;rw [D4] at e1;rw [show b.getD j 0=x by rw [Ab,hq];try rfl] at e1;exact e1
theorem ofBytes {c:Ctx} {u:Value} {b:List UInt8} (h:SlR c.w c.M u b):Rd (bA b) c u:=by
 obtain⟨a,k,xs,rfl,h1,h2,h3,h4⟩:=h;simp only [bA,Rd];refine⟨a,k,rfl,h1,h2,?_⟩;by_cases hne:b=[]
 ·exact .inl (by rw [hne];try rfl)
 ·obtain⟨bl,off,rfl,hm,hc⟩:=h4 hne;have cell:∀ i,i<b.length->c.w.cell? ⟨bl,off+i,none⟩=some (.int .u8 (b.getD i 0).toNat):=by
   intro i hi;obtain⟨cs,e1,e2,e3⟩:=h3.get (Af hi);have e2:cs=[.int .u8 b[i].toNat]:=e2;subst e2;have:=hc (i*1+0) _ ((e3 0 (by decide)).trans rfl);rw [show b.getD i 0=b[i] by rw [Ab,Af hi];try rfl];simpa using this
  have h0:=cell 0 (List.length_pos_iff.2 hne);refine .inr ⟨bl,off,rfl,hm,World.block_lt_of_cell? _ _ h0,fun i hi=>⟨rfl,?_⟩⟩;simp only [RdAt,Rd,D4,and_true];exact⟨_,cell i hi,rfl,rfl⟩
theorem UP {c0:Ctx} {w':World} {t:TypeId} {u:Value} {b:List UInt8} (h:OwR w' noM c0.w.heap.size t u b) (hM:∀ b,c0.M b->b<c0.w.heap.size):Rd (bA b) { c0 with w:=w' } u:=by
 refine ofBytes (c:={ c0 with w:=w' }) ?_;have h':OwR w' c0.M c0.w.heap.size t u b:=by
  obtain⟨xs,h1,h2⟩:=h;exact⟨xs,h1,h2.mono fun cs x _ h=>h⟩
 exact h'.sl fun b hb hm=>by have:=hM b hm;omega
theorem NG {α:Type} {d:α} {a b:List α} {k:Nat} (h:a.take k=b.take k) (ha:k<a.length) (hb:k<b.length) (e:a.getD k d=b.getD k d):a.take (k+1)=b.take (k+1):=by
 rw [AM ha,AM hb,h];rw [Ab,Ab,Af ha,Af hb] at e;simp only [BO] at e;rw [e]
theorem Ri {α:Type} {d:α} {a b:List α} {k:Nat} (e:a.getD k d≠b.getD k d):a≠b:=fun h=>e (by rw [h])
theorem R6 {α:Type} {a b:List α} {k:Nat} (h:a.take k=b.take k) (ha:a.length<=k) (hb:b.length<=k):a=b:=by
 rwa [At ha,At hb] at h
theorem XX {a b:UInt8}:((a.toNat:Int) != b.toNat)=(a != b):=by
 rw [Bool.eq_iff_iff,bne_iff_ne,bne_iff_ne,ne_eq,ne_eq,Int.natCast_inj,UInt8.toNat_inj]

theorem AC {α:Type} {d:α} {l:List α} {k:Nat} (h:k<l.length):l.getD k d∈l:=by
 rw [Ab,Af h];exact Cu h
theorem IR {α:Type} {d:α} {f:Nat->α} {n i:Nat} (h:i<n):((List.range n).map f).getD i d=f i:=by
 rw [Ab,Bd,BL h];try rfl
theorem Iu {α β:Type} {d:α} {f:α->β} {l:List α} {k:Nat} (h:k<l.length):(l.take (k+1)).map f=(l.take k).map f ++ [f (l.getD k d)]:=by
 rw [AM h,A0,Ab,Af h];try rfl
theorem Rd.congr {c:Ctx} {sz n n':Nat} {get get':Nat->List AV} {u:Value} (hn:n=n') (hg:∀ i,i<n->get i=get' i) (h:Rd (.sl sz n get) c u):Rd (.sl sz n' get') c u:=by
 subst hn;simp only [Rd] at h |-
 obtain⟨a,k,rfl,h1,h2,h3⟩:=h;refine⟨a,k,rfl,h1,h2,h3.imp id ?_⟩;rintro⟨b,off,rfl,q1,q2,q3⟩;exact⟨b,off,rfl,q1,q2,fun i hi=>by rw [<-hg i hi];exact q3 i hi⟩
def z7:=@Rd.congr
theorem Wc (a b:List UInt8) (ha:a.length<=100000000000):Fn Tryz.prog 17 [bA a,bA b] fun r=>r = .v (.bool (decide (a=b))):=by
 refine Fn.of tys_ok Tryz.func17 rfl rfl (by show 2<=26;decide) ?_;conv=>whnf
 refine Ak (fun h=>?_) (fun h=>?_) <;> conv=>whnf
 ·exact⟨_,ri,by simp at h;rw [decide_eq_false (fun e=>h (by rw [e]))]⟩
 simp at h;refine zP Nat (fun k=>([(0,bA a),(1,bA b),(5,iv k)], [])) (fun k=>k<=a.length/\a.take k=b.take k) (fun k=>a.length - k) 0 ⟨Aj _,by simp⟩ ⟨[],tv,tA,tv,rfl,rfl,rfl⟩ ?_;rintro k ⟨hk,hI⟩;conv=>whnf
 refine Ak (fun h2=>?_) (fun h2=>?_) <;> simp at h2 <;> conv=>whnf
 ·refine zH tys_ok mixed (by kernel_rfl) ?_;refine⟨⟨by omega,by omega⟩,?_⟩;refine⟨⟨by omega,by omega⟩,?_⟩;conv=>whnf
  refine Ak (fun h3=>?_) (fun h3=>?_) <;> conv=>whnf
  ·exact⟨_,ri,by simp only [XX,bne_iff_ne,Ac] at h3;rw [decide_eq_false (Ri h3)]⟩
  ·simp only [XX,bne_eq_false_iff_eq,Ac] at h3;exact⟨k+1,⟨by omega,NG hI (by omega) (by omega) h3⟩,by omega,⟨[],tv,⟨rfl,rfl,AT (by omega),tv⟩,tv,rfl,rfl,rfl⟩⟩
 ·exact⟨_,ri,by rw [decide_eq_true (R6 hI (by omega) (by omega))]⟩
theorem AP {α β:Type} {d:α} {e:β} {f:α->β} {l:List α} {i:Nat} (h:i<l.length):(l.map f).getD i e=f (l.getD i d):=by
 rw [Ab,Ab,Bd,Af h];try rfl
theorem Zs {t sz:Nat} {a b c:List (List AV)} (h:a=b ++ c):AB.row t sz a = .row t sz (b ++ c):=by rw [h]
theorem EB {α:Type} {d:α} {a b:List α} {i:Nat} (h:i<a.length):(a ++ b).getD i d=a.getD i d:=by
 rw [Ab,Ab,AD h]
theorem Dj {α:Type} {d:α} {a b:List α} {i:Nat} (h:a.length<=i):(a ++ b).getD i d=b.getD (i - a.length) d:=by
 rw [Ab,Ab,AL h]
def SubL:List AV->List AV->Prop
 | [], []=>True
 | x::l,y::m=>(∀ c u,Rd x c u->Rd y c u)/\SubL l m
 | _,_=>False
theorem SubL.refl:∀ l,SubL l l
 | []=>trivial
 | _::l=>⟨ri,SubL.refl l⟩
theorem SubL.len:∀ {l m},SubL l m->l.length=m.length
 | [], [],_=>rfl
 | _::_,_::_,h=>by simp [SubL.len h.2]
 | [],_::_,h=>h.elim
 | _::_, [],h=>h.elim
theorem SubL.rd:∀ {l m} {c:Ctx} {b off:Nat},SubL l m->RdAt l c b off->RdAt m c b off
 | [], [],_,_,_,_,_=>by simp [RdAt]
 | x::l,y::m,c,b,off,h,hr=>by
  simp only [RdAt] at hr |-
  obtain⟨⟨u,h1,h2,h3⟩,h4⟩:=hr;exact⟨⟨u,h1,h2,h.1 _ _ h3⟩,SubL.rd h.2 h4⟩
 | [],_::_,_,_,_,h,_=>h.elim
 | _::_, [],_,_,_,h,_=>h.elim
theorem Rd.sub {c:Ctx} {sz n n':Nat} {get get':Nat->List AV} {u:Value} (hn:n=n') (hg:∀ i,i<n->SubL (get i) (get' i)) (h:Rd (.sl sz n get) c u):Rd (.sl sz n' get') c u:=by
 subst hn;simp only [Rd] at h |-
 obtain⟨a,k,rfl,h1,h2,h3⟩:=h;refine⟨a,k,rfl,h1,h2,h3.imp id ?_⟩;rintro⟨b,off,rfl,q1,q2,q3⟩;exact⟨b,off,rfl,q1,q2,fun i hi=>⟨by rw [<-(hg i hi).len];exact(q3 i hi).1,(hg i hi).rd (q3 i hi).2⟩⟩
def yW:=@Rd.sub
theorem Bv (sz:Nat) (get:Nat->List AV) (c:Ctx) (u:Value) (h:Rd (.v (.slice none 0 0)) c u):Rd (.sl sz 0 get) c u:=by
 simp only [Rd] at h |-
 exact⟨none,0,h,by omega,by simp [maxLen], .inl trivial⟩
theorem SubL.rdl:∀ {l m} {c:Ctx} {xs:List Value},SubL l m->RdL l c xs->RdL m c xs
 | [], [],_,_,_,h=>h
 | x::l,y::m,c,xs,h,hr=>by
  simp only [RdL] at hr |-
  obtain⟨u,us,rfl,h1,h2⟩:=hr;exact⟨u,us,rfl,h.1 _ _ h1,SubL.rdl h.2 h2⟩
 | [],_::_,_,_,h,_=>h.elim
 | _::_, [],_,_,h,_=>h.elim
theorem Bg {l m:List AV} (h:SubL l m) (c:Ctx) (u:Value) (hr:Rd (.ag l) c u):Rd (.ag m) c u:=by
 simp only [Rd] at hr |-
 obtain⟨xs,rfl,h1⟩:=hr;exact⟨xs,rfl,h.rdl h1⟩
theorem ACalls.sub {P:Program} {q:Bool} {f:FuncId} {args:List AV} {H:List AB} {k:AV->List AB->Prop} (args':List AV) (hs:SubL args args') (h:ACalls P q f args' H k):ACalls P q f args H k:=
 ⟨h.go,fun w0 M0 c us h1 h2=>h.calls w0 M0 c us h1 (hs.rdl h2)⟩
def zV:=@ACalls.sub
theorem Bi {es:List (List AV)} {l:List Int} (h:es=l.map fun x=> [iv x]):SubL [.sl 1 l.length fun i=>es.getD i []] [iA l]:=
 ⟨fun _ _ hr=>z7 rfl (fun i hi=>by rw [h,AP (d:=0) hi]) hr,tv⟩
def Sj (x:AV) (H R:List AB) (k:AV->List AB->List AB->Prop):Prop:=
 match x with
 | .v u=>k (.v u) H R
 | .sl sz n get=>k (.sl sz n get) H R
 | .ow j n=>match hget H j with
  | some (.row t sz es)=>setK j .dead H fun H=>snocK R (.row t sz es) 0 fun i R=>k (.ow i n) H R
  | _=>False
 | _=>False
def openC:List AV->List AB->List AB->(List AV->List AB->List AB->Prop)->Prop
 | [],H,R,k=>k [] H R
 | x::l,H,R,k=>Sj x H R fun x H R=>openC l H R fun l H R=>k (x::l) H R
def Si (x:AV) (H R:List AB) (k:AV->List AB->List AB->Prop):Prop:=
 match x with
 | .ag cs=>openC cs H R fun cs H R=>k (.ag cs) H R
 | x=>Sj x H R k
def openL:List AV->List AB->List AB->(List AV->List AB->List AB->Prop)->Prop
 | [],H,R,k=>k [] H R
 | x::l,H,R,k=>Si x H R fun x H R=>openL l H R fun l H R=>k (x::l) H R
def Sh (x:AV) (H:List AB) (k:AV->List AB->Prop):Prop:=
 match x with
 | .tp l=>openL l H [] fun l _ R=>k (.tp l) R
 | x=>Si x H [] fun x _ R=>k x R

section
variable {w0:Fl} {M0:Ms} {c cr:Ctx} {H R:List AB}
theorem HS.kill (h:HS w0 M0 c H) (k:Nat):HS w0 M0 c (H.set k .dead):=by
 have hget:∀ j y,(H.set k .dead)[j]? = some y->y.live=true->j≠k/\H[j]? = some y:=by
  intro j y hj hl;by_cases hjk:j=k
  ·subst hjk;by_cases hlt:j<H.length
   ·rw [A3 hlt] at hj;cases hj;cases hl
   ·rw [AF (by simp;omega)] at hj;cases hj
  ·rw [A4 (Ne.symm hjk)] at hj;exact⟨hjk,hj⟩
 refine⟨h.low,h.base,by simp [h.dom],h.foreign,h.lt,fun j y hj=>?_,fun j y g hj hl ho=>?_,fun i j y z g hi hj hly hlz hoi hoj=>?_⟩
 ·cases hy:y.live with
  | false=>cases y <;> simp [AB.live] at hy;trivial
  | true=>exact h.blk j y (hget j y hj hy).2
 ·exact h.own j y g (hget j y hj hl).2 hl ho
 ·exact h.dis i j y z g (hget i y hi hly).2 (hget j z hj hlz).2 hly hlz hoi hoj

structure OpenSt (w0:Fl) (M0:Ms) (c:Ctx) (H:List AB) (cr:Ctx) (R:List AB):Prop where
 hs:HS w0 M0 c H
 hr:HS w0 M0 cr R
 w:cr.w=c.w
 M:cr.M=c.M
 dis:∀ i k x y g,R[i]? = some x->H[k]? = some y->x.live=true->y.live=true->oB (cr.rho i)=some g->oB (c.rho k)=some g->False
 rows:∀ x∈R,∃ t sz es,x = .row t sz es
theorem OpenSt.ext (h:OpenSt w0 M0 c H cr R):Ext c.closed cr:=
 ⟨by simp [Ctx.closed,h.w],by simp [Ctx.closed,h.w],by simp [Ctx.closed,h.w],by simp [Ctx.closed,h.w],fun b _ hm=>⟨by rw [h.M];exact hm,by simp [Ctx.closed,h.w]⟩,Aj _,fun k hk=>absurd hk (Ap k),fun k hk=>absurd hk (Ap k),fun k _ hk=>absurd hk (Ap k)⟩
theorem OpenSt.take (h:OpenSt w0 M0 c H cr R) {j:Nat} {t:TypeId} {sz:Nat} {es:List (List AV)} (hj:H[j]? = some (.row t sz es)) :
  ∃ cr',OpenSt w0 M0 c (H.set j .dead) cr' (R ++ [.row t sz es])/\Ext cr cr'/\∀ n u,Rd (.ow j n) c u->Rd (.ow R.length n) cr' u:=by
 let cr':Ctx:={ cr with dom:=cr.dom+1,rho:=fun k=>if k=cr.dom then c.rho j else cr.rho k,len:=fun k=>if k=cr.dom then c.len j else cr.len k };have hrho:∀ k,k<cr.dom->cr'.rho k=cr.rho k:=fun k hk=>by simp only [cr'];rw [if_neg (by omega)]
 have hlen:∀ k,k<cr.dom->cr'.len k=cr.len k:=fun k hk=>by simp only [cr'];rw [if_neg (by omega)]
 have hrd:cr'.rho cr.dom=c.rho j:=by simp [cr']
 have hrl:cr'.len cr.dom=c.len j:=by simp [cr']
 have e:Ext cr cr':=⟨rfl,rfl,rfl,Ag _,fun _ _ hm=>⟨hm,rfl⟩,Nat.le_succ _,fun k hk=>by rw [hlen k hk];exact Ag _,fun k hk _=>hrho k hk,fun k g hk hg=>by rw [hrho k hk];exact hg⟩;have hget:∀ k y,(R ++ [AB.row t sz es])[k]? = some y->(k<cr.dom/\R[k]? = some y)\/(k=cr.dom/\y = .row t sz es):=by
  intro k y hk;rw [h.hr.dom];rcases Nat.lt_trichotomy k R.length with hlt | rfl | hgt
  ·rw [AD hlt] at hk;exact .inl ⟨hlt,hk⟩
  ·simp at hk;exact .inr ⟨rfl,hk.symm⟩
  ·rw [AF (by simp;omega)] at hk;cases hk
 have hset:∀ k y,(H.set j .dead)[k]? = some y->y.live=true->k≠j/\H[k]? = some y:=by
  intro k y hk hl;by_cases hjk:k=j
  ·subst hjk;rw [A3 (Ar.1 hj).1] at hk;cases hk;cases hl
  ·rw [A4 (Ne.symm hjk)] at hk;exact⟨hjk,hk⟩
 have hcl:Ext c.closed cr'.closed:=⟨by simp [Ctx.closed,cr',h.w],by simp [Ctx.closed,cr',h.w],by simp [Ctx.closed,cr',h.w],by simp [Ctx.closed,cr',h.w],fun b _ hm=>⟨by simp only [Ctx.closed,cr'];rw [h.M];exact hm,by simp [Ctx.closed,cr',h.w]⟩,Aj _,fun k hk=>absurd hk (Ap k),fun k hk=>absurd hk (Ap k),fun k _ hk=>absurd hk (Ap k)⟩;refine⟨cr',⟨h.hs.kill j,⟨h.hr.low,h.hr.base,by simp [cr',h.hr.dom],h.hr.foreign,h.hr.lt,fun k y hk=>?_,fun k y g hk hl ho=>?_,fun i k y z g hi hk hly hlz hoi hok=>?_⟩,h.w,h.M,fun i k x y g hi hk hlx hly hoi hok=>?_,fun x hx=>?_⟩,e,fun n u hu=>?_⟩
 ·rcases hget k y hk with ⟨hlt,hk'⟩ | ⟨rfl,rfl⟩
  ·exact zu e rfl hlt (hlen k hlt) (fun _ _ _=>rfl) (h.hr.blk k y hk')
  ·obtain⟨h1,h2,h3,xs,h4,h5,h6⟩:=h.hs.blk j _ hj;refine⟨by rw [hrl];exact h1,h2,h3,xs,?_,RdL.ext _ hcl h5,h6⟩;rw [hrd,show cr'.w=c.w from h.w,show cr'.base=c.base from h.hr.base.trans h.hs.base.symm];exact h4
 ·rcases hget k y hk with ⟨hlt,hk'⟩ | ⟨rfl,rfl⟩
  ·rw [hrho k hlt] at ho;exact h.hr.own k y g hk' hl ho
  ·rw [hrd] at ho;have:=h.hs.own j _ g hj rfl ho;exact⟨by show cr.M g;rw [h.M];exact this.1,this.2⟩
 ·rcases hget i y hi with ⟨hlt,hi'⟩ | ⟨rfl,rfl⟩ <;> rcases hget k z hk with ⟨hlt2,hk'⟩ | ⟨rfl,rfl⟩
  ·rw [hrho i hlt] at hoi;rw [hrho k hlt2] at hok;exact h.hr.dis i k y z g hi' hk' hly hlz hoi hok
  ·rw [hrho i hlt] at hoi;rw [hrd] at hok;exact(h.dis i j y _ g hi' hj hly rfl hoi hok).elim
  ·rw [hrd] at hoi;rw [hrho k hlt2] at hok;exact(h.dis k j z _ g hk' hj hlz rfl hok hoi).elim
  ·rfl
 ·obtain⟨hkj,hk'⟩:=hset k y hk hly;rcases hget i x hi with ⟨hlt,hi'⟩ | ⟨rfl,rfl⟩
  ·rw [hrho i hlt] at hoi;exact h.dis i k x y g hi' hk' hlx hly hoi hok
  ·rw [hrd] at hoi;exact hkj (h.hs.dis k j y _ g hk' hj hly rfl hok hoi)
 ·rcases Az.1 hx with hx | hx
  ·exact h.rows x hx
  ·exact⟨t,sz,es,by simpa using hx⟩
 ·simp only [Rd] at hu |-
  obtain⟨_,q2,q3,q4⟩:=hu;rw [<-h.hr.dom];exact⟨Br _,by rw [hrl];exact q2,q3,by rw [hrl,hrd];exact q4⟩
theorem K6 (h:OpenSt w0 M0 c H cr R) {x:AV} {u:Value} (hr:Rd x c u) {k:AV->List AB->List AB->Prop} (hk:Sj x H R k) :
  ∃ x' H' cr' R',k x' H' R'/\OpenSt w0 M0 c H' cr' R'/\Ext cr cr'/\Rd x' cr' u:=by
 unfold Sj at hk;split at hk
 ·exact⟨_,H,cr,R,hk,h,zM _,by simpa [Rd] using hr⟩
 ·refine⟨_,H,cr,R,hk,h,zM _,Rd.ext _ h.ext ?_⟩;simp only [Rd] at hr |-
  exact hr
 ·rename_i j n;rw [hget_eq] at hk;split at hk
  ·rename_i t sz es hj;have hk:=snocK_iff (setK_iff hk);rw [Au] at hk;obtain⟨cr',q1,q2,q3⟩:=h.take hj;exact⟨_,_,cr',_,hk,q1,q2,q3 n u hr⟩
  ·exact hk.elim
 ·exact hk.elim
theorem openC_sound:∀ {l:List AV} {H R:List AB} {cr:Ctx} (_:OpenSt w0 M0 c H cr R) {us:List Value} (_:RdL l c us) {k:List AV->List AB->List AB->Prop} (_:openC l H R k),
  ∃ l' H' cr' R',k l' H' R'/\OpenSt w0 M0 c H' cr' R'/\Ext cr cr'/\RdL l' cr' us
 | [],H,R,cr,h,us,hr,k,hk=>⟨[],H,cr,R,hk,h,zM _,by simp only [RdL] at hr |-;exact hr⟩
 | x::l,H,R,cr,h,us,hr,k,hk=>by
  simp only [RdL] at hr;obtain⟨u,us,rfl,h1,h2⟩:=hr;simp only [openC] at hk;obtain⟨x',H1,c1,R1,q1,q2,q3,q4⟩:=K6 h h1 hk;obtain⟨l',H2,c2,R2,p1,p2,p3,p4⟩:=openC_sound q2 h2 q1;exact⟨_,H2,c2,R2,p1,p2,q3.trans p3,by simp only [RdL];exact⟨u,us,rfl,Rd.ext _ p3 q4,p4⟩⟩
theorem K5 (h:OpenSt w0 M0 c H cr R) {x:AV} {u:Value} (hr:Rd x c u) {k:AV->List AB->List AB->Prop} (hk:Si x H R k) :
  ∃ x' H' cr' R',k x' H' R'/\OpenSt w0 M0 c H' cr' R'/\Ext cr cr'/\Rd x' cr' u:=by
 unfold Si at hk;split at hk
 ·simp only [Rd] at hr;obtain⟨xs,rfl,hx⟩:=hr;obtain⟨l',H2,c2,R2,p1,p2,p3,p4⟩:=openC_sound h hx hk;exact⟨_,H2,c2,R2,p1,p2,p3,by simp only [Rd];exact⟨xs,rfl,p4⟩⟩
 ·exact K6 h hr hk
theorem openL_sound:∀ {l:List AV} {H R:List AB} {cr:Ctx} (_:OpenSt w0 M0 c H cr R) {us:List Value} (_:RdL l c us) {k:List AV->List AB->List AB->Prop} (_:openL l H R k),
  ∃ l' H' cr' R',k l' H' R'/\OpenSt w0 M0 c H' cr' R'/\Ext cr cr'/\RdL l' cr' us
 | [],H,R,cr,h,us,hr,k,hk=>⟨[],H,cr,R,hk,h,zM _,by simp only [RdL] at hr |-;exact hr⟩
 | x::l,H,R,cr,h,us,hr,k,hk=>by
  simp only [RdL] at hr;obtain⟨u,us,rfl,h1,h2⟩:=hr;simp only [openL] at hk;obtain⟨x',H1,c1,R1,q1,q2,q3,q4⟩:=K5 h h1 hk;obtain⟨l',H2,c2,R2,p1,p2,p3,p4⟩:=openL_sound q2 h2 q1;exact⟨_,H2,c2,R2,p1,p2,q3.trans p3,by simp only [RdL];exact⟨u,us,rfl,Rd.ext _ p3 q4,p4⟩⟩
def ae (c:Ctx):Ctx:={ c with dom:=0 }
theorem OpenSt.begin (h:HS w0 M0 c H):OpenSt w0 M0 c H (ae c) []:=
 ⟨h,⟨h.low,h.base,rfl,h.foreign,h.lt,by simp,by simp,by simp⟩,rfl,rfl,by simp,by simp⟩
theorem PA (h:HS w0 M0 c H) {x:AV} {u:Value} (hr:Rd x c u) {k:AV->List AB->Prop} (hk:Sh x H k) :
  ∃ x' cr R,k x' R/\cr.w=c.w/\HS w0 M0 cr R/\Rd x' cr u/\∀ y∈R,∃ t sz es,y = .row t sz es:=by
 unfold Sh at hk;split at hk
 ·simp only [Rd] at hr;obtain⟨xs,rfl,hx⟩:=hr;obtain⟨l',H2,c2,R2,p1,p2,p3,p4⟩:=openL_sound (OpenSt.begin h) hx hk;exact⟨_,c2,R2,p1,p2.w,p2.hr,by simp only [Rd];exact⟨xs,rfl,p4⟩,p2.rows⟩
 ·obtain⟨x',H2,c2,R2,p1,p2,p3,p4⟩:=K5 (OpenSt.begin h) hr hk;exact⟨_,c2,R2,p1,p2.w,p2.hr,p4,p2.rows⟩
end

structure FnO (P:Program) (f:FuncId) (args:List AV) (K:AV->List AB->Prop):Prop where
 go:Q5 P f
 calls:∀ (c0:Ctx) (us:List Value) (hg:globOk c0.w),c0.dom=0->(∀ b,c0.M b->b<c0.w.heap.size)->RdL args c0 us->
  Calls P f us.toArray c0.w fun e w'=>∃ v r c' R,e = .returned v/\K r R/\c'.w=w'/\HS (Fl.all c0.w hg) c0.M c' R/\Rd r c' v/\∀ y∈R,∃ t sz es,y = .row t sz es
theorem FnO.mono {P:Program} {f:FuncId} {args:List AV} {K K':AV->List AB->Prop} (h:FnO P f args K) (hk:∀ r R,K r R->K' r R):FnO P f args K':=
 ⟨h.1,fun c0 us hg h1 h2 h3=>(h.2 c0 us hg h1 h2 h3).mono fun _ _ ⟨v,r,c',R,h4,h5,h6⟩=>⟨v,r,c',R,h4,hk _ _ h5,h6⟩⟩
def ZY (T:Tys) (rs:List ResultVar) (K:AV->List AB->Prop):QA:=fun ex fr H=>match ex with
 | .exit _=>False
 | _=>Ir T rs fr H fun x=>Sh x H K
theorem FnO.of {P : Program} {T : Tys} (hT : TOk P T) {f : FuncId} {fn : Func} {body : Code} {args : List AV} {K : AV → List AB → Prop} (hf : P.funcs[f]? = some fn) (hb : fn.body = some body) (hname : (fn.name == "runtime.NumGoroutine") = false) (hn : args.length ≤ fn.ntmps)
  (h:Ck P T fn.ntmps 0 body (ZY T fn.results.toList K) (frOf 0 args) []):FnO P f args K:=by
 refine⟨⟨fn,hf,by rw [hb];try rfl,hname⟩,fun c0 us hg hd hM hr=>?_⟩;let ce:Ctx:={ c0 with base:=0 };have hce:Ext c0 ce:=⟨rfl,rfl,rfl,Ag _,fun _ _ h=>⟨h,rfl⟩,Ag _,fun _ _=>Ag _,fun _ _ _=>rfl,fun _ _ _ h=>h⟩;have hHS:HS (Fl.all c0.w hg) c0.M ce []:=⟨yZ _ hg,rfl,hd,fun _ _=>Iff.rfl,hM,by simp,by simp,by simp⟩;have hlen:=hr.length;have hFR:FR (Fl.all c0.w hg) ce fn.ntmps (frOf 0 args) { tmps:=us.toArray ++ Array.replicate (fn.ntmps - us.toArray.size) undef,defers:= [] }:=by
  refine⟨by simp;omega,tv,fun i=>?_⟩;have:=GF (c:=ce) (m:=fn.ntmps - us.length) (l:=args) (i:=0) (pre:= []) rfl (RdL.ext _ hce hr) i;rw [AH];have e:(us.toArray ++ Array.replicate (fn.ntmps - us.toArray.size) undef)[i]? = ([] ++ us ++ List.replicate (fn.ntmps - us.length) undef)[i]? :=by
   have:(us.toArray ++ Array.replicate (fn.ntmps - us.toArray.size) undef)=([] ++ us ++ List.replicate (fn.ntmps - us.length) undef).toArray:=Array.ext' (by simp);rw [this];simp only [Ch]
  rw [e];exact this
 have fin:∀ a w,DP (Fl.all c0.w hg) c0.M ce fn.ntmps (fun fr H=>Ir T fn.results.toList fr H fun x=>Sh x H K) a w->∃ v,(results fn a.tmps).run P w = .ok v w/\∃ v' r c' R,Ending.returned v = .returned v'/\K r R/\c'.w=w/\HS (Fl.all c0.w hg) c0.M c' R/\Rd r c' v'/\∀ y∈R,∃ t sz es,y = .row t sz es:=by
  rintro a w ⟨c,fr,H,rfl,h1,h2,h3,h4⟩;obtain⟨x,v,q1,q2,q3⟩:=Es hT h2 h3 h1;obtain⟨r,cr,R,p1,p2,p3,p4,p5⟩:=PA h2 q2 q1;exact⟨v,q3,v,r,cr,R,rfl,p1,p2,p3,p4,p5⟩
 refine DZ hf hb trivial (Ag _) fin ?_;refine B3 (w0:=Fl.all c0.w hg) (M0:=c0.M) (ce:=ce) hT hd body _ _ ce _ [] _ (EO rfl rfl fun _ _ _ h=>h) hHS hFR (zM _) h

mutual
def AV.shift (d:Nat):AV->AV
 | .ow k n=> .ow (k+d) n
 | .bp k o=> .bp (k+d) o
 | .ep k n i sz off=> .ep (k+d) n i sz off
 | .ag l=> .ag (AV.shiftL d l)
 | .tp l=> .tp (AV.shiftL d l)
 | .fn f l=> .fn f (AV.shiftL d l)
 | .ic f l=> .ic f (AV.shiftL d l)
 | .top=> .top
 | .v x=> .v x
 | .sl sz n get=> .sl sz n get
 | .rp cs=> .rp cs
def AV.shiftL (d:Nat):List AV->List AV
 | []=> []
 | x::l=>x.shift d::AV.shiftL d l
end
def Ctx.beside (c c':Ctx):Ctx:={ w:=c'.w,base:=c.base,M:=c'.M,dom:=c.dom+c'.dom,rho:=fun k=>if k<c.dom then c.rho k else c'.rho (k - c.dom),len:=fun k=>if k<c.dom then c.len k else c'.len (k - c.dom) }
theorem Ext.closedBeside (c c':Ctx):Ext c'.closed (c.beside c').closed:=⟨rfl,rfl,rfl,Ag _,fun _ _ h=>⟨h,rfl⟩,Aj _,fun k hk=>absurd hk (Ap k),fun k hk=>absurd hk (Ap k),fun k _ hk=>absurd hk (Ap k)⟩
def zl:=@Ext.closedBeside
mutual
theorem Rd.shift:∀ (x:AV) {c c':Ctx} {u:Value},Rd x c' u->Rd (x.shift c.dom) (c.beside c') u
 | .top,_,_,_,_=>by simp [AV.shift,Rd]
 | .v _,_,_,_,h=>by simpa [AV.shift,Rd] using h
 | .sl sz n get,c,c',u,h=>by
  simp only [AV.shift,Rd] at h |-
  obtain⟨a,k,rfl,h1,h2,h3⟩:=h;refine⟨a,k,rfl,h1,h2,h3.imp id ?_⟩;rintro⟨b,off,rfl,hm,hb,hc⟩;exact⟨b,off,rfl,hm,hb,fun i hi=>⟨(hc i hi).1,RdAt.ext (get i) (zl c c') hb hm (hc i hi).2⟩⟩
 | .rp cs,c,c',u,h=>by
  simp only [AV.shift,Rd] at h |-
  obtain⟨b,off,rfl,hm,hb,hc⟩:=h;exact⟨b,off,rfl,hm,hb,RdAt.ext cs (zl c c') hb hm hc⟩
 | .bp k off,c,c',u,h=>by
  simp only [AV.shift,Rd] at h |-
  obtain⟨h1,g,h2,h3⟩:=h;refine⟨by simp only [Ctx.beside];omega,g,?_,h3⟩;simp only [Ctx.beside];rw [if_neg (by omega),Cp];exact h2
 | .ow k n,c,c',u,h=>by
  simp only [AV.shift,Rd] at h |-
  obtain⟨h1,h2,h3,h4⟩:=h;have e1:(c.beside c').len (k+c.dom)=c'.len k:=by simp only [Ctx.beside];rw [if_neg (by omega),Cp]
  have e2:(c.beside c').rho (k+c.dom)=c'.rho k:=by simp only [Ctx.beside];rw [if_neg (by omega),Cp]
  rw [e1,e2];exact⟨by simp only [Ctx.beside];omega,h2,h3,h4⟩
 | .ep k n i sz off,c,c',u,h=>by
  simp only [AV.shift,Rd] at h |-
  obtain⟨h1,h2,h3⟩:=h;have e1:(c.beside c').len (k+c.dom)=c'.len k:=by simp only [Ctx.beside];rw [if_neg (by omega),Cp]
  have e2:(c.beside c').rho (k+c.dom)=c'.rho k:=by simp only [Ctx.beside];rw [if_neg (by omega),Cp]
  rw [e1,e2];exact⟨by simp only [Ctx.beside];omega,h2,h3⟩
 | .ag l,c,c',u,h=>by
  simp only [AV.shift,Rd] at h |-
  obtain⟨xs,rfl,h1⟩:=h;exact⟨xs,rfl,RdL.shift l h1⟩
 | .tp l,c,c',u,h=>by
  simp only [AV.shift,Rd] at h |-
  obtain⟨xs,rfl,h1⟩:=h;exact⟨xs,rfl,RdL.shift l h1⟩
 | .fn f l,c,c',u,h=>by
  simp only [AV.shift,Rd] at h |-
  obtain⟨xs,rfl,h1⟩:=h;exact⟨xs,rfl,RdL.shift l h1⟩
 | .ic f l,c,c',u,h=>by
  simp only [AV.shift,Rd] at h |-
  obtain⟨xs,rfl,h1⟩:=h;exact⟨xs,rfl,RdL.shift l h1⟩
theorem RdL.shift:∀ (l:List AV) {c c':Ctx} {us:List Value},RdL l c' us->RdL (AV.shiftL c.dom l) (c.beside c') us
 | [],_,_,_,h=>by simp only [AV.shiftL,RdL] at h |-;exact h
 | x::l,c,c',us,h=>by
  simp only [AV.shiftL,RdL] at h |-
  obtain⟨u,us,rfl,h1,h2⟩:=h;exact⟨u,us,rfl,Rd.shift x h1,RdL.shift l h2⟩
end
theorem HS.beside {w0:Fl} {M0:Ms} {c c':Ctx} {H R:List AB} (h:HS w0 M0 c H) {hg:globOk c.w} (k:HS (Fl.all c.w hg) c.M c' R) (hR:∀ y∈R,∃ t sz es,y = .row t sz es) :
  HS w0 M0 (c.beside c') (H ++ R)/\Ext c (c.beside c'):=by
 have hsz:=h.low.size;have e:Ext c (c.beside c'):=by
  refine⟨k.low.os,k.low.tape,k.low.output,k.low.size,fun b hb hm=>⟨fun hm'=>hm ((k.foreign b hb).1 hm'),k.low.block b hb⟩,Nat.le_add_right _ _,fun i hi=>?_,fun i hi _=>?_,fun i g hi hg=>?_⟩
  ·simp only [Ctx.beside];rw [if_pos hi];exact Ag _
  ·simp only [Ctx.beside];rw [if_pos hi]
  ·simp only [Ctx.beside];rw [if_pos hi];exact hg
 have hrho:∀ i,i<c.dom->(c.beside c').rho i=c.rho i:=fun i hi=>by simp only [Ctx.beside];rw [if_pos hi]
 have hrho2:∀ i,¬i<c.dom->(c.beside c').rho i=c'.rho (i - c.dom):=fun i hi=>by simp only [Ctx.beside];rw [if_neg hi]
 have hget:∀ i y,(H ++ R)[i]? = some y->(i<c.dom/\H[i]? = some y)\/(¬i<c.dom/\R[i - c.dom]? = some y):=by
  intro i y hi;rw [h.dom];by_cases hlt:i<H.length
  ·rw [AD hlt] at hi;exact .inl ⟨hlt,hi⟩
  ·rw [AL (by omega)] at hi;exact .inr ⟨hlt,hi⟩
 refine⟨⟨h.low.trans k.low.below,h.base,by simp [Ctx.beside,h.dom,k.dom],fun b hb=>?_,k.lt,fun i y hi=>?_,fun i y g hi hl ho=>?_,fun i j y z g hi hj hly hlz hoi hoj=>?_⟩,e⟩
 ·exact(k.foreign b (As (w0.lt b hb) hsz)).trans (h.foreign b hb)
 ·rcases hget i y hi with ⟨hlt,hi'⟩ | ⟨hge,hi'⟩
  ·exact zu e rfl hlt (by simp only [Ctx.beside];rw [if_pos hlt]) (fun g hl ho=>k.low.block g (h.sub hi' hl ho)) (h.blk i y hi')
  ·obtain⟨t,sz,es,rfl⟩:=hR y (List.mem_of_getElem? hi');obtain⟨h1,h2,h3,xs,h4,h5,h6⟩:=k.blk _ _ hi';refine⟨by simp only [Ctx.beside];rw [if_neg hge];exact h1,h2,h3,xs,?_,RdL.ext _ (zl c c') h5,h6⟩;rw [hrho2 i hge];refine⟨h4.1,h4.2.imp id ?_⟩;rintro⟨g,cap,cur,q1,q2,q3⟩;refine⟨g,cap,cur,q1,?_,q3⟩;show c.base<=g;rw [h.base];exact Aj _
 ·rcases hget i y hi with ⟨hlt,hi'⟩ | ⟨hge,hi'⟩
  ·rw [hrho i hlt] at ho;have:=h.own i y g hi' hl ho;exact⟨(k.foreign g (h.lt g this.1)).2 this.1,this.2⟩
  ·rw [hrho2 i hge] at ho;have:=k.own _ y g hi' hl ho;exact⟨this.1,fun ho=>this.2 (As (w0.lt g ho) hsz)⟩
 ·rcases hget i y hi with ⟨hlt,hi'⟩ | ⟨hge,hi'⟩ <;> rcases hget j z hj with ⟨hlt2,hj'⟩ | ⟨hge2,hj'⟩
  ·rw [hrho i hlt] at hoi;rw [hrho j hlt2] at hoj;exact h.dis i j y z g hi' hj' hly hlz hoi hoj
  ·rw [hrho i hlt] at hoi;rw [hrho2 j hge2] at hoj;have h1:=h.sub hi' hly hoi;exact((k.own _ z g hj' hlz hoj).2 h1).elim
  ·rw [hrho2 i hge] at hoi;rw [hrho j hlt2] at hoj;have h1:=h.sub hj' hlz hoj;exact((k.own _ y g hi' hly hoi).2 h1).elim
  ·rw [hrho2 i hge] at hoi;rw [hrho2 j hge2] at hoj;have:=k.dis _ _ y z g hi' hj' hly hlz hoi hoj;omega
def appK:List AB->List AB->Nat->(Nat->List AB->Prop)->Prop
 | [],R,n,k=>k n R
 | y::r,R,n,k=>appK r R (n+1) fun m l=>k m (y::l)
theorem appK_iff:∀ {H R:List AB} {n:Nat} {k:Nat->List AB->Prop},appK H R n k->k (n+H.length) (H ++ R)
 | [],_,_,_,h=>h
 | y::r,R,n,k,h=>by
  simp only [appK] at h;have:=appK_iff h;rw [Ao,show n+(r.length+1)=n+1+r.length by omega];exact this
theorem FnO.call {P:Program} {f:FuncId} {args:List AV} {H:List AB} {K:AV->List AB->Prop} {q:Bool} {k:AV->List AB->Prop} (h:FnO P f args K) (hc:AV.ltL args 0=true) (hk:∀ r R,K r R->appK H R 0 fun d H=>CZ (r.shift d) fun r=>k r H):ACalls P q f args H k:=by
 refine⟨h.go,fun w0 M0 c us hs0 hr=>?_⟩;have hcut:Cut c c.closed:=⟨zM _,fun k hk=>absurd hk (Ap k)⟩;refine(h.calls c.closed us hs0.glob rfl hs0.lt (RdL.cut args hcut hc hr)).mono ?_;rintro e w' ⟨v,r,c',R,rfl,q1,rfl,q2,q3,q4⟩;obtain⟨p1,p2⟩:=hs0.beside (c':=c') q2 q4;have h1:=BD (appK_iff (hk r R q1));rw [Au,<-hs0.dom] at h1;exact⟨v,c.beside c',_,_,rfl,rfl,h1,p1,p2,Rd.shift r q3,fun _=>q2.low.below.old⟩
theorem FnO.fn1 {P:Program} {f:FuncId} {args:List AV} {t:TypeId} {sz n:Nat} {es:List (List AV)} (h:FnO P f args fun r R=>r = .ow 0 n/\R=[.row t sz es]/\n=es.length):Fn P f args fun r=>r = .sl sz n fun i=>es.getD i []:=by
 refine⟨h.go,fun c0 us hd hM hg hr=>(h.calls c0 us hg hd hM hr).mono ?_⟩;rintro e w' ⟨v,r,c',R,rfl,⟨rfl,rfl,rfl⟩,rfl,q2,q3,q4⟩;obtain⟨c2,e1,e2,e3,e4⟩:=q2.freeze (k:=0) rfl;refine⟨v,_,rfl,rfl,q2.low.below,?_⟩;have hE:Ext c2.closed { c0 with w:=c'.w }:=by
  refine⟨by simp [Ctx.closed,e1],by simp [Ctx.closed,e1],by simp [Ctx.closed,e1],by simp [Ctx.closed,e1],fun b hb hm=>⟨fun h=>hm ?_,by simp [Ctx.closed,e1]⟩,Aj _,fun k hk=>absurd hk (Ap k),fun k hk=>absurd hk (Ap k),fun k _ hk=>absurd hk (Ap k)⟩;exact(e2.foreign b (hM b h)).2 h
 refine Rd.ext _ hE ?_;have:=e4 v q3;simp only [Rd] at this |-
 exact this
def ixm:List Nat->Nat->Nat->Nat
 | [],d,i=>d+i
 | x::_,_,0=>x
 | _::r,d,i+1=>ixm r d i
theorem ixm_or:∀ (s:List Nat) (d i:Nat),(i<s.length/\ixm s d i∈s)\/(s.length<=i/\ixm s d i=d+(i - s.length))
 | [],d,i=> .inr ⟨Aj _,by simp [ixm]⟩
 | x::r,d,0=> .inl ⟨by simp,by simp [ixm]⟩
 | x::r,d,i+1=>by
  rcases ixm_or r d i with ⟨h1,h2⟩ | ⟨h1,h2⟩
  ·exact .inl ⟨by simp;omega,by simp only [ixm];exact Bc _ h2⟩
  ·exact .inr ⟨by simp;omega,by simp only [ixm,h2,Ao];omega⟩
theorem ixm_inj:∀ {s:List Nat} {d i j:Nat},s.Nodup->(∀ x∈s,x<d)->ixm s d i=ixm s d j->i=j
 | [],d,i,j,_,_,h=>by simp only [ixm] at h;omega
 | x::r,d,0,0,_,_,_=>rfl
 | x::r,d,0,j+1,hn,hb,h=>by
  simp only [ixm] at h;have hx:=hb x (by simp);rcases ixm_or r d j with ⟨_,h2⟩ | ⟨_,h2⟩
  ·rw [<-h] at h2;exact((List.nodup_cons.1 hn).1 h2).elim
  ·omega
 | x::r,d,i+1,0,hn,hb,h=>by
  simp only [ixm] at h;have hx:=hb x (by simp);rcases ixm_or r d i with ⟨_,h2⟩ | ⟨_,h2⟩
  ·rw [h] at h2;exact((List.nodup_cons.1 hn).1 h2).elim
  ·omega
 | x::r,d,i+1,j+1,hn,hb,h=>by
  simp only [ixm] at h;rw [ixm_inj (List.nodup_cons.1 hn).2 (fun y hy=>hb y (Bc _ hy)) h]
def Hv (f:Nat->Nat):List Nat->List AB->List AB->List AB
 | [],R,H=>H ++ R.map (AB.ren f)
 | x::s,y::R,H=>Hv f s R (H.set x (y.ren f))
 | _::_, [],H=>H
theorem LD (f:Nat->Nat):∀ {s:List Nat} {R H:List AB},s.length<=R.length->(Hv f s R H).length=H.length+(R.length - s.length)
 | [],R,H,_=>by simp [Hv]
 | x::s,y::R,H,h=>by simp only [Hv];rw [LD f (by simpa using h)];simp
 | _::_, [],_,h=>by simp at h
theorem F3 (f:Nat->Nat):∀ {s:List Nat} {R H:List AB},s.length<=R.length->∀ {k:Nat} {y:AB},(Hv f s R H)[k]? = some y->
  (∃ j x,R[j]? = some x/\y=x.ren f/\k=ixm s H.length j)\/(k<H.length/\k ∉ s/\H[k]? = some y)
 | [],R,H,_,k,y,h=>by
  simp only [Hv] at h;by_cases hk:k<H.length
  ·rw [AD hk] at h;exact .inr ⟨hk,by simp,h⟩
  ·rw [AL (by omega),Bd] at h;cases hx:R[k - H.length]? with
   | none=>rw [hx] at h;simp at h
   | some x=>
    rw [hx] at h;simp at h;exact .inl ⟨k - H.length,x,hx,h.symm,by simp only [ixm];omega⟩
 | x::s,y0::R,H,hl,k,y,h=>by
  simp only [Hv] at h;rcases F3 f (by simpa using hl) h with ⟨j,z,h1,h2,h3⟩ | ⟨h1,h2,h3⟩
  ·exact .inl ⟨j+1,z,by simpa using h1,h2,by simpa [ixm] using h3⟩
  ·rw [Bl] at h1;by_cases hkx:k=x
   ·subst hkx;rw [A3 h1] at h3;cases h3;exact .inl ⟨0,y0,rfl,rfl,rfl⟩
   ·rw [A4 (Ne.symm hkx)] at h3;exact .inr ⟨h1,by simp only [AQ,not_or];exact⟨hkx,h2⟩,h3⟩
 | _::_, [],_,hl,_,_,_=>by simp at hl
def UI (f:Nat->Nat):List Nat->List AB->List AB->(List AB->Prop)->Prop
 | [],R,H,k=>appK H (R.map (AB.ren f)) 0 fun _ H=>k H
 | x::s,y::R,H,k=>setK x (y.ren f) H fun H=>UI f s R H k
 | _::_, [],_,_=>False
theorem Py {f:Nat->Nat}:∀ {s:List Nat} {R H:List AB} {k:List AB->Prop},UI f s R H k->s.length<=R.length/\k (Hv f s R H)
 | [],R,H,k,h=>⟨Aj _,appK_iff (k:=fun _ H=>k H) h⟩
 | x::s,y::R,H,k,h=>by
  simp only [UI] at h;obtain⟨h1,h2⟩:=Py (setK_iff h);exact⟨by simpa using h1,h2⟩
 | _::_, [],_,_,h=>h.elim
def cntK:List AB->Nat->(Nat->Prop)->Prop
 | [],n,k=>k n
 | _::r,n,k=>cntK r (n+1) k
theorem cntK_iff:∀ {H:List AB} {n:Nat} {k:Nat->Prop},cntK H n k->k (n+H.length)
 | [],_,_,h=>h
 | _::r,n,k,h=>by
  have:=cntK_iff (H:=r) h;rw [Ao,show n+(r.length+1)=n+1+r.length by omega];exact this
def SelOk (H:List AB) (f:Nat->Nat):List AB->Nat->Prop
 | [],_=>True
 | x::r,i=>hget H (f i)=some (x.ren f)/\SelOk H f r (i+1)
theorem SelOk.get {H:List AB} {f:Nat->Nat}:∀ {R:List AB} {i j:Nat} {x:AB},SelOk H f R i->R[j]? = some x->H[f (i+j)]? = some (x.ren f)
 | [],_,_,_,_,h=>by simp at h
 | y::r,i,0,x,h,hx=>by
  simp at hx;subst hx;have:=h.1;rwa [hget_eq] at this
 | y::r,i,j+1,x,h,hx=>by
  have:=SelOk.get (j:=j) h.2 (by simpa using hx);rwa [show i+1+j=i+(j+1) by omega] at this

open Classical in
noncomputable def Ctx.after (c c':Ctx) (f:Nat->Nat) (n:Nat):Ctx:=
  { w:=c'.w,base:=c.base,M:=c'.M,dom:=n,
    rho:=fun k=>if h:∃ i,i<c'.dom/\f i=k then c'.rho h.choose else c.rho k,
    len:=fun k=>if h:∃ i,i<c'.dom/\f i=k then c'.len h.choose else c.len k }
def noO:List AB->Bool
 | []=>true
 | .rowo _ _ _ _::_=>false
 | _::r=>noO r
theorem noO_get:∀ {H:List AB},noO H=true->∀ {k:Nat} {t:TypeId} {sz:Nat} {es:List (List AV)} {m:Nat},H[k]? = some (.rowo t sz es m)->False
 | [],_,k,_,_,_,_,h=>by simp at h
 | x::r,h,k,t,sz,es,m,hk=>by
  cases k with
  | zero=>simp at hk;subst hk;simp [noO] at h
  | succ k=>
   simp at hk;refine noO_get (H:=r) ?_ hk;cases x <;> simp only [noO] at h <;> first | exact h | cases h
theorem ACalls.frame {P:Program} {q:Bool} {f:FuncId} {args:List AV} {H:List AB} {k:AV->List AB->Prop} (s:List Nat) {args':List AV} {Hin:List AB} {K:AV->List AB->Prop} (h:ACalls P q f args' Hin K)
  (ha:args=AV.renL (ixm s H.length) args') (hlt:AV.ltL args' Hin.length=true) (hin:Oa Hin.length Hin=true) (hs:s.length=Hin.length) (hn:s.Nodup) (hb:∀ x∈s,x<H.length) (hsel:SelOk H (ixm s H.length) Hin 0)
  (hk:∀ r R,K r R->cntK H 0 fun d=>UI (ixm s d) s R H fun H=>CZ (r.ren (ixm s d)) fun r=>k r H) (hnr:noO Hin=true:=by rfl):ACalls P q f args H k:=by
 refine⟨h.go,fun w0 M0 c us hs0 hr=>?_⟩;let g:=ixm s H.length;have hginj:∀ {i j:Nat},g i=g j->i=j:=fun e=>ixm_inj hn hb e
 have hget0:∀ {i:Nat} {x:AB},Hin[i]? = some x->H[g i]? = some (x.ren g):=fun hx=>by have:=hsel.get hx;rwa [Au] at this
 have hlow:∀ {i:Nat},i<Hin.length->g i∈s:=fun hi=>by
  rcases ixm_or s H.length _ with ⟨_,h2⟩ | ⟨h1,_⟩
  ·exact h2
  ·omega
 have hhigh:∀ {i:Nat},g i<H.length->i<Hin.length:=fun {i} hi=>by
  rcases ixm_or s H.length i with ⟨h1,_⟩ | ⟨h1,h2⟩
  ·omega
  ·simp only [g] at hi;omega
 let cl:Ctx:={ w:=c.w,base:=c.base,M:=c.M,dom:=Hin.length,rho:=fun i=>c.rho (g i),len:=fun i=>c.len (g i) };let w1:Fl:=⟨c.w,fun b=>b<c.w.heap.size/\∀ i x,Hin[i]? = some x->x.live=true->oB (c.rho (g i))≠some b,fun _ h=>h.1,fun w' h1 h2=>w0.gl w' (AW hs0.low.size h1) fun b hb'=>(h2 b ⟨As (w0.lt b hb') hs0.low.size,fun i x hx hl ho=>(hs0.own _ _ _ (hget0 hx) (by rw [zv];exact hl) ho).2 hb'⟩).trans (hs0.low.block b hb'),True⟩;have hcl:Ext c.closed cl.closed:=⟨rfl,rfl,rfl,Ag _,fun _ _ h=>⟨h,rfl⟩,Aj _,fun k hk=>absurd hk (Ap k),fun k hk=>absurd hk (Ap k),fun k _ hk=>absurd hk (Ap k)⟩;have hun:∀ k,k<cl.dom->cl.rho k=c.rho (g k)/\cl.len k=c.len (g k):=fun _ _=>tA
 have hown:∀ {i:Nat} {x:AB} {b:Nat},Hin[i]? = some x->x.live=true->oB (c.rho (g i))=some b->c.M b/\¬w0.old b:=fun hx hl ho=>hs0.own _ _ _ (hget0 hx) (by rw [zv];exact hl) ho
 have hHS:HS w1 c.M cl Hin:=by
  refine⟨⟨rfl,rfl,rfl,Ag _,fun _ _=>rfl⟩,hs0.base,rfl,fun _ _=>Iff.rfl,hs0.lt,fun i x hx=>?_,fun i x b hx hl ho=>⟨(hown hx hl ho).1,fun hold=>hold.2 i x hx hl ho⟩,fun i j x y b hi hj hx hy ho ho'=>?_⟩
  ·have hbk:=hs0.blk _ _ (hget0 hx);cases x with
   | dead=>trivial
   | box t cs=>
    obtain⟨b,xs,h1,h2,h3,h4⟩:=hbk;exact⟨b,xs,h1,h2,RdL.unren hun hcl cs (Ig hin i t cs hx) h3,h4⟩
   | iter s pos=>
    obtain⟨b,h1,h2⟩:=hbk;exact⟨b,h1,h2⟩
   | row t sz es=>
    obtain⟨h1,h2,h3,xs,h4,h5,h6⟩:=hbk;exact⟨h1,h2,h3,xs,h4,RdL.ext _ hcl h5,h6⟩
   | rowo t sz es m=>
    obtain⟨h1,h2,h3,h3',xs,h4,h5,h6⟩:=hbk;exact(noO_get hnr hx).elim
  ·exact hginj (hs0.dis _ _ _ _ b (hget0 hi) (hget0 hj) (by rw [zv];exact hx) (by rw [zv];exact hy) ho ho')
 refine(h.calls w1 c.M cl us hHS (RdL.unren hun hcl args' hlt (by rw [<-ha];exact hr))).mono ?_;rintro e w' ⟨v,c',r,R,rfl,rfl,q1,q2,q3,q4,q5⟩;have h1:=cntK_iff (hk r R q1);rw [Au] at h1;obtain⟨hlen,h1⟩:=Py h1;have h1:=BD h1;have hdom:c'.dom=R.length:=q2.dom;have hmR:Hin.length<=R.length:=by omega
 let n:=H.length+(R.length - s.length);have hgn:∀ {i:Nat},i<R.length->g i<n:=fun {i} hi=>by
  rcases ixm_or s H.length i with ⟨_,h2⟩ | ⟨h2,h3⟩
  ·have:=hb _ h2;simp only [g,n];omega
  ·simp only [g,n,h3];omega
 let cj:=c.after c' g n;have hrho:∀ {i:Nat},i<c'.dom->cj.rho (g i)=c'.rho i/\cj.len (g i)=c'.len i:=fun {i} hi=>by
  have hex:∃ j,j<c'.dom/\g j=g i:=⟨i,hi,rfl⟩;have:=hginj hex.choose_spec.2;simp only [cj,Ctx.after];rw [dif_pos hex,dif_pos hex,this];exact tA
 have hrho2:∀ {k:Nat},k<H.length->k ∉ s->cj.rho k=c.rho k/\cj.len k=c.len k:=fun {k} hk hks=>by
  have hex:¬∃ j,j<c'.dom/\g j=k:=by
   rintro⟨j,_,rfl⟩;exact hks (hlow (hhigh hk))
  simp only [cj,Ctx.after];rw [dif_neg hex,dif_neg hex];exact tA
 have hmem:∀ {k:Nat},k∈s->∃ i,i<Hin.length/\g i=k:=by
  have:∀ (s:List Nat) (d k:Nat),k∈s->∃ i,i<s.length/\ixm s d i=k:=by
   intro s d k hk;induction s with
   | nil=>simp at hk
   | cons x r ih=>
    rcases AQ.1 hk with rfl | hk
    ·exact⟨0,by simp,rfl⟩
    ·obtain⟨i,h1,h2⟩:=ih hk;exact⟨i+1,by simp;omega,h2⟩
  intro k hk;obtain⟨i,h1,h2⟩:=this s H.length k hk;exact⟨i,by omega,h2⟩
 have hold:∀ {b:Nat},w0.old b->w1.old b:=fun {b} hb'=>⟨As (w0.lt b hb') hs0.low.size,fun i x hx hl ho=>(hown hx hl ho).2 hb'⟩
 have hold2:∀ {b:Nat},b<c.w.heap.size->¬c.M b->w1.old b:=fun {b} hb' hm=>⟨hb',fun i x hx hl ho=>hm (hown hx hl ho).1⟩
 have hold3:∀ {k:Nat} {y:AB} {b:Nat},k ∉ s->H[k]? = some y->y.live=true->oB (c.rho k)=some b->w1.old b:=fun {k y b} hks hy hl ho=>
  ⟨hs0.sub hy hl ho,fun i x hx hl' ho'=>by
   have:=hs0.dis k (g i) y _ b hy (hget0 hx) hl (by rw [zv];exact hl') ho ho';exact hks (this ▸ hlow (Ar.1 hx).1)⟩
 have hcj:Ext c'.closed cj.closed:=⟨rfl,rfl,rfl,Ag _,fun _ _ h=>⟨h,rfl⟩,Aj _,fun k hk=>absurd hk (Ap k),fun k hk=>absurd hk (Ap k),fun k _ hk=>absurd hk (Ap k)⟩;have hren:∀ k,k<c'.dom->g k<cj.dom/\cj.rho (g k)=c'.rho k/\cj.len (g k)=c'.len k:=fun k hk=>⟨hgn (by omega),hrho hk⟩
 have hE:Ext c cj:=by
  refine⟨q2.low.os,q2.low.tape,q2.low.output,q2.low.size,fun b hb' hm=>?_,?_,fun k hk=>?_,fun k hk hl=>?_,fun k b hk hg=>?_⟩
  ·have ho:=hold2 hb' hm;exact⟨fun hm'=>hm ((q2.foreign b ho).1 hm'),q2.low.block b ho⟩
  ·show c.dom<=n;rw [hs0.dom];exact Nat.le_add_right _ _
  ·rw [hs0.dom] at hk;by_cases hks:k∈s
   ·obtain⟨i,hi,rfl⟩:=hmem hks;rw [(hrho (by omega:i<c'.dom)).2];exact q3.len i hi
   ·rw [(hrho2 hk hks).2];exact Ag _
  ·rw [hs0.dom] at hk;by_cases hks:k∈s
   ·obtain⟨i,hi,rfl⟩:=hmem hks;rw [(hrho (by omega:i<c'.dom)).2] at hl;rw [(hrho (by omega:i<c'.dom)).1];exact q3.rho i hi hl
   ·exact(hrho2 hk hks).1
  ·rw [hs0.dom] at hk;by_cases hks:k∈s
   ·obtain⟨i,hi,rfl⟩:=hmem hks;rw [(hrho (by omega:i<c'.dom)).1];exact q3.box i b hi hg
   ·rw [(hrho2 hk hks).1];exact hg
 refine⟨v,cj,r.ren g,_,rfl,rfl,h1,?_,hE,Rd.ren hren hcj r q4,q5⟩;have hdj:∀ {j:Nat} {x:AB},R[j]? = some x->j<c'.dom:=fun hx=>by rw [hdom];exact(Ar.1 hx).1
 refine⟨⟨q2.low.os.trans hs0.low.os,q2.low.tape.trans hs0.low.tape,q2.low.output.trans hs0.low.output,AW hs0.low.size q2.low.size,fun b hb'=>(q2.low.block b (hold hb')).trans (hs0.low.block b hb')⟩,hs0.base,(LD _ hlen).symm,fun b hb'=>(q2.foreign b (hold hb')).trans (hs0.foreign b hb'),q2.lt,fun k y hy=>?_,fun k y b hy hl ho=>?_,fun i k y z b hi hk' hy hz hoi hok=>?_⟩
 ·rcases F3 _ hlen hy with ⟨j,x,h2,rfl,rfl⟩ | ⟨h2,h3,h4⟩
  ·have hbk:=q2.blk j x h2;have hj:=hrho (hdj h2);cases x with
   | dead=>trivial
   | box t cs=>
    obtain⟨b,xs,h5,h6,h7,h8⟩:=hbk;exact⟨b,xs,hj.1.trans h5,h6,RdL.ren hren hcj cs h7,h8⟩
   | iter s pos=>
    obtain⟨b,h5,h6⟩:=hbk;exact⟨b,hj.1.trans h5,h6⟩
   | row t sz es=>
    obtain⟨h5,h6,h7,xs,h8,h9,h10⟩:=hbk;refine⟨hj.2.trans h5,h6,h7,xs,?_,RdL.ext _ hcj h9,h10⟩;have eb:cj.base=c'.base:=hs0.base.trans q2.base.symm;show c'.w.ownsRow cj.base t sz (cj.rho (g j)) es.length xs;rw [hj.1,eb];exact h8
   | rowo t sz es m=>
    obtain⟨h5,h6,h7,h7',xs,h8,h9,h10⟩:=hbk;refine⟨by rw [Aa];exact hj.2.trans h5,h6,fun e he=>?_,?_,xs,?_,?_,h10⟩
    ·obtain⟨e0,he0,rfl⟩:=AI.1 he;rw [AV.renL_len];exact h7 e0 he0
    ·rw [zj];exact AV.renL_lt _ h7'
    ·have eb:cj.base=c'.base:=hs0.base.trans q2.base.symm;show c'.w.ownsRow cj.base t sz (cj.rho (g j)) (es.map (AV.renL g)).length xs;rw [hj.1,eb,Aa];exact h8
    ·rw [zj];exact RdL.ren hren hcj _ h9
  ·have hkd:k<c.dom:=by rw [hs0.dom];exact h2
   exact zu hE rfl hkd (hrho2 h2 h3).2 (fun b hl ho=>q2.low.block b (hold3 h3 h4 hl ho)) (hs0.blk k y h4)
 ·rcases F3 _ hlen hy with ⟨j,x,h2,rfl,rfl⟩ | ⟨h2,h3,h4⟩
  ·have ho':oB (cj.rho (g j))=some b:=ho;rw [(hrho (hdj h2)).1] at ho';have:=q2.own j x b h2 (by rw [zv] at hl;exact hl) ho';exact⟨this.1,fun hb'=>this.2 (hold hb')⟩
  ·rw [(hrho2 h2 h3).1] at ho;have ho2:=hold3 h3 h4 hl ho;have:=hs0.own k y b h4 hl ho;exact⟨(q2.foreign b ho2).2 this.1,this.2⟩
 ·rcases F3 _ hlen hi with ⟨j,x,h2,rfl,rfl⟩ | ⟨h2,h3,h4⟩ <;> rcases F3 _ hlen hk' with ⟨j',x',h2',rfl,rfl⟩ | ⟨h2',h3',h4'⟩
  ·have e1:oB (cj.rho (g j))=some b:=hoi;have e2:oB (cj.rho (g j'))=some b:=hok;rw [(hrho (hdj h2)).1] at e1;rw [(hrho (hdj h2')).1] at e2;rw [zv] at hy hz;rw [q2.dis j j' x x' b h2 h2' hy hz e1 e2]
  ·have e1:oB (cj.rho (g j))=some b:=hoi;rw [(hrho (hdj h2)).1] at e1;rw [(hrho2 h2' h3').1] at hok;rw [zv] at hy;exact((q2.own j x b h2 hy e1).2 (hold3 h3' h4' hz hok)).elim
  ·have e2:oB (cj.rho (g j'))=some b:=hok;rw [(hrho (hdj h2')).1] at e2;rw [(hrho2 h2 h3).1] at hoi;rw [zv] at hz;exact((q2.own j' x' b h2' hz e2).2 (hold3 h3 h4 hy hoi)).elim
  ·rw [(hrho2 h2 h3).1] at hoi;rw [(hrho2 h2' h3').1] at hok;exact hs0.dis i k y z b h4 h4' hy hz hoi hok

def z_:=@ACalls.frame
theorem ze9 {P:Program} {q:Bool} {f:FuncId} {args:List AV} {H:List AB} {k:AV->List AB->Prop} (s:List Nat) {args':List AV} {Hin:List AB} {K:AV->List AB->Prop} (h:ACalls P q f args' Hin K) (hk:∀ r R,K r R->cntK H 0 fun d=>UI (ixm s d) s R H fun H=>CZ (r.ren (ixm s d)) fun r=>k r H) (ha:args=AV.renL (ixm s H.length) args':=by rfl) (hlt:AV.ltL args' Hin.length=true:=by rfl) (hin:Oa Hin.length Hin=true:=by rfl) (hs:s.length=Hin.length:=by rfl) (hn:s.Nodup:=by decide) (hb:(s.all fun x=>Nat.ble (x+1) H.length)=true:=by rfl) (hsel:SelOk H (ixm s H.length) Hin 0:=by exact tA) (hnr:noO Hin=true:=by rfl):ACalls P q f args H k:=ACalls.frame s h ha hlt hin hs hn (fun x hx=>Nat.le_of_ble_eq_true (List.all_eq_true.1 hb x hx)) hsel hk hnr
def RW (x:AV) (H:List AB) (k:AV->List AB->Prop):Prop:=
 match x with
 | .tp l=>sealA l H fun l H=>k (.tp l) H
 | x=>Po x H k
def ZZ (T:Tys) (m:Nat) (rs:List ResultVar) (K:AV->List AB->Prop):QA:=fun ex fr H=>match ex with
 | .exit _=>False
 | _=>Ir T rs fr H fun x=>RW x H fun x H=>∃ r H2,(∀ c v,Rd x c v->Rd r c v)/\wkH H2 H/\Oa H2.length H2=true/\Nat.ble m H2.length=true/\K r H2
theorem Pn {w0:Fl} {M0:Ms} {c:Ctx} {H:List AB} {x:AV} {u:Value} {k:AV->List AB->Prop} (hs:HS w0 M0 c H) (hr:Rd x c u) (h:RW x H k) :
  ∃ r H' c',k r H'/\c'.w=c.w/\HS w0 M0 c' H'/\Ext c c'/\Rd r c'.closed u:=by
 unfold RW at h;split at h
 ·simp only [Rd] at hr;obtain⟨xs,rfl,hx⟩:=hr;obtain⟨l',H',c',q1,q2,q3,q4,q5,q6⟩:=sealA_sound hs hx h;exact⟨_,H',c',q1,q2,q3,q4,by simp only [Rd];exact⟨xs,rfl,q5⟩⟩
 ·obtain⟨r,H',c',q1,q2,q3,q4,q5,_⟩:=FI hs hr h;exact⟨r,H',c',q1,q2,q3,q4,q5⟩
theorem ACalls.of {P : Program} {T : Tys} (hT : TOk P T) {f : FuncId} {fn : Func} {body : Code} {args : List AV} {Hin : List AB} {K : AV → List AB → Prop} (hf : P.funcs[f]? = some fn) (hb : fn.body = some body) (hname : (fn.name == "runtime.NumGoroutine") = false) (hn : args.length ≤ fn.ntmps)
  (h:Ck P T fn.ntmps Hin.length body (ZZ T Hin.length fn.results.toList K) (frOf 0 args) Hin):ACalls P false f args Hin K:=by
 refine⟨⟨fn,hf,by rw [hb];try rfl,hname⟩,fun w0 M0 c0 us hs0 hr=>?_⟩;have hlen:=hr.length;have hFR:FR (w0.at c0.w hs0.low) c0 fn.ntmps (frOf 0 args) { tmps:=us.toArray ++ Array.replicate (fn.ntmps - us.toArray.size) undef,defers:= [] }:=by
  refine⟨by simp;omega,tv,fun i=>?_⟩;have:=GF (c:=c0) (m:=fn.ntmps - us.length) (l:=args) (i:=0) (pre:= []) rfl hr i;rw [AH];have e:(us.toArray ++ Array.replicate (fn.ntmps - us.toArray.size) undef)[i]? = ([] ++ us ++ List.replicate (fn.ntmps - us.length) undef)[i]? :=by
   have:(us.toArray ++ Array.replicate (fn.ntmps - us.toArray.size) undef)=([] ++ us ++ List.replicate (fn.ntmps - us.length) undef).toArray:=Array.ext' (by simp);rw [this];simp only [Ch]
  rw [e];exact this
 have fin:∀ a w,DP (w0.at c0.w hs0.low) M0 c0 fn.ntmps (fun fr H=>Ir T fn.results.toList fr H fun x=>RW x H fun x H=>∃ r H2,(∀ c v,Rd x c v->Rd r c v)/\wkH H2 H/\Oa H2.length H2=true/\Nat.ble Hin.length H2.length=true/\K r H2) a w->∃ v,(results fn a.tmps).run P w = .ok v w/\∃ v' c' r H',Ending.returned v = .returned v'/\c'.w=w/\K r H'/\HS w0 M0 c' H'/\Ext c0 c'/\Rd r c' v'/\(false=true->Old c0.w w):=by
  rintro a w ⟨c,fr,H,rfl,h1,h2,h3,h4⟩;obtain⟨x,v,q1,q2,q3⟩:=Es hT h2 h3 h1;obtain⟨x',H',c1,⟨r,H2,o1,o2,o3,o4,o5⟩,p2,p3,p4,p5⟩:=Pn h2 q2 q1;have hcut:Cut c1 { c1 with dom:=H2.length }:=⟨⟨rfl,rfl,rfl,Ag _,fun _ _ h=>⟨h,rfl⟩,Ag _,fun k hk=>absurd hk (Ap k),fun k hk=>absurd hk (Ap k),fun k _ hk=>absurd hk (Ap k)⟩,fun _ _=>tA⟩;have hml:=Ae o4;have he:=h4.trans p4;refine⟨v,q3,v,{ c1 with dom:=H2.length },r,H2,rfl,p2,o5,⟨zb p3.low,p3.base,rfl,p3.foreign,p3.lt,fun k y hk=>?_,fun k y g hk hl ho=>p3.own k y g (wkH_get o2 k y hk hl) hl ho,fun j k y z g hj hk hy hz ho ho'=>p3.dis j k y z g (wkH_get o2 j y hj hy) (wkH_get o2 k z hk hz) hy hz ho ho'⟩,⟨he.os,he.tape,he.output,he.size,he.keep,by show c0.dom<=H2.length;rw [hs0.dom];exact hml,he.len,he.rho,he.box⟩,o1 _ _ (Rd.ext (c:=c1.closed) (c':={ c1 with dom:=H2.length }) _ ⟨rfl,rfl,rfl,Ag _,fun _ _ h=>⟨h,rfl⟩,Aj _,fun k hk=>absurd hk (Ap k),fun k hk=>absurd hk (Ap k),fun k _ hk=>absurd hk (Ap k)⟩ p5),fun e=>by cases e⟩;cases y with
  | dead=>trivial
  | box t cs=>
   obtain⟨g,xs,h1,h2,h3,h4⟩:=p3.blk k _ (wkH_get o2 k _ hk rfl);exact⟨g,xs,h1,h2,RdL.cut cs hcut (Ig o3 k t cs hk) h3,h4⟩
  | iter s pos=>
   obtain⟨g,h1,h2⟩:=p3.blk k _ (wkH_get o2 k _ hk rfl);exact⟨g,h1,h2⟩
  | row t sz es=>
   obtain⟨h1,h2,h3,xs,h4,h5,h6⟩:=p3.blk k _ (wkH_get o2 k _ hk rfl);exact⟨h1,h2,h3,xs,h4,h5,h6⟩
  | rowo t sz es m=>
   obtain⟨h1,h2,h3,h3',xs,h4,h5,h6⟩:=p3.blk k _ (wkH_get o2 k _ hk rfl);exact⟨h1,h2,h3,h3',xs,h4,RdL.cut _ hcut (Hu o3 hk h3') h5,h6⟩
 refine DZ hf hb trivial (Ag _) fin ?_;refine B3 (w0:=w0.at c0.w hs0.low) (M0:=M0) (ce:=c0) hT hs0.dom body _ _ c0 _ Hin _ (EO rfl rfl fun _ _ _ h=>h) hs0.toAt hFR (zM _) h
def Z9 (T:Tys) (m:Nat) (rs:List ResultVar) (K:AV->List AB->Prop):QA:=fun ex fr H=>match ex with
 | .exit _=>False
 | _=>Ir T rs fr H fun x=>∃ r H2,(∀ c v,Rd x c v->Rd r c v)/\wkH H2 H/\Oa H2.length H2=true/\(Nat.ble m H2.length=true/\r.lt H2.length=true)/\K r H2
theorem ACalls.ofO {P : Program} {T : Tys} (hT : TOk P T) {f : FuncId} {fn : Func} {body : Code} {args : List AV} {Hin : List AB} {K : AV → List AB → Prop} (hf : P.funcs[f]? = some fn) (hb : fn.body = some body) (hname : (fn.name == "runtime.NumGoroutine") = false) (hn : args.length ≤ fn.ntmps)
  (h:Ck P T fn.ntmps Hin.length body (Z9 T Hin.length fn.results.toList K) (frOf 0 args) Hin):ACalls P false f args Hin K:=by
 refine⟨⟨fn,hf,by rw [hb];try rfl,hname⟩,fun w0 M0 c0 us hs0 hr=>?_⟩;have hlen:=hr.length;have hFR:FR (w0.at c0.w hs0.low) c0 fn.ntmps (frOf 0 args) { tmps:=us.toArray ++ Array.replicate (fn.ntmps - us.toArray.size) undef,defers:= [] }:=by
  refine⟨by simp;omega,tv,fun i=>?_⟩;have:=GF (c:=c0) (m:=fn.ntmps - us.length) (l:=args) (i:=0) (pre:= []) rfl hr i;rw [AH];have e:(us.toArray ++ Array.replicate (fn.ntmps - us.toArray.size) undef)[i]? = ([] ++ us ++ List.replicate (fn.ntmps - us.length) undef)[i]? :=by
   have:(us.toArray ++ Array.replicate (fn.ntmps - us.toArray.size) undef)=([] ++ us ++ List.replicate (fn.ntmps - us.length) undef).toArray:=Array.ext' (by simp);rw [this];simp only [Ch]
  rw [e];exact this
 have fin:∀ a w,DP (w0.at c0.w hs0.low) M0 c0 fn.ntmps (fun fr H=>Ir T fn.results.toList fr H fun x=>∃ r H2,(∀ c v,Rd x c v->Rd r c v)/\wkH H2 H/\Oa H2.length H2=true/\(Nat.ble Hin.length H2.length=true/\r.lt H2.length=true)/\K r H2) a w->∃ v,(results fn a.tmps).run P w = .ok v w/\∃ v' c' r H',Ending.returned v = .returned v'/\c'.w=w/\K r H'/\HS w0 M0 c' H'/\Ext c0 c'/\Rd r c' v'/\(false=true->Old c0.w w):=by
  rintro a w ⟨c,fr,H,rfl,h1,h2,h3,h4⟩;obtain⟨x,v,⟨r,H2,o1,o2,o3,⟨o4,o6⟩,o5⟩,q2,q3⟩:=Es hT h2 h3 h1;obtain⟨c1,p3,hcc⟩:∃ c1:Ctx,HS (w0.at c0.w hs0.low) M0 c1 H/\c1=c:=⟨c,h2,rfl⟩;subst hcc;have hcut:Cut c1 { c1 with dom:=H2.length }:=⟨⟨rfl,rfl,rfl,Ag _,fun _ _ h=>⟨h,rfl⟩,Ag _,fun k hk=>absurd hk (Ap k),fun k hk=>absurd hk (Ap k),fun k _ hk=>absurd hk (Ap k)⟩,fun _ _=>tA⟩;have hml:=Ae o4;have he:=h4;refine⟨v,q3,v,{ c1 with dom:=H2.length },r,H2,rfl,rfl,o5,⟨zb p3.low,p3.base,rfl,p3.foreign,p3.lt,fun k y hk=>?_,fun k y g hk hl ho=>p3.own k y g (wkH_get o2 k y hk hl) hl ho,fun j k y z g hj hk hy hz ho ho'=>p3.dis j k y z g (wkH_get o2 j y hj hy) (wkH_get o2 k z hk hz) hy hz ho ho'⟩,⟨he.os,he.tape,he.output,he.size,he.keep,by show c0.dom<=H2.length;rw [hs0.dom];exact hml,he.len,he.rho,he.box⟩,Rd.cut r hcut o6 (o1 _ _ q2),fun e=>by cases e⟩;cases y with
  | dead=>trivial
  | box t cs=>
   obtain⟨g,xs,h1,h2,h3,h4⟩:=p3.blk k _ (wkH_get o2 k _ hk rfl);exact⟨g,xs,h1,h2,RdL.cut cs hcut (Ig o3 k t cs hk) h3,h4⟩
  | iter s pos=>
   obtain⟨g,h1,h2⟩:=p3.blk k _ (wkH_get o2 k _ hk rfl);exact⟨g,h1,h2⟩
  | row t sz es=>
   obtain⟨h1,h2,h3,xs,h4,h5,h6⟩:=p3.blk k _ (wkH_get o2 k _ hk rfl);exact⟨h1,h2,h3,xs,h4,h5,h6⟩
  | rowo t sz es m=>
   obtain⟨h1,h2,h3,h3',xs,h4,h5,h6⟩:=p3.blk k _ (wkH_get o2 k _ hk rfl);exact⟨h1,h2,h3,h3',xs,h4,RdL.cut _ hcut (Hu o3 hk h3') h5,h6⟩
 refine DZ hf hb trivial (Ag _) fin ?_;refine B3 (w0:=w0.at c0.w hs0.low) (M0:=M0) (ce:=c0) hT hs0.dom body _ _ c0 _ Hin _ (EO rfl rfl fun _ _ _ h=>h) hs0.toAt hFR (zM _) h
def yX:=@ACalls.ofO
def Z7 (T:Tys) (m:Nat) (rs:List ResultVar) (K:AV->List AB->Prop):QA:=fun ex fr H=>match ex with
 | .exit _=>False
 | _=>Ir T rs fr H fun x=>∃ y r H2,(∀ c v,Rd x c v->Rd y c v)/\Wk m [(0,y)] H [(0,r)] H2/\K r H2
theorem ACalls.ofW {P : Program} {T : Tys} (hT : TOk P T) {f : FuncId} {fn : Func} {body : Code} {args : List AV} {Hin : List AB} {K : AV → List AB → Prop} (hf : P.funcs[f]? = some fn) (hb : fn.body = some body) (hname : (fn.name == "runtime.NumGoroutine") = false) (hn : args.length ≤ fn.ntmps)
  (h:Ck P T fn.ntmps Hin.length body (Z7 T Hin.length fn.results.toList K) (frOf 0 args) Hin):ACalls P false f args Hin K:=by
 refine⟨⟨fn,hf,by rw [hb];try rfl,hname⟩,fun w0 M0 c0 us hs0 hr=>?_⟩;have hlen:=hr.length;have hFR:FR (w0.at c0.w hs0.low) c0 fn.ntmps (frOf 0 args) { tmps:=us.toArray ++ Array.replicate (fn.ntmps - us.toArray.size) undef,defers:= [] }:=by
  refine⟨by simp;omega,tv,fun i=>?_⟩;have:=GF (c:=c0) (m:=fn.ntmps - us.length) (l:=args) (i:=0) (pre:= []) rfl hr i;rw [AH];have e:(us.toArray ++ Array.replicate (fn.ntmps - us.toArray.size) undef)[i]? = ([] ++ us ++ List.replicate (fn.ntmps - us.length) undef)[i]? :=by
   have:(us.toArray ++ Array.replicate (fn.ntmps - us.toArray.size) undef)=([] ++ us ++ List.replicate (fn.ntmps - us.length) undef).toArray:=Array.ext' (by simp);rw [this];simp only [Ch]
  rw [e];exact this
 have fin:∀ a w,DP (w0.at c0.w hs0.low) M0 c0 fn.ntmps (fun fr H=>Ir T fn.results.toList fr H fun x=>∃ y r H2,(∀ c v,Rd x c v->Rd y c v)/\Wk Hin.length [(0,y)] H [(0,r)] H2/\K r H2) a w->∃ v,(results fn a.tmps).run P w = .ok v w/\∃ v' c' r H',Ending.returned v = .returned v'/\c'.w=w/\K r H'/\HS w0 M0 c' H'/\Ext c0 c'/\Rd r c' v'/\(false=true->Old c0.w w):=by
  rintro a w ⟨c,fr,H,rfl,h1,h2,h3,h4⟩;obtain⟨x,v,⟨y,r,H2,o1,o2,o3⟩,q2,q3⟩:=Es hT h2 h3 h1;have hfr:FR (w0.at c0.w hs0.low) c 1 [(0,y)] { tmps:= #[v],defers:= [] }:=by
   refine⟨rfl,tv,fun i=>?_⟩;unfold fget;cases i with
   | zero=>exact o1 _ _ q2
   | succ i=>show Rd .top c _;simp [Rd]
  obtain⟨c',e1,e2,e3,e4⟩:=o2.sound hs0.dom h2 hfr h4;have hr':=e3.get 0;refine⟨v,q3,v,c',r,H2,rfl,e1,o3,⟨zb e2.low,e2.base,e2.dom,e2.foreign,e2.lt,e2.blk,e2.own,e2.dis⟩,e4,?_,fun e=>by cases e⟩;simpa [fget] using hr'
 refine DZ hf hb trivial (Ag _) fin ?_;refine B3 (w0:=w0.at c0.w hs0.low) (M0:=M0) (ce:=c0) hT hs0.dom body _ _ c0 _ Hin _ (EO rfl rfl fun _ _ _ h=>h) hs0.toAt hFR (zM _) h
theorem aLoop.ruleC {d0:Nat} {body:QA->Fr->List AB->Prop} {Q:QA} {fr:Fr} {H:List AB} (ι:Type) (st:ι->Fr × List AB) (I:ι->Prop) (μ:ι->Nat) (x0:ι) (h0:I x0) (hw:WkC d0 fr H (st x0).1 (st x0).2)
  (round:∀ x,I x->body (fun ex fr' H'=>match ex with | .normal=>∃ x',I x'/\μ x'<μ x/\WkC d0 fr' H' (st x').1 (st x').2 | e=>Q e fr' H') (st x).1 (st x).2):aLoop d0 body Q fr H:=
 ⟨.inr (.inr (.inl ⟨ι,st,I,μ,⟨x0,h0,hw⟩,round⟩))⟩
def zt:=@aLoop.ruleC
theorem aLoop.ruleR {d0:Nat} {body:QA->Fr->List AB->Prop} {Q:QA} {fr:Fr} {H:List AB} (ι:Type) (st:ι->Fr × List AB) (I:ι->Prop) (μ:ι->Nat) (x0:ι) (h0:I x0) (hw:WkC d0 fr H (st x0).1 (st x0).2)
  (round:∀ x,I x->body (fun ex fr' H'=>match ex with | .normal=>∃ x',I x'/\μ x'<μ x/\WkR d0 fr' H' (st x').1 (st x').2 | e=>Q e fr' H') (st x).1 (st x).2):aLoop d0 body Q fr H:=
 ⟨.inr (.inr (.inr ⟨ι,st,I,μ,⟨x0,h0, .inl hw⟩,round⟩))⟩
def zd:=@aLoop.ruleR
theorem aLoop.ruleRR {d0:Nat} {body:QA->Fr->List AB->Prop} {Q:QA} {fr:Fr} {H:List AB} (ι:Type) (st:ι->Fr × List AB) (I:ι->Prop) (μ:ι->Nat) (x0:ι) (h0:I x0) (hw:WkR d0 fr H (st x0).1 (st x0).2)
  (round:∀ x,I x->body (fun ex fr' H'=>match ex with | .normal=>∃ x',I x'/\μ x'<μ x/\WkR d0 fr' H' (st x').1 (st x').2 | e=>Q e fr' H') (st x).1 (st x).2):aLoop d0 body Q fr H:=
 ⟨.inr (.inr (.inr ⟨ι,st,I,μ,⟨x0,h0, .inr hw⟩,round⟩))⟩

def zR:=@aLoop.ruleRR
theorem ConvH.rowo {H:List AB} {k:Nat} {t:TypeId} {sz:Nat} {es:List (List AV)} (hk:H[k]? = some (.row t sz es)):ConvH H (H.set k (.rowo t sz es 0)):=fun _ _ c hs=>
 ⟨c,rfl,hs.recell hk rfl fun⟨h1,h2,h3,xs,h4,h5,h6⟩=>⟨h1,h2,h3,RdL.lt_dom _ h5,xs,h4,RdL.ext _ (zA c) h5,h6⟩,zM c⟩
theorem ConvH.row {H:List AB} {k:Nat} {t:TypeId} {sz m:Nat} {es:List (List AV)} (hk:H[k]? = some (.rowo t sz es m)) (hl:AV.ltL es.flatten 0=true):ConvH H (H.set k (.row t sz es)):=fun _ _ c hs=>
 ⟨c,rfl,hs.recell hk rfl fun⟨h1,h2,h3,_,xs,h4,h5,h6⟩=>⟨h1,h2,h3,xs,h4,RdL.cut (c:=c) (c':=c.closed) _ ⟨zM c.closed,fun k hk=>absurd hk (Ap k)⟩ hl h5,h6⟩,zM c⟩
def AV.slIn (k n:Nat) (s:AV) (x:AV):AV:=match x with
 | .ow j m=>if j=k then (if m=n then s else .top) else .ow j m
 | x=>x
theorem WJ {k n:Nat} {y:AV} (hs:y.lt 0=true) {m:Nat} {x:AV} (h:x.lt m=true):(AV.slIn k n y x).lt m=true:=by
 unfold AV.slIn;split
 ·split
  ·split
   ·exact AV.lt_mono y (Aj _) hs
   ·rfl
  ·exact h
 ·exact h
theorem ConvH.sealIn {H:List AB} (j k:Nat) {t t':TypeId} {sz sz' m:Nat} {es es' es2:List (List AV)} (hj:H[j]? = some (.rowo t sz es m)) (hk:H[k]? = some (.row t' sz' es'))
  (he:es.map (List.map (AV.slIn k es'.length (.sl sz' es'.length fun i=>es'.getD i [])))=es2):ConvH H ((H.set k .dead).set j (.rowo t sz es2 m)):=by
 intro w0 M0 c hs;subst he;have hjk:j≠k:=by rintro rfl;rw [hj] at hk;cases hk
 obtain⟨c1,e1,s1,x1,r1⟩:=hs.freeze hk;have hj1:(H.set k .dead)[j]? = some (.rowo t sz es m):=by rw [A4 (Ne.symm hjk)];exact hj
 refine⟨c1,e1,s1.recell hj1 rfl ?_,x1⟩;rintro⟨h1,h2,h3,h4,_⟩;obtain⟨q0,_,_,_,ys,q1,q2,q3⟩:=hs.blk j _ hj;have hrho:=x1.rho j (hs.klt hj) (by omega);have hbase:c1.base=c.base:=s1.base.trans hs.base.symm;refine⟨by rw [Aa];exact h1,h2,fun e he=>?_,?_,ys,by rw [Aa,e1,hrho,hbase];exact q1,?_,q3⟩
 ·obtain⟨e0,h8,rfl⟩:=AI.1 he;rw [Aa];exact h3 e0 h8
 ·rw [<-List.map_flatten,CP];intro x hx;obtain⟨y,hy,rfl⟩:=AI.1 hx;exact WJ rfl (CP.1 h4 y hy)
 ·rw [<-List.map_flatten];have h8:∀ (l:List AV) (us:List Value),RdL l c us->RdL (l.map (AV.slIn k es'.length (.sl sz' es'.length fun i=>es'.getD i []))) c1 us:=by
   intro l;induction l with
   | nil=>intro us h;simp only [RdL] at h;subst h;simp [RdL]
   | cons x l ih=>
    intro us h;simp only [RdL] at h;obtain⟨u,vs,rfl,a1,a2⟩:=h;simp only [A5,RdL];refine⟨u,vs,rfl,?_,ih vs a2⟩;unfold AV.slIn;split
    ·rename_i i n;split
     ·rename_i hik;subst hik;split
      ·rename_i hn;subst hn;exact r1 u a1
      ·simp [Rd]
     ·exact Rd.ext _ x1 a1
    ·exact Rd.ext _ x1 a1
  exact h8 _ _ q2

def zz:=@ConvH.sealIn
def ZA (T:Tys) (m:Nat) (rs:List ResultVar) (K:AV->List AB->Prop):QA:=fun ex fr H=>match ex with
 | .exit _=>False
 | _=>Ir T rs fr H fun x=>∃ y r H2,(∀ c v,Rd x c v->Rd y c v)/\WkC m [(0,y)] H [(0,r)] H2/\K r H2
theorem ACalls.ofC {P : Program} {T : Tys} (hT : TOk P T) {f : FuncId} {fn : Func} {body : Code} {args : List AV} {Hin : List AB} {K : AV → List AB → Prop} (hf : P.funcs[f]? = some fn) (hb : fn.body = some body) (hname : (fn.name == "runtime.NumGoroutine") = false) (hn : args.length ≤ fn.ntmps)
  (h:Ck P T fn.ntmps Hin.length body (ZA T Hin.length fn.results.toList K) (frOf 0 args) Hin):ACalls P false f args Hin K:=by
 refine⟨⟨fn,hf,by rw [hb];try rfl,hname⟩,fun w0 M0 c0 us hs0 hr=>?_⟩;have hlen:=hr.length;have hFR:FR (w0.at c0.w hs0.low) c0 fn.ntmps (frOf 0 args) { tmps:=us.toArray ++ Array.replicate (fn.ntmps - us.toArray.size) undef,defers:= [] }:=by
  refine⟨by simp;omega,tv,fun i=>?_⟩;have:=GF (c:=c0) (m:=fn.ntmps - us.length) (l:=args) (i:=0) (pre:= []) rfl hr i;rw [AH];have e:(us.toArray ++ Array.replicate (fn.ntmps - us.toArray.size) undef)[i]? = ([] ++ us ++ List.replicate (fn.ntmps - us.length) undef)[i]? :=by
   have:(us.toArray ++ Array.replicate (fn.ntmps - us.toArray.size) undef)=([] ++ us ++ List.replicate (fn.ntmps - us.length) undef).toArray:=Array.ext' (by simp);rw [this];simp only [Ch]
  rw [e];exact this
 have fin:∀ a w,DP (w0.at c0.w hs0.low) M0 c0 fn.ntmps (fun fr H=>Ir T fn.results.toList fr H fun x=>∃ y r H2,(∀ c v,Rd x c v->Rd y c v)/\WkC Hin.length [(0,y)] H [(0,r)] H2/\K r H2) a w->∃ v,(results fn a.tmps).run P w = .ok v w/\∃ v' c' r H',Ending.returned v = .returned v'/\c'.w=w/\K r H'/\HS w0 M0 c' H'/\Ext c0 c'/\Rd r c' v'/\(false=true->Old c0.w w):=by
  rintro a w ⟨c,fr,H,rfl,h1,h2,h3,h4⟩;obtain⟨x,v,⟨y,r,H2,o1,o2,o3⟩,q2,q3⟩:=Es hT h2 h3 h1;have hfr:FR (w0.at c0.w hs0.low) c 1 [(0,y)] { tmps:= #[v],defers:= [] }:=by
   refine⟨rfl,tv,fun i=>?_⟩;unfold fget;cases i with
   | zero=>exact o1 _ _ q2
   | succ i=>show Rd .top c _;simp [Rd]
  obtain⟨c',e1,e2,e3,e4⟩:=o2.sound hs0.dom h2 hfr h4;have hr':=e3.get 0;refine⟨v,q3,v,c',r,H2,rfl,e1,o3,⟨zb e2.low,e2.base,e2.dom,e2.foreign,e2.lt,e2.blk,e2.own,e2.dis⟩,e4,?_,fun e=>by cases e⟩;simpa [fget] using hr'
 refine DZ hf hb trivial (Ag _) fin ?_;refine B3 (w0:=w0.at c0.w hs0.low) (M0:=M0) (ce:=c0) hT hs0.dom body _ _ c0 _ Hin _ (EO rfl rfl fun _ _ _ h=>h) hs0.toAt hFR (zM _) h

def zJ:=@ACalls.ofC
theorem ACalls.fn {P:Program} {q:Bool} {f:FuncId} {args:List AV} {K:AV->List AB->Prop} {K':AV->Prop} (h:ACalls P q f args [] K) (hk:∀ r H,K r H->∃ Hc,ConvH H Hc/\Pm r Hc fun x=>∃ y,(∀ c v,Rd x c v->Rd y c v)/\K' y):Fn P f args K':=by
 refine⟨h.go,fun c0 us hd hM hg hr=>?_⟩;let ce:Ctx:={ c0 with base:=0 };have hce:Ext c0 ce:=⟨rfl,rfl,rfl,Ag _,fun _ _ h=>⟨h,rfl⟩,Ag _,fun _ _=>Ag _,fun _ _ _=>rfl,fun _ _ _ h=>h⟩;have hHS:HS (Fl.all c0.w hg) c0.M ce []:=⟨yZ _ hg,rfl,hd,fun _ _=>Iff.rfl,hM,by simp,by simp,by simp⟩;refine(h.calls (Fl.all c0.w hg) c0.M ce us hHS (RdL.ext _ hce hr)).mono ?_;rintro e w' ⟨v,c',r,H',rfl,rfl,q1,q2,q3,q4,_⟩;obtain⟨Hc,o1,o2⟩:=hk r H' q1;obtain⟨c1,e1,s1,x1⟩:=o1 _ _ c' q2;obtain⟨x,H2,c2,⟨y,p0,p1⟩,p2,p3,p4,p5⟩:=Kv s1 (Rd.ext _ x1 q4) o2;refine⟨v,y,rfl,p1,q2.low.below,p0 _ _ ?_⟩;have e2:c2.w=c'.w:=p2.trans e1;have hE:Ext c2.closed { c0 with w:=c'.w }:=by
  refine⟨by simp [Ctx.closed,e2],by simp [Ctx.closed,e2],by simp [Ctx.closed,e2],by simp [Ctx.closed,e2],fun b hb hm=>⟨fun h=>hm ?_,by simp [Ctx.closed,e2]⟩,Aj _,fun k hk=>absurd hk (Ap k),fun k hk=>absurd hk (Ap k),fun k _ hk=>absurd hk (Ap k)⟩;exact(p3.foreign b (hM b h)).2 h
 exact Rd.ext _ hE p5
theorem ACalls.conv {P:Program} {q:Bool} {f:FuncId} {args:List AV} {H:List AB} {K K':AV->List AB->Prop} (h:ACalls P q f args H K) (hk:∀ r H',K r H'->∃ H'',ConvH H' H''/\K' r H''):ACalls P q f args H K':=by
 refine⟨h.go,fun w0 M0 c us hs hr=>(h.calls w0 M0 c us hs hr).mono ?_⟩;rintro e w' ⟨v,c',r,H',rfl,rfl,q1,q2,q3,q4,q5⟩;obtain⟨H'',o1,o2⟩:=hk r H' q1;obtain⟨c1,e1,s1,x1⟩:=o1 _ _ c' q2;exact⟨v,c1,r,H'',rfl,e1,o2,s1,q3.trans x1,Rd.ext _ x1 q4,q5⟩
mutual
theorem AV.ren_id {f:Nat->Nat}:∀ (x:AV),x.lt 0=true->x.ren f=x
 | .top,_=>rfl
 | .v _,_=>rfl
 | .sl _ _ _,_=>rfl
 | .rp _,_=>rfl
 | .bp k _,h=>by simp [AV.lt,Nat.blt] at h
 | .ow k _,h=>by simp [AV.lt,Nat.blt] at h
 | .ep k _ _ _ _,h=>by simp [AV.lt,Nat.blt] at h
 | .ag cs,h=>by simp only [AV.lt] at h;simp only [AV.ren,AV.renL_id cs h]
 | .tp cs,h=>by simp only [AV.lt] at h;simp only [AV.ren,AV.renL_id cs h]
 | .fn _ cs,h=>by simp only [AV.lt] at h;simp only [AV.ren,AV.renL_id cs h]
 | .ic _ cs,h=>by simp only [AV.lt] at h;simp only [AV.ren,AV.renL_id cs h]
theorem AV.renL_id {f:Nat->Nat}:∀ (l:List AV),AV.ltL l 0=true->AV.renL f l=l
 | [],_=>rfl
 | x::l,h=>by
  simp only [AV.ltL,Ad] at h;simp only [AV.renL,AV.ren_id x h.1,AV.renL_id l h.2]
end
theorem ACalls.quiet {P:Program} {q q':Bool} {f:FuncId} {args:List AV} {K:AV->List AB->Prop} (h:ACalls P q f args [] K):ACalls P q' f args [] K:=by
 refine⟨h.go,fun w0 M0 c us hs hr=>?_⟩;have hs1:HS (Fl.all c.w hs.glob) c.M c []:=⟨yZ _ _,hs.base,hs.dom,fun _ _=>Iff.rfl,hs.lt,by simp,by simp,by simp⟩;refine(h.calls _ c.M c us hs1 hr).mono ?_;rintro e w' ⟨v,c',r,H',rfl,rfl,q1,q2,q3,q4,_⟩;have hlt:∀ b,w0.old b->b<c.w.heap.size:=fun b hb=>As (w0.lt b hb) hs.low.size
 exact⟨v,c',r,H',rfl,rfl,q1,⟨hs.low.trans q2.low.below,q2.base,q2.dom,fun b hb=>(q2.foreign b (hlt b hb)).trans (hs.foreign b hb),q2.lt,q2.blk,fun k x g hk hl ho=>⟨(q2.own k x g hk hl ho).1,fun hb=>(q2.own k x g hk hl ho).2 (hlt g hb)⟩,q2.dis⟩,q3,q4,fun _=>q2.low.below.old⟩
theorem ACalls.beside {P:Program} {q q':Bool} {f:FuncId} {args:List AV} {H:List AB} {k K:AV->List AB->Prop} (h:ACalls P q' f args [] K) (hc:AV.ltL args 0=true)
  (hk:∀ r R,K r R->cntK H 0 fun d=>UI (ixm [] d) [] R H fun H=>CZ (r.ren (ixm [] d)) fun r=>k r H):ACalls P q f args H k:=
 z_ [] (h.quiet (q':=q)) (AV.renL_id args hc).symm hc rfl rfl List.nodup_nil (fun _ h=>by cases h) trivial hk
def zX:=@ACalls.beside
def flatV:AV->Bool
 | .v _=>true
 | .tp l=>l.all fun x=>match x with | .v _=>true | _=>false
 | _=>false
theorem Qc {x:AV} (h:flatV x=true) {c c':Ctx} {v:Value} (hr:Rd x c v):Rd x c' v:=by
 unfold flatV at h;split at h
 ·simpa [Rd] using hr
 ·rename_i l;simp only [Rd] at hr |-
  obtain⟨xs,rfl,hx⟩:=hr;refine⟨xs,rfl,?_⟩;induction l generalizing xs with
  | nil=>simpa [RdL] using hx
  | cons x l ih=>
   simp only [AR,Ad] at h;simp only [RdL] at hx |-
   obtain⟨u,us,rfl,h1,h2⟩:=hx;refine⟨u,us,rfl,?_,ih h.2 us h2⟩;cases x <;> simp at h;simpa [Rd] using h1
 ·cases h
theorem Fn.lend {P:Program} {f:FuncId} {args args':List AV} {H:List AB} {K:AV->Prop} {q:Bool} {k:AV->List AB->Prop} (h:Fn P f args' K) (hs:sealA args H fun a _=>a=args') (hk:∀ r,K r->flatV r=true/\k r H):ACalls P q f args H k:=by
 refine⟨h.1,fun w0 M0 c us hs0 hr=>?_⟩;obtain⟨l',H',c',rfl,h2,h3,h4,h5,_⟩:=sealA_sound hs0 hr hs;have:=h.2 c'.closed us rfl h3.lt h3.glob h5;rw [show c'.closed.w=c.w from h2] at this;refine this.mono ?_;rintro e w' ⟨v,r,rfl,q1,q2,q3⟩;obtain⟨p1,p2⟩:=hs0.grow q2;obtain⟨p3,p4⟩:=hk r q1;exact⟨v,_,r,H,rfl,rfl,p4,p1,p2,Qc p3 q3,fun _=>q2.old⟩
def zq:=@Fn.lend
theorem SubL.app:∀ {a b x y:List AV},SubL a b->SubL x y->SubL (a ++ x) (b ++ y)
 | [], [],_,_,_,k=>k
 | _::_,_::_,_,_,h,k=>⟨h.1,SubL.app h.2 k⟩
 | [],_::_,_,_,h,_=>h.elim
 | _::_, [],_,_,h,_=>h.elim
theorem SubL.flat:∀ {a b:List (List AV)},a.length=b.length->(∀ i,SubL (a.getD i []) (b.getD i []))->SubL a.flatten b.flatten
 | [], [],_,_=>trivial
 | x::a,y::b,hl,h=>by
  rw [A8,A8];exact SubL.app (h 0) (SubL.flat (by simpa using hl) fun i=>h (i+1))
 | [],_::_,hl,_=>by simp at hl
 | _::_, [],hl,_=>by simp at hl
theorem ConvH.subRow {H:List AB} {k:Nat} {t:TypeId} {sz:Nat} {es es':List (List AV)} (hk:H[k]? = some (.row t sz es)) (hl:es.length=es'.length) (h:∀ i,SubL (es.getD i []) (es'.getD i [])):ConvH H (H.set k (.row t sz es')):=fun _ _ c hs=>
 ⟨c,rfl,hs.recell hk rfl fun⟨h1,h2,h3,xs,h4,h5,h6⟩=>⟨h1.trans hl,h2,fun e he=>by
  obtain⟨i,hi,rfl⟩:=List.mem_iff_getElem.1 he;have:=(h i).len;rw [Ab,Ab,Af hi,Af (by omega)] at this;simp only [BO] at this;rw [<-this];exact h3 _ (Cu _),xs,by rw [<-hl];exact h4,(SubL.flat hl h).rdl h5,h6⟩,zM c⟩
def zm:=@ConvH.subRow
theorem ConvH.subRowo {H:List AB} {k:Nat} {t:TypeId} {sz m m':Nat} {es es':List (List AV)} (hk:H[k]? = some (.rowo t sz es m)) (hl:es.length=es'.length) (h:∀ i,SubL (es.getD i []) (es'.getD i [])) (hm:AV.ltL es'.flatten m'=true):ConvH H (H.set k (.rowo t sz es' m')):=fun _ _ c hs=>
 ⟨c,rfl,hs.recell hk rfl fun⟨h1,h2,h3,h7,xs,h4,h5,h6⟩=>⟨h1.trans hl,h2,fun e he=>by
  obtain⟨i,hi,rfl⟩:=List.mem_iff_getElem.1 he;have:=(h i).len;rw [Ab,Ab,Af hi,Af (by omega)] at this;simp only [BO] at this;rw [<-this];exact h3 _ (Cu _),hm,xs,by rw [<-hl];exact h4,(SubL.flat hl h).rdl h5,h6⟩,zM c⟩
def zr:=@ConvH.subRowo
theorem DQ {α:Type} {d x:α} {l:List α} {i k:Nat} (h:i≠k):(l.set i x).getD k d=l.getD k d:=by
 rw [Ab,A4 h,<-Ab]
theorem BK {α:Type} {d x:α} {l:List α} {i:Nat} (h:i<l.length):(l.set i x).getD i d=x:=by
 rw [Ab,A3 h];try rfl
theorem ConvH.last {H:List AB} (k:Nat) {t:TypeId} {sz:Nat} {es:List (List AV)} {e e':List AV} (hk:H[k]? = some (.row t sz (es ++ [e]))) (h:SubL e e'):ConvH H (H.set k (.row t sz (es ++ [e']))):=
 zm hk (by simp) fun i=>by
  by_cases hi:i<es.length
  ·rw [EB hi,EB hi];exact SubL.refl _
  ·rw [Dj (by omega),Dj (by omega)];cases h2:i - es.length with
   | zero=>exact h
   | succ j=>exact SubL.refl _
end
end Go.Proofs.YtpjkcgacjjbikaaGreatDoor.A
namespace Go.Proofs.YtpjkcgacjjbikaaGreatDoor
section
open Go.RowKit
def Dv (n lo hi:Int):Bool:=decide (lo<=n)&&decide (n<=hi)
theorem AK {n lo hi:Int}:Dv n lo hi=true↔lo<=n/\n<=hi:=by simp [Dv]
def Ew (b:Bool):Value:= .int .i64 (if b then 0 else 1)
def Bq (g:Geo):Bool:=Dv g.z 1 4&&Dv g.d 1 4&&Dv g.sp 0 2&&Dv g.sl 14 30&&Dv g.an 1 3
theorem A2 {g:Geo}:Bq g=true↔(1<=g.z/\g.z<=4)/\(1<=g.d/\g.d<=4)/\(0<=g.sp/\g.sp<=2)/\(14<=g.sl/\g.sl<=30)/\(1<=g.an/\g.an<=3):=by
 simp only [Bq,Ad,AK,and_assoc]

def I0 (n:Int):Bool:=Dv n 0 4294967295
end
section
open Go.RowKit
attribute [local go_sem ↓] Go.wp_at_zero Go.wp_at_succ

def CS (size:Int):Int:=if size=1 then 256 else if size=2 then 65536 else 4294967296
def Ee (size:Int):Prop:=size=1\/size=2\/size=4
def Fw (n size:Int):Value:=if size=1 then .iface 5 (.int .u8 n) else if size=2 then .iface 437 (.int .u16 n) else .iface 156 (.int .u32 n)
theorem aH (w:World) (v:Value):(Instr.typeAssert (.iface 5 v) 20 5 true).run Tryz.prog w = .ok (.tuple #[v, .bool true]) w:=by kernel_rfl
theorem XS (w:World) (v:Value):(Instr.typeAssert (.iface 437 v) 20 5 true).run Tryz.prog w = .ok (.tuple #[.int .u8 0, .bool false]) w:=by kernel_rfl
theorem XR (w:World) (v:Value):(Instr.typeAssert (.iface 156 v) 20 5 true).run Tryz.prog w = .ok (.tuple #[.int .u8 0, .bool false]) w:=by kernel_rfl
theorem ai (w:World) (v:Value):(Instr.typeAssert (.iface 437 v) 20 437 true).run Tryz.prog w = .ok (.tuple #[v, .bool true]) w:=by kernel_rfl
theorem Wq (w:World) (v:Value):(Instr.typeAssert (.iface 156 v) 20 437 true).run Tryz.prog w = .ok (.tuple #[.int .u16 0, .bool false]) w:=by kernel_rfl
theorem ah (w:World) (v:Value):(Instr.typeAssert (.iface 156 v) 20 156 false).run Tryz.prog w = .ok v w:=by kernel_rfl
attribute [local go_sem] aH XS XR ai Wq ah
def leB:Nat->Nat->List UInt8
 | 0,_=> []
 | k+1,n=>UInt8.ofNat (n % 256)::leB k (n / 256)
theorem leB_len:∀ (k n:Nat),(leB k n).length=k
 | 0,_=>rfl
 | k+1,n=>by simp [leB,leB_len k]

theorem OwR.litB (w:World) (M:Ms) (l:List UInt8) (hl:l.length<=1000):OwR (w.alloc (.cells (l.map fun x=>Value.int .u8 x.toNat).toArray 5)) M w.heap.size 5 (.slice (some ⟨w.heap.size,0,none⟩) l.length l.length) l:=by
 refine⟨l.map fun x=>Value.int .u8 x.toNat,⟨by simp [Rp.sz], .inr ⟨w.heap.size,l.length,_,rfl,Ag _,heap_alloc_new w _,Ag _,by unfold maxLen;omega,by simp [Rp.sz],?_⟩⟩,?_⟩
 ·simp only [Rp.sz,D4];exact At (by simp)
 ·clear hl;induction l with
  | nil=>rfl
  | cons x l ih=>exact⟨[.int .u8 x.toNat],_,rfl,rfl,rfl,ih⟩

def yY:=@OwR.litB
theorem SY (n size:Int) (w:World) (hs:Ee size):Calls Tryz.prog 268 #[.int .i64 n, .int .i64 size] w fun e w'=>e = .returned (if 0<=n/\n<CS size then Fw n size else .nilIface)/\w'=w:=by
 by_cases h0:0<=n
 ·by_cases h1:n<CS size
  ·have w8:size=1->IntKind.u8.wrap n=n:=fun h=>by subst h;simp [CS] at h1;rw [IntKind.wrap_u8];omega
   have w16:size=2->IntKind.u16.wrap n=n:=fun h=>by subst h;simp [CS] at h1;rw [IntKind.wrap_u16];omega
   have w32:size=4->IntKind.u32.wrap n=n:=fun h=>by subst h;simp [CS] at h1;rw [IntKind.wrap_u32];omega
   have hE:=Lib.hid (show (if 0<=n/\n<CS size then Fw n size else .nilIface)=Fw n size from if_pos ⟨h0,h1⟩);rw [hE.out];rcases hs with rfl | rfl | rfl
   ·have h2:n<256:=h1;have w0:=w8 rfl;clear h1 w8 w16 w32 hE
    go_enter Tryz.func268,Tryz.ntmps268
    go_wp2
    go_ret
    exact tA
   ·have h2:n<65536:=h1;have w0:=w16 rfl;clear h1 w8 w16 w32 hE
    go_enter Tryz.func268,Tryz.ntmps268
    go_wp2
    go_ret
    exact tA
   ·have h2:n<4294967296:=h1;have w0:=w32 rfl;clear h1 w8 w16 w32 hE
    go_enter Tryz.func268,Tryz.ntmps268
    go_wp2
    go_ret
    exact tA
  ·have hE:=Lib.hid (show (if 0<=n/\n<CS size then Fw n size else .nilIface) = .nilIface from if_neg (by omega));rw [hE.out];rcases hs with rfl | rfl | rfl
   ·have h2:¬n<256:=h1;clear h1 hE
    go_enter Tryz.func268,Tryz.ntmps268
    go_wp2
    go_ret
    exact tA
   ·have h2:¬n<65536:=h1;clear h1 hE
    go_enter Tryz.func268,Tryz.ntmps268
    go_wp2
    go_ret
    exact tA
   ·have h2:¬n<4294967296:=h1;clear h1 hE
    go_enter Tryz.func268,Tryz.ntmps268
    go_wp2
    go_ret
    exact tA
 ·have hE:=Lib.hid (show (if 0<=n/\n<CS size then Fw n size else .nilIface) = .nilIface from if_neg (by omega));rw [hE.out];clear hE;rcases hs with rfl | rfl | rfl
  ·go_enter Tryz.func268,Tryz.ntmps268
   go_wp2
   go_ret
   exact tA
  ·go_enter Tryz.func268,Tryz.ntmps268
   go_wp2
   go_ret
   exact tA
  ·go_enter Tryz.func268,Tryz.ntmps268
   go_wp2
   go_ret
   exact tA

theorem Qt (n size:Int) (w:World) (M:Ms) (hs:Ee size) (h0:0<=n) (h1:n<CS size):Calls Tryz.prog 270 #[Fw n size] w fun e w'=>∃ r,e = .returned r/\OwR w' M w.heap.size 5 r (leB size.toNat n.toNat)/\Below w.heap.size w w':=by
 have hB:=fun o=>(Below.refl w.heap.size w).alloc (Ag _) o
 obtain⟨m,rfl⟩:∃ m:Nat,n=m:=⟨n.toNat,by omega⟩;rcases hs with rfl | rfl | rfl
 ·have h2:(m:Int)<256:=h1;have hL:=Lib.hid (yY w M (leB 1 m) (by rw [leB_len];omega));have e:(UInt8.ofNat (m % 256)).toNat=m:=by simp;omega
  simp only [leB,A5,Bp,e,Ao,AN] at hL;have HB:=Lib.hid hB;clear hB h1 e h0;unfold Fw;simp only [if_true]
  go_enter Tryz.func270,Tryz.ntmps270
  go_wp2
  go_ret
  exact⟨_,rfl,hL.out,HB.out _⟩
 ·have h2:(m:Int)<65536:=h1;have hL:=Lib.hid (yY w M (leB 2 m) (by rw [leB_len];omega));have e0:((UInt8.ofNat (m % 256)).toNat:Int)=(m:Int) % 256:=by simp
  have e1:((UInt8.ofNat (m / 256 % 256)).toNat:Int)=(m:Int) / 256:=by simp;omega
  simp only [leB,A5,Bp,e0,e1,Ao,AN] at hL;have HB:=Lib.hid hB;clear hB h1 e0 e1 h0;unfold Fw;simp only [if_true];rw [if_neg (by decide)]
  go_enter Tryz.func270,Tryz.ntmps270
  go_wp2
  go_ret
  exact⟨_,rfl,hL.out,HB.out _⟩
 ·have h2:(m:Int)<4294967296:=h1;have hL:=Lib.hid (yY w M (leB 4 m) (by rw [leB_len];omega));have e0:((UInt8.ofNat (m % 256)).toNat:Int)=(m:Int) % 256:=by simp
  have e1:((UInt8.ofNat (m / 256 % 256)).toNat:Int)=(m:Int) / 256 % 256:=by simp
  have e2:((UInt8.ofNat (m / 256 / 256 % 256)).toNat:Int)=(m:Int) / 65536 % 256:=by simp;omega
  have e3:((UInt8.ofNat (m / 256 / 256 / 256 % 256)).toNat:Int)=(m:Int) / 16777216:=by simp;omega
  simp only [leB,A5,Bp,e0,e1,e2,e3,Ao,AN] at hL;have HB:=Lib.hid hB;clear hB h1 e0 e1 e2 e3 h0;unfold Fw;rw [if_neg (by decide),if_neg (by decide)]
  go_enter Tryz.func270,Tryz.ntmps270
  go_wp2
  go_ret
  exact⟨_,rfl,hL.out,HB.out _⟩
end
section
open Go.RowKit
attribute [local go_sem ↓] Go.wp_at_zero Go.wp_at_succ

theorem VD (n:Nat) (w:World) (M:Ms) (hn:n<=1000000000):Calls Tryz.prog 329 #[.slice none 0 0, .int .i64 n] w fun e w'=>∃ r,e = .returned r/\OwR w' M w.heap.size 5 r ([]:List UInt8)/\Below w.heap.size w w':=by
 have hn0:¬(n:Int)<0:=by omega
 by_cases h0:n=0
 ·subst h0;clear hn
  go_enter Tryz.func329,Tryz.ntmps329
  go_wp2
  go_ret
  exact⟨_,rfl,OwR.nil _ _ _ _,Below.refl _ _⟩
 ·obtain⟨i0,hi0,hz0,hz1,hz2⟩:=info_parts (show (Tryz.prog.info? 5).map (fun i=>(i.zero,i.size,i.bytes))=some (some (.int .u8 0),1,1) by kernel_rfl);have hrz:∀ ty,_:=fun ty=>Lib.run_append_nil_zeros (P:=Tryz.prog) w 22 3 ty 5 i0 _ .i64 .i64 Tryz.underlying22 Tryz.underlying3 hi0 hz0 n (by omega) (by omega) (by omega) (by rw [hz2];omega)
  have hG:=grownCap_ge w n 0 5;have hGm:=grownCap_le_maxLen w n 0 5 (by unfold maxLen;omega);obtain⟨G,hGe⟩:∃ G,G=grownCap w n 0 5:=⟨_,rfl⟩;rw [<-hGe] at hG hGm;simp only [<-hGe] at hrz;obtain⟨Z,hZ⟩:∃ Z,Z=Builtin.zeroCells (Value.int .u8 0).cells n ++ Builtin.zeroCells (Value.int .u8 0).cells (G - n):=⟨_,rfl⟩;have hZs:Z.size=G*1:=by
   rw [hZ,Array.size_append,size_zeroCells,size_zeroCells];simp [Value.cells];omega
  rw [<-hZ] at hrz;have hO:=Lib.hid (show OwR (w.drew.alloc (.cells Z 5)) M w.heap.size 5 (.slice (some ⟨w.heap.size,0,none⟩) 0 G) ([]:List UInt8) from ⟨[],World.ownsRow_made w.drew Z G (Ag _) hGm hZs,rfl⟩);have hB:=Lib.hid ((GK w).trans ((Below.refl w.drew.heap.size w.drew).alloc (Ag _) (.cells Z 5)));have h0':(0:Int)<n:=by omega
  unfold maxLen at hGm;have hGi:(n:Int)<=G:=by omega
  clear hi0 hz0 hz1 hz2 hZ hZs hGe h0 hn
  go_enter Tryz.func329,Tryz.ntmps329
  go_wp2_with (with_reducible refine Lib.wpList_append_run w rfl (.tmp 20) (.tmp 21) _ _ rfl _ _ rfl rfl _ _ (hrz _) ?_)
  go_ret
  exact⟨_,rfl,hO.out,hB.out⟩
theorem G1 {α:Type} [Rp α] {w:World} {M:Ms} {a:Option Addr} {n c k:Nat} {l:List (List α)} (h:SlR w M (.slice a n c) l) (hk:k<l.length):∃ b off A C,a=some ⟨b,off,none⟩/\¬M b/\w.cell? ⟨b,off+k,none⟩=some (.slice A l[k].length C)/\SlR w M (.slice A l[k].length C) l[k]:=by
 obtain⟨b,off,cs,rfl,hm,he,hc⟩:=h.at_ hk;obtain⟨v,rfl,hv⟩:=he;obtain⟨A,C,rfl⟩:=hv.form;refine⟨b,off,A,C,rfl,hm,?_,hv⟩;have:=hc 0 _ rfl;simpa [Rp.sz] using this
theorem Keep.own {α:Type} [Rp α] {w w4:World} {M:Ms} {e:TypeId} {v:Value} {L:List α} (hb:Below w.heap.size w w4) (ho:OwR w4 M w.heap.size e v L):Keep w noM w4 (fun b=>noM b\/v.ownBlock=some b):=fun b hlt _=>
 ⟨fun h=>h.elim (fun h=>h) (fun h=>by have:=ho.own_ge h;omega),hb.block b hlt⟩
theorem Nr {α:Type} {ls:List (List α)} {k:Nat} (hk:k<ls.length):(ls.take (k+1)).flatten=(ls.take k).flatten ++ ls[k]:=by
 rw [Bh,Af hk,AX];simp
theorem S0 {α:Type} {ls:List (List α)} (k:Nat):(ls.take k).flatten.length<=ls.flatten.length:=by
 conv=>rhs;rw [<-Cg k ls]
 rw [AX,Ah];omega

theorem RC (v:Value) (ls:List (List UInt8)) (w:World) (M Mi:Ms) (h:SlR w Mi v ls) (hl:ls.flatten.length<=1000000000) (hn:ls.length<=1000000) :
  Calls Tryz.prog 269 #[v] w fun e w'=>∃ r,e = .returned r/\OwR w' M w.heap.size 5 r ls.flatten/\Below w.heap.size w w':=by
 obtain⟨a,c,rfl⟩:=h.form;have H:=Lib.hid h.bare;have HL:=Lib.hid hl;clear h hl
 go_enter Tryz.func269,Tryz.ntmps269
 go_wp2
 go_loopg [3,11] ls.length (fun g s3 s11 wr=>∃ k s:Nat,s11 = .int .i64 k/\s3 = .int .i64 s/\k<=ls.length/\ls.length - k<=g/\Hid (s=(ls.take k).flatten.length)/\wr=w)
 case atStart=>exact⟨0,0,rfl,rfl,Aj _,by omega,Lib.hid (by simp),rfl⟩
 case round=>
  obtain⟨k,s,rfl,rfl,hkl,hg,hs,rfl⟩:=hrel;by_cases hlt:k<ls.length
  ·obtain⟨b,off,A,C,rfl, -,x1, -⟩:=G1 H.out hlt;have hlt':(k:Int)<ls.length:=by omega
   have hst:=Lib.hid (Nr hlt);have hb:s+ls[k].length<=1000000000:=by
    have h1:=S0 (ls:=ls) (k+1);rw [hst.out,Ah,<-hs.out] at h1;have:=HL.out;omega
   have hw1:IntKind.i64.wrap ((s:Int)+ls[k].length)=((s+ls[k].length:Nat):Int):=by rw [IntKind.wrap_i64];omega
   have hw0:¬(((s+ls[k].length:Nat):Int)<0):=by omega
   go_wp2
   go_roundg (ls.length - (k+1))
   case measure=>omega
   case rel=>exact⟨k+1,s+ls[k].length,by go_num,by first | rfl | go_num,by omega,by omega,Lib.hid (by rw [hst.out,Ah,hs.out]),rfl⟩
  ·obtain rfl:k=ls.length:=by omega
   have hb:s<=1000000000:=by
    have:=hs.out;rw [A6] at this;have:=HL.out;omega
   obtain⟨w0,rfl⟩:∃ w0,w0=wr:=⟨_,rfl⟩;have hgr:=Lib.hid (VD s w0 noM hb);clear hb hs
   go_wp2_with (go_at_call 329;go_must (with_reducible refine hgr.out.mono ?_);rintro e w2 ⟨r,rfl,ho2,hB2⟩)
   have HO:=Lib.hid (Ai ho2 hB2);clear ho2 hB2 hgr
   go_loopg [6,27] ls.length (fun g s6 s27 w3=>∃ k:Nat,s27 = .int .i64 k/\k<=ls.length/\ls.length - k<=g/\Hid (OwR w3 noM w0.heap.size 5 s6 ((ls.take k).flatten)/\Below w0.heap.size w0 w3))
   case atStart=>exact⟨0,rfl,Aj _,by omega,Lib.hid (by simpa using HO.out)⟩
   case round=>
    obtain⟨k,rfl,hkl,hg,hI⟩:=hrel;by_cases hlt:k<ls.length
    ·obtain⟨ho,hB⟩:=hI.out;obtain⟨b,off,A,C,rfl, -,x0,x2⟩:=G1 H.out hlt;have x1:=(zk (M:=noM) hB).cell (fun h=>h) x0;have hS:=Lib.hid (x2.mono (Keep.own hB ho));have O3:=Lib.hid ho;have HB3:=Lib.hid hB;have hlt':(k:Int)<ls.length:=by omega
     have hst:=Lib.hid (Nr hlt);have hb:((ls.take k).flatten).length+ls[k].length<=1000000000:=by
      have h1:=S0 (ls:=ls) (k+1);rw [hst.out,Ah] at h1;have:=HL.out;omega
     clear x0 x2 ho hB hI
     go_wp2_with (at_builtin;go_must (refine GM (α:=UInt8) (M:=noM) (base:=w0.heap.size) (l:=(ls.take k).flatten) (m:=ls[k]) rfl (by rfl) tyB (by rfl) O3.out (by rfl) hS.out hb HB3.out.size ?_);intro v4 w4 ho4 hg4 hat4)
     go_roundg (ls.length - (k+1))
     case measure=>omega
     case rel=>exact⟨k+1,by go_num,by omega,by omega,Lib.hid ⟨by rw [hst.out];exact ho4,HB3.out.grown hg4 HB3.out.size (fun b e=>O3.out.own_ge e)⟩⟩
    ·obtain rfl:k=ls.length:=by omega
     obtain⟨ho,hB⟩:=hI.out;rw [A6] at ho;have HF:=Lib.hid (Ai (OwR.plain (M':=M) (fun _ _ _ _ _ h=>h) ho) hB);clear ho hB hI
     go_wp2
     go_ret
     exact⟨_,rfl,HF.out.1,HF.out.2⟩
end
section
open Go.RowKit
attribute [local go_sem ↓] Go.wp_at_zero Go.wp_at_succ

theorem OwR.pair {w:World} {v1 v2:Value} {l1 l2:List UInt8} (h1:SlR w noM v1 l1) (h2:SlR w noM v2 l2) (t:TypeId):OwR (w.alloc (.cells #[v1,v2] t)) noM w.heap.size t (.slice (some ⟨w.heap.size,0,none⟩) 2 2) [l1,l2]:=
 ⟨[v1,v2],⟨rfl, .inr ⟨_,2,_,rfl,Ag _,heap_alloc_new w _,Ag _,by unfold maxLen;omega,rfl,rfl⟩⟩,⟨[v1], [v2],rfl,rfl,⟨v1,rfl,h1.mono Keep.ownNew⟩,⟨[v2], [],rfl,rfl,⟨v2,rfl,h2.mono Keep.ownNew⟩,rfl⟩⟩⟩
theorem Pi (n size:Int):∃ t u,Fw n size = .iface t u:=by
 unfold Fw;split
 ·exact⟨_,_,rfl⟩
 ·split <;> exact⟨_,_,rfl⟩

theorem Jq (v:Value) (l:List UInt8) (n size:Int) (w:World) (M Mi:Ms) (h:SlR w Mi v l) (hs:Ee size) (hl:l.length<=1000000) (h0:0<=n) (h1:n<CS size) :
  Calls Tryz.prog 192 #[v, .int .i64 n, .int .i64 size] w fun e w'=>∃ r,e = .returned (.tuple #[r, .int .i64 0])/\OwR w' M w.heap.size 5 r (l ++ leB size.toNat n.toNat)/\Below w.heap.size w w':=by
 obtain⟨a,c,rfl⟩:=h.form;have H:=Lib.hid h.bare;have hsz:=Lib.hid (SY n size w hs);rw [if_pos ⟨h0,h1⟩] at hsz;have hby:=Lib.hid (Qt n size w noM hs h0 h1);obtain⟨t,u,e⟩:=Pi n size;rw [e] at hsz hby;have hlb:(leB size.toNat n.toNat).length<=4:=by rw [leB_len];rcases hs with rfl | rfl | rfl <;> decide
 obtain⟨L,hL⟩:∃ L,L=leB size.toNat n.toNat:=⟨_,rfl⟩;rw [<-hL] at hby hlb |-
 clear e hs h0 h1 h hL
 go_enter Tryz.func192,Tryz.ntmps192
 go_wp2_with fail
 ((with_reducible refine hsz.out.mono ?_);rintro e w1 ⟨rfl,rfl⟩)
 go_wp2_with fail
 ((with_reducible refine hby.out.mono ?_);rintro e w2 ⟨r1,rfl,ho1,hB1⟩);obtain⟨A1,C1,rfl⟩:=ho1.form;have HB1:=Lib.hid hB1;have HA:=Lib.hid ((Below.refl w2.heap.size w2).alloc (Ag _) (.cells #[.slice a l.length c, .slice A1 L.length C1] 22));have hcc:=Lib.hid (RC _ [l,L] (w2.alloc (.cells #[.slice a l.length c, .slice A1 L.length C1] 22)) M noM ((OwR.pair (H.out.mono (zk hB1)) (ho1.sl (fun _ _ h=>h)) 22).sl (fun _ _ h=>h)) (by simp;omega) (by simp));clear ho1 hB1 hby hsz
 go_wp2_with fail
 ((with_reducible refine hcc.out.mono ?_);rintro e w3 ⟨r3,rfl,ho3,hB3⟩);have HO:=Lib.hid (ho3.mono_base (base':=w1.heap.size) (AW HB1.out.size HA.out.size));have HF:=Lib.hid (HB1.out.trans ((HA.out.trans (hB3.mono HA.out.size)).mono HB1.out.size));clear ho3 hB3 hcc
 go_wp2
 go_ret2
 refine⟨_,rfl,?_,HF.out⟩;have:=HO.out;simpa using this
end
section
open Go.RowKit
attribute [local go_sem ↓] Go.wp_at_zero Go.wp_at_succ

def rowB:List Int->List Int->List UInt8
 | n::ns,s::ss=>leB s.toNat n.toNat ++ rowB ns ss
 | _,_=> []
theorem rowB_step:∀ (ns ss:List Int) (k:Nat) (h1:k<ns.length) (h2:k<ss.length),rowB (ns.take (k+1)) (ss.take (k+1))=rowB (ns.take k) (ss.take k) ++ leB ss[k].toNat ns[k].toNat
 | n::ns,s::ss,0,_,_=>by simp [rowB]
 | n::ns,s::ss,k+1,h1,h2=>by
  have:=rowB_step ns ss k (by simpa using h1) (by simpa using h2);simp only [C2,rowB,List.getElem_cons_succ,AA];rw [this]
theorem rowB_len:∀ (ns ss:List Int),(∀ s∈ss,Ee s)->(rowB ns ss).length<=4*ss.length
 | [],ss,_=>by simp [rowB]
 | n::ns, [],_=>by simp [rowB]
 | n::ns,s::ss,h=>by
  have:=rowB_len ns ss (fun x hx=>h x (by simp [hx]));have h1:s.toNat<=4:=by rcases h s (by simp) with rfl | rfl | rfl <;> decide
  simp only [rowB,Ah,leB_len,Ao];omega

theorem WR (v1 v2:Value) (ns ss:List Int) (w:World) (M M1 M2:Ms) (h1:SlR w M1 v1 ns) (h2:SlR w M2 v2 ss) (hl:ns.length=ss.length) (hn:ns.length<=1000)
  (hf:∀ k (a:k<ns.length) (b:k<ss.length),Ee ss[k]/\0<=ns[k]/\ns[k]<CS ss[k]) :
  Calls Tryz.prog 189 #[v1,v2] w fun e w'=>∃ r,e = .returned (.tuple #[r, .int .i64 0])/\OwR w' M w.heap.size 5 r (rowB ns ss)/\Below w.heap.size w w':=by
 obtain⟨a1,c1,rfl⟩:=h1.form;obtain⟨a2,c2,rfl⟩:=h2.form;have H1:=Lib.hid h1.bare;have H2:=Lib.hid h2.bare;have HF:=Lib.hid hf;have hlen':((ns.length:Int) != ss.length)=false:=by simp [hl]
 have Hl:=Lib.hid hl;have Hss:Hid (∀ s∈ss,Ee s):=Lib.hid fun s hs=>by
  obtain⟨k,hk,rfl⟩:=List.getElem_of_mem hs;exact(hf k (by omega) hk).1
 clear h1 h2 hf hl
 go_enter Tryz.func189,Tryz.ntmps189
 go_wp2
 clear hlen'
 go_loopg [6,18] ns.length (fun g s6 s18 wr=>∃ k:Nat,s18 = .int .i64 k/\k<=ns.length/\ns.length - k<=g/\Hid (OwR wr noM w.heap.size 5 s6 (rowB (ns.take k) (ss.take k))/\Below w.heap.size w wr))
 case atStart=>exact⟨0,rfl,Aj _,by omega,Lib.hid ⟨OwR.nil _ _ _ _,Below.refl _ _⟩⟩
 case round=>
  obtain⟨k,rfl,hkl,hg,hI⟩:=hrel;by_cases hlt:k<ns.length
  ·obtain⟨ho,hB⟩:=hI.out;have hl:=Hl.out;have hlt2:k<ss.length:=by omega
   have hl2:(ss.take k).length<=1000:=by rw [Aq];omega
   obtain⟨b1,o1,rfl, -,x1⟩:=Oj (H1.out.mono (zk hB)) hlt;obtain⟨b2,o2,rfl, -,x2⟩:=Oj (H2.out.mono (zk hB)) hlt2;have hlt':(k:Int)<ns.length:=by omega
   have hlt2':(k:Int)<ss.length:=by omega
   obtain⟨f1,f2,f3⟩:=HF.out k hlt hlt2;have hle:=rowB_len (ns.take k) (ss.take k) (fun s hs=>Hss.out s (Bo hs));have hp:=Lib.hid (Jq _ _ ns[k] ss[k] wr noM noM (ho.sl (fun _ _ h=>h)) f1 (by omega) f2 f3);have hst:=Lib.hid (rowB_step ns ss k hlt hlt2);have HB:=Lib.hid hB;clear f1 f2 f3 ho hB hI hle hl hl2
   go_wp2_with (go_at_call 192;go_must (with_reducible refine hp.out.mono ?_);rintro e w2 ⟨r,rfl,ho2,hB2⟩)
   go_roundg (ns.length - (k+1))
   case measure=>omega
   case rel=>exact⟨k+1,by go_num,by omega,by omega,Lib.hid ⟨by rw [hst.out];exact ho2.mono_base HB.out.size,HB.out.trans (hB2.mono HB.out.size)⟩⟩
  ·obtain rfl:k=ns.length:=by omega
   obtain⟨ho,hB⟩:=hI.out;rw [A6,Hl.out,A6] at ho;have HX:=Lib.hid (Ai (OwR.plain (M':=M) (fun _ _ _ _ _ h=>h) ho) hB);clear ho hB hI
   go_wp2
   go_ret2
   exact⟨_,rfl,HX.out.1,HX.out.2⟩
end
section
open Go.RowKit
attribute [local go_sem ↓] Go.wp_at_zero Go.wp_at_succ

theorem P3 (v:Value) (l:List UInt8) (w:World) (M Mi:Ms) (h:SlR w Mi v l) (hl:l.length<=255) :
  Calls Tryz.prog 191 #[v] w fun e w'=>∃ r,e = .returned (.tuple #[r, .int .i64 0])/\OwR w' M w.heap.size 5 r (UInt8.ofNat l.length::l)/\Below w.heap.size w w':=by
 obtain⟨a,c,rfl⟩:=h.form;have hL:=yY w noM [UInt8.ofNat l.length] (by simp);have e:((UInt8.ofNat l.length).toNat:Int)=(l.length:Int):=by simp;omega
 simp only [A5,Bp,e,Ao,AN] at hL;have hL:=Lib.hid hL;have hS:=Lib.hid (h.bare.mono (Keep.ownNew (o:= .cells #[Value.int .u8 (l.length:Int)] 5) (n:=1) (c:=1)));have HB:=Lib.hid ((Below.refl w.heap.size w).alloc (Ag _) (.cells #[Value.int .u8 (l.length:Int)] 5));have hl':¬(255:Int)<l.length:=by omega
 have hw8:IntKind.u8.wrap (l.length:Int)=l.length:=by rw [IntKind.wrap_u8];omega
 have hb : [UInt8.ofNat l.length].length+l.length<=1000000000:=by simp;omega
 clear h e hl
 go_enter Tryz.func191,Tryz.ntmps191
 go_wp2_with (at_builtin;go_must (refine GM (α:=UInt8) (M:=noM) (base:=w.heap.size) (l:= [UInt8.ofNat l.length]) (m:=l) rfl (by rfl) tyB (by rfl) hL.out (by rfl) hS.out hb HB.out.size ?_);intro v4 w4 ho4 hg4 hat4)
 have HO:=Lib.hid (Ai (OwR.plain (M':=M) (fun _ _ _ _ _ h=>h) ho4) (HB.out.grown hg4 HB.out.size (fun b e=>hL.out.own_ge e)));clear ho4 hg4 hat4
 go_wp2
 go_ret2
 exact⟨_,rfl,HO.out.1,HO.out.2⟩
end
section
open Go.RowKit
theorem Xb (a x k:Nat) (ha:a<256 ^ k) (hx:x<256) (hk:k<4):bits BinOp.or IntKind.i64 (a:Int) (wrap64 ((x:Int)*2 ^ (8*k)))=((a+256 ^ k*x:Nat):Int):=by
 have e:(256:Nat) ^ k=2 ^ (8*k):=by rw [Nat.pow_mul]
 have h1:256 ^ k<=16777216:=by
  rcases k with _ | _ | _ | _ | k
  all_goals first | decide | omega
 have h2:256 ^ k*x<4294967296:=by
  have:256 ^ k*x<=16777216*255:=C_ h1 (by omega);omega
 have hw:wrap64 ((x:Int)*2 ^ (8*k))=((256 ^ k*x:Nat):Int):=by
  have:(x:Int)*2 ^ (8*k)=((256 ^ k*x:Nat):Int):=by rw [e];push_cast;rw [Int.mul_comm]
  rw [this];unfold wrap64;omega
 rw [hw];have h62:(4294967296:Nat)<2 ^ 62:=by decide
 rw [(bits_nat .i64 62 (by decide) (fun n h0 h1=>by rw [IntKind.wrap_i64];omega) a (256 ^ k*x) (by omega) (by omega)).2];rw [e] at ha |-
 rw [Nat.or_comm,<-Nat.two_pow_add_eq_or_of_lt ha x,CA]
theorem SlR.cap {α:Type} [Rp α] {w:World} {M:Ms} {a:Option Addr} {n c:Nat} {l:List α} (h:SlR w M (.slice a n c) l):n=l.length/\l.length<=c/\c<=9223372036854775807:=by
 obtain⟨a',c',xs,e,h1,h2,_⟩:=h;cases e;exact⟨rfl,h1,by unfold maxLen at h2;omega⟩
theorem Elems.drop_ {α:Type} {sz:Nat} {E:List Value->α->Prop}:∀ {l:List α} {xs:List Value} (i:Nat),Elems sz E xs l->i<=l.length->Elems sz E (xs.drop (i*sz)) (l.drop i)
 | l,xs,0,h,_=>by simpa using h
 | x::l,_,i+1,⟨cs,ys,e,hc,he,hy⟩,hi=>by
  subst e;have e1:(i+1)*sz=cs.length+i*sz:=by rw [hc,Bb];omega
  rw [e1,BZ,A9 (by omega),Bk,List.drop_succ_cons];rw [show cs.length+i*sz - cs.length=i*sz by omega];exact Elems.drop_ i hy (by simpa using hi)
 | [],xs,i+1,h,hi=>by simp at hi
theorem SlR.drop_ {α:Type} [Rp α] {w:World} {M:Ms} {b off n c i:Nat} {l:List α} (h:SlR w M (.slice (some ⟨b,off,none⟩) n c) l) (hi:i<=l.length):SlR w M (.slice (if c=i then some ⟨b,off,none⟩ else some ⟨b,off+i*Rp.sz α,none⟩) (n - i) (c - i)) (l.drop i):=by
 obtain⟨a',c',xs,e,h1,h2,h3,h4⟩:=h;cases e;have hl:(l.drop i).length=l.length - i:=by rw [Al]
 refine⟨_,c - i,xs.drop (i*Rp.sz α),by rw [hl],by omega,by omega,h3.drop_ i hi,fun hne=>?_⟩;have hci:c≠i:=fun e=>hne (by rw [A9 (by omega)])
 rw [if_neg hci];obtain⟨b',off',e,hm,hc⟩:=h4 (by intro e;rw [e] at hne;simp at hne);cases e;refine⟨b,off+i*Rp.sz α,rfl,hm,fun j u hu=>?_⟩;rw [Cq] at hu;have:=hc _ u hu;rwa [<-Nat.add_assoc] at this
def leN:List UInt8->Nat
 | []=>0
 | x::l=>x.toNat+256*leN l
theorem leN_lt:∀ l:List UInt8,leN l<256 ^ l.length
 | []=>by simp [leN]
 | x::l=>by
  have:=leN_lt l;have:=x.toNat_lt;simp only [leN,Ao,Nat.pow_succ];omega
theorem leN_snoc:∀ (l:List UInt8) (x:UInt8),leN (l ++ [x])=leN l+256 ^ l.length*x.toNat
 | [],x=>by simp [leN]
 | y::l,x=>by
  simp only [Bj,leN,leN_snoc l x,Ao,Nat.pow_succ,Nat.mul_add];rw [<-Nat.add_assoc,<-Nat.mul_assoc,Nat.mul_comm 256 (256 ^ l.length)]

theorem VE {l:List UInt8} {k:Nat} (hk:k<l.length) (h4:k<4):bits BinOp.or IntKind.i64 ((leN (l.take k):Nat):Int) (wrap64 ((l[k].toNat:Int)*2 ^ (8*k)))=((leN (l.take (k+1)):Nat):Int):=by
 have hlen:(l.take k).length=k:=by rw [Aq];omega
 have:=leN_lt (l.take k);rw [hlen] at this;rw [Xb _ _ k this l[k].toNat_lt h4,Bh,Af hk];show _=((leN (l.take k ++ [l[k]]):Nat):Int);rw [leN_snoc,hlen]

abbrev OM (M:Ms) (v:Value):Ms:=fun b=>M b\/v.ownBlock=some b
theorem OwR.own_ne {α β:Type} [Rp α] [Rp β] {w:World} {M1 M2:Ms} {n1 n2:Nat} {e1 e2:TypeId} {v1 v2:Value} {l1:List α} {l2:List β} (h1:OwR w M1 n1 e1 v1 l1) (h2:OwR w M2 n2 e2 v2 l2) (hne:e1≠e2) :
  v2.ownBlock=none\/v2.ownBlock≠v1.ownBlock:=by
 obtain⟨xs,ho',_⟩:=h1;obtain⟨ys,ho'',_⟩:=h2;rcases ho''.2 with ⟨rfl,_⟩ | ⟨g2,cap2,cur2,rfl,_,hh2,_⟩
 ·exact .inl (by simp [Value.ownBlock])
 ·refine .inr fun e=>?_
  rcases ho'.2 with ⟨rfl,_⟩ | ⟨g1,cap,cur,rfl,_,hh,_⟩
  ·simp [Value.ownBlock] at e
  ·simp [Value.ownBlock] at e;subst e;rw [hh] at hh2;injection hh2 with hh2
   injection hh2 with _ ht
   exact hne ht
theorem OwR.own_new {α β:Type} [Rp α] [Rp β] {w w':World} {M1 M2:Ms} {n1:Nat} {e1 e2:TypeId} {v1 v2:Value} {l1:List α} {l2:List β} (h1:OwR w M1 n1 e1 v1 l1) (h2:OwR w' M2 w.heap.size e2 v2 l2) :
  v2.ownBlock=none\/v2.ownBlock≠v1.ownBlock:=by
 cases h:v2.ownBlock with
 | none=>exact .inl rfl
 | some g=>
  refine .inr fun e=>?_
  have a:=h2.own_ge h;have b:=h1.own_lt e.symm;omega
theorem OwR.own_old {α β:Type} [Rp α] [Rp β] {w w':World} {M1 M2:Ms} {n1:Nat} {e1 e2:TypeId} {v1 v2:Value} {l1:List α} {l2:List β} (h1:OwR w M1 n1 e1 v1 l1) (h2:OwR w' M2 w.heap.size e2 v2 l2) :
  v1.ownBlock=none\/v1.ownBlock≠v2.ownBlock:=by
 cases h:v1.ownBlock with
 | none=>exact .inl rfl
 | some g=>
  refine .inr fun e=>?_
  have a:=h2.own_ge e.symm;have b:=h1.own_lt h;omega
abbrev W4 (α:Type) [Rp α]:Prop:=∀ w M w' M' cs (x:α),Rp.E w M cs x->Rp.E w' M' cs x
section
variable {α:Type} [Rp α] {w w':World} {M M':Ms} {base:Nat} {e:TypeId} {v:Value} {l:List α}
theorem OwR.pl (hp:W4 α) (h:OwR w M base e v l):OwR w M' base e v l:=OwR.plain (fun _ _ _ _ _ h=>hp _ _ _ _ _ _ h) h
theorem OwR.keptP (hp:W4 α) {row:Option Nat} (h:OwR w M base e v l) (hg:w.grownBy w' row) (hne:v.ownBlock=none\/v.ownBlock≠row):OwR w' M base e v l:=
 OwR.pl (M:=fun _=>True) hp ((OwR.pl hp h).kept hg hne fun _ _=>trivial)
theorem OwR.setP (hp:W4 α) (h:OwR w M base e v l) {p:Addr} (hne:v.ownBlock≠some p.block) (u:Value):OwR (w.setCell p u) M base e v l:=
 OwR.pl (M:=fun _=>True) hp ((OwR.pl hp h).setCell hne trivial u)
theorem OwR.sl' (h:OwR w M base e v l) (hM:∀ b,v.ownBlock=some b->¬M b):SlR w M v l:=by
 obtain⟨xs,ho,he⟩:=h;have he':Elems (Rp.sz α) (Rp.E w M) xs l:=he.mono fun cs x _=>Rp.mono fun b _ hb=>⟨fun hm=>hb (.inl hm),rfl⟩
 rcases ho.2 with ⟨rfl,hn⟩ | ⟨g,cap,cur,rfl,hb,hg,hnc,hcm,hcs,ht⟩
 ·have:l=[]:=Bt hn;subst this;exact⟨none,0,xs,rfl,by simp,by simp [maxLen],he',fun h=>absurd rfl h⟩
 ·refine⟨_,cap,xs,rfl,hnc,hcm,he',fun _=>⟨g,0,rfl,hM g rfl,fun j u hu=>?_⟩⟩;have:=ho.cells (g:=g) rfl j u hu;rwa [Addr.add_lit] at this
end
theorem Elems.take_ {α:Type} {sz:Nat} {E:List Value->α->Prop}:∀ {l:List α} {xs:List Value} (i:Nat),Elems sz E xs l->i<=l.length->Elems sz E (xs.take (i*sz)) (l.take i)
 | l,xs,0,_,_=>by simp [Elems]
 | x::l,_,i+1,⟨cs,ys,e,hc,he,hy⟩,hi=>by
  subst e;have e1:(i+1)*sz=cs.length+i*sz:=by rw [hc,Bb];omega
  rw [e1,List.take_append,At (by omega),C2];rw [show cs.length+i*sz - cs.length=i*sz by omega];exact⟨cs,_,rfl,hc,he,Elems.take_ i hy (by simpa using hi)⟩
 | [],xs,i+1,h,hi=>by simp at hi
theorem SlR.take_ {α:Type} [Rp α] {w:World} {M:Ms} {a:Option Addr} {n c i:Nat} {l:List α} (h:SlR w M (.slice a n c) l) (hi:i<=l.length):SlR w M (.slice a i c) (l.take i):=by
 obtain⟨a',c',xs,e,h1,h2,h3,h4⟩:=h;cases e;have hl:(l.take i).length=i:=by rw [Aq];omega
 refine⟨a,c,xs.take (i*Rp.sz α),by rw [hl],by omega,h2,h3.take_ i hi,fun hne=>?_⟩;obtain⟨b,off,e,hm,hc⟩:=h4 (by intro e;rw [e] at hne;simp at hne);refine⟨b,off,e,hm,fun j u hu=>hc j u ?_⟩;rw [List.getElem?_take] at hu;split at hu
 ·exact hu
 ·cases hu
theorem SlR.dropN {α:Type} [Rp α] {w:World} {M:Ms} {n c:Nat} {l:List α} (h:SlR w M (.slice none n c) l):l=[]/\n=0:=by
 obtain⟨a',c',xs,e,h1,h2,h3,h4⟩:=h;cases e;by_cases hl:l=[]
 ·subst hl;exact tA
 ·obtain⟨b,off,e,_⟩:=h4 hl;cases e
theorem PT (w:World) (g i:Nat) (u:Value):w.grownBy (w.setCell ⟨g,i,none⟩ u) (some g):=
 ⟨rfl,rfl,rfl,by simp,fun k _ hne=>Below.heap_setCell _ _ _ _ (fun e=>hne (by rw [e]))⟩
theorem OwR.setF {α:Type} [Rp α] {w:World} {M:Ms} {base g c j f:Nat} {e:TypeId} {n:Nat} {l:List α} (h:OwR w M base e (.slice (some ⟨g,0,none⟩) n c) l) (hj:j<l.length) (hf:f<Rp.sz α) (u:Value) (y:α)
  (hE:∀ cs,Rp.E w (OM M (.slice (some ⟨g,0,none⟩) n c)) cs l[j]->Rp.E w (OM M (.slice (some ⟨g,0,none⟩) n c)) (cs.set f u) y) :
  OwR (w.setCell ⟨g,j*Rp.sz α+f,none⟩ u) M base e (.slice (some ⟨g,0,none⟩) n c) (l.set j y):=by
 have hgr:=PT w g (j*Rp.sz α+f) u;obtain⟨A',c',hv⟩:=h.form;simp only [Value.slice.injEq] at hv;obtain⟨-,hnl, -⟩:=hv;subst hnl;obtain⟨xs,ho,he⟩:=h;have s1:=(ho.stored (j*Rp.sz α+f) u).1;obtain⟨cs,hcl,hEcs,hcj⟩:=he.get (Af hj);have hkeep:Keep w (OM M (.slice (some ⟨g,0,none⟩) l.length c)) (w.setCell ⟨g,j*Rp.sz α+f,none⟩ u) (OM M (.slice (some ⟨g,0,none⟩) l.length c)):=
  fun b hb hm=>⟨hm,hgr.block b hb (fun e=>hm (.inr (by simpa [Value.ownBlock] using e.symm)))⟩
 have hlen:=he.length;have hlt:j*Rp.sz α+Rp.sz α<=xs.length:=by
  have:(j+1)*Rp.sz α<=l.length*Rp.sz α:=BR _ hj;rw [Nat.succ_mul] at this;omega
 have hp:=Elems.put (xs':=xs.set (j*Rp.sz α+f) u) (y:=y) (cs:=cs.set f u) (he.mono fun cs x _=>Rp.mono hkeep) hj (by simp)
  (fun i hi=>A4 (by omega)) (by simp [hcl]) (Rp.mono hkeep (hE cs hEcs)) (fun i hi=>by
   by_cases hif:f=i
   ·subst hif;rw [A3 (by omega),A3 (by omega)]
   ·rw [A4 (by omega),A4 hif];exact hcj i hi)
 exact⟨_,by rw [Bl];exact s1,hp⟩
theorem OwR.setI {w:World} {M:Ms} {base g c j n:Nat} {e:TypeId} {l:List Int} (h:OwR w M base e (.slice (some ⟨g,0,none⟩) n c) l) (hj:j<l.length) (y:Int) :
  OwR (w.setCell ⟨g,j,none⟩ (.int .i64 y)) M base e (.slice (some ⟨g,0,none⟩) n c) (l.set j y):=by
 have:=h.setF hj (f:=0) (show 0<1 by omega) (.int .i64 y) y (fun cs hcs=>by
  have hcs':cs=[.int .i64 l[j]]:=hcs;subst hcs';rfl)
 rwa [show j*Rp.sz Int+0=j by show j*1+0=j;omega] at this
theorem OwR.litI (w:World) (M:Ms) (l:List Int) (hl:l.length<=1000):OwR (w.alloc (.cells (l.map (Value.int .i64)).toArray 3)) M w.heap.size 3 (.slice (some ⟨w.heap.size,0,none⟩) l.length l.length) l:=by
 refine⟨l.map (Value.int .i64),⟨by simp [Rp.sz], .inr ⟨w.heap.size,l.length,_,rfl,Ag _,heap_alloc_new w _,Ag _,by unfold maxLen;omega,by simp [Rp.sz],?_⟩⟩,?_⟩
 ·simp only [Rp.sz,D4];exact At (by simp)
 ·clear hl;induction l with
  | nil=>rfl
  | cons x l ih=>exact⟨[.int .i64 x],_,rfl,rfl,rfl,ih⟩
end
section

def tot:List Int->Nat
 | []=>0
 | s::ss=>s.toNat+tot ss
def nums:List Int->List UInt8->List Int
 | [],_=> []
 | s::ss,b=>((leN (b.take s.toNat):Nat):Int)::nums ss (b.drop s.toNat)
theorem tot_step:∀ (ss:List Int) (k:Nat) (h:k<ss.length),tot (ss.take (k+1))=tot (ss.take k)+ss[k].toNat
 | s::ss,0,_=>by simp [tot]
 | s::ss,k+1,h=>by
  have:=tot_step ss k (by simpa using h);simp only [C2,tot,List.getElem_cons_succ];omega
theorem tot_take_le:∀ (ss:List Int) (k:Nat),tot (ss.take k)<=tot ss
 | [],_=>by simp
 | s::ss,0=>by simp [tot]
 | s::ss,k+1=>by
  have:=tot_take_le ss k;simp only [C2,tot];omega
theorem nums_step:∀ (ss:List Int) (b:List UInt8) (k:Nat) (h:k<ss.length),nums (ss.take (k+1)) b=nums (ss.take k) b ++ [((leN ((b.drop (tot (ss.take k))).take ss[k].toNat):Nat):Int)]
 | s::ss,b,0,_=>by simp [nums,tot]
 | s::ss,b,k+1,h=>by
  have:=nums_step ss (b.drop s.toNat) k (by simpa using h);simp only [C2,nums,tot,List.getElem_cons_succ,Bj];rw [this,AZ]
theorem nums_len:∀ (ss:List Int) (b:List UInt8),(nums ss b).length=ss.length
 | [],_=>rfl
 | s::ss,b=>by simp [nums,nums_len ss]
theorem leN_leB:∀ (k n:Nat),n<256 ^ k->leN (leB k n)=n
 | 0,n,h=>by simp at h;simp [leB,leN,h]
 | k+1,n,h=>by
  have h2:n / 256<256 ^ k:=by rw [Nat.pow_succ] at h;omega
  simp only [leB,leN,leN_leB k (n / 256) h2];simp;omega
theorem leB_leN:∀ (l:List UInt8),leB l.length (leN l)=l
 | []=>rfl
 | x::l=>by
  have hx:=x.toNat_lt;have e1:(x.toNat+256*leN l) % 256=x.toNat:=by omega
  have e2:(x.toNat+256*leN l) / 256=leN l:=by omega
  simp only [Ao,leB,leN,e1,e2,leB_leN l];simp
theorem Ss {s:Int} (h:Ee s):CS s=((256 ^ s.toNat:Nat):Int):=by rcases h with rfl | rfl | rfl <;> decide
theorem tot_rowB:∀ (ns ss:List Int),ns.length=ss.length->(rowB ns ss).length=tot ss
 | [], [],_=>rfl
 | n::ns,s::ss,h=>by
  have:=tot_rowB ns ss (by simpa using h);simp [rowB,tot,leB_len,this]
theorem nums_rowB:∀ (ns ss:List Int) (r:List UInt8),ns.length=ss.length->(∀ k (a:k<ns.length) (b:k<ss.length),Ee ss[k]/\0<=ns[k]/\ns[k]<CS ss[k])->nums ss (rowB ns ss ++ r)=ns
 | [], [],_,_,_=>rfl
 | n::ns,s::ss,r,h,hf=>by
  have ih:=nums_rowB ns ss r (by simpa using h) (fun k a b=>hf (k+1) (by simp;omega) (by simp;omega));obtain⟨h1,h2,h3⟩:=hf 0 (by simp) (by simp);simp only [List.getElem_cons_zero] at h1 h2 h3;rw [Ss h1] at h3;have e1:((leB s.toNat n.toNat ++ rowB ns ss) ++ r).take s.toNat=leB s.toNat n.toNat:=by
   rw [AA,List.take_append_of_le_length (by rw [leB_len];exact Ag _),At (by rw [leB_len];exact Ag _)]
  have e2:((leB s.toNat n.toNat ++ rowB ns ss) ++ r).drop s.toNat=rowB ns ss ++ r:=by
   rw [AA,BZ,A9 (by rw [leB_len];exact Ag _),leB_len];simp
  simp only [rowB,nums,e1,e2,ih,leN_leB _ _ (show n.toNat<256 ^ s.toNat by omega)];rw [Int.toNat_of_nonneg h2]
theorem rowB_nums:∀ (ss:List Int) (b:List UInt8),tot ss<=b.length->rowB (nums ss b) ss=b.take (tot ss)
 | [],b,_=>by simp [rowB,tot,nums]
 | s::ss,b,h=>by
  simp only [tot] at h;have ih:=rowB_nums ss (b.drop s.toNat) (by rw [Al];omega);have hl:(b.take s.toNat).length=s.toNat:=by rw [Aq];omega
  have e:=leB_leN (b.take s.toNat);rw [hl] at e;simp only [nums,rowB,ih,tot,Ac,e];rw [<-List.take_add]
theorem nums_fit:∀ (ss:List Int) (b:List UInt8),(∀ s∈ss,Ee s)->∀ k (a:k<(nums ss b).length) (c:k<ss.length),Ee ss[k]/\0<=(nums ss b)[k]/\(nums ss b)[k]<CS ss[k]
 | [],_,_,k,a,c=>by simp at c
 | s::ss,b,h,0,a,c=>by
  have h1:=h s (by simp);refine⟨h1,by simp [nums],?_⟩;simp only [nums,List.getElem_cons_zero,Ss h1];have:=leN_lt (b.take s.toNat);have h2:256 ^ (b.take s.toNat).length<=256 ^ s.toNat:=Nat.pow_le_pow_right (by omega) (by rw [Aq];omega);omega
 | s::ss,b,h,k+1,a,c=>by
  have:=nums_fit ss (b.drop s.toNat) (fun x hx=>h x (by simp [hx])) k (by simpa [nums] using a) (by simpa using c);simpa [nums] using this
end
section
open Go.RowKit

theorem SlR.dropU {w:World} {M:Ms} {b off n c i:Nat} {l:List UInt8} (h:SlR w M (.slice (some ⟨b,off,none⟩) n c) l) (hi:i<=l.length):SlR w M (.slice (if c=i then some ⟨b,off,none⟩ else some ⟨b,off+i,none⟩) (n - i) (c - i)) (l.drop i):=by
 have:=h.drop_ hi;rwa [show Rp.sz UInt8=1 from rfl,D4] at this
def CL (b:List UInt8):Nat:=(b.headD 0).toNat
def Fz (b:List UInt8):Bool:=decide (1<=b.length/\1+CL b<=b.length)
def ev (x:Ent):Value:= .agg #[.int .i64 x.stamp, .int .i64 x.sum, .bool x.lost]
def Em (x:Ent):Bool:=I0 x.stamp&&I0 x.sum
def II (l:List Ent) (k:Nat):Bool:=(l[k]?.map Ent.lost).getD true
def If (g:Geo) (l:List Ent):Bool:=Bq g&&decide ((l.length:Int)=g.d+1)&&l.all Em&&!II l g.d.toNat
def CX (b:Bool):Int:=if b then 1 else 0
def JA (x:Ent):List UInt8:=rowB [x.stamp,x.sum,CX x.lost] [4,4,1]
def Di (l:List Ent):List UInt8:=(l.map JA).flatten
theorem SU {l:List Ent} {k:Nat} (hk:k<l.length):Di (l.take (k+1))=Di (l.take k) ++ JA l[k]:=by
 unfold Di;rw [Bh,Af hk,A0,AX];simp
theorem J9 (x:Ent):(JA x).length=9:=by simp [JA,tot_rowB,tot]
theorem EZ (l:List Ent):(Di l).length=9*l.length:=by
 unfold Di;induction l with
 | nil=>rfl
 | cons x l ih=>simp only [A5,A8,Ah,J9,ih,Ao];omega
theorem Tq {n:Int}:I0 n=true↔0<=n/\n<4294967296:=by unfold I0;rw [AK];omega
theorem VS {x:Ent} (h:Em x=true):∀ k (_:k < [x.stamp,x.sum,CX x.lost].length) (b:k < [(4:Int),4,1].length),Ee [(4:Int),4,1][k]/\0<= [x.stamp,x.sum,CX x.lost][k]/\ [x.stamp,x.sum,CX x.lost][k]<CS [(4:Int),4,1][k]:=by
 simp only [Em,Ad,Tq] at h;intro k a _;match k,a with
 | 0,_=>exact⟨.inr (.inr rfl),h.1.1,h.1.2⟩
 | 1,_=>exact⟨.inr (.inr rfl),h.2.1,h.2.2⟩
 | 2,_=>refine⟨.inl rfl,?_,?_⟩ <;> (simp only [List.getElem_cons_succ,List.getElem_cons_zero];unfold CX;split <;> decide)
end
section
open Go.RowKit
attribute [local go_sem ↓] Go.wp_at_zero Go.wp_at_succ

theorem Qn (v:Value) (l:List UInt8) (w:World) (Mi:Ms) (h:SlR w Mi v l):(convert 22 9 v).run Tryz.prog w = .ok (.string (strOfNums (l.map fun x=>(x.toNat:Int)))) w:=by
 by_cases hl:l=[]
 ·subst hl;obtain⟨a,c,rfl⟩:=h.form;rw [AN,run_convert_bytes_string w 22 9 5 _ 0 c Tryz.underlying22 Tryz.underlying5 Tryz.underlying9];cases a <;> simp [Conv.bytesToString,loadCells];all_goals rfl
 ·have hpos:0<l.length:=List.length_pos_iff.2 hl;obtain⟨a,c,rfl⟩:=h.form;obtain⟨b,off,rfl, -, -⟩:=Uu h hpos;refine run_convert_bytes_arg (P:=Tryz.prog) w 22 5 Tryz.underlying22 Tryz.underlying5 b off l.length c _ (by simp) (fun i hi=>?_) 9 Tryz.underlying9;obtain⟨b',off',e, -,x⟩:=Uu h hi;cases e;rw [x,Ab,Bd,Af hi];try rfl
theorem Lp (l:List UInt8):Lib.bytesOf (l.map fun x=>(x.toNat:Int))=l:=by
 unfold Lib.bytesOf;rw [List.map_map];conv=>rhs;rw [<-List.map_id l]
 apply Dx;intro x _;simp

theorem TU (v1 v2:Value) (l1 l2:List UInt8) (w:World) (M1 M2:Ms) (h1:SlR w M1 v1 l1) (h2:SlR w M2 v2 l2) :
  Calls Tryz.prog 236 #[v1,v2] w fun e w'=>e = .returned (.bool (decide (l1=l2)))/\w'=w:=by
 have c1:=Qn v1 l1 w M1 h1;have c2:=Qn v2 l2 w M2 h2;have hE:decide (l1=l2)=(Lib.bytesOf (l1.map fun x=>(x.toNat:Int)) == Lib.bytesOf (l2.map fun x=>(x.toNat:Int))):=by rw [Lp,Lp];by_cases h:l1=l2 <;> simp [h]
 rw [hE,<-Lib.strOfNums_toList,<-Lib.strOfNums_toList];obtain⟨s1,hs1⟩:∃ s,s=strOfNums (l1.map fun x=>(x.toNat:Int)):=⟨_,rfl⟩;obtain⟨s2,hs2⟩:∃ s,s=strOfNums (l2.map fun x=>(x.toNat:Int)):=⟨_,rfl⟩;rw [<-hs1] at c1 |-
 rw [<-hs2] at c2 |-
 clear hE hs1 hs2 h1 h2
 go_enter Tryz.func236,Tryz.ntmps236
 go_wp2
 go_ret
 exact tA
end
section
open Go.RowKit
def KD (b:List UInt8):Ent:=⟨(nums [4,4,1] b).getD 0 0,(nums [4,4,1] b).getD 1 0,(nums [4,4,1] b).getD 2 0 == 1⟩
def entsOf:Nat->List UInt8->List Ent
 | 0,_=> []
 | n+1,b=>KD b::entsOf n (b.drop 9)
theorem entsOf_step:∀ (n:Nat) (b:List UInt8),entsOf (n+1) b=entsOf n b ++ [KD (b.drop (9*n))]
 | 0,b=>by simp [entsOf]
 | n+1,b=>by
  rw [entsOf,entsOf_step n (b.drop 9),entsOf,AZ];simp only [Bj];rw [show 9+9*n=9*(n+1) by omega]
theorem entsOf_len:∀ (n:Nat) (b:List UInt8),(entsOf n b).length=n
 | 0,_=>rfl
 | n+1,b=>by simp [entsOf,entsOf_len n]
def CV (g:Geo) (b:List UInt8):Option (List Ent):=if If g (entsOf (g.d+1).toNat b)=true/\Di (entsOf (g.d+1).toNat b)=b then some (entsOf (g.d+1).toNat b) else none
theorem Px {g:Geo} {b:List UInt8} (h:b.length<9*(g.d+1).toNat):CV g b=none:=by
 unfold CV;rw [if_neg];rintro⟨-,h2⟩;have:=congrArg List.length h2;rw [EZ,entsOf_len] at this;omega
theorem OwR.int3 {w:World} {M:Ms} {base:Nat} {e:TypeId} {v:Value} {x y z:Int} (h:OwR w M base e v [x,y,z]):∃ B c,v = .slice (some ⟨B,0,none⟩) 3 c/\base<=B/\w.cell? ⟨B,0,none⟩=some (.int .i64 x)/\w.cell? ⟨B,1,none⟩=some (.int .i64 y)/\w.cell? ⟨B,2,none⟩=some (.int .i64 z):=by
 obtain⟨B,c,cs,rfl,hb, -, -,he,hc⟩:=h.at_ (k:=0) (by simp);obtain⟨B1,c1,cs1,e1, -, -, -,he1,hc1⟩:=h.at_ (k:=1) (by simp);obtain⟨B2,c2,cs2,e2, -, -, -,he2,hc2⟩:=h.at_ (k:=2) (by simp);cases e1;cases e2;have he:cs=[.int .i64 x]:=he;have he1:cs1=[.int .i64 y]:=he1;have he2:cs2=[.int .i64 z]:=he2;subst he he1 he2;exact⟨B,c,rfl,hb,hc 0 _ rfl,hc1 0 _ rfl,hc2 0 _ rfl⟩
theorem UQ (b:List UInt8):∃ x y z,nums [4,4,1] b=[x,y,z]/\KD b=⟨x,y,z == 1⟩:=⟨_,_,_,rfl,rfl⟩
instance (s:Int):Decidable (Ee s):=inferInstanceAs (Decidable (s=1\/s=2\/s=4))
def I1 (x:Img):Bool:=x.zone == 0&&(x.what == 0&&(x.bytes.length:Int) == 0)
def BW (g:Geo) (x:Img):Bool:=Bq g&&(Dv x.zone 0 (g.z - 1)&&(if x.what=255 then (CV g x.bytes).isSome else Dv x.what (-1) (g.d - 1)&&decide (x.bytes.length=8)))
def Iz (r:Rc):Bool:=Dv r.seq 0 4294967295&&(Dv r.epoch 0 4294967295&&Dv r.of_ 2 30)
def Fg (g:Geo) (r:Rc):Bool:=
 if r.kind=0 then r.seq == 0&&(r.epoch == 0&&(r.at_ == 0&&(r.of_ == 0&&I1 r.img)))
 else if r.kind=1 then Iz r&&(Dv r.at_ 0 (r.of_ - 2)&&BW g r.img)
 else if r.kind=2 then Iz r&&(r.at_ == r.of_ - 1&&I1 r.img)
 else false
def EN (g:Geo) (r:Rc):Bool:=Bq g&&Fg g r
def D2 (n:Int):Int:=if n = -1 then 254 else n
abbrev szR:List Int:= [1,4,4,1,1]
def CW (r:Rc):List Int:= [r.kind,r.seq,r.epoch,r.at_,r.of_]
def J0 (x:Img):List UInt8:=rowB [x.zone,D2 x.what] [1,1] ++ (UInt8.ofNat x.bytes.length::x.bytes)
def Et (r:Rc):List UInt8:=rowB (CW r) szR ++ (if r.kind=1 then J0 r.img else [])

theorem H4 {g:Geo} {x:Img} (h:BW g x=true):Bq g=true/\(0<=x.zone/\x.zone<=g.z - 1)/\((x.what=255/\∃ l,CV g x.bytes=some l)\/(x.what≠255/\(-1<=x.what/\x.what<=g.d - 1)/\x.bytes.length=8)):=by
 simp only [BW,Ad] at h;obtain⟨h1,h2,h3⟩:=h;refine⟨h1,AK.1 h2,?_⟩;by_cases hw:x.what=255
 ·rw [if_pos hw] at h3;exact .inl ⟨hw,C9.1 h3⟩
 ·rw [if_neg hw] at h3;simp only [Ad,decide_eq_true_eq] at h3;exact .inr ⟨hw,AK.1 h3.1,h3.2⟩
theorem Ti {g:Geo} {b:List UInt8} {l:List Ent} (h:CV g b=some l):b.length=9*(g.d+1).toNat:=by
 unfold CV at h;split at h
 ·rename_i h2;have:=congrArg List.length h2.2;rw [EZ,entsOf_len] at this;exact this.symm
 ·cases h
theorem Ii {g:Geo} {x:Img} (h:BW g x=true):x.bytes.length<=45:=by
 obtain⟨h1, -,h3⟩:=H4 h;obtain⟨-,hd, -⟩:=A2.1 h1;rcases h3 with ⟨-,l,hl⟩ | ⟨-, -,h8⟩
 ·have:=Ti hl;omega
 ·omega
theorem PM {g:Geo} {x:Img} (h:BW g x=true):∀ k (_:k < [x.zone,D2 x.what].length) (b:k < [(1:Int),1].length),Ee [(1:Int),1][k]/\0<= [x.zone,D2 x.what][k]/\ [x.zone,D2 x.what][k]<CS [(1:Int),1][k]:=by
 obtain⟨h1,h2,h3⟩:=H4 h;obtain⟨hz,hd, -⟩:=A2.1 h1;intro k a _;match k,a with
 | 0,_=>
  refine⟨.inl rfl,h2.1,?_⟩;show x.zone<256;omega
 | 1,_=>
  refine⟨.inl rfl,?_,?_⟩
  ·show 0<=D2 x.what;unfold D2;split <;> omega
  ·show D2 x.what<256;unfold D2;split <;> omega
theorem Gh {g:Geo} {r:Rc} (h:EN g r=true):Bq g=true/\
    ((r.kind=0/\r.seq=0/\r.epoch=0/\r.at_=0/\r.of_=0/\r.img.zone=0/\r.img.what=0/\r.img.bytes=[])\/
     (r.kind=1/\(0<=r.seq/\r.seq<=4294967295)/\(0<=r.epoch/\r.epoch<=4294967295)/\(2<=r.of_/\r.of_<=30)/\(0<=r.at_/\r.at_<=r.of_ - 2)/\BW g r.img=true)\/
     (r.kind=2/\(0<=r.seq/\r.seq<=4294967295)/\(0<=r.epoch/\r.epoch<=4294967295)/\(2<=r.of_/\r.of_<=30)/\r.at_=r.of_ - 1/\r.img.zone=0/\r.img.what=0/\r.img.bytes=[])):=by
  simp only [EN,Ad] at h;refine⟨h.1,?_⟩;have h2:=h.2;unfold Fg at h2;split at h2
  · rename_i hk;simp [I1] at h2;exact .inl ⟨hk,h2.1,h2.2.1,h2.2.2.1,h2.2.2.2.1,h2.2.2.2.2.1,h2.2.2.2.2.2.1,h2.2.2.2.2.2.2⟩
  · split at h2
    · rename_i hk;simp only [Iz,Ad,AK] at h2;exact .inr (.inl ⟨hk,h2.1.1,h2.1.2.1,h2.1.2.2,h2.2.1,h2.2.2⟩)
    · split at h2
      · rename_i hk;simp only [Iz,I1,Ad,AK,beq_iff_eq] at h2;refine .inr (.inr ⟨hk,h2.1.1,h2.1.2.1,h2.1.2.2,h2.2.1,h2.2.2.1,h2.2.2.2.1,?_⟩);exact Bt (by omega)
      · cases h2
theorem Pv {g:Geo} {r:Rc} (h:EN g r=true):∀ k (_:k<(CW r).length) (b:k<szR.length),Ee szR[k]/\0<=(CW r)[k]/\(CW r)[k]<CS szR[k]:=by
 obtain⟨-,h⟩:=Gh h;intro k a _;have e1:CS 1=256:=rfl;have e4:CS 4=4294967296:=rfl;match k,a with
 | 0,_=>exact⟨.inl rfl,by show 0<=r.kind;omega,by show r.kind<CS 1;omega⟩
 | 1,_=>exact⟨.inr (.inr rfl),by show 0<=r.seq;omega,by show r.seq<CS 4;omega⟩
 | 2,_=>exact⟨.inr (.inr rfl),by show 0<=r.epoch;omega,by show r.epoch<CS 4;omega⟩
 | 3,_=>exact⟨.inl rfl,by show 0<=r.at_;omega,by show r.at_<CS 1;omega⟩
 | 4,_=>exact⟨.inl rfl,by show 0<=r.of_;omega,by show r.of_<CS 1;omega⟩
theorem ZF (w:World):(Instr.typeAssert .nilIface 20 365 true).run Tryz.prog w = .ok (.tuple #[.agg #[], .bool false]) w:=by kernel_rfl
theorem ZG (w:World) (v:Value):(Instr.typeAssert (.iface 368 v) 20 365 true).run Tryz.prog w = .ok (.tuple #[.agg #[], .bool false]) w:=by kernel_rfl
theorem ZH (w:World) (v:Value):(Instr.typeAssert (.iface 365 v) 20 365 true).run Tryz.prog w = .ok (.tuple #[v, .bool true]) w:=by kernel_rfl
theorem a8 (w:World) (v:Value):(Instr.typeAssert (.iface 368 v) 20 368 false).run Tryz.prog w = .ok v w:=by kernel_rfl
theorem PN (x:Img):(J0 x).length=3+x.bytes.length:=by
 simp only [J0,Ah,tot_rowB [x.zone,D2 x.what] [1,1] rfl,Ao];have:tot [1,1]=2:=rfl;omega
theorem Jp (r:Rc):(rowB (CW r) szR).length=11:=by rw [tot_rowB (CW r) szR rfl];try rfl
def FF (n:Int):Int:=if n=254 then -1 else n
def FH (b:List UInt8):Bool:=decide (2<=b.length)&&Fz (b.drop 2)
def Ed (b:List UInt8):Img:=⟨(nums [1,1] b).getD 0 0,FF ((nums [1,1] b).getD 1 0),((b.drop 2).drop 1).take (CL (b.drop 2))⟩
theorem OwR.int2 {w:World} {M:Ms} {base:Nat} {e:TypeId} {v:Value} {x y:Int} (h:OwR w M base e v [x,y]):∃ B c,v = .slice (some ⟨B,0,none⟩) 2 c/\base<=B/\B<w.heap.size/\(∀ i,w.frozen? ⟨B,i,none⟩=false)/\w.cell? ⟨B,0,none⟩=some (.int .i64 x)/\w.cell? ⟨B,1,none⟩=some (.int .i64 y):=by
 obtain⟨B,c,cs,rfl,hb, -,hf,he,hc⟩:=h.at_ (k:=0) (by simp);obtain⟨B1,c1,cs1,e1, -, -, -,he1,hc1⟩:=h.at_ (k:=1) (by simp);cases e1;have he:cs=[.int .i64 x]:=he;have he1:cs1=[.int .i64 y]:=he1;subst he he1;exact⟨B,c,rfl,hb,World.block_lt_of_cell? _ _ (hc 0 _ rfl),hf,hc 0 _ rfl,hc1 0 _ rfl⟩
def noImg:Img:=⟨0,0, []⟩
def F0 (b:List UInt8):Rc:=⟨(nums szR b).getD 0 0,(nums szR b).getD 1 0,(nums szR b).getD 2 0,(nums szR b).getD 3 0,(nums szR b).getD 4 0,if (nums szR b).getD 0 0=1 then Ed (b.drop 11) else noImg⟩
def DL (g:Geo) (b:List UInt8):Option Rc:=
 if 11<=b.length/\((F0 b).kind=1->FH (b.drop 11)=true)/\EN g (F0 b)=true/\Et (F0 b)=b then some (F0 b) else none
theorem TA (b:List UInt8):(Ed b).bytes.length<=b.length:=by
 simp only [Ed];rw [Aq,Al,Al];omega
theorem Zz (b:List UInt8):∃ k s e a o,nums szR b=[k,s,e,a,o]/\F0 b=⟨k,s,e,a,o,if k=1 then Ed (b.drop 11) else noImg⟩:=⟨_,_,_,_,_,rfl,rfl⟩
theorem OwR.int5 {w:World} {M:Ms} {base:Nat} {e:TypeId} {v:Value} {x0 x1 x2 x3 x4:Int} (h:OwR w M base e v [x0,x1,x2,x3,x4]):∃ B c,v = .slice (some ⟨B,0,none⟩) 5 c/\base<=B/\∀ i,i<5->w.cell? ⟨B,i,none⟩ = #[.int .i64 x0, .int .i64 x1, .int .i64 x2, .int .i64 x3, .int .i64 x4][i]? :=by
 obtain⟨B,c,cs,rfl,hb, -, -,he,hc⟩:=h.at_ (k:=0) (by simp);refine⟨B,c,rfl,hb,fun i hi=>?_⟩;obtain⟨b',off,e1, -,x1⟩:=Oj (h.sl' (M:=noM) (fun _ _ h=>h)) (k:=i) (by simpa using hi);cases e1;rw [Au] at x1;match i,hi with
 | 0,_=>exact x1
 | 1,_=>exact x1
 | 2,_=>exact x1
 | 3,_=>exact x1
 | 4,_=>exact x1
theorem OwR.box {α:Type} [Rp α] {w w':World} {M:Ms} {base g:Nat} {e:TypeId} {v:Value} {l:List α} (h:OwR w M base e v l) (hb:Below w.heap.size w w') (hg:w.heap.size<=g):OwR w' (Ms.and M g) base e v l:=by
 obtain⟨xs,ho,he⟩:=h;refine⟨xs,(ho.kept (row:=none) ⟨hb.os,hb.tape,hb.output,hb.size,fun k hk _=>hb.block k hk⟩ (by cases v.ownBlock <;> simp)),he.mono fun cs x _=>Rp.mono fun b hb' hm=>⟨fun h'=>?_,hb.block b hb'⟩⟩;rcases h' with (h' | h') | h'
 ·exact hm (.inl h')
 ·omega
 ·exact hm (.inr h')

def IK (seq epoch of_:Int) (k:Nat) (l:List Img):List Rc:=((l.take k).zipIdx).map fun p=>⟨1,seq,epoch,(p.2:Nat),of_,p.1⟩
theorem T9 (seq epoch of_:Int) {k:Nat} {l:List Img} (hk:k<l.length):IK seq epoch of_ (k+1) l=IK seq epoch of_ k l ++ [⟨1,seq,epoch,(k:Nat),of_,l[k]⟩]:=by
 unfold IK;rw [Bh,Af hk,List.zipIdx_append,A0];simp [Cn (Nat.le_of_lt hk)]
theorem Jz (seq epoch of_:Int) (k:Nat) (l:List Img):(IK seq epoch of_ k l).length=min k l.length:=by
 unfold IK;simp
def Fk (seq epoch:Int) (l:List Img):List Rc:=IK seq epoch (l.length+1) l.length l ++ [⟨2,seq,epoch,l.length,l.length+1,noImg⟩]
def KM (g:Geo) (seq epoch:Int) (l:List Img):Int:=
 if (Bq g&&(Dv seq 0 4294967295&&Dv epoch 0 4294967295))=false then 1
 else if l.all (BW g)=false then 1
 else if Dv l.length 1 29=false then 2 else 0
end
section

theorem Pw {g:Geo} {r:Rc} (_h:EN g r=true):(Et r).length=if r.kind=1 then 14+r.img.bytes.length else 11:=by
 unfold Et;rw [Ah,Jp];split
 ·rw [PN];omega
 ·rfl
theorem EL {g:Geo} {r:Rc} (h:EN g r=true):11<=(Et r).length/\(Et r).length<=59:=by
 rw [Pw h];split
 ·rename_i hk;rcases(Gh h).2 with h' | h' | h'
  ·omega
  ·have:=Ii h'.2.2.2.2.2;omega
  ·omega
 ·omega
theorem Tp {g:Geo} {r:Rc} (h:EN g r=true) (t:List UInt8):nums szR (Et r ++ t)=CW r:=by
 unfold Et;rw [AA];exact nums_rowB _ _ _ rfl (fun k a b=>Pv h k a b)
theorem N1 (r:Rc):(Et r).drop 11=if r.kind=1 then J0 r.img else []:=by
 unfold Et;rw [BZ,Jp,A9 (by rw [Jp];exact Ag _)];simp
theorem OF {g:Geo} {x:Img} (h:BW g x=true):FF (D2 x.what)=x.what:=by
 obtain⟨h1, -,h3⟩:=H4 h;obtain⟨-,hd, -⟩:=A2.1 h1;unfold FF D2;split
 ·split at * <;> omega
 ·split at * <;> omega
theorem LP (x:Img):(J0 x).drop 2=UInt8.ofNat x.bytes.length::x.bytes:=by
 unfold J0;have hl:(rowB [x.zone,D2 x.what] [1,1]).length=2:=by rw [tot_rowB [x.zone,D2 x.what] [1,1] rfl];try rfl
 rw [BZ,hl,A9 (by rw [hl];exact Ag _)];try rfl
theorem Rs {g:Geo} {x:Img} (h:BW g x=true):Ed (J0 x)=x:=by
 have h1:nums [1,1] (J0 x)=[x.zone,D2 x.what]:=by
  unfold J0;exact nums_rowB [x.zone,D2 x.what] [1,1] _ rfl (fun k a b=>PM h k a b)
 have hs:=Ii h;have hp:CL (UInt8.ofNat x.bytes.length::x.bytes)=x.bytes.length:=by
  simp only [CL,List.headD_cons];simp;omega
 unfold Ed;rw [h1,LP,hp];simp [OF h]
theorem QQ {g:Geo} {x:Img} (h:BW g x=true):FH (J0 x)=true:=by
 have hs:=Ii h;have hp:CL (UInt8.ofNat x.bytes.length::x.bytes)=x.bytes.length:=by
  simp only [CL,List.headD_cons];simp;omega
 have hl:=PN x;simp only [FH,Fz,LP,hp,Ao,Ad,decide_eq_true_eq];omega
theorem Rf {g:Geo} {r:Rc} (h:EN g r=true):F0 (Et r)=r:=by
 have hn:=Tp h [];rw [AE] at hn;unfold F0;rw [hn,N1];obtain⟨kind,seq,epoch,at_,of_,⟨zone,what,bytes⟩⟩:=r;simp only [CW];rcases(Gh h).2 with h' | h' | h'
 ·simp only at h';obtain⟨rfl,rfl,rfl,rfl,rfl,rfl,rfl,rfl⟩:=h';simp [noImg]
 ·simp only at h';obtain⟨rfl, -, -, -, -,hi⟩:=h';simp [Rs hi]
 ·simp only at h';obtain⟨rfl, -, -, -,rfl,rfl,rfl,rfl⟩:=h';simp [noImg]
theorem Q_ {g:Geo} {r:Rc} (h:EN g r=true):DL g (Et r)=some r:=by
 unfold DL;rw [Rf h,if_pos];refine⟨(EL h).1,fun hk=>?_,h,rfl⟩;rw [N1,if_pos hk];rcases(Gh h).2 with h' | h' | h'
 ·omega
 ·exact QQ h'.2.2.2.2.2
 ·omega
theorem QZ {g:Geo} {b:List UInt8} {r:Rc} (h:DL g b=some r):EN g r=true/\Et r=b:=by
 unfold DL at h;split at h
 ·rename_i h';cases h;exact h'.2.2
 ·cases h
end
section
open Go.RowKit

theorem aT (w:World):(Instr.makeSlice 22 (.int .i64 8) (.int .i64 8)).run Tryz.prog w = .ok (.slice (some ⟨w.heap.size,0,none⟩) 8 8) (w.alloc (.cells #[.int .u8 0, .int .u8 0, .int .u8 0, .int .u8 0, .int .u8 0, .int .u8 0, .int .u8 0, .int .u8 0] 5)):=by
 obtain⟨i,h1,h2,h3,h4⟩:=info_parts (show (Tryz.prog.info? 5).map (fun i=>(i.zero,i.size,i.bytes))=some (some (.int .u8 0),1,1) by kernel_rfl);have:=run_make (P:=Tryz.prog) w 22 5 i (.int .u8 0) (by kernel_rfl) h1 h2 .i64 .i64 8 8 (by omega) (by omega) (by rw [h4];omega) (by omega);rw [h3] at this;rw [show madeCells (Value.int IntKind.u8 0).cells (Int.toNat 8*1) = #[.int .u8 0, .int .u8 0, .int .u8 0, .int .u8 0, .int .u8 0, .int .u8 0, .int .u8 0, .int .u8 0] by kernel_rfl] at this;exact this

def So (x:List UInt8):Int:=(nums [4,4,1] x).getD 2 0
def Sq (n:Nat) (b:List UInt8):Prop:=∀ i,i<n->So (b.drop (9*i))<=1
theorem Qe {x:List UInt8} (h:9<=x.length):JA (KD x)=x.take 9↔So x<=1:=by
 obtain⟨a,b,c,hn,he⟩:=UQ x;have hl:So x=c:=by simp [So,hn]
 have hr:=rowB_nums [4,4,1] x (by simpa [tot] using h);rw [hn] at hr;have hf:=nums_fit [4,4,1] x (by decide);rw [hl,he];constructor
 ·intro e;have h9:(x.take 9).length=9:=by rw [Aq];omega
  have e2:rowB [a,b,CX (c == 1)] [4,4,1]=rowB [a,b,c] [4,4,1]:=by
   rw [hr];exact e
  have f0:=hf 0 (by rw [hn];simp) (by simp);have f1:=hf 1 (by rw [hn];simp) (by simp);have f2:=hf 2 (by rw [hn];simp) (by simp);simp only [hn] at f0 f1 f2;have n1:=nums_rowB [a,b,CX (c == 1)] [4,4,1] [] rfl (by
   intro k h1 _;match k,h1 with
   | 0,_=>exact f0
   | 1,_=>exact f1
   | 2,_=>exact⟨.inl rfl,by show 0<=CX _;unfold CX;split <;> decide,by show CX _<CS 1;unfold CX;split <;> decide⟩)
  have n2:=nums_rowB [a,b,c] [4,4,1] [] rfl (by
   intro k h1 _;match k,h1 with
   | 0,_=>exact f0
   | 1,_=>exact f1
   | 2,_=>exact f2)
  rw [e2,n2] at n1;injection n1 with _ n1
  injection n1 with _ n1
  injection n1 with n1
  rw [n1];unfold CX;split <;> decide
 ·intro hc;have f2:=hf 2 (by rw [hn];simp) (by simp);simp only [hn] at f2;have hc0:0<=c:=f2.2.1;have:CX (c == 1)=c:=by
   unfold CX;by_cases h1:c=1
   ·simp [h1]
   ·have:c=0:=by omega
    simp [this]
  show rowB [a,b,CX (c == 1)] [4,4,1]=x.take 9;rw [this,hr];try rfl
theorem tblB_iff:∀ (n:Nat) (b:List UInt8),9*n<=b.length->(Di (entsOf n b)=b.take (9*n)↔Sq n b)
 | 0,b,_=>⟨fun _ i hi=>absurd hi (Ap _),fun _=>by simp [entsOf,Di]⟩
 | n+1,b,h=>by
  have ih:=tblB_iff n (b.drop 9) (by rw [Al];omega);have e1:Di (entsOf (n+1) b)=JA (KD b) ++ Di (entsOf n (b.drop 9)):=by simp [entsOf,Di]
  have e2:b.take (9*(n+1))=b.take 9 ++ (b.drop 9).take (9*n):=by
   rw [show 9*(n+1)=9+9*n by omega,List.take_add]
  rw [e1,e2];constructor
  ·intro e;have h1:=List.append_inj e (by rw [J9,Aq];omega);intro i hi;cases i with
   | zero=>simpa using (Qe (by omega)).1 h1.1
   | succ i=>
    have:=ih.1 h1.2 i (by omega);rw [AZ] at this;rwa [show 9*(i+1)=9+9*i by omega]
  ·intro hall;rw [(Qe (by omega)).2 (by simpa using hall 0 (by omega)),ih.2 (fun i hi=>by
    have:=hall (i+1) (by omega);rw [AZ];rwa [show 9*(i+1)=9+9*i by omega] at this)]
theorem Tj {g:Geo} {b:List UInt8} (h:b.length≠9*(g.d+1).toNat\/¬Sq (g.d+1).toNat b):CV g b=none:=by
 unfold CV;rw [if_neg];rintro⟨-,h2⟩;have hl:=congrArg List.length h2;rw [EZ,entsOf_len] at hl;rcases h with h | h
 ·exact h hl.symm
 ·apply h;apply (tblB_iff (g.d+1).toNat b (by omega)).1;rw [h2,At (by omega)]
theorem SlR.dropU' {w:World} {M:Ms} {b off n c i:Nat} {l:List UInt8} (h:SlR w M (.slice (some ⟨b,off,none⟩) n c) l) (hi:i<=l.length) (hc:¬c=i):SlR w M (.slice (some ⟨b,off+i,none⟩) (n - i) (c - i)) (l.drop i):=by
 have:=h.dropU hi;rwa [if_neg hc] at this


end
end Go.Proofs.YtpjkcgacjjbikaaGreatDoor
namespace Go.Proofs.YtpjkcgacjjbikaaGreatDoor.A
section
open Go.RowKit
theorem Ct (z d sp sl an:Int):Fn Tryz.prog 118 [.ag (Bm ⟨z,d,sp,sl,an⟩)] fun r=>r = .v (Ew (Bq ⟨z,d,sp,sl,an⟩)):=by
 have hin:∀ n lo hi,Fn Tryz.prog 159 [iv n,iv lo,iv hi] fun r=>r = .v (.bool (Dv n lo hi)):=by
  intro n lo hi;refine zT Tryz.func159 rfl ?_;conv=>whnf
  repeat' (first | (refine Ak (fun h=>?_) (fun h=>?_) <;> (try simp at h) <;> conv=>whnf) | (refine zH tys_ok mixed (by kernel_rfl) ?_;conv=>whnf) | (refine zZ ?_;conv=>whnf) | (refine Ai (by omega) ?_;conv=>whnf))
  all_goals exact⟨_,ri,by simp [Dv, *] <;> omega⟩
 refine zT Tryz.func118 rfl ?_;conv=>whnf
 repeat' (first | (refine Ak (fun h=>?_) (fun h=>?_) <;> (try simp at h) <;> conv=>whnf) | (refine zH tys_ok mixed (by kernel_rfl) ?_;conv=>whnf) | (refine zZ ?_;conv=>whnf) | (refine zY (hin _ _ _) ?_;conv=>whnf) | (refine Ai (by omega) ?_;conv=>whnf))
 all_goals exact⟨_,ri,by simp [Bq,Ew, *]⟩
theorem IB (n lo hi:Int):Fn Tryz.prog 147 [iv n,iv lo,iv hi] fun r=>r = .v (.bool (Dv n lo hi)):=by
 refine zT Tryz.func147 rfl ?_;conv=>whnf
 repeat' (first | (refine Ak (fun h=>?_) (fun h=>?_) <;> (try simp at h) <;> conv=>whnf) | (refine zH tys_ok mixed (by kernel_rfl) ?_;conv=>whnf) | (refine zZ ?_;conv=>whnf) | (refine Ai (by omega) ?_;conv=>whnf))
 all_goals exact⟨_,ri,by simp [Dv, *] <;> omega⟩
end
end Go.Proofs.YtpjkcgacjjbikaaGreatDoor.A
namespace Go.Proofs.YtpjkcgacjjbikaaGreatDoor
section

theorem Ya {b:List UInt8} (h11:11<=b.length):F0 b=⟨(b[0].toNat:Nat),(leN ((b.drop 1).take 4):Nat),(leN ((b.drop 5).take 4):Nat),(b[9].toNat:Nat),(b[10].toNat:Nat),if (b[0].toNat:Int)=1 then Ed (b.drop 11) else noImg⟩:=by
 have e1:∀ i (h:i<b.length),leN ((b.drop i).take 1)=b[i].toNat:=fun i h=>by
  rw [BE h];show b[i].toNat+256*0=b[i].toNat;omega
 have hn:nums szR b=[((leN (b.take 1):Nat):Int),((leN ((b.drop 1).take 4):Nat):Int),((leN ((b.drop 5).take 4):Nat):Int),((leN ((b.drop 9).take 1):Nat):Int),((leN ((b.drop 10).take 1):Nat):Int)]:=by
  simp [nums,AZ]
 unfold F0;rw [hn];have e0:=e1 0 (by omega);rw [List.drop_zero] at e0;rw [e0,e1 9 (by omega),e1 10 (by omega)];try rfl
theorem JZ {b:List UInt8} (h:b.length=14+CL (b.drop 13)):Ed (b.drop 11)=⟨((b[11]'(by omega)).toNat:Nat),FF ((b[12]'(by omega)).toNat:Nat),b.drop 14⟩:=by
 have e1:∀ i (h:i<b.length),leN ((b.drop i).take 1)=b[i].toNat:=fun i h=>by
  rw [BE h];show b[i].toNat+256*0=b[i].toNat;omega
 have hn:nums [1,1] (b.drop 11)=[((leN ((b.drop 11).take 1):Nat):Int),((leN ((b.drop 12).take 1):Nat):Int)]:=by
  simp [nums,AZ]
 unfold Ed;rw [hn,e1 11 (by omega),e1 12 (by omega)];simp only [AZ,Nat.reduceAdd];rw [At (by rw [Al];omega)];try rfl
end
section
open Go.RowKit


end
section

def polyN:Nat:=2197175160
def Iv (r:Nat):Nat:=r / 2 ^^^ (if r % 2=1 then polyN else 0)
def stepsC:Nat->Nat->Nat
 | 0,r=>r
 | k+1,r=>Iv (stepsC k r)
def Fm (r:Nat):Nat:=stepsC 8 r
def GR (r:Nat) (b:List UInt8):Nat:=b.foldl (fun r c=>Fm (r ^^^ c.toNat)) r
def DG (b:List UInt8):Nat:=4294967295 - GR 4294967295 b

theorem Q6 {a b:Nat} (ha:a<4294967296) (hb:b<4294967296):a ^^^ b<4294967296:=Nat.xor_lt_two_pow (n:=32) ha hb
theorem U1 {r:Nat} (h:r<4294967296):Iv r<4294967296:=by
 unfold Iv;apply Q6
 ·omega
 ·split <;> decide
theorem stepsC_lt:∀ (k:Nat) {r:Nat},r<4294967296->stepsC k r<4294967296
 | 0,_,h=>h
 | k+1,_,h=>U1 (stepsC_lt k h)
theorem Ny {r:Nat} (h:r<4294967296):Fm r<4294967296:=stepsC_lt 8 h
theorem foldC_lt:∀ (b:List UInt8) {r:Nat},r<4294967296->GR r b<4294967296
 | [],_,h=>h
 | c::b,r,h=>by
  have hc:c.toNat<4294967296:=by have:=c.toNat_lt;omega
  exact foldC_lt b (Ny (Q6 h hc))
theorem Jj (b:List UInt8):DG b<=4294967295:=by unfold DG;omega
theorem Uk (a b:Nat):(a ^^^ b) / 2=a / 2 ^^^ b / 2:=Nat.xor_div_two
theorem W9 (a b:Nat):(a ^^^ b) % 2=(a+b) % 2:=by
 have h:=Nat.xor_mod_two_pow (a:=a) (b:=b) (n:=1);simp only [Nat.pow_one] at h;rw [h];rcases C0 a with ha | ha <;> rcases C0 b with hb | hb <;> rw [ha,hb] <;> (first | (show (0:Nat)=_;omega) | (show (1:Nat)=_;omega))
theorem SW (a b:Nat):Iv (a ^^^ b)=Iv a ^^^ Iv b:=by
 unfold Iv;rw [Uk,W9];have hx:∀ x y p q:Nat,(x ^^^ p) ^^^ (y ^^^ q)=(x ^^^ y) ^^^ (p ^^^ q):=fun x y p q=>by
  rw [Nat.xor_assoc,Nat.xor_assoc,<-Nat.xor_assoc p,Nat.xor_comm p y,Nat.xor_assoc]
 rw [hx];congr 1;rcases C0 a with ha | ha <;> rcases C0 b with hb | hb
 ·rw [if_neg (by omega),if_neg (by omega),if_neg (by omega)];try rfl
 ·rw [if_pos (by omega),if_neg (by omega),if_pos (by omega)];exact(Nat.zero_xor _).symm
 ·rw [if_pos (by omega),if_pos (by omega),if_neg (by omega)];exact(Nat.xor_zero _).symm
 ·rw [if_neg (by omega),if_pos (by omega),if_pos (by omega)];exact(Nat.xor_self _).symm
theorem stepsC_xor:∀ (k a b:Nat),stepsC k (a ^^^ b)=stepsC k a ^^^ stepsC k b
 | 0,_,_=>rfl
 | k+1,a,b=>by simp only [stepsC];rw [stepsC_xor k,SW]
theorem Dm (x:Nat):Iv (2*x)=x:=by
 unfold Iv;rw [if_neg (by omega),Nat.mul_div_cancel_left x (by omega)];exact Nat.xor_zero x
theorem stepsC_succ:∀ (k r:Nat),stepsC (k+1) r=stepsC k (Iv r)
 | 0,_=>rfl
 | k+1,r=>by rw [stepsC,stepsC_succ k r];rfl
theorem Qh (x:Nat):Fm (256*x)=x:=by
 unfold Fm;rw [show 256*x=2*(128*x) by omega,stepsC_succ,Dm,show 128*x=2*(64*x) by omega,stepsC_succ,Dm,show 64*x=2*(32*x) by omega,stepsC_succ,Dm,
  show 32*x=2*(16*x) by omega,stepsC_succ,Dm,show 16*x=2*(8*x) by omega,stepsC_succ,Dm,show 8*x=2*(4*x) by omega,stepsC_succ,Dm,
  show 4*x=2*(2*x) by omega,stepsC_succ,Dm,stepsC_succ,Dm]
 rfl
theorem QO (r:Nat):r=256*(r / 256) ^^^ r % 256:=by
 have h:r % 256<2 ^ 8:=by omega
 have h1:=Nat.two_pow_add_eq_or_of_lt h (r / 256);have h2:2 ^ 8*(r / 256) ||| r % 256=2 ^ 8*(r / 256) ^^^ r % 256:=by
  apply Nat.eq_of_testBit_eq;intro i;rw [Nat.testBit_or,Nat.testBit_xor];by_cases hi:i<8
  ·rw [Nat.testBit_two_pow_mul];simp [show ¬8<=i by omega]
  ·have:(r % 256).testBit i=false:=Nat.testBit_lt_two_pow (As h (Nat.pow_le_pow_right (by omega) (by omega)));rw [this];simp
 calc r=2 ^ 8*(r / 256)+r % 256:=by omega
  _=2 ^ 8*(r / 256) ||| r % 256:=h1
  _=256*(r / 256) ^^^ r % 256:=h2
theorem Qi (r c:Nat):Fm (r ^^^ c)=r / 256 ^^^ Fm (r % 256 ^^^ c):=by
 conv=>lhs;rw [QO r,Nat.xor_assoc]
 unfold Fm;rw [stepsC_xor];congr 1;exact Qh _
theorem R0 (r:Nat) (b:List UInt8) (c:UInt8):GR r (b ++ [c])=Fm (GR r b ^^^ c.toNat):=by simp [GR]
theorem Rz {r:Nat} {b:List UInt8} {k:Nat} (hk:k<b.length):GR r (b.take (k+1))=Fm (GR r (b.take k) ^^^ b[k].toNat):=by
 rw [Bh,Af hk];exact R0 _ _ _
end
section
open Go.RowKit
attribute [local go_sem ↓] Go.wp_at_zero Go.wp_at_succ

theorem Xj (N:Nat) (h:N<4294967296):4294967295 ^^^ N=4294967295 - N:=by
 have e:=congrArg BitVec.toNat (BitVec.allOnes_xor (x:=BitVec.ofNat 32 N));rw [BitVec.toNat_xor,BitVec.toNat_not,BitVec.toNat_allOnes,BitVec.toNat_ofNat,Nat.mod_eq_of_lt h] at e;exact e
theorem US (N:Nat) (h:N<4294967296):bits .xor .u32 IntKind.u32.max (N:Int)=((4294967295 - N:Nat):Int):=by
 rw [<-Xj N h];exact u32_xor_nat 4294967295 N (by omega) h
theorem Xr (r:Nat):r&&&1=r % 2:=Nat.and_one_is_mod r
theorem Wd (r:Nat):r&&&255=r % 256:=Nat.and_two_pow_sub_one_eq_mod r 8

theorem VU (r:Nat) (w:World) (hr:r<4294967296):Calls Tryz.prog 325 #[.int .u32 r] w fun e w'=>e = .returned (.int .u32 (Fm r:Nat))/\w'=w:=by
 have hE:=Lib.hid (show Fm r=stepsC 8 r from rfl);rw [hE.out]
 go_enter Tryz.func325,Tryz.ntmps325
 go_wp2
 go_loopg [0,4] 8 (fun gk s0 s4 wr=>∃ k:Nat,s4 = .int .i64 k/\k<=8/\8 - k<=gk/\wr=w/\s0 = .int .u32 (stepsC k r:Nat))
 case atStart=>exact⟨0,rfl,by omega,by omega,rfl,rfl⟩
 case round=>
  obtain⟨k,rfl,hkl,hgk,rfl,rfl⟩:=hrel;by_cases hk:k<8
  ·have hk':(k:Int)<8:=by omega
   have hst:=Lib.hid (show stepsC (k+1) r=stepsC k r / 2 ^^^ (if stepsC k r % 2=1 then polyN else 0) from rfl);have hlt:=stepsC_lt k hr;obtain⟨N,hN⟩:∃ N,N=stepsC k r:=⟨_,rfl⟩;rw [<-hN] at hlt hst |-
   have hand:bits .and .u32 (N:Int) 1=((N % 2:Nat):Int):=by rw [<-Xr];exact u32_and_nat N 1 hlt (by omega)
   have hdiv:((N / 2:Nat):Int)=(N:Int) / 2:=by omega
   have hxor:bits .xor .u32 ((N:Int) / 2) 2197175160=((N / 2 ^^^ 2197175160:Nat):Int):=by rw [<-hdiv];exact u32_xor_nat (N / 2) 2197175160 (by omega) (by omega)
   have HD:=Lib.hid hdiv;clear hN hdiv;rcases C0 N with h2 | h2
   ·rw [h2,if_neg (by omega),Nat.xor_zero] at hst;rw [h2] at hand;have hand0:bits .and .u32 (N:Int) 1=0:=hand;clear h2 hxor hand
    go_wp2
    go_roundg (8 - (k+1))
    case measure=>omega
    case rel=>exact⟨k+1,by go_num,by omega,by omega,rfl,by rw [hst.out,HD.out]⟩
   ·rw [h2,if_pos rfl] at hst;rw [h2] at hand;have hand1:bits .and .u32 (N:Int) 1=1:=hand;clear h2 hand
    go_wp2
    go_roundg (8 - (k+1))
    case measure=>omega
    case rel=>exact⟨k+1,by go_num,by omega,by omega,rfl,by rw [hst.out];try rfl⟩
  ·obtain rfl:k=8:=by omega
   go_wp2
   go_ret
   exact tA

theorem YF (v:Value) (b:List UInt8) (w:World) (Mi:Ms) (h:SlR w Mi v b):Calls Tryz.prog 263 #[.int .u32 4294967295,v] w fun e w'=>e = .returned (.int .u32 (GR 4294967295 b:Nat))/\w'=w:=by
 obtain⟨a,c,rfl⟩:=h.form;have hcap:=h.cap;have H:=Lib.hid h.bare;clear h
 go_enter Tryz.func263,Tryz.ntmps263
 go_wp2
 go_loopg [0,9] b.length (fun gk s0 s9 wr=>∃ k:Nat,s9 = .int .i64 k/\k<=b.length/\b.length - k<=gk/\wr=w/\s0 = .int .u32 (GR 4294967295 (b.take k):Nat))
 case atStart=>exact⟨0,rfl,by omega,by omega,rfl,rfl⟩
 case round=>
  obtain⟨k,rfl,hkl,hgk,rfl,rfl⟩:=hrel;by_cases hk:k<b.length
  ·have hk':(k:Int)<b.length:=by omega
   obtain⟨bb,off,rfl, -,x1⟩:=Uu H.out hk;have hst:=Rz (r:=4294967295) hk;have hlt:=foldC_lt (b.take k) (r:=4294967295) (by omega);obtain⟨N,hN⟩:∃ N,N=GR 4294967295 (b.take k):=⟨_,rfl⟩;rw [<-hN] at hlt hst |-
   rw [Qi] at hst;obtain⟨y,hy⟩:∃ y,y=b[k].toNat:=⟨_,rfl⟩;have hyl:y<256:=by rw [hy];exact b[k].toNat_lt
   rw [<-hy] at x1 hst;have hand:bits .and .u32 (N:Int) 255=((N % 256:Nat):Int):=by rw [<-Wd];exact u32_and_nat N 255 hlt (by omega)
   have hcy:IntKind.u32.wrap (y:Int)=y:=by rw [IntKind.wrap_u32];omega
   have hx1:bits .xor .u32 ((N % 256:Nat):Int) (y:Int)=((N % 256 ^^^ y:Nat):Int):=u32_xor_nat _ _ (by omega) (by omega);have hxl:N % 256 ^^^ y<4294967296:=Q6 (by omega) (by omega);obtain⟨X,hX⟩:∃ X,X=N % 256 ^^^ y:=⟨_,rfl⟩;rw [<-hX] at hx1 hxl hst;have hdn:=Lib.hid (VU X wr hxl);have hel:=Ny hxl;obtain⟨Z,hZ⟩:∃ Z,Z=Fm X:=⟨_,rfl⟩;rw [<-hZ] at hdn hel hst;have hdiv:((N / 256:Nat):Int)=(N:Int) / 256:=by omega
   have hx2:bits .xor .u32 ((N:Int) / 256) (Z:Int)=((N / 256 ^^^ Z:Nat):Int):=by rw [<-hdiv];exact u32_xor_nat _ _ (by omega) hel
   obtain⟨T,hT⟩:∃ T,T=N % 256:=⟨_,rfl⟩;rw [<-hT] at hand hx1;have hst:=Lib.hid hst;clear hN hy hX hZ hdiv hT
   go_wp2_with (go_at_call 325;go_must (with_reducible refine hdn.out.mono ?_);rintro e w1 ⟨rfl,rfl⟩)
   go_roundg (b.length - (k+1))
   case measure=>omega
   case rel=>exact⟨k+1,by go_num,by omega,by omega,rfl,by rw [hst.out]⟩
  ·obtain rfl:k=b.length:=by omega
   rw [A6]
   go_wp2
   go_ret
   exact tA
theorem MT (v:Value) (b:List UInt8) (w:World) (Mi:Ms) (h:SlR w Mi v b):Calls Tryz.prog 186 #[v] w fun e w'=>e = .returned (.int .i64 (DG b:Nat))/\w'=w:=by
 have hon:=Lib.hid (YF v b w Mi h);have hE:=Lib.hid (show DG b=4294967295 - GR 4294967295 b from rfl);have hlt:=foldC_lt b (r:=4294967295) (by omega);obtain⟨N,hN⟩:∃ N,N=GR 4294967295 b:=⟨_,rfl⟩;rw [hE.out];rw [<-hN] at hon hlt |-
 obtain⟨a,c,rfl⟩:=h.form;have hnb:=US N hlt;obtain⟨T,hT⟩:∃ T,T=4294967295 - N:=⟨_,rfl⟩;have hTl:T<=4294967295:=by omega
 rw [<-hT] at hnb |-
 have hw:wrap64 (T:Int)=T:=by unfold wrap64;omega
 clear hE hN h hT
 go_enter Tryz.func186,Tryz.ntmps186
 go_wp2_with (go_at_call 263;go_must (with_reducible refine hon.out.mono ?_);rintro e w1 ⟨rfl,rfl⟩)
 go_ret
 exact tA
end
section
open Go.RowKit

end
section
open Go.RowKit
attribute [local go_sem ↓] Go.wp_at_zero Go.wp_at_succ

def Ek (addr stamp:Int) (p:List UInt8):List UInt8:=((UInt8.ofNat p.length::p) ++ leB 2 addr.toNat) ++ leB 4 stamp.toNat
def CF (addr stamp:Int) (p:List UInt8):List UInt8:=Ek addr stamp p ++ leB 4 (DG (Ek addr stamp p))
def Yb (addr stamp:Int) (p:List UInt8):Prop:=0<=addr/\addr<=65535/\0<=stamp/\stamp<=4294967295/\p.length<=96

theorem Vb (addr stamp:Int) (v:Value) (p:List UInt8) (w:World) (Mi:Ms) (h:SlR w Mi v p) (hok:Yb addr stamp p) :
  Calls Tryz.prog 107 #[.agg #[.int .i64 addr, .int .i64 stamp,v]] w fun e w'=>∃ r,e = .returned (.tuple #[r, .int .i64 0])/\OwR w' noM w.heap.size 5 r (CF addr stamp p)/\Below w.heap.size w w':=by
 obtain⟨a,c,rfl⟩:=h.form;obtain⟨h1,h2,h3,h4,h5⟩:=hok;have h1':¬addr<0:=by omega
 have h2':¬(65535:Int)<addr:=by omega
 have h3':¬stamp<0:=by omega
 have h4':¬(4294967295:Int)<stamp:=by omega
 have h5':¬(96:Int)<p.length:=by omega
 have hbA:=(Below.refl w.heap.size w).alloc (Ag _) (.cells #[.int .i64 addr, .int .i64 stamp, .slice a p.length c] 211);have HB:=Lib.hid hbA;have HQ:=Lib.hid (Blk.new w 211 #[.int .i64 addr, .int .i64 stamp, .slice a p.length c]);have hp1:=Lib.hid (P3 _ p (w.alloc (.cells #[.int .i64 addr, .int .i64 stamp, .slice a p.length c] 211)) noM noM (h.bare.mono (zk hbA)) (by omega));obtain⟨X1,hX1⟩:∃ X,X=UInt8.ofNat p.length::p:=⟨_,rfl⟩;rw [<-hX1] at hp1;have hl1:X1.length<=97:=by rw [hX1];simp;omega
 have HX1:=Lib.hid hX1;clear hX1 hbA h
 go_enter Tryz.func107,Tryz.ntmps107
 go_wp2_with fail
 ((with_reducible refine hp1.out.mono ?_);rintro e w1 ⟨r1,rfl,ho1,hB1⟩);have HB1:=Lib.hid (HB.out.trans (hB1.mono HB.out.size));have HQ1:=Lib.hid (HQ.out.below hB1);have hp2:=Lib.hid (Jq r1 X1 addr 2 w1 noM noM (ho1.sl (fun _ _ h=>h)) (.inr (.inl rfl)) (by omega) h1 (by show addr<65536;omega));obtain⟨X2,hX2⟩:∃ X,X=X1 ++ leB (Int.toNat 2) addr.toNat:=⟨_,rfl⟩;rw [<-hX2] at hp2;have hl2:X2.length<=99:=by rw [hX2,Ah,leB_len];show _+2<=_;omega
 have HX2:=Lib.hid hX2;clear hX2 hB1 hp1 ho1 HB HQ;obtain⟨q1,q2,q3⟩:=HQ1.out.all
 go_wp2_with fail
 clear q1 q2 q3;((with_reducible refine hp2.out.mono ?_);rintro e w2 ⟨r2,rfl,ho2,hB2⟩);have HB2:=Lib.hid (HB1.out.trans (hB2.mono HB1.out.size));have HQ2:=Lib.hid (HQ1.out.below hB2);have hp3:=Lib.hid (Jq r2 X2 stamp 4 w2 noM noM (ho2.sl (fun _ _ h=>h)) (.inr (.inr rfl)) (by omega) h3 (by show stamp<4294967296;omega));obtain⟨X3,hX3⟩:∃ X,X=X2 ++ leB (Int.toNat 4) stamp.toNat:=⟨_,rfl⟩;rw [<-hX3] at hp3;have hl3:X3.length<=103:=by rw [hX3,Ah,leB_len];show _+4<=_;omega
 have HX3:=Lib.hid hX3;clear hX3 hB2 hp2 ho2 HB1 HQ1;obtain⟨q1,q2,q3⟩:=HQ2.out.all
 go_wp2_with fail
 clear q1 q2 q3;((with_reducible refine hp3.out.mono ?_);rintro e w3 ⟨r3,rfl,ho3,hB3⟩);have HB3:=Lib.hid (HB2.out.trans (hB3.mono HB2.out.size));have hsm:=Lib.hid (MT r3 X3 w3 noM (ho3.sl (fun _ _ h=>h)));have hsl:=Jj X3;have hp4:=Lib.hid (Jq r3 X3 (DG X3:Nat) 4 w3 noM noM (ho3.sl (fun _ _ h=>h)) (.inr (.inr rfl)) (by omega) (by omega) (by show ((DG X3:Nat):Int)<4294967296;omega));clear hB3 hp3 ho3 HB2 HQ2 hsl
 go_wp2_with fail
 ((with_reducible refine hsm.out.mono ?_);rintro e w4 ⟨rfl,rfl⟩)
 go_wp2_with fail
 ((with_reducible refine hp4.out.mono ?_);rintro e w5 ⟨r5,rfl,ho5,hB5⟩);have HX:=Lib.hid (Ai (ho5.mono_base (base':=w.heap.size) HB3.out.size) (HB3.out.trans (hB5.mono HB3.out.size)));clear ho5 hB5 hp4
 go_wp2
 go_ret2
 refine⟨_,rfl,?_,HX.out.2⟩;have hf:=HX.out.1;rw [HX3.out,HX2.out,HX1.out] at hf;exact hf
end
section
open Go.RowKit
def IY (g:Geo) (copy slot:Int):Bool:=Dv copy 0 1&&Dv slot 0 (g.sl - 1)
def Ba (g:Geo) (copy slot:Int):Int:=g.an+copy*g.sl+slot
def B5 (g:Geo) (r:Rc) (copy slot:Int):List UInt8:=CF (Ba g copy slot) r.seq (Et r)
theorem GA {g:Geo} {copy slot:Int} (hg:Bq g=true) (hl:IY g copy slot=true):0<=Ba g copy slot/\Ba g copy slot<=65535:=by
 obtain⟨-, -, -,hs,ha⟩:=A2.1 hg;simp only [IY,Ad,AK] at hl;unfold Ba;rcases(show copy=0\/copy=1 by omega) with rfl | rfl <;> omega
theorem N_ {g:Geo} {r:Rc} (h:EN g r=true):0<=r.seq/\r.seq<=4294967295:=by
 rcases(Gh h).2 with h' | h' | h' <;> omega
def zeroC:Rc:=⟨0,0,0,0,0,⟨0,0, []⟩⟩
def DS (g:Geo) (b:List UInt8):Int:=if Bq g=false then 1 else if (DL g b).isSome then 0 else 4
end
end Go.Proofs.YtpjkcgacjjbikaaGreatDoor
namespace Go.Proofs.YtpjkcgacjjbikaaGreatDoor.A
section
open Go.RowKit

end
end Go.Proofs.YtpjkcgacjjbikaaGreatDoor.A
namespace Go.Proofs.YtpjkcgacjjbikaaGreatDoor
section
open Go.RowKit
theorem leB_step:∀ (k n:Nat),leB (k+1) n=leB k n ++ [UInt8.ofNat (n / 256 ^ k % 256)]
 | 0,n=>by simp [leB]
 | k+1,n=>by
  show UInt8.ofNat (n % 256)::leB (k+1) (n / 256)=(UInt8.ofNat (n % 256)::leB k (n / 256)) ++ _;rw [leB_step k (n / 256),Nat.div_div_eq_div_mul,Nat.pow_succ,Nat.mul_comm 256];try rfl

theorem QG (k:Nat) (h:k<256):((UInt8.ofNat k).toNat:Int)=(k:Int):=by rw [C8 h]
theorem OwR.lit1 (w:World) (k:Nat) (h:k<256):OwR (w.alloc (.cells #[.int .u8 (k:Int)] 5)) noM w.heap.size 5 (.slice (some ⟨w.heap.size,0,none⟩) 1 1) [UInt8.ofNat k]:=by
 have hL:=yY w noM [UInt8.ofNat k] (by simp);simpa only [A5,Bp,QG k h,Ao,AN] using hL
theorem OwR.lit2 (w:World) (k m:Nat) (h:k<256) (h':m<256):OwR (w.alloc (.cells #[.int .u8 (k:Int), .int .u8 (m:Int)] 5)) noM w.heap.size 5 (.slice (some ⟨w.heap.size,0,none⟩) 2 2) [UInt8.ofNat k,UInt8.ofNat m]:=by
 have hL:=yY w noM [UInt8.ofNat k,UInt8.ofNat m] (by simp);simpa only [A5,Bp,QG k h,QG m h',Ao,AN] using hL

end
end Go.Proofs.YtpjkcgacjjbikaaGreatDoor
namespace Go.Proofs.YtpjkcgacjjbikaaGreatDoor.A
section
open Go.RowKit
theorem Zu {a:AV} {c:Ctx} {us:List Value} (h:RdL [a] c us):∃ u,us=[u]/\Rd a c u:=by
 simp only [RdL] at h;obtain⟨u,r,rfl,h1,rfl⟩:=h;exact⟨u,rfl,h1⟩
theorem Zt {a b:AV} {c:Ctx} {us:List Value} (h:RdL [a,b] c us):∃ u v,us=[u,v]/\Rd a c u/\Rd b c v:=by
 simp only [RdL] at h;obtain⟨u,r,rfl,h1,v,q,rfl,h2,rfl⟩:=h;exact⟨u,v,rfl,h1,h2⟩
theorem Oc {c:Ctx} {a b:AV} {u v:Value} (h:Rd a c u) (k:Rd b c v):Rd (.tp [a,b]) c (.tuple #[u,v]):=by
 simp only [Rd,RdL];exact⟨_,rfl,_,_,rfl,h,_,_,rfl,k,rfl⟩
theorem NT {c:Ctx} (v:Value):Rd (.v v) c v:=by simp [Rd]
def EI (x:UInt8):List AV:= [.v (.int .u8 x.toNat)]
def TB (x:Int):List AV:= [iv x]
theorem Qg {w:World} {M:Ms}:∀ {l:List UInt8} {xs:List Value},Elems (Rp.sz UInt8) (Rp.E w M) xs l->xs=l.map fun x=> .int .u8 x.toNat
 | [],_,h=>h
 | x::l,_,h=>by
  obtain⟨cs,ys,rfl,_,h2,h3⟩:=h;have h2:cs=[.int .u8 x.toNat]:=h2;rw [h2,Qg h3];try rfl
theorem Sd (c:Ctx):∀ l:List UInt8,RdL (l.map EI).flatten c (l.map fun x=> .int .u8 x.toNat)
 | []=>by simp [RdL]
 | x::l=>by
  simp only [A5,A8,EI,Bj,Bk,RdL];exact⟨_,_,rfl,by simp [Rd],Sd c l⟩
theorem HS.bytes {w0:Fl} {M0:Ms} {c:Ctx} {H:List AB} (h:HS w0 M0 c H) {w':World} (hb:Below c.w.heap.size c.w w') {M:Ms} {v:Value} {l:List UInt8} (ho:OwR w' M c.w.heap.size 5 v l) :
  ∃ c',c'.w=w'/\HS w0 M0 c' (H ++ [.row 5 1 (l.map EI)])/\Ext c c'/\Rd (.ow H.length l.length) c' v:=by
 obtain⟨xs,h1,h2⟩:=ho;have hx:=Qg h2;subst hx;obtain⟨a,b,d⟩:=h.newrow (es:=l.map EI) (t:=5) (sz:=1) hb (by omega) (fun e he=>by obtain⟨x,_,rfl⟩:=AI.1 he;rfl) (by rw [Aa];exact h1) (fun u hu=>by obtain⟨x,_,rfl⟩:=AI.1 hu;rfl) (Sd _ l);rw [Aa] at a b d;exact⟨_,rfl,a,b,d⟩
theorem ACalls.ofBytes {P:Program} {f:FuncId} {args:List AV} {l:List UInt8} (hg:Q5 P f)
  (h:∀ (c:Ctx) (us:List Value),RdL args c us->Calls P f us.toArray c.w fun e w'=>∃ r,e = .returned (.tuple #[r, .int .i64 0])/\OwR w' noM c.w.heap.size 5 r l/\Below c.w.heap.size c.w w') :
  ACalls P false f args [] fun r H=>r = .tp [.ow 0 l.length,iv 0]/\H=[.row 5 1 (l.map EI)]:=by
 refine⟨hg,fun w0 M0 c us hs hr=>(h c us hr).mono ?_⟩;rintro e w' ⟨r,rfl,ho,hB⟩;obtain⟨c',e1,e2,e3,e4⟩:=hs.bytes hB ho;exact⟨_,c',_,_,rfl,e1,tA,e2,e3,Oc e4 (NT _),fun h=>by cases h⟩
def zi:=@ACalls.ofBytes
theorem QJ {c:Ctx} {u:Value} {b:List Int} (h:Rd (iA b) c u):SlR c.w c.M u b:=by
 simp only [iA,Rd] at h;obtain⟨a,k,rfl,h1,h2,h3⟩:=h;refine⟨a,k,b.map fun x=> .int .i64 x,rfl,h1,h2,?_,fun hne=>?_⟩
 ·refine Elems.of_get (by simp [Rp.sz]) fun i x hx=>⟨[.int .i64 x],rfl,rfl,fun j hj=>?_⟩
  have hj:j<1:=hj;obtain rfl:j=0:=by omega
  simp [Rp.sz,hx]
 ·rcases h3 with h3 | ⟨bl,off,rfl,hm,hb,hc⟩
  ·exact absurd (Bt h3) hne
  ·refine⟨bl,off,rfl,hm,fun j u hu=>?_⟩;rw [Bd] at hu;cases hq:b[j]? with
   | none=>rw [hq] at hu;simp at hu
   | some x=>
    rw [hq] at hu;simp at hu;subst hu;have hlt:=(Ar.1 hq).1;have:=(hc j hlt).2;simp only [RdAt,Rd] at this;obtain⟨⟨u,e1,_,rfl⟩,_⟩:=this;rw [D4] at e1;rw [show b.getD j 0=x by rw [Ab,hq];try rfl] at e1;exact e1
theorem Jo (ns ss:List Int) (hl:ns.length=ss.length) (hn:ns.length<=1000) (hf:∀ k (a:k<ns.length) (b:k<ss.length),Ee ss[k]/\0<=ns[k]/\ns[k]<CS ss[k]) :
  ACalls Tryz.prog false 189 [iA ns,iA ss] [] fun r H=>r = .tp [.ow 0 (rowB ns ss).length,iv 0]/\H=[.row 5 1 ((rowB ns ss).map EI)]:=by
 refine zi ⟨_,Tryz.func189,rfl,by decide⟩ fun c us hr=>?_
 obtain⟨u1,u2,rfl,h1,h2⟩:=Zt hr;exact WR u1 u2 ns ss c.w noM c.M c.M (QJ h1) (QJ h2) hl hn hf
theorem UK (l:List UInt8) (hl:l.length<=255):ACalls Tryz.prog false 191 [bA l] [] fun r H=>r = .tp [.ow 0 (UInt8.ofNat l.length::l).length,iv 0]/\H=[.row 5 1 ((UInt8.ofNat l.length::l).map EI)]:=by
 refine zi ⟨_,Tryz.func191,rfl,by decide⟩ fun c us hr=>?_
 obtain⟨u1,rfl,h1⟩:=Zu hr;exact P3 u1 l c.w noM c.M (HW h1) hl
theorem W_ (l:List UInt8) (n size:Int) (hs:Ee size) (hl:l.length<=1000000) (h0:0<=n) (h1:n<CS size):ACalls Tryz.prog false 192 [bA l,iv n,iv size] [] fun r H=>r = .tp [.ow 0 (l ++ leB size.toNat n.toNat).length,iv 0]/\H=[.row 5 1 ((l ++ leB size.toNat n.toNat).map EI)]:=by
 refine zi ⟨_,Tryz.func192,rfl,by decide⟩ fun c us hr=>?_
 simp only [RdL] at hr;obtain⟨u1,_,rfl,h1',u2,_,rfl,h2',u3,_,rfl,h3',rfl⟩:=hr;simp only [Rd] at h2' h3';subst h2' h3';exact Jq u1 l n size c.w noM c.M (HW h1') hs hl h0 h1
structure Gt where
 err:Int
 bytes:List UInt8
 deriving DecidableEq
structure Sec where
 addr:Int
 stamp:Int
 pay:List UInt8
 deriving DecidableEq
structure Wr where
 addr:Int
 bytes:List UInt8
 deriving DecidableEq
structure Tx where
 seq:Int
 pos:Int
 n:Int
 images:List Img
 deriving DecidableEq
structure Hm where
 places:List Int
 next:Int
 root:Int
 deriving DecidableEq
structure An where
 gen:Int
 epoch:Int
 pos:Int
 seq:Int
 last:Int
 label:ByteArray
 homes:List Hm
 deriving DecidableEq
instance:Inhabited Gt:=⟨⟨0, []⟩⟩
instance:Inhabited Wr:=⟨⟨0, []⟩⟩
instance:Inhabited Tx:=⟨⟨0,0,0, []⟩⟩
instance:Inhabited Hm:=⟨⟨[],0,0⟩⟩
def Eg (x:Gt):List AV:= [iv x.err,bA x.bytes]
def F6 (l:List Gt):AV:= .sl 2 l.length fun i=>Eg (l.getD i ⟨0, []⟩)
def WM (x:Sec):List AV:= [iv x.addr,iv x.stamp,bA x.pay]
def GU (x:Wr):List AV:= [iv x.addr,bA x.bytes]
def NB (l:List Wr):AV:= .sl 2 l.length fun i=>GU (l.getD i ⟨0, []⟩)
def It (x:Tx):List AV:= [iv x.seq,iv x.pos,iv x.n,Fb x.images]
def Ej (l:List Tx):AV:= .sl 4 l.length fun i=>It (l.getD i ⟨0,0,0, []⟩)
def M8 (x:Hm):List AV:= [iA x.places,iv x.next,iv x.root]
def GW (l:List Hm):AV:= .sl 3 l.length fun i=>M8 (l.getD i ⟨[],0,0⟩)
def Fp (x:An):List AV:= [iv x.gen,iv x.epoch,iv x.pos,iv x.seq,iv x.last, .v (.string x.label),GW x.homes]
inductive TrM where
 | fin
 | one (i:Nat) (r:TrM)
 | two (i:Nat) (a:TrM) (j:Nat) (b:TrM)
 | three (i:Nat) (a:TrM) (j:Nat) (b:TrM) (k:Nat) (d:TrM)
def TrM.o (l:List Nat) (t:TrM):TrM:=l.foldr .one t
def TrM.depth:TrM->Nat
 | .fin=>0
 | .one _ r=>r.depth+1
 | .two _ a _ b=>max a.depth b.depth+1
 | .three _ a _ b _ d=>max a.depth (max b.depth d.depth)+1
def Jw (ops:Array Oper) (B:List Nat) (mk:Nat) (j:Nat):Bool:=
 (List.range ops.size).any fun i=>!(((ops[i]?).map fun o=>isEff o.op || pureOp o.op).getD true)&&!mk.testBit i&&i != j&&!(B.getD j 0).testBit i&&!(B.getD i 0).testBit j
section
variable {P:Program} {ops:Array Oper} {B:List Nat} {Q:Exit->Act->World->Prop} {mk:Nat}
def HeldM (P:Program) (ops:Array Oper) (B:List Nat) (mk:Nat) (Q:Exit->Act->World->Prop):Nat->Array Bool->Act->World->Prop
 | 0,l,a,w=>Region.ready .any ops l=[]/\Q .normal a w
 | n+1,l,a,w=>(Region.ready .any ops l=[]->Q .normal a w)/\
   ∀ i∈Region.ready .any ops l,wpOp P ops Q i (fun a' w'=>(Jw ops B mk i=true->Old w w')/\HeldM P ops B mk Q n (l.setIfInBounds i true) a' w') a w
theorem HeldM.any:∀ (n:Nat) (l:Array Bool) (a:Act) (w:World),HeldM P ops B mk Q n l a w->wpAny P .any ops Q n l a w
 | 0,_,_,_,h=>h
 | n+1,_,_,_,h=>⟨h.1,fun i hi=>wpOp_mono (fun a' w' h'=>HeldM.any n _ a' w' h'.2) (h.2 i hi)⟩
theorem HeldM.first (hB:FN ops B=true) {i:Nat} {oi:Oper} {v:Value} (hi:ops[i]? = some oi) (hmk:mk.testBit i=false) (hdet:isEff oi.op=false)
  (hsel:∀ (j:Nat) (o:Oper) cs b,ops[j]? = some o->o.op≠ .select cs b)
  (hQ:∀ c a w,Q (.panic c) (a.put oi.dst v) w->Q (.panic c) a w) {S:World->Prop} (hk:∀ w w',S w->(pureOp oi.op=false->Old w w')->S w'):∀ (n:Nat) (l:Array Bool) (a:Act) (w:World),Cl ops l->
   (∀ j oj,ops[j]? = some oj->j≠i->l.getD j true=false->(∀ e∈oj.after,Region.binds .any e=true->e.on≠i)->oi.apart ops oj=true)->
   i∈Region.ready .any ops l->YieldsIf P ops S oi v a->S w->HeldM P ops B mk Q n (l.setIfInBounds i true) (a.put oi.dst v) w->HeldM P ops B mk Q (n+1) l a w:=by
 intro n;induction n with
 | zero=>
  intro l a w _ _ hr hy hS H;refine⟨fun h=>(by rw [h] at hr;cases hr),fun j hj=>?_⟩;by_cases hji:j=i
  ·subst hji;exact hy.wpOp hi hS ⟨fun _=>zy _,H⟩
  ·have h1:=ready_mono hj hji;rw [H.1] at h1;cases h1
 | succ n ih=>
  intro l a w hcl hfree hr hy hS H;refine⟨fun h=>(by rw [h] at hr;cases hr),fun j hj=>?_⟩;by_cases hji:j=i
  ·subst hji;exact hy.wpOp hi hS ⟨fun _=>zy _,H⟩
  have h1:=H.2 j (ready_mono hj hji);obtain⟨hjun,oj,hoj,hall⟩:=mem_ready.1 hj;obtain⟨hiun,oi',hoi',halli⟩:=mem_ready.1 hr;rw [hi] at hoi';cases hoi';have unl:∀ k,l.getD k true=false->l.getD k false=true->False:=by
   intro k h1 h2;rcases BT k l.size with h' | h'
   ·simp [h'] at h1 h2;rw [h1] at h2;cases h2
   ·simp [B4 h'] at h2
  have hnot:∀ e∈oj.after,Region.binds .any e=true->e.on≠i:=fun e he hb heq=>unl i hiun (heq ▸ hall e he hb)
  have hmay:pureOp oi.op=false->Jw ops B mk j=true:=by
   intro hpu;refine CT.2 ⟨i,AJ.2 (Aw.1 hi).1,?_⟩;have hne:(i != j)=true:=by rw [bne_iff_ne];exact fun h=>hji h.symm
   have b1:(B.getD j 0).testBit i=false:=by
    rw [<-CU];exact fun h=>unl i hiun (ZP hB hcl j oj hoj hall i h)
   have b2:(B.getD i 0).testBit j=false:=by
    rw [<-CU];exact fun h=>unl j hjun (ZP hB hcl i oi hi halli j h)
   simp only [hi,Option.map_some,BO,hdet,hpu,hne,b1,b2,hmk,Bool.or_false,Bool.not_false,B6]
  have h2:=wpOp_putIf hoj (hfree j oj hoj hji hjun hnot) (fun cs b=>hsel i oi cs b hi) (fun cs b=>hsel j oj cs b hoj) hQ hy h1;refine wpOp_mono (fun a' w' h3=>⟨h3.2.1,ih (l.setIfInBounds j true) a' w' (hcl.set hj) (fun k ok hk hki hun hno=>?_) (ready_mono hr (Ne.symm hji)) h3.1 (hk _ _ hS fun hp=>h3.2.1 (hmay hp)) ?_⟩) h2
  ·refine hfree k ok hk hki ?_ hno;by_cases hjk:j=k
   ·subst hjk;exact hjun
   ·rw [getD_set_ne true hjk] at hun;exact hun
  ·rw [Array.setIfInBounds_comm _ _ hji];exact h3.2.2

theorem HeldM.first1 (hB:FN ops B=true) {i:Nat} {oi:Oper} {v:Value} (hi:ops[i]? = some oi) (hmk:mk.testBit i=false) (hdet:isEff oi.op=false)
  (hsel:∀ (j:Nat) (o:Oper) cs b,ops[j]? = some o->o.op≠ .select cs b)
  (hQ:∀ c a w,Q (.panic c) (a.put oi.dst v) w->Q (.panic c) a w) (n:Nat) (l:Array Bool) (a:Act) (w:World) (hcl:Cl ops l)
  (hfree:∀ j oj,ops[j]? = some oj->j≠i->l.getD j true=false->(∀ e∈oj.after,Region.binds .any e=true->e.on≠i)->oi.apart ops oj=true)
  (hr:i∈Region.ready .any ops l) (hy:YieldsIf P ops (fun w'=>pureOp oi.op=true\/Old w w') oi v a) (H:HeldM P ops B mk Q n (l.setIfInBounds i true) (a.put oi.dst v) w):HeldM P ops B mk Q (n+1) l a w:=by
 refine HeldM.first hB hi hmk hdet hsel hQ (S:=fun w'=>pureOp oi.op=true\/Old w w') (fun _ _ h1 h2=>?_) n l a w hcl hfree hr hy (.inr (zy w)) H;rcases h1 with h1 | h1
 ·exact .inl h1
 ·cases hp:pureOp oi.op with
  | true=>exact .inl rfl
  | false=>exact .inr (h1.trans (h2 hp))

def qM (mk:Nat) (i:Nat) (o:Op):Bool:=qOf o&&!mk.testBit (i+128)
def E7 (P:Program) (T:Tys) (n mk:Nat) (ops:Array Oper) (i:Nat) (fr:Fr) (H:List AB) (K:Fr->List AB->Prop):Prop:=
 match IJ ops.toList i with
 | none=>False
 | some o=>IN ops.toList o fr (fun fr=>Hf P T n (qM mk i o.op) o fr H K) fun fr=>NV n o.dst (.v undef) fr fun fr=>K fr H
def KQ (ops:Array Oper) (B:List Nat) (mk:Nat) (i:Nat):Bool:=match ops[i]? with | some o=>(qM mk i o.op || !Jw ops B mk i) | none=>false
def treeM (ops:Array Oper) (B:List Nat) (mk:Nat):TrM->Array Bool->Bool
 | .fin,l=>(Region.ready .any ops l).isEmpty
 | .one i r,l=>(match ops[i]? with
   | none=>false
   | some o=>match isEff o.op with
    | true=>(match Region.ready .any ops l with | [j]=>Nat.beq i j | _=>false)&&(qM mk i o.op || !Jw ops B mk i)
    | false=>match mk.testBit i with
     | true=>(match Region.ready .any ops l with | [j]=>Nat.beq i j | _=>false)&&(qM mk i o.op || !Jw ops B mk i)
     | false=>Region.free .any ops l i&&(Region.ready .any ops l).contains i)&&treeM ops B mk r (l.setIfInBounds i true)
 | .two i a j b,l=>(match Region.ready .any ops l with | [x,y]=>Nat.beq x i&&Nat.beq y j | _=>false)&&KQ ops B mk i&&KQ ops B mk j&&treeM ops B mk a (l.setIfInBounds i true)&&treeM ops B mk b (l.setIfInBounds j true)
 | .three i a j b k d,l=>(match Region.ready .any ops l with | [x,y,z]=>Nat.beq x i&&Nat.beq y j&&Nat.beq z k | _=>false)&&KQ ops B mk i&&KQ ops B mk j&&KQ ops B mk k&&treeM ops B mk a (l.setIfInBounds i true)&&treeM ops B mk b (l.setIfInBounds j true)&&treeM ops B mk d (l.setIfInBounds k true)
def IF (P:Program) (T:Tys) (n mk:Nat) (ops:Array Oper):TrM->Fr->List AB->(Fr->List AB->Prop)->Prop
 | .fin,fr,H,K=>K fr H
 | .one i r,fr,H,K=>E7 P T n mk ops i fr H fun fr H=>IF P T n mk ops r fr H K
 | .two i a j b,fr,H,K=>(E7 P T n mk ops i fr H fun fr H=>IF P T n mk ops a fr H K)/\(E7 P T n mk ops j fr H fun fr H=>IF P T n mk ops b fr H K)
 | .three i a j b k d,fr,H,K=>(E7 P T n mk ops i fr H fun fr H=>IF P T n mk ops a fr H K)/\(E7 P T n mk ops j fr H fun fr H=>IF P T n mk ops b fr H K)/\(E7 P T n mk ops k fr H fun fr H=>IF P T n mk ops d fr H K)
variable {T:Tys} {w0:Fl} {M0:Ms} {n d0:Nat} {ce:Ctx}
theorem ER (hT:TOk P T) {i:Nat} {o:Oper} (ho:ops[i]? = some o) {m:Nat} {l:Array Bool} (hmq:(qM mk i o.op || !Jw ops B mk i)=true) {c:Ctx} {fr:Fr} {H:List AB} {a:Act} (hs:HS w0 M0 c H) (hf:FR w0 c n fr a) (he:Ext ce c) {K:Fr->List AB->Prop}
  (hk:∀ (c':Ctx) (fr':Fr) (H':List AB) (a':Act),HS w0 M0 c' H'->FR w0 c' n fr' a'->Ext ce c'->K fr' H'->HeldM P ops B mk Q m (l.setIfInBounds i true) a' c'.w)
  (h:E7 P T n mk ops i fr H K):wpOp P ops Q i (fun a' w'=>(Jw ops B mk i=true->Old c.w w')/\HeldM P ops B mk Q m (l.setIfInBounds i true) a' w') a c.w:=by
 simp only [E7,DN] at h;rw [show ops.toList[i]? = some o by simpa using ho] at h;simp only at h;refine wpOp_step ho fun KK hK=>?_
 rcases Dn hf h with ⟨hw,fr',hf',h⟩ | ⟨hw,fr',hf',h⟩
 ·rw [if_pos hw];refine E_ hT hs hf' he h ?_;rintro a' w' ⟨c',fr2,H',rfl,h1,h2,h3,h4⟩ hold;refine hK _ _ ⟨fun hmay=>hold ?_,hk c' fr2 H' a' h2 h3 h4 h1⟩;rw [hmay] at hmq;simpa using hmq
 ·rw [if_neg (by rw [hw];simp)];obtain⟨fr2,h1,h2⟩:=Co (v:=undef) hf' (by simp [Rd]) h;exact hK _ _ ⟨fun _=>zy _,hk c fr2 H _ hs h2 he h1⟩
theorem Dq (hT:TOk P T) (hB:FN ops B=true) (hns:Region.noSelect ops=true) {K:Fr->List AB->Prop} (hq:∀ a w,DP w0 M0 ce n K a w->Q .normal a w) (hpan:∀ c a w,¬Q (.panic c) a w) :
  ∀ (r:TrM) (m:Nat) (l:Array Bool) (c:Ctx) (fr:Fr) (H:List AB) (a:Act),r.depth<=m->Cl ops l->treeM ops B mk r l=true->HS w0 M0 c H->FR w0 c n fr a->Ext ce c->IF P T n mk ops r fr H K->HeldM P ops B mk Q m l a c.w
 | .fin,m,l,c,fr,H,a,hm,hcl,hd,hs,hf,he,h=>by
  simp only [treeM,List.isEmpty_iff] at hd;cases m with
  | zero=>exact⟨hd,hq _ _ ⟨c,fr,H,rfl,h,hs,hf,he⟩⟩
  | succ m=>exact⟨fun _=>hq _ _ ⟨c,fr,H,rfl,h,hs,hf,he⟩,by rw [hd];simp⟩
 | .two i x j y,m,l,c,fr,H,a,hm,hcl,hd,hs,hf,he,h=>by
  cases m with
  | zero=>simp [TrM.depth] at hm
  | succ m=>
   simp only [TrM.depth] at hm;simp only [treeM,Ad] at hd;obtain⟨⟨⟨⟨hr,hi⟩,hj⟩,hx⟩,hy⟩:=hd;have hr':Region.ready .any ops l=[i,j]:=by
    split at hr
    ·rename_i p q hpq;simp only [Ad] at hr;rw [hpq,Am hr.1,Am hr.2]
    ·cases hr
   obtain⟨h1,h2⟩:=h;have go:∀ k r,KQ ops B mk k=true->r.depth<=m->k∈Region.ready .any ops l->treeM ops B mk r (l.setIfInBounds k true)=true->(E7 P T n mk ops k fr H fun fr H=>IF P T n mk ops r fr H K)->(∀ (c:Ctx) (fr:Fr) (H:List AB) (a:Act),HS w0 M0 c H->FR w0 c n fr a->Ext ce c->IF P T n mk ops r fr H K->HeldM P ops B mk Q m (l.setIfInBounds k true) a c.w)->
     wpOp P ops Q k (fun a' w'=>(Jw ops B mk k=true->Old c.w w')/\HeldM P ops B mk Q m (l.setIfInBounds k true) a' w') a c.w:=by
    intro k r hk _ _ _ hst hrec;unfold KQ at hk;split at hk
    ·rename_i o ho;exact ER hT ho hk hs hf he hrec hst
    ·cases hk
   refine⟨fun h0=>(by rw [hr'] at h0;cases h0),fun k hk=>?_⟩;have hi':i∈Region.ready .any ops l:=by rw [hr'];simp
   have hj':j∈Region.ready .any ops l:=by rw [hr'];simp
   rw [hr',AQ,Ay] at hk;rcases hk with rfl | rfl
   ·exact go k x hi (by omega) hi' hx h1 fun c' fr' H' a' q1 q2 q3 q4=>Dq hT hB hns hq hpan x m _ c' fr' H' a' (by omega) (hcl.set hi') hx q1 q2 q3 q4
   ·exact go k y hj (by omega) hj' hy h2 fun c' fr' H' a' q1 q2 q3 q4=>Dq hT hB hns hq hpan y m _ c' fr' H' a' (by omega) (hcl.set hj') hy q1 q2 q3 q4
 | .three i x j y k0 z,m,l,c,fr,H,a,hm,hcl,hd,hs,hf,he,h=>by
  cases m with
  | zero=>simp [TrM.depth] at hm
  | succ m=>
   simp only [TrM.depth] at hm;simp only [treeM,Ad] at hd;obtain⟨⟨⟨⟨⟨⟨hr,hi⟩,hj⟩,hk0⟩,hx⟩,hy⟩,hz⟩:=hd;have hr':Region.ready .any ops l=[i,j,k0]:=by
    split at hr
    ·rename_i p q u hpq;simp only [Ad] at hr;rw [hpq,Am hr.1.1,Am hr.1.2,Am hr.2]
    ·cases hr
   obtain⟨h1,h2,h3⟩:=h;have go:∀ k r,KQ ops B mk k=true->r.depth<=m->k∈Region.ready .any ops l->treeM ops B mk r (l.setIfInBounds k true)=true->(E7 P T n mk ops k fr H fun fr H=>IF P T n mk ops r fr H K)->(∀ (c:Ctx) (fr:Fr) (H:List AB) (a:Act),HS w0 M0 c H->FR w0 c n fr a->Ext ce c->IF P T n mk ops r fr H K->HeldM P ops B mk Q m (l.setIfInBounds k true) a c.w)->
     wpOp P ops Q k (fun a' w'=>(Jw ops B mk k=true->Old c.w w')/\HeldM P ops B mk Q m (l.setIfInBounds k true) a' w') a c.w:=by
    intro k r hk _ _ _ hst hrec;unfold KQ at hk;split at hk
    ·rename_i o ho;exact ER hT ho hk hs hf he hrec hst
    ·cases hk
   refine⟨fun h0=>(by rw [hr'] at h0;cases h0),fun k hk=>?_⟩;have hi':i∈Region.ready .any ops l:=by rw [hr'];simp
   have hj':j∈Region.ready .any ops l:=by rw [hr'];simp
   have hk':k0∈Region.ready .any ops l:=by rw [hr'];simp
   rw [hr',AQ,AQ,Ay] at hk;rcases hk with rfl | rfl | rfl
   ·exact go k x hi (by omega) hi' hx h1 fun c' fr' H' a' q1 q2 q3 q4=>Dq hT hB hns hq hpan x m _ c' fr' H' a' (by omega) (hcl.set hi') hx q1 q2 q3 q4
   ·exact go k y hj (by omega) hj' hy h2 fun c' fr' H' a' q1 q2 q3 q4=>Dq hT hB hns hq hpan y m _ c' fr' H' a' (by omega) (hcl.set hj') hy q1 q2 q3 q4
   ·exact go k z hk0 (by omega) hk' hz h3 fun c' fr' H' a' q1 q2 q3 q4=>Dq hT hB hns hq hpan z m _ c' fr' H' a' (by omega) (hcl.set hk') hz q1 q2 q3 q4
 | .one i r,m,l,c,fr,H,a,hm,hcl,hd,hs,hf,he,h=>by
  cases m with
  | zero=>simp [TrM.depth] at hm
  | succ m=>
   simp only [TrM.depth,Nat.add_le_add_iff_right] at hm;simp only [treeM,Ad] at hd;obtain⟨hd1,hd2⟩:=hd;simp only [IF] at h;cases ho:ops[i]? with
   | none=>rw [ho] at hd1;simp at hd1
   | some o=>
    rw [ho] at hd1;simp only at hd1;cases hE:isEff o.op with
    | true=>
     rw [hE] at hd1;simp only [Ad] at hd1;obtain⟨hr,hmq⟩:=hd1;have hr':Region.ready .any ops l=[i]:=by
      split at hr
      ·rename_i j hj;rw [hj,Am hr]
      ·cases hr
     have hri:i∈Region.ready .any ops l:=by rw [hr'];simp
     refine⟨fun h0=>(by rw [hr'] at h0;cases h0),fun j hj=>?_⟩;rw [hr',Ay] at hj;subst hj;exact ER hT ho hmq hs hf he (fun c' fr' H' a' q1 q2 q3 q4=>Dq hT hB hns hq hpan r m _ c' fr' H' a' hm (hcl.set hri) hd2 q1 q2 q3 q4) h
    | false=>
     rw [hE] at hd1;dsimp only at hd1;cases hM:mk.testBit i with
     | true=>
      rw [hM] at hd1;simp only [Ad] at hd1;obtain⟨hr,hmq⟩:=hd1;have hr':Region.ready .any ops l=[i]:=by
       split at hr
       ·rename_i j hj;rw [hj,Am hr]
       ·cases hr
      have hri:i∈Region.ready .any ops l:=by rw [hr'];simp
      refine⟨fun h0=>(by rw [hr'] at h0;cases h0),fun j hj=>?_⟩;rw [hr',Ay] at hj;subst hj;exact ER hT ho hmq hs hf he (fun c' fr' H' a' q1 q2 q3 q4=>Dq hT hB hns hq hpan r m _ c' fr' H' a' hm (hcl.set hri) hd2 q1 q2 q3 q4) h
     | false=>
     rw [hM] at hd1;simp only [Ad] at hd1;obtain⟨hfree,hr⟩:=hd1;have hri:i∈Region.ready .any ops l:=by simpa using hr
     simp only [E7,DN] at h;rw [show ops.toList[i]? = some o by simpa using ho] at h;simp only at h;have step:∀ v fr2,YieldsIf P ops (fun w'=>pureOp o.op=true\/Old c.w w') o v a->FR w0 c n fr2 (a.put o.dst v)->IF P T n mk ops r fr2 H K->HeldM P ops B mk Q (m+1) l a c.w:=by
      intro v fr2 hy hf2 h2;exact HeldM.first1 hB ho hM hE (Region.noSelect_spec hns) (fun c a w h=>(hpan _ _ _ h).elim) m l a c.w hcl (Region.free_spec ho hfree) hri hy
       (Dq hT hB hns hq hpan r m _ c fr2 H _ hm (hcl.set hri) hd2 hs hf2 he h2)
     rcases Dn hf h with ⟨hw,fr',hf',h⟩ | ⟨hw,fr',hf',h⟩
     ·unfold Hf at h;rw [hE] at h;obtain⟨rr,v,h1,h2,h3⟩:=(Gp hT hs hf' h).y;obtain⟨fr2,h4,h5⟩:=Co hf' h3 h1;exact step v fr2 (.inl ⟨hw,h2⟩) h5 h4
     ·obtain⟨fr2,h4,h5⟩:=Co (v:=undef) hf' (by simp [Rd]) h;exact step undef fr2 (.inr ⟨hw,rfl⟩) h5 h4
def Jf (ops:Array Oper) (mk:Nat) (tr:TrM):Bool:=FN ops (Kk ops)&&Region.noSelect ops&&Nat.ble tr.depth ops.size&&treeM ops (Kk ops) mk tr (Array.replicate ops.size false)
theorem aDraw.treeM (mk:Nat) (hT:TOk P T) (hm:P.follows .mixedOrders=true) {id:Nat} {K:Fr->List AB->Prop} {fr:Fr} {H:List AB} (tr:TrM) (ds:List Nat) {F:Fr} {H2:List AB} (hok:Jf ops mk tr=true)
  (h:IF P T n mk ops tr fr H fun fr' H'=>canonK (ds ++ slots fr) fr' fun l=>l=F/\H'=H2) (hk:K F H2):aDraw P T n d0 id ops K fr H:=by
 simp only [Jf,Ad] at hok;obtain⟨⟨⟨hB,hns⟩,hlen⟩,hok⟩:=hok;refine⟨fun w0 M0 ce c a hs hf he hd Q hQ=>?_⟩;refine wp_mono (Q:=fun e a w=>e = .normal/\DP w0 M0 ce n (fun fr' H'=>canonK (ds ++ slots fr) fr' fun l=>l=F/\H'=H2) a w) ?_ ?_
 ·refine wp_region_any hm (HeldM.any (B:=Kk ops) (mk:=mk) _ _ _ _ ?_);have hb:=(Below.refl c.w.heap.size c.w).drew;obtain⟨h1,h2⟩:=hs.grow hb;refine Dq (w0:=w0) (M0:=M0) (ce:=ce) hT hB hns (fun a w hl=>⟨rfl,hl⟩) (fun c a w h=>by cases h.1) tr _ _ { c with w:=c.w.drew } fr H a (Ae hlen) ?_ hok h1 (hf.ext h2) (he.trans h2) h;intro j o hj hlj;rcases BT j ops.size with h' | h'
  ·simp [h'] at hlj
  ·simp [B4 h'] at hj
 ·rintro e a w ⟨rfl,c',fr',H',rfl,h1,h2,h3,h4⟩;obtain⟨e1,rfl⟩:=canonK_iff h1;exact hQ c' F H' a hk h2 (e1 ▸ h3.canon _) h4
def zf:=@aDraw.treeM
theorem aDraw.treeK (mk:Nat) (hT:TOk P T) (hm:P.follows .mixedOrders=true) {id:Nat} {K:Fr->List AB->Prop} {fr:Fr} {H:List AB} (tr:TrM) (hok:Jf ops mk tr=true)
  (h:IF P T n mk ops tr fr H K):aDraw P T n d0 id ops K fr H:=by
 simp only [Jf,Ad] at hok;obtain⟨⟨⟨hB,hns⟩,hlen⟩,hok⟩:=hok;refine⟨fun w0 M0 ce c a hs hf he hd Q hQ=>?_⟩;refine wp_mono (Q:=fun e a w=>e = .normal/\DP w0 M0 ce n K a w) ?_ ?_
 ·refine wp_region_any hm (HeldM.any (B:=Kk ops) (mk:=mk) _ _ _ _ ?_);have hb:=(Below.refl c.w.heap.size c.w).drew;obtain⟨h1,h2⟩:=hs.grow hb;refine Dq (w0:=w0) (M0:=M0) (ce:=ce) hT hB hns (fun a w hl=>⟨rfl,hl⟩) (fun c a w h=>by cases h.1) tr _ _ { c with w:=c.w.drew } fr H a (Ae hlen) ?_ hok h1 (hf.ext h2) (he.trans h2) h;intro j o hj hlj;rcases BT j ops.size with h' | h'
  ·simp [h'] at hlj
  ·simp [B4 h'] at hj
 ·rintro e a w ⟨rfl,c',fr',H',rfl,h1,h2,h3,h4⟩;exact hQ c' fr' H' a h1 h2 h3 h4
def zW:=@aDraw.treeK
end
theorem BS (b:List UInt8) (hb:b.length<=1000000000):Fn Tryz.prog 33 [bA b] fun r=>r=bA b:=by
 refine zT Tryz.func33 rfl ?_;refine Ai (fun h=>?_) ?_
 ·conv=>whnf
  exact⟨bA b,fun c v hv=>by rw [AG.1 h];exact Bv 1 _ c v hv,rfl⟩
 ·refine⟨⟨rfl,by omega⟩,?_⟩;refine⟨by simp,?_⟩;exact⟨bA b,fun c v hv=>z7 (by omega) (fun i hi=>IR (by omega)) hv,rfl⟩
theorem Ke {l:List UInt8} {k:Nat} (hk:k<l.length) (h4:k<4):IntKind.i64.wrap ((BitVec.ofInt IntKind.i64.bits ((leN (l.take k):Nat):Int) ||| BitVec.ofInt IntKind.i64.bits (IntKind.i64.wrap (IntKind.i64.wrap ((l.getD k 0).toNat:Int)*2 ^ min (IntKind.i64.wrap (8*(k:Int))).toNat IntKind.i64.bits))).toNat:Int)=((leN (l.take (k+1)):Nat):Int):=by
 have h:=VE hk h4;have e1:IntKind.i64.wrap (8*(k:Int))=8*(k:Int):=IntWalk.i64_in _ (by omega);have e2:IntKind.i64.wrap ((l.getD k 0).toNat:Int)=((l.getD k 0).toNat:Int):=IntWalk.i64_in _ (by have:=(l.getD k 0).toNat_lt;omega);have e3:l.getD k 0=l[k]:=by rw [Ab,Af hk];try rfl
 rw [e1,e2,show (8*(k:Int)).toNat=8*k by omega,Cn (by show 8*k<=64;omega),e3];have e4:∀ n:Int,wrap64 n=IntKind.i64.wrap n:=fun n=>by rw [IntKind.wrap_i64,wrap64]
 rw [e4] at h;exact h
theorem DD {b:List UInt8} {n m:Nat} (hn:n=b.length - m) (c:Ctx) (u:Value) (h:Rd (.sl 1 n fun i=> [.v (.int .u8 (b.getD (i+m) 0).toNat)]) c u):Rd (bA (b.drop m)) c u:=
 z7 (by rw [Al];exact hn) (fun i _=>by rw [Ab,Ab,Cq,CA]) h
theorem Ou (b:List UInt8) (m:Int) (hs:Ee m) (hm:m<=b.length) (hl:b.length<=1000000):Fn Tryz.prog 311 [bA b,iv m] fun r=>r = .tp [iv (leN (b.take m.toNat):Nat),bA (b.drop m.toNat),iv 0]:=by
 rcases hs with rfl | rfl | rfl
 ·refine zT Tryz.func311 rfl ?_;conv=>whnf
  refine AS (fun h=>?_) (fun h=>?_) <;> conv=>whnf
  ·exfalso;omega
  refine⟨by omega,?_⟩;conv=>whnf
  refine zP Nat (fun k=>([(0,bA b),(1,iv 1),(4,iv (leN (b.take k):Nat)),(27, .sl 1 1 fun i=> [.v (.int .u8 (b.getD i 0).toNat)]),(28,iv 1),(29,iv k)], [])) (fun k=>k<=1) (fun k=>1 - k) 0 (Aj _) ⟨[],tv,tA,tv,rfl,rfl,rfl⟩ ?_;rintro k hk;conv=>whnf
  refine AS (fun h2=>?_) (fun h2=>?_) <;> conv=>whnf
  ·have hs:=Ke (l:=b) (k:=k) (by omega) (by omega);refine⟨by omega,?_⟩;conv=>whnf
   refine Ai (by rw [IntWalk.i64_in _ (by omega)];omega) ?_;refine⟨k+1,by omega,by omega, [],tv,⟨rfl,rfl,?_,rfl,rfl,AT (by omega),tv⟩,tv,rfl,rfl,rfl⟩;rw [Ac];exact congrArg (fun x=>AV.v (.int .i64 x)) hs
  ·have hk2:k=1:=by omega
   subst hk2;refine⟨by omega,?_⟩;conv=>whnf
   refine zV [bA (b.drop 1)] ⟨DD (by omega),tv⟩ ?_;refine zY (BS (b.drop 1) (by rw [Al];omega)) ?_;exact⟨_,ri,rfl⟩
 ·refine zT Tryz.func311 rfl ?_;conv=>whnf
  refine AS (fun h=>?_) (fun h=>?_) <;> conv=>whnf
  ·exfalso;omega
  refine⟨by omega,?_⟩;conv=>whnf
  refine zP Nat (fun k=>([(0,bA b),(1,iv 2),(4,iv (leN (b.take k):Nat)),(27, .sl 1 2 fun i=> [.v (.int .u8 (b.getD i 0).toNat)]),(28,iv 2),(29,iv k)], [])) (fun k=>k<=2) (fun k=>2 - k) 0 (Aj _) ⟨[],tv,tA,tv,rfl,rfl,rfl⟩ ?_;rintro k hk;conv=>whnf
  refine AS (fun h2=>?_) (fun h2=>?_) <;> conv=>whnf
  ·have hs:=Ke (l:=b) (k:=k) (by omega) (by omega);refine⟨by omega,?_⟩;conv=>whnf
   refine Ai (by rw [IntWalk.i64_in _ (by omega)];omega) ?_;refine⟨k+1,by omega,by omega, [],tv,⟨rfl,rfl,?_,rfl,rfl,AT (by omega),tv⟩,tv,rfl,rfl,rfl⟩;rw [Ac];exact congrArg (fun x=>AV.v (.int .i64 x)) hs
  ·have hk2:k=2:=by omega
   subst hk2;refine⟨by omega,?_⟩;conv=>whnf
   refine zV [bA (b.drop 2)] ⟨DD (by omega),tv⟩ ?_;refine zY (BS (b.drop 2) (by rw [Al];omega)) ?_;exact⟨_,ri,rfl⟩
 ·refine zT Tryz.func311 rfl ?_;conv=>whnf
  refine AS (fun h=>?_) (fun h=>?_) <;> conv=>whnf
  ·exfalso;omega
  refine⟨by omega,?_⟩;conv=>whnf
  refine zP Nat (fun k=>([(0,bA b),(1,iv 4),(4,iv (leN (b.take k):Nat)),(27, .sl 1 4 fun i=> [.v (.int .u8 (b.getD i 0).toNat)]),(28,iv 4),(29,iv k)], [])) (fun k=>k<=4) (fun k=>4 - k) 0 (Aj _) ⟨[],tv,tA,tv,rfl,rfl,rfl⟩ ?_;rintro k hk;conv=>whnf
  refine AS (fun h2=>?_) (fun h2=>?_) <;> conv=>whnf
  ·have hs:=Ke (l:=b) (k:=k) (by omega) (by omega);refine⟨by omega,?_⟩;conv=>whnf
   refine Ai (by rw [IntWalk.i64_in _ (by omega)];omega) ?_;refine⟨k+1,by omega,by omega, [],tv,⟨rfl,rfl,?_,rfl,rfl,AT (by omega),tv⟩,tv,rfl,rfl,rfl⟩;rw [Ac];exact congrArg (fun x=>AV.v (.int .i64 x)) hs
  ·have hk2:k=4:=by omega
   subst hk2;refine⟨by omega,?_⟩;conv=>whnf
   refine zV [bA (b.drop 4)] ⟨DD (by omega),tv⟩ ?_;refine zY (BS (b.drop 4) (by rw [Al];omega)) ?_;exact⟨_,ri,rfl⟩
theorem Xl {e:Int} (c:Ctx) (v:Value) (h:Rd (.tp [iv 0, .v (.slice none 0 0),iv e]) c v):Rd (.tp [iv 0,bA [],iv e]) c v:=by
 simp only [Rd,RdL] at h |-
 obtain⟨xs,rfl,x,xs,rfl,hx,y,ys,rfl,rfl,h⟩:=h;exact⟨_,rfl,_,_,rfl,hx,_,_,rfl,Bv 1 (fun i=> [.v (.int .u8 (([]:List UInt8).getD i 0).toNat)]) c (.slice none 0 0) (by simp [Rd]),h⟩
theorem YS (b:List UInt8) (m:Int) (hs:Ee m) (hm:b.length<m):Fn Tryz.prog 311 [bA b,iv m] fun r=>r = .tp [iv 0,bA [],iv 4]:=by
 rcases hs with rfl | rfl | rfl
 all_goals
  refine zT Tryz.func311 rfl ?_;conv=>whnf
  refine AS (fun h=>?_) (fun h=>?_) <;> conv=>whnf
  ·exact⟨_,Xl,rfl⟩
  ·exfalso;omega
theorem EJ (b:List UInt8) (ss:List Int) (hss:∀ s∈ss,Ee s) (hl:b.length<=1000000) (hn:ss.length<=1000) (ht:tot ss<=b.length) :
  ACalls Tryz.prog false 235 [bA b,iA ss] [] fun r H=>r = .tp [.ow 0 ss.length,bA (b.drop (tot ss)),iv 0]/\H=[.row 3 1 ((nums ss b).map TB)]:=by
 refine zJ tys_ok Tryz.func235 rfl rfl (Ae rfl) ?_;conv=>whnf
 refine zY (BS b (by omega)) ?_;conv=>whnf
 refine zt Nat (fun k=>([(4, .ow 0 k),(5,bA (b.drop (tot (ss.take k)))),(14,iA ss),(15,iv ss.length),(16,iv k)], [.row 3 1 ((nums (ss.take k) b).map TB)])) (fun k=>k<=ss.length) (fun k=>ss.length - k) 0 (Aj _) (zL ⟨[(4,3,1)],tA,tA,tA,rfl,rfl,rfl⟩) ?_;rintro k hk;conv=>whnf
 refine AS (fun h2=>?_) (fun h2=>?_) <;> (repeat rw [Ac] at h2) <;> conv=>whnf
 ·have hk':k<ss.length:=by omega
  have h5:=tot_step ss k hk';have h6:=tot_take_le ss (k+1);have h7:=nums_step ss b k hk';have h8:Ee ss[k]:=hss _ (Cu hk');have h9:ss.getD k 0=ss[k]:=by rw [Ab,Af hk'];try rfl
  have h10:ss[k]=(ss[k].toNat:Int):=by rcases h8 with h | h | h <;> rw [h] <;> rfl
  have hg:=Ou (b.drop (tot (ss.take k))) ss[k] h8 (by rw [Al];omega) (by rw [Al];omega);refine⟨by omega,?_⟩;conv=>whnf
  rw [Ac,h9];refine zY hg ?_;conv=>whnf
  have h11:(nums (ss.take k) b).length=k:=by rw [nums_len,Aq];omega
  refine⟨rfl,?_⟩;conv=>whnf
  refine Ai ⟨by rw [Aa];exact h11.symm,by omega⟩ ?_;refine⟨k+1,by omega,by omega,zL ⟨[],tv,⟨rfl,?_,rfl,rfl,AT (by omega),tv⟩,⟨?_,tv⟩,rfl,rfl,rfl⟩⟩
  ·rw [h5,<-AZ];try rfl
  ·rw [h7,A0];try rfl
 ·have hk2:k=ss.length:=by omega
  subst hk2;rw [A6];exact⟨.tp [.ow 0 ss.length,bA (b.drop (tot ss)),iv 0],_, [.row 3 1 ((nums ss b).map TB)],fun _ _ h=>h,zL ⟨[],tv,tA,tA,rfl,rfl,rfl⟩,rfl,rfl⟩
theorem He (b:List UInt8) (ss:List Int) (hss:∀ s∈ss,Ee s) (hl:b.length<=1000000) (hn:ss.length<=1000) (ht:b.length<tot ss) :
  Fn Tryz.prog 235 [bA b,iA ss] fun r=>r = .tp [.v (.slice none 0 0), .v (.slice none 0 0),iv 4]:=by
 refine zT Tryz.func235 rfl ?_;conv=>whnf
 refine zY (BS b (by omega)) ?_;conv=>whnf
 refine zt Nat (fun k=>([(4, .ow 0 k),(5,bA (b.drop (tot (ss.take k)))),(14,iA ss),(15,iv ss.length),(16,iv k)], [.row 3 1 ((nums (ss.take k) b).map TB)])) (fun k=>k<=ss.length/\tot (ss.take k)<=b.length) (fun k=>ss.length - k) 0 ⟨Aj _,by simp [tot]⟩ (zL ⟨[(4,3,1)],tA,tA,tA,rfl,rfl,rfl⟩) ?_;rintro k ⟨hk,hkt⟩;conv=>whnf
 refine AS (fun h2=>?_) (fun h2=>?_) <;> (repeat rw [Ac] at h2) <;> conv=>whnf
 ·have hk':k<ss.length:=by omega
  have h5:=tot_step ss k hk';have h7:=nums_step ss b k hk';have h8:Ee ss[k]:=hss _ (Cu hk');have h9:ss.getD k 0=ss[k]:=by rw [Ab,Af hk'];try rfl
  have h10:ss[k]=(ss[k].toNat:Int):=by rcases h8 with h | h | h <;> rw [h] <;> rfl
  by_cases hlt:tot (ss.take (k+1))<=b.length
  ·have hg:=Ou (b.drop (tot (ss.take k))) ss[k] h8 (by rw [Al];omega) (by rw [Al];omega);refine⟨by omega,?_⟩;conv=>whnf
   rw [Ac,h9];refine zY hg ?_;conv=>whnf
   have h11:(nums (ss.take k) b).length=k:=by rw [nums_len,Aq];omega
   refine⟨rfl,?_⟩;conv=>whnf
   refine Ai ⟨by rw [Aa];exact h11.symm,by omega⟩ ?_;refine⟨k+1,⟨by omega,hlt⟩,by omega,zL ⟨[],tv,⟨rfl,?_,rfl,rfl,AT (by omega),tv⟩,⟨?_,tv⟩,rfl,rfl,rfl⟩⟩
   ·rw [h5,<-AZ];try rfl
   ·rw [h7,A0];try rfl
  ·have hg:=YS (b.drop (tot (ss.take k))) ss[k] h8 (by rw [Al];omega);refine⟨by omega,?_⟩;conv=>whnf
   rw [Ac,h9];refine zY hg ?_;exact⟨_,ri,rfl⟩
 ·have hk2:k=ss.length:=by omega
  subst hk2;rw [A6] at hkt;omega
theorem XI {b:List UInt8} {n m k:Nat} (hn:n=k) (hk:m+k<=b.length) (c:Ctx) (u:Value) (h:Rd (.sl 1 n fun i=> [.v (.int .u8 (b.getD (i+m) 0).toNat)]) c u):Rd (bA ((b.drop m).take k)) c u:=
 z7 (by rw [Aq,Al];omega) (fun i hi=>by rw [Ab,Ab,Cm (by omega),Cq,CA]) h
theorem I9 (b:List UInt8) (hl:b.length<=1000000) (hp:Fz b=true):Fn Tryz.prog 372 [bA b] fun r=>r = .tp [bA ((b.drop 1).take (CL b)),bA (b.drop (1+CL b)),iv 0]:=by
 simp only [Fz,decide_eq_true_eq] at hp;have h0:(b.getD 0 0).toNat=CL b:=by cases b <;> rfl
 have hlt:=(b.getD 0 0).toNat_lt;have e1:IntKind.i64.wrap ((b.getD 0 0).toNat:Int)=(CL b:Int):=by rw [IntWalk.i64_in _ (by omega),h0]
 have e2:IntKind.i64.wrap (1+(CL b:Int))=((1+CL b:Nat):Int):=by rw [IntWalk.i64_in _ (by omega)];omega
 refine zT Tryz.func372 rfl ?_;conv=>whnf
 refine AS (fun h=>?_) (fun h=>?_) <;> conv=>whnf
 ·exfalso;omega
 refine⟨by omega,?_⟩;conv=>whnf
 rw [show Int.toNat 0=0 from rfl,e1,e2];refine AS (fun h2=>?_) (fun h2=>?_) <;> conv=>whnf
 ·exfalso;omega
 refine⟨by omega,?_⟩;conv=>whnf
 rw [show Int.toNat 0=0 from rfl,e1,e2];apply zI tys_ok mixed (.o [0,1,2,4,5,6,3,7,8,9,10] .fin) [2,3,4,24,25,26,27,28,29,30,31] (by kernel_rfl)
 ·conv=>whnf
  try (refine Ai (by first | omega | exact ixA | exact ixB | (simp;done)) ?_;conv=>whnf)
  try (refine Ai (by first | omega | exact ixA | exact ixB | (simp;done)) ?_;conv=>whnf)
  (refine zV [bA ((b.drop 1).take (CL b))] ⟨XI (by omega) (by omega),tv⟩ ?_;refine zY (BS _ (by rw [Aq];omega)) ?_)
  conv=>whnf
  (refine zV [bA (b.drop (1+CL b))] ⟨DD (by omega),tv⟩ ?_;refine zY (BS _ (by rw [Al];omega)) ?_)
  exact tA
 exact⟨_,ri,rfl⟩
theorem MQ (b:List UInt8) (hp:Fz b=false):Fn Tryz.prog 372 [bA b] fun r=>r = .tp [.v (.slice none 0 0), .v (.slice none 0 0),iv 4]:=by
 simp only [Fz,decide_eq_false_iff_not] at hp;have h0:(b.getD 0 0).toNat=CL b:=by cases b <;> rfl
 have hlt:=(b.getD 0 0).toNat_lt;have e1:IntKind.i64.wrap ((b.getD 0 0).toNat:Int)=(CL b:Int):=by rw [IntWalk.i64_in _ (by omega),h0]
 have e2:IntKind.i64.wrap (1+(CL b:Int))=((1+CL b:Nat):Int):=by rw [IntWalk.i64_in _ (by omega)];omega
 refine zT Tryz.func372 rfl ?_;conv=>whnf
 refine AS (fun h=>?_) (fun h=>?_) <;> conv=>whnf
 ·exact⟨_,ri,rfl⟩
 refine⟨by omega,?_⟩;conv=>whnf
 rw [show Int.toNat 0=0 from rfl,e1,e2];refine AS (fun h2=>?_) (fun h2=>?_) <;> conv=>whnf
 ·exact⟨_,ri,rfl⟩
 ·exfalso;omega
theorem J8 (a b:List UInt8):Fn Tryz.prog 236 [bA a,bA b] fun r=>r = .v (.bool (decide (a=b))):=by
 refine⟨⟨_,Tryz.func236,rfl,by decide⟩,fun c0 us hd hM _ hr=>?_⟩;obtain⟨u1,u2,rfl,h1,h2⟩:=Zt hr;refine(TU u1 u2 a b c0.w c0.M c0.M (HW h1) (HW h2)).mono ?_;rintro e w' ⟨rfl,rfl⟩;exact⟨_,_,rfl,rfl,Below.refl _ _,NT _⟩
end
section
open Go.Lib
def Wl (r:Nat):Bool:=decide (r<32) || decide (r=127)
theorem Im {l:List UInt8} (h:¬l=[]):(l.drop (decodeL l).2).length<l.length:=by
 have:=decodeL_width l;have:=List.length_pos_iff.2 h;rw [Al];omega
def W7 (l:List UInt8):Bool:=if _h:l=[] then true else !Wl (decodeL l).1&&W7 (l.drop (decodeL l).2)
termination_by l.length
decreasing_by exact Im _h
def Fx (l:List UInt8):Nat:=if _h:l=[] then 0 else 1+Fx (l.drop (decodeL l).2)
termination_by l.length
decreasing_by exact Im _h
def Ev (l:List UInt8):Int:=if !(W7 l&&validD l) then 3 else if 6<Fx l then 2 else 0
theorem okW_nil:W7 []=true:=by rw [W7];simp
theorem runesW_nil:Fx []=0:=by rw [Fx];simp
theorem UN (l:List UInt8) (h:¬l=[]):W7 l=(!Wl (decodeL l).1&&W7 (l.drop (decodeL l).2)):=by rw [W7,dif_neg h]
theorem Kz (l:List UInt8) (h:¬l=[]):Fx l=1+Fx (l.drop (decodeL l).2):=by rw [Fx,dif_neg h]
theorem Gy (s:ByteArray):s.data.toList.length=s.size:=rfl
theorem H9 (s:ByteArray) (p:Nat):Utf8.decode s p=decodeL (s.data.toList.drop p):=by
 rw [decode_N,decodeL_N,Al];simp only [Ab,Cq,Ca]
end
section
open Go.RowKit

theorem UC (s:ByteArray) (hv:Fn Tryz.prog 323 [.v (.string s)] fun r=>r = .v (.bool (Lib.validD s.data.toList))):Fn Tryz.prog 258 [.v (.string s)] fun r=>r = .v (.bool (W7 s.data.toList&&Lib.validD s.data.toList)):=by
 refine zT Tryz.func258 rfl ?_;conv=>whnf
 refine zP Nat (fun p=>([(0, .v (.string s)),(6, .bp 0 0)], [.iter s p])) (fun p=>W7 s.data.toList=W7 (s.data.toList.drop p)) (fun p=>s.size - p) 0 rfl ⟨[],tv,tA,tA,rfl,rfl,rfl⟩ ?_;intro p hI;conv=>whnf
 have hd:=H9 s p;refine Ak (fun hp=>?_) (fun hp=>?_) <;> simp only [decide_eq_true_eq,decide_eq_false_iff_not] at hp <;> conv=>whnf
 ·have hne:¬s.data.toList.drop p=[]:=by
   intro e;have:=congrArg List.length e;rw [Al,Gy] at this;simp at this;omega
  have hstep:=UN _ hne;rw [<-hd] at hstep;have hw:1<=(Utf8.decode s p).2:=by rw [hd];exact Lib.decodeL_width _
  refine Ak (fun h1=>?_) (fun h1=>?_) <;> simp at h1 <;> conv=>whnf
  ·have h1':(Utf8.decode s p).1<32:=by omega
   exact⟨_,ri,by rw [hI,hstep];simp [Wl,h1']⟩
  refine Ak (fun h2=>?_) (fun h2=>?_) <;> simp at h2 <;> conv=>whnf
  ·exact⟨_,ri,by rw [hI,hstep];simp [Wl];omega⟩
  ·refine⟨p+(Utf8.decode s p).2,?_,by omega, [],tv,tA,tA,rfl,rfl,rfl⟩;rw [hI,hstep,AZ];simp [Wl];omega
 ·have hnil:s.data.toList.drop p=[]:=A9 (by rw [Gy];omega);refine zY hv ?_;conv=>whnf
  exact⟨_,ri,by rw [hI,hnil,okW_nil];try rfl⟩
theorem U9 (s:ByteArray) (hs:s.size<=1000000):Fn Tryz.prog 259 [.v (.string s)] fun r=>r = iv (Fx s.data.toList):=by
 refine zT Tryz.func259 rfl ?_;conv=>whnf
 refine zP (Nat × Nat) (fun q=>([(3,iv q.2),(5, .bp 0 0)], [.iter s q.1])) (fun q=>Fx s.data.toList=q.2+Fx (s.data.toList.drop q.1)/\q.2<=q.1/\q.2<=s.size) (fun q=>s.size - q.1) (0,0) ⟨by simp,Ag _,Aj _⟩ ⟨[],tv,tA,tA,rfl,rfl,rfl⟩ ?_;rintro⟨p,n⟩ ⟨hI,hn,hn2⟩;conv=>whnf
 have hd:=H9 s p;refine Ak (fun hp=>?_) (fun hp=>?_) <;> simp only [decide_eq_true_eq,decide_eq_false_iff_not] at hp <;> conv=>whnf
 ·have hne:¬s.data.toList.drop p=[]:=by
   intro e;have:=congrArg List.length e;rw [Al,Gy] at this;simp at this;omega
  have hstep:=Kz _ hne;rw [<-hd] at hstep;have hw:1<=(Utf8.decode s p).2:=by rw [hd];exact Lib.decodeL_width _
  refine⟨(p+(Utf8.decode s p).2,n+1),⟨?_,?_,?_⟩,?_, [],tv,⟨AT ?_,rfl,tv⟩,tA,rfl,rfl,rfl⟩
  ·simp only at hI |-
   rw [hI,hstep,AZ];omega
  ·simp only at hn |-;omega
  ·simp only at hn |-;omega
  ·simp only;omega
  ·simp only at hn2;omega
 ·have hnil:s.data.toList.drop p=[]:=A9 (by rw [Gy];omega);exact⟨_,ri,by simp only at hI;rw [hI,hnil,runesW_nil];try rfl⟩
theorem T0 (s:ByteArray) (hs:s.size<=1000000) (hv:Fn Tryz.prog 323 [.v (.string s)] fun r=>r = .v (.bool (Lib.validD s.data.toList))):Fn Tryz.prog 181 [.v (.string s)] fun r=>r = iv (Ev s.data.toList):=by
 refine zT Tryz.func181 rfl ?_;conv=>whnf
 refine zY (UC s hv) ?_;conv=>whnf
 refine Ak (fun h=>?_) (fun h=>?_) <;> conv=>whnf
 ·exact⟨_,ri,by simp only [Ev,h,if_true]⟩
 refine zY (U9 s hs) ?_;conv=>whnf
 refine Ak (fun h2=>?_) (fun h2=>?_) <;> simp at h2 <;> conv=>whnf
 ·exact⟨_,ri,by simp only [Ev,h];rw [if_neg (by simp),if_pos (by omega)]⟩
 ·exact⟨_,ri,by simp only [Ev,h];rw [if_neg (by simp),if_neg (by omega)]⟩
end
end Go.Proofs.YtpjkcgacjjbikaaGreatDoor.A
section
namespace Go.Proofs
open Go.RowKit Go.Shelf Go.Lib

def Tryz.laysValid_ren:Go.Shelf.Ren:=⟨fun | 196=>323 | 259=>374 | n=>n,fun | 9=>9 | 4=>4 | 3=>3 | 5=>5 | 12=>12 | 119=>481 | 0=>0 | 46=>41 | 139=>484 | 138=>483 | 53=>433 | n=>n,fun | 3=>0 | 4=>1 | n=>n⟩
theorem Tryz.laysValid:Go.Proofs.Lays.n196 Tryz.prog Tryz.laysValid_ren where
 mixed:=by kernel_rfl
 f196:=Tryz.func323.trans (congrArg some (by kernel_rfl))
 f259:=Tryz.func374.trans (congrArg some (by kernel_rfl))
 t0:=Tryz.underlying0
 a0:=Tryz.isAgg0
 z0:=Tryz.sizeOf0
 v0:=Tryz.zeroValue0
 t3:=Tryz.underlying3
 a3:=Tryz.isAgg3
 z3:=Tryz.sizeOf3
 v3:=Tryz.zeroValue3
 t4:=Tryz.underlying4
 a4:=Tryz.isAgg4
 z4:=Tryz.sizeOf4
 v4:=Tryz.zeroValue4
 t5:=Tryz.underlying5
 a5:=Tryz.isAgg5
 z5:=Tryz.sizeOf5
 v5:=Tryz.zeroValue5
 t9:=Tryz.underlying9
 a9:=Tryz.isAgg9
 z9:=Tryz.sizeOf9
 v9:=Tryz.zeroValue9
 t12:=Tryz.underlying12
 a12:=Tryz.isAgg12
 z12:=Tryz.sizeOf12
 v12:=Tryz.zeroValue12
 t46:=Tryz.underlying41
 a46:=Tryz.isAgg41
 z46:=Tryz.sizeOf41
 v46:=Tryz.zeroValue41
 t53:=Tryz.underlying433
 a53:=Tryz.isAgg433
 z53:=Tryz.sizeOf433
 v53:=Tryz.zeroValue433
 t119:=Tryz.underlying481
 a119:=Tryz.isAgg481
 z119:=Tryz.sizeOf481
 t138:=Tryz.underlying483
 a138:=Tryz.isAgg483
 z138:=Tryz.sizeOf483
 v138:=Tryz.zeroValue483
 t139:=Tryz.underlying484
 a139:=Tryz.isAgg484
 z139:=Tryz.sizeOf484
 v139:=Tryz.zeroValue484
 g3:=by kernel_rfl
 g4:=by kernel_rfl
end Go.Proofs
namespace Go.Proofs.YtpjkcgacjjbikaaGreatDoor.A
open Go.RowKit

theorem Uq (s:ByteArray) (hs:s.size<=1000000):Fn Tryz.prog 323 [.v (.string s)] fun r=>r = .v (.bool (Lib.validD s.data.toList)):=by
 refine⟨⟨_,Tryz.func323,rfl,by decide⟩,fun c0 us hd hM hg hr=>?_⟩;simp only [RdL,Rd] at hr;obtain⟨u,l,rfl,rfl,rfl⟩:=hr;have hT:Lib.Utf8Tabs (Tryz.laysValid_ren.g 3) (Tryz.laysValid_ren.g 4) c0.w:=hg;refine Calls.mono (show Calls Tryz.prog 323 #[.string s] c0.w _ from Any.utf8_ValidString Tryz.laysValid s c0.w (by omega) hT) ?_;rintro e w' ⟨rfl,hb⟩;exact⟨_,_,rfl,rfl,hb,by simp [Rd]⟩
theorem GD (s:ByteArray) (hs:s.size<=1000000):Fn Tryz.prog 181 [.v (.string s)] fun r=>r = iv (Ev s.data.toList):=T0 s hs (Uq s hs)
end Go.Proofs.YtpjkcgacjjbikaaGreatDoor.A
end
namespace Go.Proofs.YtpjkcgacjjbikaaGreatDoor.A
section
open Go.RowKit
def lb (k:Nat):Int:=if k=2 then 128 else if k=3 then 2048 else if k=4 then 65536 else 0

theorem OA (n lo hi:Int):Fn Tryz.prog 301 [iv n,iv lo,iv hi] fun r=>r = .v (.bool (Dv n lo hi)):=by
 refine zT Tryz.func301 rfl ?_;conv=>whnf
 repeat' (first | (refine Ak (fun h=>?_) (fun h=>?_) <;> (try simp at h) <;> conv=>whnf) | (refine zH tys_ok mixed (by kernel_rfl) ?_;conv=>whnf) | (refine zZ ?_;conv=>whnf) | (refine Ai (by omega) ?_;conv=>whnf))
 all_goals exact⟨_,ri,by simp [Dv, *] <;> omega⟩
theorem Xi (n:Int):Fn Tryz.prog 368 [iv n] fun r=>r = .v (.bool (!Dv n 0 4294967295)):=by
 refine zT Tryz.func368 rfl ?_;conv=>whnf
 refine zY (OA n 0 4294967295) ?_;exact⟨_,ri,rfl⟩
theorem Vt (l:List Int) (hl:l.length<=1000000):Fn Tryz.prog 152 [iA l, .v (.func (.func 368) #[] #[])] fun r=>∃ n:Int,r = iv n/\decide (0<=n)=l.any (fun x=>!Dv x 0 4294967295):=by
 refine zT Tryz.func152 rfl ?_;conv=>whnf
 refine zP Nat (fun k=>([(0,iA l),(1, .v (.func (.func 368) #[] #[])),(7,iv l.length),(8,iv k)], [])) (fun k=>k<=l.length/\(l.take k).any (fun x=>!Dv x 0 4294967295)=false) (fun k=>l.length - k) 0 ⟨Aj _,by simp⟩ ⟨[],tv,tA,tv,rfl,rfl,rfl⟩ ?_;rintro k ⟨hk,hI⟩;conv=>whnf
 refine Ak (fun h2=>?_) (fun h2=>?_) <;> simp at h2 <;> conv=>whnf
 ·refine⟨by first | omega | (refine⟨rfl,?_,?_⟩ <;> first | omega | (simp only [Aa];done) | (simp only [Aa];omega)) | (simp only [Aa];omega),?_⟩;conv=>whnf
  refine zY (Xi (l.getD k 0)) ?_;conv=>whnf
  refine Ak (fun h3=>?_) (fun h3=>?_) <;> conv=>whnf
  ·exact⟨_,ri,_,rfl,by
    rw [CT.2 ⟨l.getD k 0,AC h2,h3⟩,decide_eq_true];omega⟩
  ·refine⟨k+1,⟨by omega,?_⟩,by omega, [],tv,⟨rfl,rfl,rfl,AT (by omega),tv⟩,tv,rfl,rfl,rfl⟩;rw [AM h2,List.any_append,hI];rw [Ab,Af h2] at h3;simpa using h3
 ·exact⟨_,ri,_,rfl,by rw [At h2] at hI;rw [hI];try rfl⟩
theorem Od (l:List Int) (hl:l.length<=1000000):Fn Tryz.prog 300 [iA l] fun r=>r = .v (.bool (l.all fun x=>Dv x 0 4294967295)):=by
 have hc:Fn Tryz.prog 284 [iA l, .v (.func (.func 368) #[] #[])] fun r=>r = .v (.bool (l.any fun x=>!Dv x 0 4294967295)):=by
  refine zT Tryz.func284 rfl ?_;conv=>whnf
  refine zx (Vt l hl) rfl ?_;rintro _ ⟨n,rfl,hn⟩;exact⟨_,ri,by rw [<-hn]⟩
 refine zT Tryz.func300 rfl ?_;conv=>whnf
 refine zY hc ?_;exact⟨_,ri,by rw [Bx]⟩
theorem TK (g:Geo) (hg:Bq g=true):Fn Tryz.prog 108 [.ag (Bm g)] fun r=>r = iv (g.d+1+g.sp):=by
 obtain⟨h1,h2,h3,h4,h5⟩:=A2.1 hg;refine zT Tryz.func108 rfl ?_;exact⟨_,ri,by rw [wi (n:=g.d+1) (by omega),wi (by omega)]⟩
theorem PL (l:List Int) (p:Int) (hl:l.length<=1000000):Fn Tryz.prog 80 [iA l,iv p] fun r=>r = .v (.bool (l.any fun x=>p == x)):=by
 have hx:Fn Tryz.prog 153 [iA l,iv p] fun r=>∃ n:Int,r = iv n/\decide (0<=n)=l.any (fun x=>p == x):=by
  refine zT Tryz.func153 rfl ?_;conv=>whnf
  refine zP Nat (fun k=>([(0,iA l),(1,iv p),(7,iv l.length),(8,iv k)], [])) (fun k=>k<=l.length/\(l.take k).any (fun x=>p == x)=false) (fun k=>l.length - k) 0 ⟨Aj _,by simp⟩ ⟨[],tv,tA,tv,rfl,rfl,rfl⟩ ?_;rintro k ⟨hk,hI⟩;conv=>whnf
  refine Ak (fun h2=>?_) (fun h2=>?_) <;> simp at h2 <;> conv=>whnf
  ·refine⟨by first | omega | (refine⟨rfl,?_,?_⟩ <;> first | omega | (simp only [Aa];done) | (simp only [Aa];omega)) | (simp only [Aa];omega),?_⟩;conv=>whnf
   refine Ak (fun h3=>?_) (fun h3=>?_) <;> conv=>whnf
   ·exact⟨_,ri,_,rfl,by
     rw [CT.2 ⟨l.getD k 0,AC h2,h3⟩,decide_eq_true];omega⟩
   ·refine⟨k+1,⟨by omega,?_⟩,by omega, [],tv,⟨rfl,rfl,rfl,AT (by omega),tv⟩,tv,rfl,rfl,rfl⟩;rw [AM h2,List.any_append,hI];have h3:(p == l.getD k 0)=false:=h3;rw [Ab,Af h2] at h3;simpa using h3
  ·exact⟨_,ri,_,rfl,by rw [At h2] at hI;rw [hI];try rfl⟩
 refine zT Tryz.func80 rfl ?_;conv=>whnf
 refine zx hx rfl ?_;rintro _ ⟨n,rfl,hn⟩;exact⟨_,ri,by rw [<-hn]⟩
def Tm (l:List Int) (n:Int):Bool:=(List.range l.length).all fun i=>Dv (l.getD i 0) 0 (n - 1)&&!(l.take i).any fun x=>l.getD i 0 == x
def EP (g:Geo) (h:Hm):Bool:=decide ((h.places.length:Int)=g.d+1)&&(Dv h.next (g.d+1) (g.d+1+g.sp)&&(Dv h.root 0 4294967295&&Tm h.places h.next))
theorem Sf {l:List Int} {n:Int} {k:Nat} (hk:k<l.length) (h:(Dv (l.getD k 0) 0 (n - 1)&&!(l.take k).any fun x=>l.getD k 0 == x)=false):Tm l n=false:=by
 unfold Tm;rw [List.all_eq_false];exact⟨k,by simpa using hk,by rw [h];simp⟩
theorem X9 (g:Geo) (h:Hm) (hg:Bq g=true):Fn Tryz.prog 304 [.ag (Bm g), .ag (M8 h)] fun r=>r = .v (.bool (EP g h)):=by
 obtain⟨h1,h2,h3,h4,h5⟩:=A2.1 hg;refine zT Tryz.func304 rfl ?_;conv=>whnf
 refine zw tys_ok mixed [0,1,2,3,4,5,6,7,8,9,10,11,12,13,14,15,16,17,18,19,20,21,22,23,24] (by kernel_rfl) ?_;conv=>whnf
 have w1:IntKind.i64.wrap (g.d+1)=g.d+1:=wi (by omega);refine Ak (fun t1=>?_) (fun t1=>?_) <;> simp only [w1,bne_iff_ne,ne_eq,bne_eq_false_iff_eq] at t1 <;> conv=>whnf
 ·exact⟨_,ri,by simp [EP,t1]⟩
 refine zY (TK g hg) ?_;conv=>whnf
 refine zY (OA _ _ _) ?_;conv=>whnf
 refine Ak (fun t2=>?_) (fun t2=>?_) <;> simp only [w1,Cf,Bool.not_eq_false'] at t2 <;> conv=>whnf
 ·exact⟨_,ri,by simp [EP,t2]⟩
 refine zS (Od [h.root] (by simp)).go ?_;refine⟨rfl,?_⟩;conv=>whnf
 refine zV [iA [h.root]] (Bi (l:= [h.root]) (es:= [[iv h.root]]) rfl) ?_;refine zY (Od [h.root] (by simp)) ?_;conv=>whnf
 refine Ak (fun t3=>?_) (fun t3=>?_) <;> simp only [AR,BA,B6,Cf,Bool.not_eq_false'] at t3 <;> conv=>whnf
 ·exact⟨_,ri,by simp [EP,t3]⟩
 refine zP Nat (fun k=>([(2, .bp 0 0),(3, .bp 1 0),(33,iA h.places),(34,iv h.places.length),(35,iv k)], [.box 24 (Bm g), .box 108 (M8 h)])) (fun k=>k<=h.places.length/\(List.range k).all (fun i=>Dv (h.places.getD i 0) 0 (h.next - 1)&&!(h.places.take i).any fun x=>h.places.getD i 0 == x)=true) (fun k=>h.places.length - k) 0 ⟨Aj _,by simp⟩ ⟨[],tv,tA,tA,rfl,rfl,rfl⟩ ?_;rintro k ⟨hk,hI⟩;conv=>whnf
 refine Ak (fun h6=>?_) (fun h6=>?_) <;> simp at h6 <;> conv=>whnf
 ·refine⟨by first | omega | (refine⟨rfl,?_,?_⟩ <;> first | omega | (simp only [Aa];done) | (simp only [Aa];omega)) | (simp only [Aa];omega),?_⟩;conv=>whnf
  refine zY (OA _ _ _) ?_;conv=>whnf
  have hnx:0<=h.next/\h.next<=100:=by
   have:=AK.1 t2;omega
  have w2:IntKind.i64.wrap (h.next - 1)=h.next - 1:=wi (by omega);refine Ak (fun t4=>?_) (fun t4=>?_) <;> simp only [w2,Ac,Cf,Bool.not_eq_false'] at t4 <;> conv=>whnf
  ·exact⟨_,ri,by rw [EP,Sf h6 (by rw [t4];try rfl)];simp⟩
  refine⟨⟨by omega,by omega,by omega,by omega⟩,?_⟩;conv=>whnf
  refine zV [iA (h.places.take k),iv (h.places.getD k 0)] ⟨fun c u hr=>z7 (by simp;omega) (fun i hi=>by simp at hi;simp [Cm hi]) hr,fun _ _ hr=>hr,tv⟩ ?_;refine zY (PL (h.places.take k) (h.places.getD k 0) (by simp;omega)) ?_;conv=>whnf
  refine Ak (fun t5=>?_) (fun t5=>?_) <;> conv=>whnf
  ·exact⟨_,ri,by rw [EP,Sf h6 (by rw [t5];simp)];simp⟩
  ·refine⟨k+1,⟨by omega,?_⟩,by omega, [],tv,⟨rfl,rfl,rfl,rfl,AT (by omega),tv⟩,tA,rfl,rfl,rfl⟩;rw [By,List.all_append,hI];have t5:((h.places.take k).any fun x=>h.places.getD k 0 == x)=false:=t5;simp only [AR,BA,t4,t5];rfl
 ·have e:k=h.places.length:=by omega
  rw [e] at hI;exact⟨_,ri,by rw [EP,t2,t3,decide_eq_true t1,Tm,hI];try rfl⟩
theorem Ua (g:Geo) (h:Hm) (hg:Bq g=true):Fn Tryz.prog 303 [.ag (M8 h), .rp (Bm g)] fun r=>r = .v (.bool (!EP g h)):=by
 refine zT Tryz.func303 rfl ?_;conv=>whnf
 refine zY (X9 g h hg) ?_;exact⟨_,ri,rfl⟩
theorem Ub (g:Geo) (l:List Hm) (hg:Bq g=true) (hl:l.length<=1000000):Fn Tryz.prog 302 [GW l, .fn 303 [.rp (Bm g)]] fun r=>r = .v (.bool (l.any fun h=>!EP g h)):=by
 have hx:Fn Tryz.prog 369 [GW l, .fn 303 [.rp (Bm g)]] fun r=>∃ n:Int,r = iv n/\decide (0<=n)=l.any (fun h=>!EP g h):=by
  refine zT Tryz.func369 rfl ?_;conv=>whnf
  refine zP Nat (fun k=>([(0,GW l),(1, .fn 303 [.rp (Bm g)]),(7,iv l.length),(8,iv k)], [])) (fun k=>k<=l.length/\(l.take k).any (fun h=>!EP g h)=false) (fun k=>l.length - k) 0 ⟨Aj _,by simp⟩ ⟨[],tv,tA,tv,rfl,rfl,rfl⟩ ?_;rintro k ⟨hk,hI⟩;conv=>whnf
  refine Ak (fun h2=>?_) (fun h2=>?_) <;> simp at h2 <;> conv=>whnf
  ·refine⟨by first | omega | (refine⟨rfl,?_,?_⟩ <;> first | omega | (simp only [Aa];done) | (simp only [Aa];omega)) | (simp only [Aa];omega),?_⟩;conv=>whnf
   refine zY (Ua g (l.getD k ⟨[],0,0⟩) hg) ?_;conv=>whnf
   refine Ak (fun h3=>?_) (fun h3=>?_) <;> conv=>whnf
   ·exact⟨_,ri,_,rfl,by
     rw [CT.2 ⟨l.getD k ⟨[],0,0⟩,AC h2,h3⟩,decide_eq_true];omega⟩
   ·refine⟨k+1,⟨by omega,?_⟩,by omega, [],tv,⟨rfl,rfl,rfl,AT (by omega),tv⟩,tv,rfl,rfl,rfl⟩;rw [AM h2,List.any_append,hI];rw [Ab,Af h2] at h3;simpa using h3
  ·exact⟨_,ri,_,rfl,by rw [At h2] at hI;rw [hI];try rfl⟩
 refine zT Tryz.func302 rfl ?_;conv=>whnf
 refine zx hx rfl ?_;rintro _ ⟨n,rfl,hn⟩;exact⟨_,ri,by rw [<-hn]⟩
def B7 (g:Geo) (a:An):Bool:=([a.gen,a.epoch,a.seq,a.last].all fun x=>Dv x 0 4294967295)&&(decide (1<=a.seq)&&(decide (a.seq - 1<=a.last)&&(Dv a.pos 0 (g.sl - 1)&&(decide (Ev a.label.data.toList=0)&&(decide ((a.homes.length:Int)=g.z)&&a.homes.all (EP g))))))
theorem Gu (g:Geo) (a:An) (hl:a.label.size<=1000000) (hh:a.homes.length<=1000000):Fn Tryz.prog 223 [.ag (Bm g), .ag (Fp a)] fun r=>r = .v (Ew (Bq g&&B7 g a)):=by
 have s1:Fn Tryz.prog 118 [.ag (Bm g)] fun r=>r = .v (Ew (Bq g)):=Ct g.z g.d g.sp g.sl g.an
 cases hg:Bq g with
 | false=>
  rw [hg] at s1;refine zT Tryz.func223 rfl ?_;conv=>whnf
  refine zZ ?_;conv=>whnf
  refine zZ ?_;conv=>whnf
  refine zY s1 ?_;exact⟨_,ri,rfl⟩
 | true=>
  rw [hg] at s1;obtain⟨h1,h2,h3,h4,h5⟩:=A2.1 hg;have w1:IntKind.i64.wrap (g.sl - 1)=g.sl - 1:=wi (by omega);refine zT Tryz.func223 rfl ?_;conv=>whnf
  refine zZ ?_;conv=>whnf
  refine zZ ?_;conv=>whnf
  refine zY s1 ?_;conv=>whnf
  refine zS (Od [a.gen,a.epoch,a.seq,a.last] (by simp)).go ?_;refine⟨rfl,?_⟩;conv=>whnf
  refine zV [iA [a.gen,a.epoch,a.seq,a.last]] (Bi (l:= [a.gen,a.epoch,a.seq,a.last]) (es:= [[iv a.gen], [iv a.epoch], [iv a.seq], [iv a.last]]) rfl) ?_;refine zY (Od [a.gen,a.epoch,a.seq,a.last] (by simp)) ?_;conv=>whnf
  refine Ak (fun t1=>?_) (fun t1=>?_) <;> simp only [Cf,Bool.not_eq_false'] at t1 <;> conv=>whnf
  ·exact⟨_,ri,by rw [B7,t1];try rfl⟩
  have hseq:0<=a.seq/\a.seq<=4294967295:=AK.1 (Av.1 t1 a.seq (by simp));have w2:IntKind.i64.wrap (a.seq - 1)=a.seq - 1:=wi (by omega);refine Ak (fun t2=>?_) (fun t2=>?_) <;> simp only [decide_eq_true_eq,decide_eq_false_iff_not] at t2 <;> conv=>whnf
  ·exact⟨_,ri,by rw [B7,decide_eq_false (show ¬1<=a.seq by omega)];simp [Ew]⟩
  refine Ak (fun t3=>?_) (fun t3=>?_) <;> simp only [w2,decide_eq_true_eq,decide_eq_false_iff_not] at t3 <;> conv=>whnf
  ·exact⟨_,ri,by rw [B7,decide_eq_false (show ¬a.seq - 1<=a.last by omega)];simp [Ew]⟩
  refine zY (OA _ _ _) ?_;conv=>whnf
  refine Ak (fun t4=>?_) (fun t4=>?_) <;> simp only [w1,Cf,Bool.not_eq_false'] at t4 <;> conv=>whnf
  ·exact⟨_,ri,by rw [B7,t4];simp [Ew]⟩
  refine zY (GD a.label hl) ?_;conv=>whnf
  refine Ak (fun t5=>?_) (fun t5=>?_) <;> simp only [bne_iff_ne,ne_eq,bne_eq_false_iff_eq] at t5 <;> conv=>whnf
  ·exact⟨_,ri,by rw [B7,decide_eq_false t5];simp [Ew]⟩
  refine Ak (fun t6=>?_) (fun t6=>?_) <;> simp only [bne_iff_ne,ne_eq,bne_eq_false_iff_eq] at t6 <;> conv=>whnf
  ·exact⟨_,ri,by rw [B7,decide_eq_false t6];simp [Ew]⟩
  refine zY (Ub g a.homes hg hh) ?_;conv=>whnf
  have hA:B7 g a=a.homes.all (EP g):=by
   rw [B7,t1,t4,decide_eq_true (show 1<=a.seq by omega),decide_eq_true (show a.seq - 1<=a.last by omega),decide_eq_true t5,decide_eq_true t6];simp
  rw [Bx] at hA;refine Ak (fun t7=>?_) (fun t7=>?_) <;> conv=>whnf
  ·exact⟨_,ri,by rw [hA,t7];try rfl⟩
  ·exact⟨_,ri,by rw [hA,t7];try rfl⟩

end
end Go.Proofs.YtpjkcgacjjbikaaGreatDoor.A
namespace Go.Proofs.YtpjkcgacjjbikaaGreatDoor
section
open Go.RowKit
def DU (b:List UInt8):Int:=
 if b.length<11\/107<b.length then 4
 else if leN (b.drop (b.length - 4))≠DG (b.take (b.length - 4)) then 5
 else if Fz b=true/\CL b=b.length - 11 then 0 else 4
def B_ (b:List UInt8):Int:=(leN ((b.drop (b.length - 10)).take 2):Nat)
def Cr (b:List UInt8):Int:=(leN ((b.drop (b.length - 8)).take 4):Nat)
def Cx (b:List UInt8):List UInt8:=(b.drop 1).take (b.length - 11)
end
end Go.Proofs.YtpjkcgacjjbikaaGreatDoor
namespace Go.Proofs.YtpjkcgacjjbikaaGreatDoor.A
section
open Go.RowKit
def Fo (r:Rc) (a:An) (seq at_ of_ left:Int):Bool:=decide (r.kind≠0/\r.seq=seq/\r.at_=at_/\(of_=0->r.of_<=left)/\(of_≠0->r.of_=of_)/\(r.epoch=a.epoch\/seq<=a.last/\r.epoch<=a.epoch))
theorem Yh (r:Rc) (a:An) (seq at_ of_ left:Int):Fn Tryz.prog 394 [.ag (Hq r), .ag (Fp a),iv seq,iv at_,iv of_,iv left] fun x=>x = .v (.bool (Fo r a seq at_ of_ left)):=by
 by_cases h1:(r.kind≠0/\r.seq=seq/\r.at_=at_/\(of_=0->r.of_<=left)/\(of_≠0->r.of_=of_)/\(r.epoch=a.epoch\/seq<=a.last/\r.epoch<=a.epoch))
 ·have e:Fo r a seq at_ of_ left=true:=decide_eq_true h1;rw [e];refine zT Tryz.func394 rfl ?_;conv=>whnf
  repeat' (refine Ak (fun h=>?_) (fun h=>?_) <;> simp at h <;> conv=>whnf)
  all_goals first | (exfalso;omega) | exact⟨_,ri,rfl⟩ | exact⟨_,ri,by simp;omega⟩
 ·have e:Fo r a seq at_ of_ left=false:=decide_eq_false h1;rw [e];refine zT Tryz.func394 rfl ?_;conv=>whnf
  repeat' (refine Ak (fun h=>?_) (fun h=>?_) <;> simp at h <;> conv=>whnf)
  all_goals first | (exfalso;omega) | exact⟨_,ri,rfl⟩ | exact⟨_,ri,by simp;omega⟩
theorem Ji (b:List UInt8):Fn Tryz.prog 186 [bA b] fun r=>r = iv (DG b:Nat):=by
 refine⟨⟨_,Tryz.func186,rfl,by decide⟩,fun c0 us hd hM _ hr=>?_⟩;obtain⟨u1,rfl,h1⟩:=Zu hr;refine(MT u1 b c0.w c0.M (HW h1)).mono ?_;rintro e w' ⟨rfl,rfl⟩;exact⟨_,_,rfl,rfl,Below.refl _ _,NT _⟩
theorem ED {b:List UInt8} {n k:Nat} (hn:n=k) (hk:k<=b.length) (c:Ctx) (u:Value) (h:Rd (.sl 1 n fun i=> [.v (.int .u8 (b.getD (i+0) 0).toNat)]) c u):Rd (bA (b.take k)) c u:=
 z7 (by rw [Aq];omega) (fun i hi=>by rw [Ab,Ab,Cm (by omega),Ca]) h
theorem Jl (e:Int) (c:Ctx) (v:Value) (h:Rd (.tp [.ag [iv 0,iv 0, .v (.slice none 0 0)],iv e]) c v):Rd (.tp [.ag (WM ⟨0,0, []⟩),iv e]) c v:=by
 have e1:SubL [.ag [iv 0,iv 0, .v (.slice none 0 0)],iv e] [.ag (WM ⟨0,0, []⟩),iv e]:=⟨Bg ⟨ri,ri,fun c u h=>Bv 1 _ c u h,tv⟩,ri,tv⟩;simp only [Rd] at h |-
 obtain⟨xs,rfl,h⟩:=h;exact⟨_,rfl,e1.rdl (c:=c) (xs:=xs) (by simpa only [RdL,Rd] using h)⟩
theorem Lr (b:List UInt8) (hl:b.length<=100000):Fn Tryz.prog 313 [bA b] fun r=>r = .tp [.ag (if DU b=0 then WM ⟨B_ b,Cr b,Cx b⟩ else WM ⟨0,0, []⟩),iv (DU b)]:=by
 have e4:IntKind.i64.wrap ((b.length:Int) - 4)=(b.length:Int) - 4:=IntWalk.i64_in _ (by omega);have e11:IntKind.i64.wrap ((b.length:Int) - 11)=(b.length:Int) - 11:=IntWalk.i64_in _ (by omega);have em:((b.length:Int) - 4).toNat=b.length - 4:=by omega
 by_cases hB:b.length<11\/107<b.length
 ·have hE:DU b=4:=by rw [DU,if_pos hB]
  rw [hE,if_neg (by decide)];refine zT Tryz.func313 rfl ?_;conv=>whnf
  refine AS (fun h=>?_) (fun h=>?_) <;> conv=>whnf
  ·exact⟨_,Jl 4,rfl⟩
  refine AS (fun h2=>?_) (fun h2=>?_) <;> conv=>whnf
  ·exact⟨_,Jl 4,rfl⟩
  ·exfalso;omega
 have hg:=Ou (b.drop (b.length - 4)) 4 (.inr (.inr rfl)) (by rw [Al];omega) (by rw [Al];omega);rw [show (b.drop (b.length - 4)).take (4:Int).toNat=b.drop (b.length - 4) from At (by rw [Al];show _<=4;omega)] at hg;have hs:=Ji (b.take (b.length - 4));by_cases hS:leN (b.drop (b.length - 4))=DG (b.take (b.length - 4))
 ·cases hp:Fz b with
  | false=>
   have hE:DU b=4:=by rw [DU,if_neg hB,if_neg (fun h=>h hS),hp];try rfl
   rw [hE,if_neg (by decide)];refine zT Tryz.func313 rfl ?_;conv=>whnf
   refine AS (fun h=>?_) (fun h=>?_) <;> conv=>whnf
   ·exfalso;omega
   refine AS (fun h=>?_) (fun h=>?_) <;> conv=>whnf
   ·exfalso;omega
   rw [e4];refine⟨by omega,?_⟩;conv=>whnf
   rw [em];refine zV [bA (b.drop (b.length - 4)),iv 4] ⟨DD (by omega),ri,tv⟩ ?_;refine zY hg ?_;refine⟨by omega,?_⟩;conv=>whnf
   rw [em];refine zV [bA (b.take (b.length - 4))] ⟨ED (by omega) (by omega),tv⟩ ?_;refine zY hs ?_;conv=>whnf
   refine AS (fun h=>?_) (fun h=>?_) <;> conv=>whnf
   ·exfalso;omega
   refine zY (MQ b hp) ?_;exact⟨_,Jl 4,rfl⟩
  | true=>
   have hpp:=hp;simp only [Fz,decide_eq_true_eq] at hpp;have hlen:((b.drop 1).take (CL b)).length=CL b:=by rw [Aq,Al];omega
   by_cases hn:CL b=b.length - 11
   ·have hE:DU b=0:=by rw [DU,if_neg hB,if_neg (fun h=>h hS),if_pos ⟨hp,hn⟩]
    have hu:=EJ (b.drop (1+CL b)) [2,4] (fun s h=>by simp at h;rcases h with rfl | rfl;exact .inr (.inl rfl);exact .inr (.inr rfl)) (by rw [Al];omega) (by show 2<=1000;decide) (by rw [Al];show 6<=_;omega);have hnum:nums [2,4] (b.drop (1+CL b))=[B_ b,Cr b]:=by
     rw [B_,Cr,show b.length - 10=1+CL b by omega,show b.length - 8=(1+CL b)+2 by omega,show b.drop ((1+CL b)+2)=(b.drop (1+CL b)).drop 2 by rw [AZ]];try rfl
    rw [hnum] at hu;have hpay:Cx b=(b.drop 1).take (CL b):=by rw [Cx,hn]
    rw [hE,if_pos rfl,hpay];refine zT Tryz.func313 rfl ?_;conv=>whnf
    refine AS (fun h=>?_) (fun h=>?_) <;> conv=>whnf
    ·exfalso;omega
    refine AS (fun h=>?_) (fun h=>?_) <;> conv=>whnf
    ·exfalso;omega
    rw [e4];refine⟨by omega,?_⟩;conv=>whnf
    rw [em];refine zV [bA (b.drop (b.length - 4)),iv 4] ⟨DD (by omega),ri,tv⟩ ?_;refine zY hg ?_;refine⟨by omega,?_⟩;conv=>whnf
    rw [em];refine zV [bA (b.take (b.length - 4))] ⟨ED (by omega) (by omega),tv⟩ ?_;refine zY hs ?_;conv=>whnf
    refine AS (fun h=>?_) (fun h=>?_) <;> conv=>whnf
    ·exfalso;omega
    refine zY (I9 b (by omega) hp) ?_;conv=>whnf
    rw [e11];refine AS (fun h=>?_) (fun h=>?_) <;> conv=>whnf
    ·exfalso;omega
    refine zS hu.go ?_;refine⟨rfl,?_⟩;conv=>whnf
    refine zV [bA (b.drop (1+CL b)),iA [2,4]] ⟨ri,(Bi (l:= [2,4]) rfl).1,tv⟩ ?_;refine zX (hu) rfl ?_;rintro _ _ ⟨rfl,rfl⟩;conv=>whnf
    refine zw tys_ok mixed [0,1,2,3,4,5,6,7,8,9] (by kernel_rfl) ?_;refine⟨⟨by decide,by decide⟩,?_⟩;refine⟨⟨rfl,rfl,by decide⟩,?_⟩;refine⟨⟨by decide,by decide⟩,?_⟩;refine⟨⟨rfl,rfl,by decide⟩,?_⟩;exact⟨_,ri,rfl⟩
   ·have hE:DU b=4:=by rw [DU,if_neg hB,if_neg (fun h=>h hS),if_neg (fun h=>hn h.2)]
    rw [hE,if_neg (by decide)];refine zT Tryz.func313 rfl ?_;conv=>whnf
    refine AS (fun h=>?_) (fun h=>?_) <;> conv=>whnf
    ·exfalso;omega
    refine AS (fun h=>?_) (fun h=>?_) <;> conv=>whnf
    ·exfalso;omega
    rw [e4];refine⟨by omega,?_⟩;conv=>whnf
    rw [em];refine zV [bA (b.drop (b.length - 4)),iv 4] ⟨DD (by omega),ri,tv⟩ ?_;refine zY hg ?_;refine⟨by omega,?_⟩;conv=>whnf
    rw [em];refine zV [bA (b.take (b.length - 4))] ⟨ED (by omega) (by omega),tv⟩ ?_;refine zY hs ?_;conv=>whnf
    refine AS (fun h=>?_) (fun h=>?_) <;> conv=>whnf
    ·exfalso;omega
    refine zY (I9 b (by omega) hp) ?_;conv=>whnf
    rw [e11];refine AS (fun h=>?_) (fun h=>?_) <;> conv=>whnf
    ·exact⟨_,Jl 4,rfl⟩
    ·exfalso;omega
 ·have hE:DU b=5:=by rw [DU,if_neg hB,if_pos hS]
  rw [hE,if_neg (by decide)];refine zT Tryz.func313 rfl ?_;conv=>whnf
  refine AS (fun h=>?_) (fun h=>?_) <;> conv=>whnf
  ·exfalso;omega
  refine AS (fun h=>?_) (fun h=>?_) <;> conv=>whnf
  ·exfalso;omega
  rw [e4];refine⟨by omega,?_⟩;conv=>whnf
  rw [em];refine zV [bA (b.drop (b.length - 4)),iv 4] ⟨DD (by omega),ri,tv⟩ ?_;refine zY hg ?_;refine⟨by omega,?_⟩;conv=>whnf
  rw [em];refine zV [bA (b.take (b.length - 4))] ⟨ED (by omega) (by omega),tv⟩ ?_;refine zY hs ?_;conv=>whnf
  refine AS (fun h=>?_) (fun h=>?_) <;> conv=>whnf
  ·exact⟨_,Jl 5,rfl⟩
  ·exfalso;omega
end
end Go.Proofs.YtpjkcgacjjbikaaGreatDoor.A
