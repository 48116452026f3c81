/-
Several texts in one.
-/
import Derived.Test.YtepdhdfoipephaaGreatDoorPPD4P5
import Derived.Test.YtepdhdfoipephaaGreatDoorPPD4P3
import Derived.Test.YtepdhdfoipephaaGreatDoorRows
import Derived.Below
import Derived.ChangeSame
import Derived.Carry
import Derived.Test.YtepdhdfoipephaaGreatDoorPPD4P1
import Derived.Lib.LaidIn
import Derived.Lib.LaidU8T
import Derived.LaidHandle
import Derived.MakeChecks
import Derived.Handed
set_option maxRecDepth 100000
set_option maxHeartbeats 8000000
set_option linter.unusedSimpArgs false
set_option linter.unusedVariables false
set_option linter.deprecated false
namespace Go.Proofs.YtepdhdfoipephaaGreatDoor.A
section
open Go.RowKit
structure LbOk (g:Geo) (L:List Int) (B:List (List UInt8)):Prop where
 n:1<=L.length/\L.length<=4
 e:B.length=L.length
 b:∀ b∈B,b.length=8
 i:∀ i,i<L.length->0<=L.getD i 0/\L.getD i 0<g.z*g.d
 r:∀ i j,i<j->j<L.length->L.getD i 0<L.getD j 0
theorem Q7 (g:Geo) (s:Stt) (d:Dk) (L:List Int) (B:List (List UInt8)) (hg:Bp g=true) (hl:s.txns.length<=1000) (h:LbOk g L B) :
  ACalls Tryz.prog false 107 [.bp 0 0,iA L,Ev B] (FJ g s d) fun r H=>r = iv (if s.only then 15 else if Er g L > g.sl - BX s.txns then 21 else 0)/\H=FJ g s d:=by
 obtain⟨g1,g2,g3,g4,g5⟩:=As.1 hg;obtain⟨n1,n2⟩:=h.n;have hBn:=h.e;have hun:=EF s.txns s.txns.length;have hn:=TE g L hg (by omega) (by omega) h.i h.r;have hu:=Nw s.txns (by omega);have tsub:SubL [.sl 4 s.txns.length fun i=>(s.txns.map CO).getD i []] [Dl s.txns]:=⟨Bb (f:=CO) s.txns rfl rfl,tv⟩;refine zT tys_ok Tryz.func107 rfl rfl (Ag rfl) ?_;conv=>whnf
 rw [show decide ((L.length:Int)<1)=false from decide_eq_false (by omega)];conv=>whnf
 rw [show decide ((L.length:Int) > 4)=false from decide_eq_false (by omega)];conv=>whnf
 rw [show ((B.length:Int) != (L.length:Nat))=false from bne_eq_false_iff_eq.2 (by omega)];conv=>whnf
 repeat' (refine z_ ?_;conv=>whnf)
 refine zU Nat (fun k=>([(0, .bp 0 0),(1,iA L),(2,Ev B),(26,Ev B),(27,iv B.length),(28,iv (k:Nat))],FJ g s d)) (fun k=>k<=B.length) (fun k=>B.length - k) 0 (Aj _)
  (zR (s:= [0,1,2,3,4]) tA) ?_
 intro k hk;by_cases hkB:k<B.length
 ·have hb8:(B.getD k []).length=8:=h.b _ (A6 (d:= []) hkB);have ixA:(0:Int)<=(k:Nat)/\((k:Nat):Int)<(L.length:Nat):=by omega
  conv=>whnf
  rw [show decide ((k:Int)<(B.length:Nat))=true from decide_eq_true (by omega)];conv=>whnf
  repeat' (refine z_ ?_;conv=>whnf)
  refine⟨⟨by omega,by omega⟩,?_⟩;conv=>whnf
  repeat' (refine z_ ?_;conv=>whnf)
  rw [Ac,hb8];by_cases hk0:k=0
  ·subst hk0;apply zW (0) tys_ok mixed (.o [0,1,2,3,4,5,6,7,8,9,10,11,12,13,14,15,16,17,18] .fin) (by kernel_rfl);conv=>whnf
   try (refine tI ?_;conv=>whnf)
   try (refine tI ?_;conv=>whnf)
   all_goals exact⟨0+1,by omega,by omega,zR (s:= [0,1,2,3,4]) ⟨⟨rfl,rfl,rfl,rfl,rfl,AH (by omega),tv⟩,tA,rfl,rfl,rfl,rfl,rfl⟩⟩
  ·have hrk:=h.r (k - 1) k (by omega) (by omega);have ew:IntKind.i64.wrap ((k:Int) - 1)=((k - 1:Nat):Int):=by rw [wi (by omega)];omega
   have ixB:(0:Int)<=IntKind.i64.wrap ((k:Int) - 1)/\IntKind.i64.wrap ((k:Int) - 1)<(L.length:Nat):=by rw [ew];omega
   refine zA tys_ok mixed [0,1,2,3,4,5,6,7,8,9,10,11,12,13,14,15,16,17,18] (by kernel_rfl) ?_;conv=>whnf
   rw [show decide ((k:Int) > 0)=true from decide_eq_true (by omega)];refine⟨ixA,?_⟩;refine⟨ixB,?_⟩;conv=>whnf
   rw [show decide (L.getD (k:Int).toNat 0<=L.getD (IntKind.i64.wrap ((k:Int) - 1)).toNat 0)=false from decide_eq_false (by rw [ew,Ac,Ac];omega)];conv=>whnf
   repeat' (refine z_ ?_;conv=>whnf)
   exact⟨k+1,by omega,by omega,zR (s:= [0,1,2,3,4]) ⟨⟨rfl,rfl,rfl,rfl,rfl,AH (by omega),tv⟩,tA,rfl,rfl,rfl,rfl,rfl⟩⟩
 ·conv=>whnf
  rw [show decide ((k:Int)<(B.length:Nat))=false from decide_eq_false (by omega)];conv=>whnf
  repeat' (refine z_ ?_;conv=>whnf)
  refine zZ hn ?_;conv=>whnf
  cases ho:s.only with
  | true=>
   exact⟨_,iv 15,FJ g s d,fun _ _ h=>h,zR (s:= [0,1,2,3,4]) tA,rfl,rfl⟩
  | false=>
   conv=>whnf
   apply zP tys_ok mixed (.o [0,1,2,3,4,5,6,7,8,9,10,11,12,13,14] .fin) [72,73,74,75,76,77,78,79,80,81,82,83,84,85,86] (by kernel_rfl)
   ·conv=>whnf
    (refine zp (args':= [.sl 4 s.txns.length fun i=>(s.txns.map CO).getD i []]) (hu.subA tsub) ⟨(Ab _).symm,rfl⟩ ?_;rintro _ rfl;refine⟨rfl,?_⟩)
    exact tA
   conv=>whnf
   rw [wi (show -9223372036854775808<=g.sl - BX s.txns/\g.sl - BX s.txns<=9223372036854775807 by unfold BX;omega)];by_cases hfull:Er g L > g.sl - BX s.txns
   ·rw [decide_eq_true hfull,if_pos hfull];exact⟨_,iv 21,FJ g s d,fun _ _ h=>h,zR (s:= [0,1,2,3,4]) tA,rfl,rfl⟩
   ·rw [decide_eq_false hfull,if_neg hfull];exact⟨_,iv 0,FJ g s d,fun _ _ h=>h,zR (s:= [0,1,2,3,4]) tA,rfl,rfl⟩
def D7 (g:Geo) (L:List Int) (z:Int) (k:Nat):List Nat:=(List.range k).filter fun i=>(L.getD i 0).tdiv g.d == z
def DO (g:Geo) (L:List Int) (z:Int) (k:Nat):List Int:=(D7 g L z k).map fun i=>(L.getD i 0).tmod g.d
def Eg (g:Geo) (L:List Int) (B:List (List UInt8)) (z:Int) (k:Nat):List (List UInt8):=(D7 g L z k).map fun i=>B.getD i []
theorem Is (g:Geo) (L:List Int) (z:Int) (k:Nat):D7 g L z (k+1)=if (L.getD k 0).tdiv g.d=z then D7 g L z k ++ [k] else D7 g L z k:=by
 unfold D7;rw [Bd,List.filter_append];by_cases h:(L.getD k 0).tdiv g.d=z
 ·rw [if_pos h,Dv,if_pos (beq_iff_eq.2 h)];try rfl
 ·rw [if_neg h,Dv,if_neg (fun q=>h (beq_iff_eq.1 q))];exact AL _
theorem It {g:Geo} {L:List Int} {z:Int} {k i:Nat} (h:i∈D7 g L z k):i<k/\(L.getD i 0).tdiv g.d=z:=by
 unfold D7 at h;rw [List.mem_filter,AP,beq_iff_eq] at h;exact h
theorem Lh (g:Geo) (L:List Int) (z:Int) (k:Nat):(D7 g L z k).length<=k:=by
 have:=List.length_filter_le (fun i=>(L.getD i 0).tdiv g.d == z) (List.range k);rw [Cg] at this;exact this
theorem EO (g:Geo) (L:List Int) (z:Int) (k:Nat):(DO g L z k).length=(D7 g L z k).length:=Ab _
theorem Iz (g:Geo) (L:List Int) (B:List (List UInt8)) (z:Int) (k:Nat):(Eg g L B z k).length=(D7 g L z k).length:=Ab _
theorem YO {g:Geo} (hg:Bp g=true) {L:List Int} {B:List (List UInt8)} (h:LbOk g L B) {z:Int} (h0:0<(D7 g L z L.length).length):AtsOk g (DO g L z L.length):=by
 obtain⟨g1,g2,g3,g4,g5⟩:=As.1 hg;have hp:(DO g L z L.length).Pairwise (· < ·):=by
  unfold DO;rw [List.pairwise_map];have h1:(D7 g L z L.length).Pairwise (· < ·):=List.Pairwise.filter _ List.pairwise_lt_range;refine List.Pairwise.imp_of_mem (fun {i j} hi hj hij=>?_) h1;obtain⟨i1,i2⟩:=It hi;obtain⟨j1,j2⟩:=It hj;have hlt:=h.r i j hij j1;have e1:=D5 (L.getD i 0) g.d;have e2:=D5 (L.getD j 0) g.d;rw [i2] at e1;rw [j2] at e2;omega
 have hl:=Lh g L z L.length;have hn:=h.n.2;refine⟨by rw [EO];exact h0,by rw [EO];omega,fun i hi=>?_,fun i hi=>?_⟩
 ·rw [EO] at hi;unfold DO;rw [Bc (d:=0) hi];obtain⟨i1, -⟩:=It (A6 (d:=0) hi);have:=h.i _ i1;exact⟨Bk _ this.1,AY _ (by omega)⟩
 ·have:=List.pairwise_iff_getElem.1 hp i (i+1) (by omega) hi (by omega);rw [Aa,Ae (by omega),Aa,Ae hi];exact this
theorem SI {g:Geo} {L:List Int} {B:List (List UInt8)} (h:LbOk g L B) {z:Int}:∀ b∈Eg g L B z L.length,b.length=8:=fun b hb=>by
 unfold Eg at hb;obtain⟨i,hi,rfl⟩:=AK.1 hb;obtain⟨i1, -⟩:=It hi;exact h.b _ (A6 (d:= []) (by have:=h.e;omega))
def EA (g:Geo) (s:Stt) (G:Gr) (S:Int) (L:List Int) (B:List (List UInt8)) (z:Int):List Img:=if (D7 g L z L.length).length=0 then [] else match GF g s G z with
 | some t=>BU z (Br g t (Fo g s G t z) (DO g L z L.length) (Eg g L B z L.length) S) (DA g t (Fo g s G t z) (DO g L z L.length) (Eg g L B z L.length) g.d.toNat) (DO g L z L.length) (Eg g L B z L.length)
 | none=> []
def DS (g:Geo) (s:Stt) (G:Gr) (S:Int) (L:List Int) (B:List (List UInt8)):Nat->List Img
 | 0=> []
 | k+1=>DS g s G S L B k ++ EA g s G S L B (k:Nat)
theorem RS (g:Geo) (s:Stt) (G:Gr) (S:Int) {L:List Int} (B:List (List UInt8)) (z:Int) (hL:L.length<=4):(EA g s G S L B z).length<=6:=by
 unfold EA;split
 ·exact Aj _
 ·split
  ·rw [Es,EO];have:=Lh g L z L.length;omega
  ·exact Aj _
theorem Mm (g:Geo) (s:Stt) (G:Gr) (S:Int) {L:List Int} (B:List (List UInt8)) (hL:L.length<=4):∀ k,(DS g s G S L B k).length<=6*k
 | 0=>Aj _
 | k+1=>by
  have:=Mm g s G S B hL k;have:=RS g s G S B (k:Nat) hL;rw [DS,Ai];omega
theorem ConvF.sealT2 {fr:Fr} {H:List AB} (i k:Nat) {z:AV} {t:TypeId} {sz:Nat} {es:List (List AV)} (hx:fget fr i = .tp [.ow k es.length,z]) (hk:hget H k=some (.row t sz es)):ConvF fr H ((i, .tp [.sl sz es.length fun j=>es.getD j [],z])::fr) (H.set k .dead):=fun _ _ c _ _ hs hf=>by
 rw [hget_eq] at hk;obtain⟨c1,e1,s1,x1,r1⟩:=hs.freeze hk;refine⟨c1,e1,s1,(hf.ext x1).cons i _ ?_,x1⟩;have h0:=hf.get i;have h1:=(hf.ext x1).get i;rw [hx] at h0 h1;simp only [Rd] at h0 h1;obtain⟨us,e,h0⟩:=h0;obtain⟨us',e',h1⟩:=h1;have eu:us'=us:=by
  have:=e.symm.trans e';injection this with this
  simpa using this.symm
 subst eu;obtain⟨y2,l2,rfl,a2,y3,l3,rfl,a3,rfl⟩:=h0;obtain⟨z2,m2,q2,b2,z3,m3,q3,b3,q4⟩:=h1;subst q3 q4;simp only [List.cons.injEq,and_true] at q2;obtain⟨rfl,rfl⟩:=q2;simp only [Rd];exact⟨_,e,_,_,rfl,r1 _ a2,_,_,rfl,b3,rfl⟩
theorem Yb (l:List Img):((List.range l.length).map fun i=>D8 (l.getD i ⟨0,0, []⟩))=l.map D8:=by
 refine List.ext_getElem (by simp) fun i h1 h2=>?_
 rw [Ab] at h2;simp [h2]
@[reducible] def SU (l:List Img):AB:= .row 166 3 (l.map D8)
@[reducible] def aE (l:List Int):AB:= .row 3 1 (l.map fun x=> [iv x])
@[reducible] def aP (l:List (List UInt8)):AB:= .row 47 1 (l.map DY)
theorem QC (g:Geo) (s:Stt) (d:Dk) (G:Gr) (L:List Int) (B:List (List UInt8)) (S:Int) (hg:Bp g=true) (hl:LogB s.txns) (ha:Bu g s.a=true) (h:Gs (Ay g) d G) (himg:∀ t∈s.txns,∀ x∈t.images,Bz g x=true) (hF:∀ a,(G a).bytes.length<=100000) (h8:∀ a,(G a).err≠8) (hS:0<=S/\S<=4294967295) (hB:∀ z p,C2 s.txns z 255=some p->p.1.bytes.length<=100000/\(BT g p.1.bytes).isSome=true) (hLB:LbOk g L B) (ht:∀ z,0<=z->z<g.z->(GF g s G z).isSome=true) :
  ACalls Tryz.prog false 109 [.bp 0 0,iA L,Ev B,iv S] (FJ g s d) fun r H=>r = .tp [Dm (DS g s G S L B g.z.toNat),iv 0]/\∃ d',Gs (Ay g) d' G/\H=FJ g s d':=by
 obtain⟨g1,g2,g3,g4,g5⟩:=As.1 hg;obtain⟨n1,n2⟩:=hLB.n;have hBn:=hLB.e;refine zT tys_ok Tryz.func109 rfl rfl (Ag rfl) ?_;conv=>whnf
 refine zU (Nat × Dk) (fun x=>([(0, .bp 0 0),(1,iA L),(2,Ev B),(3,iv S),(10, .ow 5 (DS g s G S L B x.1).length),(27,iv g.z),(28,iv (x.1:Nat))],FJ g s x.2 ++ ([SU (DS g s G S L B x.1)]:List AB))) (fun x=>(x.1:Int)<=g.z/\Gs (Ay g) x.2 G) (fun x=>g.z.toNat - x.1) (0,d) ⟨by show ((0:Nat):Int)<=g.z;omega,h⟩
  ⟨_,_,zG _ _, [(10,166,3)],tA, [0,1,2,3,4,5],tA,tA,rfl,rfl,rfl,rfl,rfl⟩ ?_
 rintro⟨k,d1⟩ ⟨hk,hd1⟩;simp only at hk hd1;have hnl:=Mm g s G S B n2 k;by_cases hkz:(k:Int)<g.z;rotate_left 1
 ·have ek:k=g.z.toNat:=by omega
  conv=>whnf
  rw [decide_eq_false hkz];conv=>whnf
  repeat' (refine z_ ?_;conv=>whnf)
  rw [<-ek];exact⟨.tp [.ow 5 (DS g s G S L B k).length,iv 0], .tp [Dm (DS g s G S L B k),iv 0],FJ g s d1,ri,zF (zQ (ConvF.sealT2 0 5 (es:=(DS g s G S L B k).map D8) (by rw [Ab];try rfl) rfl) (zI 0 rfl (BW (m:= [Dm (DS g s G S L B k),iv 0]) ⟨Bb (f:=D8) _ (Ab _) rfl,ri,tv⟩))) (s:= [0,1,2,3,4]) tA,rfl,d1,hd1,rfl⟩
 conv=>whnf
 rw [decide_eq_true hkz];conv=>whnf
 refine zU (Nat × Bool) (fun x=>match x.2 with
  | false=>([(0, .bp 0 0),(1,iA L),(2,Ev B),(3,iv S),(10, .ow 5 (DS g s G S L B k).length),(11,iv (k:Nat)),(12, .ow 6 (D7 g L (k:Nat) x.1).length),(13, .ow 7 (D7 g L (k:Nat) x.1).length),(27,iv g.z),(28,iv (k:Nat)),(31,iA L),(32,iv L.length),(33,iv (x.1:Nat))],FJ g s d1 ++ ([SU (DS g s G S L B k),aE (DO g L (k:Nat) x.1),aP (Eg g L B (k:Nat) x.1)]:List AB))
  | true=>([(0, .bp 0 0),(1,iA L),(2,Ev B),(3,iv S),(10, .ow 5 (DS g s G S L B k).length),(11,iv (k:Nat)),(12,iA (DO g L (k:Nat) L.length)),(13,Ev (Eg g L B (k:Nat) L.length)),(27,iv g.z),(28,iv (k:Nat)),(31,iA L),(32,iv L.length),(33,iv (x.1:Nat))],FJ g s d1 ++ ([SU (DS g s G S L B k)]:List AB))) (fun x=>x.1<=L.length/\(x.2=true↔x.1=L.length)) (fun x=>L.length - x.1) (0,false) ⟨Aj _,⟨fun q=>(by cases q),fun q=>by have:0=L.length:=q;omega⟩⟩
  ⟨_,_,zG _ _, [(12,3,1),(13,47,1)],tA, [0,1,2,3,4,5,6,7],tA,tA,rfl,rfl,rfl,rfl,rfl⟩ ?_
 rintro⟨i,p⟩ ⟨hi,hp⟩;simp only at hi hp;cases p with
 | false=>
  have hin:i<L.length:=by
   have:¬i=L.length:=fun q=>by cases hp.2 q
   omega
  have hzi:=hLB.i i hin;have hsl:=Lh g L (k:Nat) i;have hss:=Is g L (k:Nat) i;simp only;conv=>whnf
  rw [show decide ((i:Int)<(L.length:Nat))=true from decide_eq_true (by omega)];conv=>whnf
  repeat' (refine z_ ?_;conv=>whnf)
  refine⟨⟨by omega,by omega⟩,?_⟩;conv=>whnf
  repeat' (refine z_ ?_;conv=>whnf)
  refine⟨by omega,?_⟩;conv=>whnf
  have hwr:IntKind.i64.wrap ((L.getD (i:Int).toNat 0).tdiv g.d)=(L.getD i 0).tdiv g.d:=by
   have:=(La hg hzi).1;exact wi (by rw [Ac];omega)
  rw [hwr];by_cases hzk:(L.getD i 0).tdiv g.d=(k:Nat)
  ·rw [if_pos hzk] at hss;rw [show ((L.getD i 0).tdiv g.d == ((k:Nat):Int))=true from beq_iff_eq.2 hzk];have ea:((DO g L (k:Nat) i).map fun x=> [AV.v (Value.int IntKind.i64 x)]) ++ [[AV.v (Value.int IntKind.i64 ((L.getD (i:Int).toNat 0).tmod g.d))]]=(DO g L (k:Nat) (i+1)).map fun x=> [AV.v (Value.int IntKind.i64 x)]:=by
    unfold DO;rw [hss,Az,Az];try rfl
   have eb:(Eg g L B (k:Nat) i).map DY ++ [DY (B.getD (i:Int).toNat [])]=(Eg g L B (k:Nat) (i+1)).map DY:=by
    unfold Eg;rw [hss,Az,Az];try rfl
   have el:(D7 g L (k:Nat) i).length+1=(D7 g L (k:Nat) (i+1)).length:=by
    rw [hss,Ai];try rfl
   have ixA:(D7 g L (k:Nat) i).length=((DO g L (k:Nat) i).map fun x=> [AV.v (Value.int IntKind.i64 x)]).length/\(D7 g L (k:Nat) i).length+1<=1000000000:=⟨by rw [Ab,EO],by omega⟩;have ixB:(D7 g L (k:Nat) i).length=((Eg g L B (k:Nat) i).map DY).length/\(D7 g L (k:Nat) i).length+1<=1000000000:=⟨by rw [Ab,Iz],by omega⟩;conv=>whnf
   repeat' (refine z_ ?_;conv=>whnf)
   apply zW (16384) tys_ok mixed (.o [0,1,2,3,4,5,6,7,10,11,12,13] (.two 8 (.two 9 (.o [14,15,16,17,18] .fin) 14 (.two 9 (.o [15,16,17,18] .fin) 15 (.o [9,16,17,18] .fin))) 14 (.two 8 (.two 9 (.o [15,16,17,18] .fin) 15 (.o [9,16,17,18] .fin)) 15 (.o [8,9,16,17,18] .fin)))) (by kernel_rfl);conv=>whnf
   try (refine tI ?_;conv=>whnf)
   try (refine tI ?_;conv=>whnf)
   refine Af ?_ ?_;refine Af ?_ ?_;conv=>whnf
   try (refine tJ ?_;conv=>whnf)
   try (refine tK ?_;conv=>whnf)
   try (refine tJ ?_;conv=>whnf)
   try (refine tK ?_;conv=>whnf)
   rotate_left 1;refine Af ?_ ?_;conv=>whnf
   try (refine tJ ?_;conv=>whnf)
   try (refine tK ?_;conv=>whnf)
   try (refine tJ ?_;conv=>whnf)
   try (refine tK ?_;conv=>whnf)
   rotate_left 1;conv=>whnf
   try (refine tJ ?_;conv=>whnf)
   try (refine tK ?_;conv=>whnf)
   try (refine tJ ?_;conv=>whnf)
   try (refine tK ?_;conv=>whnf)
   rotate_left 1;refine Af ?_ ?_;refine Af ?_ ?_;conv=>whnf
   try (refine tJ ?_;conv=>whnf)
   try (refine tK ?_;conv=>whnf)
   try (refine tJ ?_;conv=>whnf)
   try (refine tK ?_;conv=>whnf)
   rotate_left 1;conv=>whnf
   try (refine tJ ?_;conv=>whnf)
   try (refine tK ?_;conv=>whnf)
   try (refine tJ ?_;conv=>whnf)
   try (refine tK ?_;conv=>whnf)
   rotate_left 1;conv=>whnf
   try (refine tJ ?_;conv=>whnf)
   try (refine tK ?_;conv=>whnf)
   try (refine tJ ?_;conv=>whnf)
   try (refine tK ?_;conv=>whnf)
   rotate_left 1;all_goals
    by_cases hlast:i+1=L.length
    ·exact⟨(i+1,true),⟨by show i+1<=L.length;omega,⟨fun _=>hlast,fun _=>rfl⟩⟩,by show L.length - (i+1)<L.length - i;omega,zF (zQ (zL 12 6 (es:=(DO g L (k:Nat) (i+1)).map fun x=> [AV.v (Value.int IntKind.i64 x)]) (congrArg (AV.ow 6) (by rw [el,Ab,EO])) (congrArg (fun e=>some (AB.row 3 1 e)) ea)) (zQ (zI 12 rfl (EJ (L:=DO g L (k:Nat) L.length) (by rw [Ab,hlast]) (by rw [hlast]))) (zQ (zL 13 7 (es:=(Eg g L B (k:Nat) (i+1)).map DY) (congrArg (AV.ow 7) (by rw [el,Ab,Iz])) (congrArg (fun e=>some (AB.row 47 1 e)) eb)) (zI 13 rfl (Ei (L:=Eg g L B (k:Nat) L.length) (by rw [Ab,hlast]) (by rw [hlast])))))) (s:= [0,1,2,3,4,5]) ⟨⟨rfl,rfl,rfl,rfl,rfl,rfl,rfl,rfl,rfl,rfl,rfl,rfl,AH (by omega),tv⟩,tA,rfl,rfl,rfl,rfl,rfl⟩⟩
    ·exact⟨(i+1,false),⟨by show i+1<=L.length;omega,⟨fun q=>(by cases q),fun q=>absurd q hlast⟩⟩,by show L.length - (i+1)<L.length - i;omega,zR (s:= [0,1,2,3,4,5,6,7]) ⟨⟨rfl,rfl,rfl,rfl,rfl,rfl,congrArg (fun n=>AV.ow 6 n) el,congrArg (fun n=>AV.ow 7 n) el,rfl,rfl,rfl,rfl,AH (by omega),tv⟩,⟨rfl,rfl,rfl,rfl,rfl,rfl,congrArg (fun e=>some (AB.row 3 1 e)) ea,congrArg (fun e=>some (AB.row 47 1 e)) eb,tv⟩,rfl,rfl,rfl,rfl,rfl⟩⟩
  ·rw [if_neg hzk] at hss;rw [show ((L.getD i 0).tdiv g.d == ((k:Nat):Int))=false from beq_eq_false_iff_ne.2 hzk];have ea:((DO g L (k:Nat) i).map fun x=> [AV.v (Value.int IntKind.i64 x)])=(DO g L (k:Nat) (i+1)).map fun x=> [AV.v (Value.int IntKind.i64 x)]:=by
    unfold DO;rw [hss]
   have eb:(Eg g L B (k:Nat) i).map DY=(Eg g L B (k:Nat) (i+1)).map DY:=by
    unfold Eg;rw [hss]
   have el:(D7 g L (k:Nat) i).length=(D7 g L (k:Nat) (i+1)).length:=by rw [hss]
   conv=>whnf
   repeat' (refine z_ ?_;conv=>whnf)
   by_cases hlast:i+1=L.length
   ·exact⟨(i+1,true),⟨by show i+1<=L.length;omega,⟨fun _=>hlast,fun _=>rfl⟩⟩,by show L.length - (i+1)<L.length - i;omega,zF (zQ (zL 12 6 (es:=(DO g L (k:Nat) (i+1)).map fun x=> [AV.v (Value.int IntKind.i64 x)]) (congrArg (AV.ow 6) (by rw [el,Ab,EO])) (congrArg (fun e=>some (AB.row 3 1 e)) ea)) (zQ (zI 12 rfl (EJ (L:=DO g L (k:Nat) L.length) (by rw [Ab,hlast]) (by rw [hlast]))) (zQ (zL 13 7 (es:=(Eg g L B (k:Nat) (i+1)).map DY) (congrArg (AV.ow 7) (by rw [el,Ab,Iz])) (congrArg (fun e=>some (AB.row 47 1 e)) eb)) (zI 13 rfl (Ei (L:=Eg g L B (k:Nat) L.length) (by rw [Ab,hlast]) (by rw [hlast])))))) (s:= [0,1,2,3,4,5]) ⟨⟨rfl,rfl,rfl,rfl,rfl,rfl,rfl,rfl,rfl,rfl,rfl,rfl,AH (by omega),tv⟩,tA,rfl,rfl,rfl,rfl,rfl⟩⟩
   ·exact⟨(i+1,false),⟨by show i+1<=L.length;omega,⟨fun q=>(by cases q),fun q=>absurd q hlast⟩⟩,by show L.length - (i+1)<L.length - i;omega,zR (s:= [0,1,2,3,4,5,6,7]) ⟨⟨rfl,rfl,rfl,rfl,rfl,rfl,congrArg (fun n=>AV.ow 6 n) el,congrArg (fun n=>AV.ow 7 n) el,rfl,rfl,rfl,rfl,AH (by omega),tv⟩,⟨rfl,rfl,rfl,rfl,rfl,rfl,congrArg (fun e=>some (AB.row 3 1 e)) ea,congrArg (fun e=>some (AB.row 47 1 e)) eb,tv⟩,rfl,rfl,rfl,rfl,rfl⟩⟩
 | true=>
  have hin:i=L.length:=hp.1 rfl;subst hin;simp only;conv=>whnf
  rw [show decide ((L.length:Int)<(L.length:Nat))=false from decide_eq_false (by omega)];conv=>whnf
  repeat' (refine z_ ?_;conv=>whnf)
  have hal:=EO g L (k:Nat) L.length;have hol:=Iz g L B (k:Nat) L.length;have hsl:=Lh g L (k:Nat) L.length;by_cases h0:(D7 g L (k:Nat) L.length).length=0
  ·have en:DS g s G S L B (k+1)=DS g s G S L B k:=by
    rw [DS,EA,if_pos h0,AL]
   rw [show (((DO g L (k:Nat) L.length).length:Int) == 0)=true from beq_iff_eq.2 (by omega)];conv=>whnf
   exact⟨(k+1,d1),⟨by show ((k+1:Nat):Int)<=g.z;omega,hd1⟩,by show g.z.toNat - (k+1)<g.z.toNat - k;omega,zR (s:= [0,1,2,3,4,5]) ⟨⟨rfl,rfl,rfl,rfl,congrArg (fun l=>AV.ow 5 (List.length l)) en.symm,rfl,AH (by omega),tv⟩,⟨rfl,rfl,rfl,rfl,rfl,congrArg (fun l=>some (SU l)) en.symm,tv⟩,rfl,rfl,rfl,rfl,rfl⟩⟩
  ·obtain⟨t,htt⟩:=BD.1 (ht (k:Nat) (by omega) hkz);have htok:=Oo htt;obtain⟨k1,k2⟩:=Mq hg (s:=s) (G:=G) (t:=t) (z:=(k:Nat)) himg;have hAt:=YO hg hLB (z:=(k:Nat)) (by omega);have h01:=SI hLB (z:=(k:Nat));have hpl:(DA g t (Fo g s G t (k:Nat)) (DO g L (k:Nat) L.length) (Eg g L B (k:Nat) L.length) g.d.toNat).length=8:=EI k2 h01 (by omega) _;have hgat:=KQ g s d1 G (k:Nat) hg hl ha hd1 hF h8 ⟨by omega,hkz⟩ (hB _) t htt;have hwt:=Re g t (Fo g s G t (k:Nat)) (DO g L (k:Nat) L.length) (Eg g L B (k:Nat) L.length) S hg htok k1 k2 hAt (by omega) h01 hS;have him:=Pw g (k:Nat) (Br g t (Fo g s G t (k:Nat)) (DO g L (k:Nat) L.length) (Eg g L B (k:Nat) L.length) S) (DA g t (Fo g s G t (k:Nat)) (DO g L (k:Nat) L.length) (Eg g L B (k:Nat) L.length) g.d.toNat) (DO g L (k:Nat) L.length) (Eg g L B (k:Nat) L.length) hg ⟨by omega,hkz⟩ (EU hg htok hS) hpl hAt (by omega) h01;have en:DS g s G S L B (k+1)=DS g s G S L B k ++ BU (k:Nat) (Br g t (Fo g s G t (k:Nat)) (DO g L (k:Nat) L.length) (Eg g L B (k:Nat) L.length) S) (DA g t (Fo g s G t (k:Nat)) (DO g L (k:Nat) L.length) (Eg g L B (k:Nat) L.length) g.d.toNat) (DO g L (k:Nat) L.length) (Eg g L B (k:Nat) L.length):=by
    rw [DS,EA,if_neg h0,htt]
   rw [show (((DO g L (k:Nat) L.length).length:Int) == 0)=false from beq_eq_false_iff_ne.2 (by omega)];have hnl2:=Mm g s G S B n2 (k+1);rw [en,Ai] at hnl2;generalize Br g t (Fo g s G t (k:Nat)) (DO g L (k:Nat) L.length) (Eg g L B (k:Nat) L.length) S=T2 at hwt him en hnl2;generalize DA g t (Fo g s G t (k:Nat)) (DO g L (k:Nat) L.length) (Eg g L B (k:Nat) L.length) g.d.toNat=P2 at hwt him en hpl hnl2;generalize BU (k:Nat) T2 P2 (DO g L (k:Nat) L.length) (Eg g L B (k:Nat) L.length)=L2 at him en hnl2;conv=>whnf
   repeat' (refine z_ ?_;conv=>whnf)
   refine zd [0,1,2,3,4] hgat ?_;rintro _ _ ⟨rfl,d2,hd2,rfl⟩;conv=>whnf
   repeat' (refine z_ ?_;conv=>whnf)
   apply zW (0) tys_ok mixed (.o [0,1,2,3,4,5,6,7,8] (.two 9 (.o [10,11,12,13,14,15,16,17] .fin) 14 (.o [9,10,11,12,13,15,16,17] .fin))) (by kernel_rfl);refine Af ?_ ?_;conv=>whnf
   refine zZ hwt ?_;conv=>whnf
   try (refine tS ?_;conv=>whnf)
   rotate_left 1;conv=>whnf
   refine zZ hwt ?_;conv=>whnf
   try (refine tS ?_;conv=>whnf)
   rotate_left 1;all_goals
    conv=>whnf
    repeat' (refine z_ ?_;conv=>whnf)
    apply zW (0) tys_ok mixed (.o [0,1,2,3,4,5,6,7,8,9,10,11,12,13,14] .fin) (by kernel_rfl);conv=>whnf
    refine zZ him ?_;conv=>whnf
    all_goals
     conv=>whnf
     repeat' (refine z_ ?_;conv=>whnf)
     refine⟨⟨(Ab _).symm,by omega⟩,?_⟩;conv=>whnf
     exact⟨(k+1,d2),⟨by show ((k+1:Nat):Int)<=g.z;omega,hd2⟩,by show g.z.toNat - (k+1)<g.z.toNat - k;omega,zR (s:= [0,1,2,3,4,5]) ⟨⟨rfl,rfl,rfl,rfl,congrArg (AV.ow 5) (by rw [en,Ai]),rfl,AH (by omega),tv⟩,⟨rfl,rfl,rfl,rfl,rfl,congrArg (fun es=>some (AB.row 166 3 es)) (by rw [en,Az,Yb]),tv⟩,rfl,rfl,rfl,rfl,rfl⟩⟩
end
section
open Go.RowKit Go.Maps
def MV (g:Geo) (L:List Int) (k:Nat):Nat->Nat
 | 0=>0
 | n+1=>MV g L k n+(if (D7 g L (n:Nat) k).length=0 then 0 else (D7 g L (n:Nat) k).length+2)
theorem Q5 {g:Geo} {L:List Int} {k z:Nat} (hz:(L.getD k 0).tdiv g.d=(z:Int)):∀ n,MV g L (k+1) n=MV g L k n+(if z<n then (if (D7 g L (z:Nat) k).length=0 then 3 else 1) else 0)
 | 0=>rfl
 | n+1=>by
  have ih:=Q5 hz n;have hs:=Is g L (n:Nat) k;rw [MV,MV,ih];by_cases h:z=n
  ·subst h;rw [if_pos hz] at hs;rw [hs,Ai,if_neg (Nat.lt_irrefl z),if_pos (Nat.lt_succ_self z),if_neg (by simp)];by_cases h0:(D7 g L (z:Nat) k).length=0
   ·rw [if_pos h0,if_pos h0,h0];try rfl
   ·rw [if_neg h0,if_neg h0];simp only [Cz];omega
  ·rw [if_neg (fun q=>h (by rw [hz] at q;omega))] at hs;rw [hs];by_cases h2:z<n
   ·rw [if_pos (c:=z<n) h2,if_pos (c:=z<n+1) (by omega)];omega
   ·rw [if_neg (c:=z<n) h2,if_neg (c:=z<n+1) (by omega)];omega
theorem XC {g:Geo} {L:List Int} {z k:Nat} (hk:k<=L.length):((Oh g L k).any fun x=>x.sameKey (.int .i64 (z:Int))) = !decide ((D7 g L (z:Nat) k).length=0):=by
 induction k with
 | zero=>rfl
 | succ k ih=>
  have e:Oh g L (k+1)=Oh g L k ++ [.int .i64 ((L.getD k 0).tdiv g.d)]:=by
   unfold Oh;rw [AR,Az];simp [List.getD,Ae (show k<L.length by omega)]
  rw [e,List.any_append,ih (by omega),Is];rw [List.any_cons,List.any_nil,Bool.or_false];by_cases h:(L.getD k 0).tdiv g.d=(z:Int)
  ·rw [if_pos h,h,WideAt.sameKey_self (a:= .int .i64 (z:Int)) trivial,Bool.or_true,Ai,decide_eq_false (by simp)];try rfl
  ·rw [if_neg h,sameKey_ne (fun q=>h (by injection q)),Bool.or_false]
theorem Q3 (g:Geo) (L:List Int):∀ n,MV g L 0 n=0
 | 0=>rfl
 | n+1=>by rw [MV,Q3 g L n];rfl
theorem Q6 {g:Geo} (hg:Bp g=true) {L:List Int} {B:List (List UInt8)} (h:LbOk g L B):∀ k,k<=L.length->MV g L k g.z.toNat=k+2*Maps.size (Lu g L k)
 | 0,_=>Q3 g L _
 | k+1,hk=>by
  have ih:=Q6 hg h k (by omega);have hz:=(La hg (h.i k (by omega))).1;obtain⟨z,hzz⟩:∃ z:Nat,(L.getD k 0).tdiv g.d=(z:Int):=⟨((L.getD k 0).tdiv g.d).toNat,by omega⟩;have hkey:∀ x∈Oh g L k,WideAt.IsKeyLit x:=fun x hx=>by
   obtain⟨y, -,rfl⟩:=AK.1 hx;trivial
  rw [Q5 hzz,ih,Na g L k (by omega),hzz,Lu,size_put (tidy_setOf _ _ hkey),has_setOf _ _ _ hkey,XC (by omega),if_pos (c:=z<g.z.toNat) (by omega)];by_cases h0:(D7 g L (z:Nat) k).length=0
  ·rw [if_pos h0,decide_eq_true h0,if_neg (by decide)];omega
  ·rw [if_neg h0,decide_eq_false h0,if_pos (by decide)];omega
theorem Qc {g:Geo} {s:Stt} {G:Gr} {S:Int} {L:List Int} {B:List (List UInt8)} (ht:∀ z,0<=z->z<g.z->(GF g s G z).isSome=true):∀ n:Nat,(n:Int)<=g.z->(DS g s G S L B n).length=MV g L L.length n
 | 0,_=>rfl
 | n+1,hn=>by
  have ih:=Qc (S:=S) (L:=L) (B:=B) ht n (by omega);obtain⟨t,htt⟩:=BD.1 (ht (n:Nat) (by omega) (by omega));rw [DS,MV,Ai,ih];unfold EA;split
  ·rfl
  ·rw [htt];simp only;rw [Es,EO]
theorem If {g:Geo} (hg:Bp g=true) {s:Stt} {G:Gr} {S:Int} {L:List Int} {B:List (List UInt8)} (h:LbOk g L B) (ht:∀ z,0<=z->z<g.z->(GF g s G z).isSome=true):Er g L=((DS g s G S L B g.z.toNat).length:Int)+1:=by
 have g1:=As.1 hg;have e:=Q6 hg h L.length (Ah _);rw [Qc ht _ (by omega),e];unfold Er;omega
end
section
open Go.RowKit
theorem LS {g:Geo} {seq epoch:Int} {x:Img} (hg:Bp g=true) (h2:CH seq 0 4294967295=true) (h3:CH epoch 0 4294967295=true) (h7:Bz g x=true) {k n:Nat} (hk:k<n) (hn:n<=29):ER g ⟨1,seq,epoch,(k:Nat),n+1,x⟩=true:=by
 simp only [ER,hg,Fs,HI,h2,h3,h7,Bw,Bx];simp only [if_neg (show ¬(1:Int)=0 by omega),if_true,Ad,AF];omega
theorem LR {g:Geo} {seq epoch:Int} (hg:Bp g=true) (h2:CH seq 0 4294967295=true) (h3:CH epoch 0 4294967295=true) {n:Nat} (hn:1<=n/\n<=29):ER g ⟨2,seq,epoch,(n:Nat),n+1,noImg⟩=true:=by
 simp only [ER,hg,Fs,HI,h2,h3,Bw];simp only [if_neg (show ¬(2:Int)=0 by omega),if_neg (show ¬(2:Int)=1 by omega),if_true,Ad,AF,beq_iff_eq,Ie,noImg];simp;omega
@[reducible] def delXG (L:List Int):AV:= .fn 114 [.rp [iA L]]
theorem W8 (L:List Int):Fn Tryz.prog 185 [iA [],delXG L] fun r=>r = iv (-1):=by
 refine zS Tryz.func185 rfl ?_;conv=>whnf
 refine zu 1 ?_;conv=>whnf
 repeat' (refine z_ ?_;conv=>whnf)
 exact⟨_,ri,rfl⟩
theorem UD (L:List Int):Fn Tryz.prog 113 [iA [],delXG L] fun r=>r=iA []:=by
 have h1:=W8 L;refine zS Tryz.func113 rfl ?_;conv=>whnf
 refine zZ h1 ?_;exact⟨_,ri,rfl⟩
@[reducible] def conHG (g:Geo) (s:Stt) (d:Dk) (L:List Int):List AB:=FJ g s d ++ [.box 35 [iA L]]
theorem Xg (g:Geo) (a:An) (l:List Tx) (d:Dk) (G:Gr) (L:List Int) (B:List (List UInt8)) (hg:Bp g=true) (ha:Bu g a=true) (hring:C7 g l a.seq a.pos g.sl=true) (hsm:StSm (AJ a l)) (hseq:a.seq+(l.length:Int)<=4294967295) (h:Gs (Ay g) d G) (hF:∀ a,(G a).bytes.length<=100000) (h8:∀ a,(G a).err≠8) (hLB:LbOk g L B) (hroom:Er g L<=g.sl - BX l) (hB:∀ z p,C2 l z 255=some p->p.1.bytes.length<=100000/\(BT g p.1.bytes).isSome=true) (htab:∀ z,0<=z->z<g.z->(GF g (AJ a l) G z).isSome=true) (S P:Int) (I:List Img) (N:Nat) (hS:S=a.seq+(l.length:Int)) (hP:P=(a.pos+BX l).tmod g.sl) (hI:I=DS g (AJ a l) G S L B g.z.toNat) (hN:N=I.length+1) (hIok:∀ x∈I,Bz g x=true) :
  ACalls Tryz.prog false 46 [.bp 0 0,iA L,Ev B] (FJ g (AJ a l) d) fun r H=>∃ d1,Gs (Ay g) d1 G/\(((∀ j:Nat,j<N->tW g P (CI S a.epoch I) d1 j=true)/\r = iv 0/\H=ao g (AJ a (l ++ [⟨S,P,N,I⟩])) (dW g P (CI S a.epoch I) d1 N).flush)\/∃ k:Nat,k<N/\(∀ j:Nat,j<k->tW g P (CI S a.epoch I) d1 j=true)/\tW g P (CI S a.epoch I) d1 k=false/\r = iv 14/\H=ao g { AJ a l with only:=true } (dW g P (CI S a.epoch I) d1 (k+1))):=by
 obtain⟨g1,g2,g3,g4,g5⟩:=As.1 hg;have hl30:l.length<=30:=hsm.t.1;have hlb:LogB (AJ a l).txns:=⟨by have:=hsm.t.1;omega,fun t ht=>⟨by have:=(hsm.t.2 t ht).1;omega,fun x hx=>by have:=(hsm.t.2 t ht).2 x hx;omega⟩⟩;have hun:=EF l l.length;obtain⟨a1,a2,a3,a4⟩:=Ew ha;have tsub:SubL [.ag (AT g), .ag (ED a), .sl 4 l.length fun i=>(l.map CO).getD i []] [.ag (AT g), .ag (ED a),Dl l]:=⟨ri,ri,Bb (f:=CO) l rfl rfl,tv⟩;have hneed:=If hg (S:=S) (s:=AJ a l) (G:=G) hLB htab;rw [<-hI] at hneed;have hN2:(N:Int)=Er g L:=by omega
 have hI1:1<=I.length:=by have:=hLB.n;unfold Er at hneed;omega
 have hun0:0<=BX l:=hun.1;have hN3:N<=30:=by omega
 have hmay:=Q7 g (AJ a l) d L B hg (by show l.length<=1000;omega) hLB;rw [show (AJ a l).only=false from rfl,if_neg (by decide),show (AJ a l).txns=l from rfl,if_neg (show ¬Er g L > g.sl - BX l by omega)] at hmay;have hnext:=TJ g a l hg ha hring (by omega) (fun t ht=>⟨by have:=(hsm.t.2 t ht).1;omega,fun x hx=>by have:=(hsm.t.2 t ht).2 x hx;omega⟩) (by have:=(MM hg ha).1;omega) (by have:=(MM hg ha).2.1;omega) (by omega);have himg:=QC g (AJ a l) d G L B S hg hlb ha h (fun t ht=>Au.1 (Dx hring t ht).1) hF h8 (by omega) hB hLB htab;rw [<-hS,<-hP] at hnext;rw [<-hI] at himg;have hep:0<=a.epoch/\a.epoch<=4294967295:=by
  have:=ha;simp only [Bu,AX,B7,Bx,Ad,decide_eq_true_eq,AF] at this;omega
 have hLb:∀ x∈I,x.bytes.length<=45:=fun x hx=>E_ hg (hIok x hx)
 have hrec:=XI g S a.epoch I (by omega) fun x hx=>by have:=hLb x hx;omega
 have hS1:CH S 0 4294967295=true:=AF.2 (by omega);rw [Zp hg hS1 (AF.2 hep) (Au.2 hIok) (AF.2 (by omega)),if_pos rfl] at hrec;obtain⟨R,hR⟩:∃ R,R=CI S a.epoch I:=⟨_,rfl⟩;have hRl:R.length=N:=by rw [hR,Ho,hN]
 have hRok:∀ k:Nat,k<N->ER g (R.getD k rc0)=true/\(R.getD k rc0).img.bytes.length<=100000:=fun k hk=>by
  rw [hR,Iw _ _ _ (by omega)];split
  ·rename_i q;exact⟨LS hg hS1 (AF.2 hep) (hIok _ (A6 (d:=⟨0,0, []⟩) q)) q (by omega),by have:=hLb _ (A6 (d:=(⟨0,0, []⟩:Img)) q);show (I.getD k _).bytes.length<=_;omega⟩
  ·rw [show k=I.length by omega];exact⟨LR hg hS1 (AF.2 hep) (by omega),Aj _⟩
 have hPb:∀ i:Nat,i<N->0<=Db g P (i:Nat)/\Db g P (i:Nat)<g.sl:=fun i hi=>HT hg (pos:=P) (at_:=(i:Nat)) (by rw [hP];exact⟨Bk _ (by unfold BX;omega),AY _ (by omega)⟩) (by omega)
 rw [<-hR] at hrec |-
 refine zT tys_ok Tryz.func46 rfl rfl (Ag rfl) ?_;conv=>whnf
 refine zd [0,1,2,3,4] hmay ?_;rintro _ _ ⟨rfl,rfl⟩;conv=>whnf
 apply zW (0) tys_ok mixed (.o [0,1,2,3,4,5,6,7,8,9,10,11,12,13,14,15,16,17,18,19,20,21] .fin) (by kernel_rfl);conv=>whnf
 (refine zp (args':= [.ag (AT g), .ag (ED a), .sl 4 l.length fun i=>(l.map CO).getD i []]) (hnext.subA tsub) ⟨(Ab _).symm,rfl⟩ ?_;rintro _ rfl;refine⟨rfl,?_⟩)
 conv=>whnf
 refine zd [0,1,2,3,4] himg ?_;rintro _ _ ⟨rfl,d1,hd1,rfl⟩;have hok:=Qx hg (P:=P) (R:=R) (fun i hi=>(hRok i hi).1) hPb hd1.ok hd1.left hd1.len;conv=>whnf
 repeat' (refine z_ ?_;conv=>whnf)
 apply zW (0) tys_ok mixed (.o [0,1,2,3,4,5,6,7,8,9,10,11,12,13,14,15,16,17] .fin) (by kernel_rfl);conv=>whnf
 refine zZ hrec ?_;conv=>whnf
 refine zU Nat (fun i=>([(0, .bp 0 0),(4, .bp 5 0),(8,iv P),(9,iv S),(10,Dm I),(11,LQ R),(73,LQ R),(74,iv R.length),(75,iv (i:Nat))],conHG g (AJ a l) (dW g P R d1 i) L)) (fun i=>i<=N/\∀ j:Nat,j<i->tW g P R d1 j=true) (fun i=>N - i) 0 ⟨Aj _,fun j hj=>absurd hj (Ap j)⟩
  (zR (s:= [0,1,2,3,4,5]) tA) ?_
 rintro i ⟨hi,hT⟩;by_cases hi4:i<N
 ·obtain⟨q1,q2,q3⟩:=hok i (by omega);have hbo:=UV g (AJ a l) (dW g P R d1 i) (R.getD i rc0) (Db g P (i:Nat)) hg (hRok i hi4).1 (hRok i hi4).2 (hPb i hi4) q1 q2 q3;cases ht:tW g P R d1 i with
  | true=>
   rw [show ak g (dW g P R d1 i) (R.getD i rc0) (Db g P (i:Nat))=true from ht] at hbo;conv=>whnf
   rw [show decide ((i:Int)<(R.length:Nat))=true from decide_eq_true (by omega)];conv=>whnf
   repeat' (refine z_ ?_;conv=>whnf)
   refine⟨⟨by omega,by omega⟩,?_⟩;conv=>whnf
   rw [Ac];repeat' (refine z_ ?_;conv=>whnf)
   apply zW (2 ^ 139) tys_ok mixed (.o [0,1,2,3,4,5,6,7,8,9,10,11,12,13,14,15,16] .fin) (by kernel_rfl);conv=>whnf
   try (refine tI ?_;conv=>whnf)
   (refine zd [0,1,2,3,4] hbo ?_;rintro _ _ ⟨rfl,rfl⟩)
   conv=>whnf
   conv=>whnf
   repeat' (refine z_ ?_;conv=>whnf)
   exact⟨i+1,⟨by omega,fun j hj=>by by_cases e:j=i;exact e ▸ ht;exact hT j (by omega)⟩,by omega,zR (s:= [0,1,2,3,4,5]) ⟨⟨rfl,rfl,rfl,rfl,rfl,rfl,rfl,rfl,AH (by omega),tv⟩,tA,rfl,rfl,rfl,rfl,rfl⟩⟩
  | false=>
   rw [show ak g (dW g P R d1 i) (R.getD i rc0) (Db g P (i:Nat))=false from ht] at hbo;conv=>whnf
   rw [show decide ((i:Int)<(R.length:Nat))=true from decide_eq_true (by omega)];conv=>whnf
   repeat' (refine z_ ?_;conv=>whnf)
   refine⟨⟨by omega,by omega⟩,?_⟩;conv=>whnf
   rw [Ac];repeat' (refine z_ ?_;conv=>whnf)
   apply zW (2 ^ 139) tys_ok mixed (.o [0,1,2,3,4,5,6,7,8,9,10,11,12,13,14,15,16] .fin) (by kernel_rfl);conv=>whnf
   try (refine tI ?_;conv=>whnf)
   (refine zd [0,1,2,3,4] hbo ?_;rintro _ _ ⟨rfl,rfl⟩)
   conv=>whnf
   conv=>whnf
   repeat' (refine z_ ?_;conv=>whnf)
   exact⟨_,iv 14,ao g { AJ a l with only:=true } (dW g P R d1 (i+1)),fun _ _ h=>h,zF (zK (zx (QZ (s:={ AJ a l with only:=true }) (T:=l) rfl rfl rfl rfl) (zv 1 3 (by decide) rfl rfl))) (s:= [0,1,2,3,4,7]) tA,d1,hd1, .inr ⟨i,hi4,hT,ht,rfl,rfl⟩⟩
 ·have ei:N=i:=by omega
  subst ei;obtain⟨q1,q2,q3⟩:=hok N (Ah _);have hfl:=Sb (dW g P R d1 N) q1.l q1.m fun w hw=>(q1.w w hw).1
  rw [if_neg (by rw [q2];decide),if_neg (by rw [q2];decide)] at hfl;have hdel:=UD L;conv=>whnf
  rw [show decide ((N:Int)<(R.length:Nat))=false from decide_eq_false (by omega)];conv=>whnf
  repeat' (refine z_ ?_;conv=>whnf)
  refine zd [1,2,3] hfl ?_;rintro _ _ ⟨rfl,rfl⟩;conv=>whnf
  repeat' (refine z_ ?_;conv=>whnf)
  refine⟨rfl,?_⟩;conv=>whnf
  refine Af ⟨by rw [Ab],by show l.length+1<=1000000000;omega⟩ ?_;conv=>whnf
  repeat' (refine z_ ?_;conv=>whnf)
  refine zZ hdel ?_;conv=>whnf
  have e4:((R.length:Nat):Int)=N:=by omega
  rw [e4];exact⟨_,iv 0,ao g (AJ a (l ++ [⟨S,P,N,I⟩])) (dW g P R d1 N).flush,fun _ _ h=>h,zF (zK (QZ (T:=l ++ [⟨S,P,N,I⟩]) rfl rfl (by rw [Ai];try rfl) (by rw [Az];try rfl))) (s:= [0,1,2,3,4,6]) tA,d1,hd1, .inl ⟨hT,rfl,rfl⟩⟩
theorem Q1 (g:Geo) (s:Stt) (d:Dk) (L:List Int) (B:List (List UInt8)) (e:Int) (hg:Bp g=true) (hl:s.txns.length<=1000) (hLB:LbOk g L B) (he:e=if s.only then 15 else if Er g L > g.sl - BX s.txns then 21 else 0) (h0:e≠0) :
  ACalls Tryz.prog false 46 [.bp 0 0,iA L,Ev B] (FJ g s d) fun r H=>r = iv e/\H=ao g s d:=by
 have hmay:=Q7 g s d L B hg hl hLB;rw [<-he] at hmay;refine zT tys_ok Tryz.func46 rfl rfl (Ag rfl) ?_;conv=>whnf
 refine zd [0,1,2,3,4] hmay ?_;rintro _ _ ⟨rfl,rfl⟩;conv=>whnf
 repeat' (refine z_ ?_;conv=>whnf)
 rw [show (e != 0)=true from bne_iff_ne.2 h0];exact⟨_,iv e,ao g s d,fun _ _ h=>h,zF (zK (zx (QZ (s:=s) (T:=s.txns) rfl rfl rfl rfl) (zv 1 3 (by decide) rfl rfl))) (s:= [0,1,2,3,4,6]) tA,rfl,rfl⟩
theorem Qz (g:Geo) (s:Stt) (d:Dk) (L:List Int) (B:List (List UInt8)) (hg:Bp g=true) (h:DkOk d) (hst:LF g d s=true) (hsm:StSm s) (hLB:LbOk g L B) (h0:s.only=true\/Er g L > g.sl - BX s.txns) :
  Fn Tryz.prog 16 [.ag (AT g), .ag (EN d), .ag (EB s),iA L,Ev B] fun r=>r = .tp [.ag (EB st0), .ag (EN d),iv (if s.only then 15 else 21)]:=by
 have c1:=Pc g d s h hst hsm;have c4:=ML g s d h;cases ho:s.only with
 | true=>
  rw [if_pos rfl];have c2:=Q1 g s d L B 15 hg (by have:=hsm.t.1;omega) hLB (by rw [ho,if_pos rfl]) (by decide);refine zS Tryz.func16 rfl ?_;conv=>whnf
  refine zV c1 rfl ?_;rintro _ _ ⟨rfl,rfl⟩;conv=>whnf
  refine zd [5,6,7,8,9] c2 ?_;rintro _ _ ⟨rfl,rfl⟩;conv=>whnf
  repeat' (refine z_ ?_;conv=>whnf)
  refine zd [5,6,7,8,10] c4 ?_;rintro _ _ ⟨rfl,rfl⟩;exact⟨.tp [.ag (EB st0), .ag (EN d),iv 15],BW ⟨Bi st0_sub,ri,ri,tv⟩,rfl⟩
 | false=>
  rw [if_neg (by decide)];have hr:Er g L > g.sl - BX s.txns:=h0.resolve_left (by rw [ho];decide);have c2:=Q1 g s d L B 21 hg (by have:=hsm.t.1;omega) hLB (by rw [ho,if_neg (by decide),if_pos hr]) (by decide);refine zS Tryz.func16 rfl ?_;conv=>whnf
  refine zV c1 rfl ?_;rintro _ _ ⟨rfl,rfl⟩;conv=>whnf
  refine zd [5,6,7,8,9] c2 ?_;rintro _ _ ⟨rfl,rfl⟩;conv=>whnf
  repeat' (refine z_ ?_;conv=>whnf)
  refine zd [5,6,7,8,10] c4 ?_;rintro _ _ ⟨rfl,rfl⟩;exact⟨.tp [.ag (EB st0), .ag (EN d),iv 21],BW ⟨Bi st0_sub,ri,ri,tv⟩,rfl⟩
theorem QF (g:Geo) (a:An) (l:List Tx) (d:Dk) (G:Gr) (L:List Int) (B:List (List UInt8)) (hg:Bp g=true) (ha:Bu g a=true) (hring:C7 g l a.seq a.pos g.sl=true) (hst:LF g d (AJ a l)=true) (hsm:StSm (AJ a l)) (hseq:a.seq+(l.length:Int)<=4294967295) (h:Gs (Ay g) d G) (hF:∀ a,(G a).bytes.length<=100000) (h8:∀ a,(G a).err≠8) (hLB:LbOk g L B) (hroom:Er g L<=g.sl - BX l) (hB:∀ z p,C2 l z 255=some p->p.1.bytes.length<=100000/\(BT g p.1.bytes).isSome=true) (htab:∀ z,0<=z->z<g.z->(GF g (AJ a l) G z).isSome=true) (S P:Int) (I:List Img) (N:Nat) (hS:S=a.seq+(l.length:Int)) (hP:P=(a.pos+BX l).tmod g.sl) (hI:I=DS g (AJ a l) G S L B g.z.toNat) (hN:N=I.length+1) (hIok:∀ x∈I,Bz g x=true) (hsm2:StSm (AJ a (l ++ [⟨S,P,N,I⟩]))) :
  Fn Tryz.prog 16 [.ag (AT g), .ag (EN d), .ag (EB (AJ a l)),iA L,Ev B] fun r=>∃ d1,Gs (Ay g) d1 G/\(((∀ j:Nat,j<N->tW g P (CI S a.epoch I) d1 j=true)/\r = .tp [.ag (EB (AJ a (l ++ [⟨S,P,N,I⟩]))), .ag (EN (dW g P (CI S a.epoch I) d1 N).flush),iv 0])\/∃ k:Nat,k<N/\(∀ j:Nat,j<k->tW g P (CI S a.epoch I) d1 j=true)/\tW g P (CI S a.epoch I) d1 k=false/\r = .tp [.ag (EB { AJ a l with only:=true }), .ag (EN (dW g P (CI S a.epoch I) d1 (k+1))),iv 14]):=by
 have c1:=Pc g d (AJ a l) h.ok hst hsm;have c2:=Xg g a l d G L B hg ha hring hsm hseq h hF h8 hLB hroom hB htab S P I N hS hP hI hN hIok;have hsm3:StSm { AJ a l with only:=true }:=⟨hsm.h,hsm.l,hsm.t,hsm.o⟩;obtain⟨g1,g2,g3,g4,g5⟩:=As.1 hg;have hun:=EF l l.length;have hep:0<=a.epoch/\a.epoch<=4294967295:=by
  have:=ha;simp only [Bu,AX,B7,Bx,Ad,decide_eq_true_eq,AF] at this;omega
 obtain⟨a1,a2,a3,a4⟩:=Ew ha;have hneed:=If hg (S:=S) (s:=AJ a l) (G:=G) hLB htab;rw [<-hI] at hneed;have hI1:1<=I.length:=by have:=hLB.n;unfold Er at hneed;omega
 have hun0:0<=BX l:=hun.1;have hN3:N<=30:=by omega
 have hS1:CH S 0 4294967295=true:=AF.2 (by omega);have hRok:∀ k:Nat,k<N->ER g ((CI S a.epoch I).getD k rc0)=true:=fun k hk=>by
  rw [Iw _ _ _ (by omega)];split
  ·rename_i q;exact LS hg hS1 (AF.2 hep) (hIok _ (A6 (d:=⟨0,0, []⟩) q)) q (by omega)
  ·rw [show k=I.length by omega];exact LR hg hS1 (AF.2 hep) (by omega)
 have hPb:∀ i:Nat,i<N->0<=Db g P (i:Nat)/\Db g P (i:Nat)<g.sl:=fun i hi=>HT hg (pos:=P) (at_:=(i:Nat)) (by rw [hP];exact⟨Bk _ (by unfold BX;omega),AY _ (by omega)⟩) (by omega)
 refine zS Tryz.func16 rfl ?_;conv=>whnf
 refine zV c1 rfl ?_;rintro _ _ ⟨rfl,rfl⟩;conv=>whnf
 refine zd [5,6,7,8,9] c2 ?_;rintro _ _ ⟨d1,hd1,⟨hT,rfl,rfl⟩ | ⟨k,hk,hT,hTk,rfl,rfl⟩⟩
 ·have hok:=Qx hg hRok hPb hd1.ok hd1.left hd1.len N (Ah _);have c3:=QI _ hsm2;have c4:=ML g (AJ a (l ++ [⟨S,P,N,I⟩])) (dW g P (CI S a.epoch I) d1 N).flush hok.1.flush;conv=>whnf
  repeat' (refine z_ ?_;conv=>whnf)
  refine zZ c3 ?_;conv=>whnf
  refine zd [5,6,7,8,10] c4 ?_;rintro _ _ ⟨rfl,rfl⟩;exact⟨_,ri,d1,hd1, .inl ⟨hT,rfl⟩⟩
 ·have hok:=Qx hg hRok hPb hd1.ok hd1.left hd1.len (k+1) (by omega);have c3:=QI _ hsm3;have c4:=ML g { AJ a l with only:=true } (dW g P (CI S a.epoch I) d1 (k+1)) hok.1;conv=>whnf
  repeat' (refine z_ ?_;conv=>whnf)
  refine zZ c3 ?_;conv=>whnf
  refine zd [5,6,7,8,10] c4 ?_;rintro _ _ ⟨rfl,rfl⟩;exact⟨_,ri,d1,hd1, .inr ⟨k,hk,hT,hTk,rfl⟩⟩
theorem OO {z:Int} {t:List Ent} {par:List UInt8} {ats:List Int} {bs:List (List UInt8)}:∀ x∈BU z t par ats bs,x.zone=z:=fun x hx=>by
 unfold BU at hx;rcases A0.1 hx with q | q
 ·obtain⟨i, -,rfl⟩:=AK.1 q;rfl
 ·simp only [AQ,Du,or_false] at q;rcases q with rfl | rfl <;> rfl
theorem KJ {g:Geo} {s:Stt} {G:Gr} {S:Int} {L:List Int} {B:List (List UInt8)} {z:Int}:∀ x∈EA g s G S L B z,x.zone=z:=fun x hx=>by
 unfold EA at hx;split at hx
 ·cases hx
 ·split at hx
  ·exact OO x hx
  ·cases hx
theorem Uq {g:Geo} (hg:Bp g=true) {s:Stt} {G:Gr} {S:Int} {L:List Int} {B:List (List UInt8)} (himg:∀ t∈s.txns,∀ x∈t.images,Bz g x=true) (hs:0<=S/\S<=4294967295) (hLB:LbOk g L B) {z:Int} (hz:0<=z/\z<g.z):(∀ x∈EA g s G S L B z,Bz g x=true)/\∀ l,OneTab l->(∀ x∈l,x.zone<z)->OneTab (l ++ EA g s G S L B z):=by
 obtain⟨g1,g2,g3,g4,g5⟩:=As.1 hg;have hA:∀ a∈DO g L z L.length,0<=a/\a<g.d:=fun a ha=>by
  obtain⟨i,hi,rfl⟩:=AK.1 ha;have:=hLB.i i (It hi).1;exact⟨Bk _ this.1,AY _ (by omega)⟩
 have hle:(DO g L z L.length).length<=(Eg g L B z L.length).length:=by rw [EO,Iz];exact Ah _
 unfold EA;split
 ·exact⟨fun x hx=>(by cases hx),fun l h _=>by rw [AL];exact h⟩
 ·split
  ·rename_i t ht;exact⟨fun x hx=>(Jj hg hz (EU hg (Oo ht) hs) (EI (Mq hg himg).2 (SI hLB) hle _) hA (SI hLB) hle x hx).1,fun l h h2=>Il hg h h2 hA⟩
  ·exact⟨fun x hx=>(by cases hx),fun l h _=>by rw [AL];exact h⟩
theorem NG {g:Geo} {s:Stt} {G:Gr} {S:Int} {L:List Int} {B:List (List UInt8)}:∀ k,∀ x∈DS g s G S L B k,x.zone<(k:Nat)
 | 0,x,hx=>by cases hx
 | k+1,x,hx=>by
  rw [DS] at hx;rcases A0.1 hx with q | q
  ·have:=NG k x q;omega
  ·have:=KJ x q;omega
theorem ON {g:Geo} (hg:Bp g=true) {s:Stt} {G:Gr} {S:Int} {L:List Int} {B:List (List UInt8)} (himg:∀ t∈s.txns,∀ x∈t.images,Bz g x=true) (hs:0<=S/\S<=4294967295) (hLB:LbOk g L B):∀ k:Nat,(k:Int)<=g.z->(∀ x∈DS g s G S L B k,Bz g x=true)/\OneTab (DS g s G S L B k)
 | 0,_=>⟨fun x hx=>(by cases hx),List.Pairwise.nil⟩
 | k+1,hk=>by
  obtain⟨h1,h2⟩:=ON hg himg hs hLB k (by omega);obtain⟨h3,h4⟩:=Uq hg (s:=s) (G:=G) himg hs hLB (z:=(k:Nat)) ⟨by omega,by omega⟩;rw [DS];refine⟨fun x hx=>?_,h4 _ h2 (NG k)⟩;rcases A0.1 hx with q | q
  ·exact h1 x q
  ·exact h3 x q
theorem OX {g:Geo} {s:Stt} {G:Gr} {S:Int} {L:List Int} {B:List (List UInt8)} {z:Nat} {w:Int}:∀ k,Cd (DS g s G S L B k) (z:Nat) w (DS g s G S L B k).length=if z<k then Cd (EA g s G S L B (z:Nat)) (z:Nat) w (EA g s G S L B (z:Nat)).length else none
 | 0=>by rw [if_neg (by omega)];rfl
 | k+1=>by
  rw [DS,Ai,NT _ _ _ _ _ (Ah _),OX k];by_cases h:z=k
  ·subst h;rw [if_neg (Nat.lt_irrefl _),if_pos (by omega)];split
   ·rename_i h;exact h.symm
   ·rename_i h;exact h.symm
  ·rw [Hz (l:=EA g s G S L B (k:Nat)) (fun x hx=>by have:=KJ x hx;omega) _ (Ah _)];simp only;by_cases h2:z<k
   ·rw [if_pos h2,if_pos (by omega)]
   ·rw [if_neg h2,if_neg (by omega)]
theorem LY (l m:List Int) (l' m':List (List UInt8)) (h:l.length=l'.length) (w:Nat):∀ k,k<=l.length->CR (l ++ m) (l' ++ m') w k=CR l l' w k
 | 0,_=>rfl
 | k+1,hk=>by
  have e1:(l ++ m).getD k 0=l.getD k 0:=by
   rw [Aa,Aa,A5 (by omega)]
  have e2:(l' ++ m').getD k []=l'.getD k []:=by
   rw [Aa,Aa,A5 (by omega)]
  rw [CR,CR,e1,e2,LY l m l' m' h w k (by omega)]
theorem PJ {g:Geo} (hg:Bp g=true) {L:List Int} {B:List (List UInt8)} (hLB:LbOk g L B) {z w:Int} (hz:0<=z) (hw:0<=w/\w<g.d):∀ k,k<=L.length->CR (DO g L z k) (Eg g L B z k) w.toNat (D7 g L z k).length=CR L B (z*g.d+w).toNat k
 | 0,_=>rfl
 | k+1,hk=>by
  obtain⟨g1,g2,g3,g4,g5⟩:=As.1 hg;have ih:=PJ hg hLB hz hw k (by omega);have hL:=hLB.i k (by omega);have e1:=D5 (L.getD k 0) g.d;have hzd:0<=z*g.d:=CL hz (by omega);have et:(L.getD k 0).tdiv g.d=L.getD k 0 / g.d:=Bn hL.1;have hm:0<=(L.getD k 0).tmod g.d/\(L.getD k 0).tmod g.d<g.d:=⟨Bk _ hL.1,AY _ (by omega)⟩;rw [CR];unfold DO Eg;rw [Is];by_cases h:(L.getD k 0).tdiv g.d=z
  ·rw [if_pos h,Az,Az,Ai];show CR (_ ++ [_]) (_ ++ [_]) w.toNat ((D7 g L z k).length+1)=_;have l1:((D7 g L z k).map fun i=>(L.getD i 0).tmod g.d).length=(D7 g L z k).length:=Ab _;have l2:((D7 g L z k).map fun i=>B.getD i []).length=(D7 g L z k).length:=Ab _;have a1:(((D7 g L z k).map fun i=>(L.getD i 0).tmod g.d) ++ [(L.getD k 0).tmod g.d]).getD (D7 g L z k).length 0=(L.getD k 0).tmod g.d:=by
    rw [Aa,A2 (by omega),l1,Cq];try rfl
   have a2:(((D7 g L z k).map fun i=>B.getD i []) ++ [B.getD k []]).getD (D7 g L z k).length []=B.getD k []:=by
    rw [Aa,A2 (by omega),l2,Cq];try rfl
   rw [CR,a1,a2,LY _ _ _ _ (by rw [l1,l2]) _ _ (by rw [l1];exact Ah _)];rw [h,Int.mul_comm] at e1;by_cases h2:(L.getD k 0).tmod g.d=w
   ·rw [if_pos (by omega),if_pos (by omega)]
   ·rw [if_neg (by omega),if_neg (by omega)];exact ih
  ·rw [if_neg h,if_neg ?_]
   ·exact ih
   ·intro q;have q2:L.getD k 0=z*g.d+w:=by omega
    apply h;rw [et,q2,Int.add_comm,Int.add_mul_ediv_right _ _ (by omega),Int.ediv_eq_zero_of_lt hw.1 hw.2,Int.zero_add]
def IV (m:List (List UInt8)) (L:List Int) (B:List (List UInt8)):Nat->List (List UInt8)
 | 0=>m
 | k+1=>(IV m L B k).set (L.getD k 0).toNat (B.getD k [])
theorem GO (m:List (List UInt8)) (L:List Int) (B:List (List UInt8)):∀ k,(IV m L B k).length=m.length
 | 0=>rfl
 | k+1=>by rw [IV,AW,GO m L B k]
theorem Px {m:List (List UInt8)} {L:List Int} {B:List (List UInt8)} (h:∀ i,i<L.length->0<=L.getD i 0/\L.getD i 0<(m.length:Nat)) (n:Nat):∀ k,k<=L.length->(IV m L B k).getD n []=match CR L B n k with
  | some b=>b
  | none=>m.getD n []
 | 0,_=>rfl
 | k+1,hk=>by
  have hL:=h k (by omega);rw [IV,CR,Aa,List.getElem?_set,GO];by_cases e:L.getD k 0=(n:Nat)
  ·rw [if_pos (by omega),if_pos (by omega),if_pos e];try rfl
  ·rw [if_neg (by omega),if_neg e,<-Aa];exact Px h n k (by omega)
def Pi (g:Geo) (M:Md) (G:Gr) (L:List Int) (B:List (List UInt8)):Tx:=⟨M.a.seq+(M.l.length:Int),(M.a.pos+BX M.l).tmod g.sl,(DS g (AJ M.a M.l) G (M.a.seq+(M.l.length:Int)) L B g.z.toNat).length+1,DS g (AJ M.a M.l) G (M.a.seq+(M.l.length:Int)) L B g.z.toNat⟩
def aX (g:Geo) (M:Md) (G:Gr) (L:List Int) (B:List (List UInt8)):Md:=⟨M.a,M.l ++ [Pi g M G L B],M.F,IV M.m L B L.length⟩
theorem Clv.tab {g:Geo} (hg:Bp g=true) {K:Int} {d:Dk} {M:Md} (h:Clv g K d M) {z:Int} (h0:0<=z) (h1:z<g.z):∃ t,GF g (AJ M.a M.l) (CP d) z=some t/\EP g (AJ M.a M.l) M.F z=some t/\Fo g (AJ M.a M.l) (CP d) t z=Dg g (AJ M.a M.l) M.F t z:=by
 obtain⟨-,V,hV, -⟩:=h.rd;obtain⟨t,ht⟩:=hV z h0 h1;exact⟨t,by rw [Sy hg ⟨h0,h1⟩ h.fg];exact ht.tab,ht.tab,Y8 hg h.vo.an ⟨h0,h1⟩ h.fg⟩
theorem Q8 {g:Geo} (hg:Bp g=true) {K:Int} {d:Dk} {M:Md} (h:Clv g K d M) {L:List Int} {B:List (List UInt8)} {z:Int} (h0:0<=z) (h1:z<g.z):∃ t,EP g (AJ M.a M.l) M.F z=some t/\∀ w,w=255\/(-1<=w/\w<g.d)->LbOk g L B->Cd (Pi g M (CP d) L B).images z w (Pi g M (CP d) L B).images.length=if (D7 g L z L.length).length=0 then none else if w=255 then some ⟨z,255,CW (Br g t (Dg g (AJ M.a M.l) M.F t z) (DO g L z L.length) (Eg g L B z L.length) (Pi g M (CP d) L B).seq)⟩ else if w = -1 then some ⟨z, -1,DA g t (Dg g (AJ M.a M.l) M.F t z) (DO g L z L.length) (Eg g L B z L.length) g.d.toNat⟩ else RQ z (DO g L z L.length) (Eg g L B z L.length) w:=by
 obtain⟨g1,g2,g3,g4,g5⟩:=As.1 hg;obtain⟨t,e1,e2,e3⟩:=h.tab hg h0 h1;refine⟨t,e2,fun w hw hLB=>?_⟩;obtain⟨n,rfl⟩:∃ n:Nat,z=(n:Nat):=⟨z.toNat,by omega⟩;show Cd (DS g (AJ M.a M.l) (CP d) (M.a.seq+(M.l.length:Int)) L B g.z.toNat) _ w (DS g (AJ M.a M.l) (CP d) (M.a.seq+(M.l.length:Int)) L B g.z.toNat).length=_;rw [OX,if_pos (by omega)];unfold EA;by_cases hs:(D7 g L (n:Nat) L.length).length=0
 ·rw [if_pos hs,if_pos hs];try rfl
 ·rw [if_neg hs,if_neg hs,e1];simp only;rw [e3];exact H0 _ _ _ _ _ (fun a ha=>by
   obtain⟨i,hi,rfl⟩:=AK.1 ha;have:=hLB.i i (It hi).1;have q1:=Bk g.d this.1;have q2:=AY (L.getD i 0) (show 0<g.d by omega);omega) w (by omega)
theorem Clv.addN {g:Geo} (hg:Bp g=true) {K:Int} {d d':Dk} {M:Md} (h:Clv g K d M) (hK:K<=4294967294) {L:List Int} {B:List (List UInt8)} (hLB:LbOk g L B) (hroom:Er g L<=g.sl - BX M.l) (hu:Un g d') (hf:∀ q,g.an+2*g.sl<=q->q<Ay g->CP d' q=CP d q):Clv g (K+1) d' (aX g M (CP d) L B):=by
 obtain⟨g1,g2,g3,g4,g5⟩:=As.1 hg;obtain⟨d0,h0⟩:=h.gd;obtain⟨hm,V,hV,hE⟩:=h.rd;have hvol:=h.vo.vol h0;have ha:Bu g M.a=true:=h.vo.an;obtain⟨a1,a2,a3,a4⟩:=Ew ha;have hseq:M.a.seq+(M.l.length:Int)<=K:=h.vo.seq;have hS:0<=M.a.seq+(M.l.length:Int)/\M.a.seq+(M.l.length:Int)<=4294967295:=by omega
 have himg:∀ t∈(AJ M.a M.l).txns,∀ x∈t.images,Bz g x=true:=fun t ht=>Au.1 (Dx h.vo.ring t ht).1
 have htab:∀ z,0<=z->z<g.z->(GF g (AJ M.a M.l) (CP d) z).isSome=true:=fun z q0 q1=>by
  obtain⟨t,e, -⟩:=h.tab hg q0 q1;rw [e];try rfl
 obtain⟨i1,i2⟩:=ON hg (s:=AJ M.a M.l) (G:=CP d) himg hS hLB g.z.toNat (by omega);have hneed:=If hg (S:=M.a.seq+(M.l.length:Int)) (s:=AJ M.a M.l) (G:=CP d) hLB htab;have hn1:1<=(DS g (AJ M.a M.l) (CP d) (M.a.seq+(M.l.length:Int)) L B g.z.toNat).length:=by have:=hLB.n;unfold Er at hneed;omega
 have hAdd:∀ z,0<=z->z<g.z->aj g M.a M.l M.F (Pi g M (CP d) L B) z:=fun z q0 q1=>by
  obtain⟨t,e1,e2⟩:=Q8 hg h (L:=L) (B:=B) q0 q1;by_cases hs:(D7 g L z L.length).length=0
  ·refine .inl fun w=>?_
   obtain⟨n,rfl⟩:∃ n:Nat,z=(n:Nat):=⟨z.toNat,by omega⟩;show Cd (DS g (AJ M.a M.l) (CP d) (M.a.seq+(M.l.length:Int)) L B g.z.toNat) _ w (DS g (AJ M.a M.l) (CP d) (M.a.seq+(M.l.length:Int)) L B g.z.toNat).length=_;rw [OX,if_pos (by omega)];unfold EA;rw [if_pos hs];try rfl
  ·refine .inr ⟨t,DO g L z L.length,Eg g L B z L.length,e1,by rw [EO,Iz],SI hLB,fun w hw=>?_⟩;rw [e2 w hw hLB,if_neg hs]
 have hV2:=QQ hg (x:=Pi g M (CP d) L B) hS himg hV hAdd;have hvol2:Vol g (K+1) d0 (AJ M.a (M.l ++ [Pi g M (CP d) L B])):=hvol.add hg hK hvol.gd (x:=Pi g M (CP d) L B) rfl rfl (by show (2:Int)<=((_:Nat):Int)+1;omega) (by show ((_:Nat):Int)+1<=_;rw [<-hneed];exact hroom) rfl i1 i2;have hLm:∀ i,i<L.length->0<=L.getD i 0/\L.getD i 0<(M.m.length:Nat):=fun i hi=>by have:=hLB.i i hi;omega
 refine⟨hu,fun q q1 q2=>(hf q q1 q2).trans (h.fg q q1 q2),⟨d0,h0⟩,Vo.of hvol2 h.vo.fb (by show ((IV M.m L B L.length).length:Int)=_;rw [GO];exact hm),?_,_,hV2,fun z w q0 q1 q2 q3=>?_⟩
 ·show ((IV M.m L B L.length).length:Int)=_;rw [GO];exact hm
 ·show (IV M.m L B L.length).getD (z*g.d+w).toNat []=_;obtain⟨t,e1,e2⟩:=Q8 hg h (L:=L) (B:=B) q0 q1;have e3:=e2 w (.inr ⟨by omega,q3⟩) hLB;rw [if_neg (show ¬w=255 by omega),if_neg (show ¬w = -1 by omega)] at e3;have e4:=PJ hg hLB q0 ⟨q2,q3⟩ L.length (Ah _);rw [Px hLm _ _ (Ah _),<-e4];unfold Sw;rw [e3];by_cases hs:(D7 g L z L.length).length=0
  ·rw [if_pos hs,hs];exact hE z w q0 q1 q2 q3
  ·rw [if_neg hs,RQ,EO];cases CR (DO g L z L.length) (Eg g L B z L.length) w.toNat (D7 g L z L.length).length with
   | some b=>rfl
   | none=>exact hE z w q0 q1 q2 q3
theorem Xi {g:Geo} {K:Int} {d:Dk} {M:Md} {L:List Int} {B:List (List UInt8)} (hg:Bp g=true) (h:Clv g K d M) (hfree:∀ q,stuck d q=false) (hK:K<=4294967294) (hLB:LbOk g L B) (hroom:Er g L<=g.sl - BX M.l) :
  Fn Tryz.prog 16 [.ag (AT g), .ag (EN d), .ag (EB (AJ M.a M.l)),iA L,Ev B] fun r=>∃ d',Clv g (K+1) d' (aX g M (CP d) L B)/\r = .tp [.ag (EB (AJ M.a (M.l ++ [Pi g M (CP d) L B]))), .ag (EN d'),iv 0]:=by
 obtain⟨g1,g2,g3,g4,g5⟩:=As.1 hg;obtain⟨d0,h0⟩:=h.gd;have hvol:=h.vo.vol h0;have hd:=h.un;have ha:Bu g M.a=true:=h.vo.an;obtain⟨a1,a2,a3,a4⟩:=Ew ha;have hseq:M.a.seq+(M.l.length:Int)<=K:=h.vo.seq;have hS:0<=M.a.seq+(M.l.length:Int)/\M.a.seq+(M.l.length:Int)<=4294967295:=by omega
 have himg:∀ t∈(AJ M.a M.l).txns,∀ x∈t.images,Bz g x=true:=fun t ht=>Au.1 (Dx h.vo.ring t ht).1
 have htab:∀ z,0<=z->z<g.z->(GF g (AJ M.a M.l) (CP d) z).isSome=true:=fun z q0 q1=>by
  obtain⟨t,e, -⟩:=h.tab hg q0 q1;rw [e];try rfl
 obtain⟨i1,i2⟩:=ON hg (s:=AJ M.a M.l) (G:=CP d) himg hS hLB g.z.toNat (by omega);have hneed:=If hg (S:=M.a.seq+(M.l.length:Int)) (s:=AJ M.a M.l) (G:=CP d) hLB htab;have hun0:0<=BX M.l:=(EF M.l M.l.length).1;have hadd:=h.addN hg hK hLB hroom (d':=d) hd (fun _ _ _=>rfl);have hvol2:Vol g (K+1) d0 (AJ M.a (M.l ++ [Pi g M (CP d) L B])):=hadd.vo.vol h0;have hst:=hvol.st2 hg hd.ok hd.len false;have hc:=QF g M.a M.l d (CP d) L B hg ha h.vo.ring hst (hvol.sm hg) hS.2 (Gs.of hd.ok hd.left hd.len) (fun a=>(Lq hd.ok a).1) (fun a=>(Lq hd.ok a).2) hLB hroom (fun z=>Sz hg himg) htab (M.a.seq+(M.l.length:Int)) ((M.a.pos+BX M.l).tmod g.sl) _ _ rfl rfl rfl rfl i1 (hvol2.sm hg);obtain⟨I,hI⟩:∃ I,I=DS g (AJ M.a M.l) (CP d) (M.a.seq+(M.l.length:Int)) L B g.z.toNat:=⟨_,rfl⟩;have hx:Pi g M (CP d) L B=⟨M.a.seq+(M.l.length:Int),(M.a.pos+BX M.l).tmod g.sl,(I.length+1:Nat),I⟩:=by rw [hI];try rfl
 rw [<-hI] at hc hneed i1;have hep:0<=M.a.epoch/\M.a.epoch<=4294967295:=by
  have:=ha;simp only [Bu,AX,B7,Bx,Ad,decide_eq_true_eq,AF] at this;omega
 have hN3:I.length+1<=30:=by omega
 have hI1:1<=I.length:=by have:=hLB.n;unfold Er at hneed;omega
 have hS1:CH (M.a.seq+(M.l.length:Int)) 0 4294967295=true:=AF.2 hS;have hRok:∀ k:Nat,k<I.length+1->ER g ((CI (M.a.seq+(M.l.length:Int)) M.a.epoch I).getD k rc0)=true:=fun k hk=>by
  rw [Iw _ _ _ (by omega)];split
  ·rename_i q;exact LS hg hS1 (AF.2 hep) (i1 _ (A6 (d:=⟨0,0, []⟩) q)) q (by omega)
  ·rw [show k=I.length by omega];exact LR hg hS1 (AF.2 hep) (by omega)
 have hPb:∀ i:Nat,i<I.length+1->0<=Db g ((M.a.pos+BX M.l).tmod g.sl) (i:Nat)/\Db g ((M.a.pos+BX M.l).tmod g.sl) (i:Nat)<g.sl:=fun i hi=>HT hg (at_:=(i:Nat)) ⟨Bk _ (by omega),AY _ (by omega)⟩ (by omega)
 refine hc.mono fun r hr=>?_
 obtain⟨d1,hd1,hr⟩:=hr;have ec:d1.cells=d.cells:=hd1.cells;have ek:d1.cache=[]:=hd1.cache.trans hd.cache;rcases hr with ⟨ht,rfl⟩ | ⟨k,hk, -,htk,rfl⟩
 ·obtain⟨n1,n2,n3⟩:=Gs.after hg hRok hPb hd1 ek;refine⟨_,h.addN hg hK hLB hroom ⟨n1.ok,n1.left,n1.len,n3⟩ n2,?_⟩;rw [hx]
 ·have hs:=hfree (Bg g 0 (Db g ((M.a.pos+BX M.l).tmod g.sl) (k:Nat)));rw [Zs hd1.left ek k (by omega)] at htk;unfold stuck at htk hs;rw [ec,hs] at htk;cases htk
theorem wakes23G_fn:Fn Tryz.prog 13 [] fun r=>r = .v (.bool true):=by
 have h1:=XQ 0 1 0 0 1;have hg:=V2 0 1 0 0 1;have hzd:(J3 0 1 0 0 1).z*(J3 0 1 0 0 1).d=2:=by decide
 have hsl:(J3 0 1 0 0 1).sl=14:=by decide
 have hnd:Er (J3 0 1 0 0 1) [1]=4:=by decide
 generalize J3 0 1 0 0 1=g at h1 hg hzd hsl hnd;have hon:=VM g hg;have hLB:LbOk g [1] [bl8]:=⟨⟨by decide,by decide⟩,rfl,fun b hb=>by rw [AC] at hb;rw [hb];try rfl,fun i hi=>by
  obtain rfl:i=0:=by simp at hi;omega
  show (0:Int)<=1/\(1:Int)<g.z*g.d;omega,fun i j hij hj=>by simp at hj;omega⟩
 refine zS Tryz.func13 rfl ?_;conv=>whnf
 refine zZ h1 ?_;conv=>whnf
 refine zH hon rfl ?_;rintro _ ⟨d0,rfl,hd0⟩;have hc0:=Clv.on hg hd0;have hc:=Xi (L:= [1]) (B:= [bl8]) hg hc0 hd0.free (by decide) hLB (by show Er g [1]<=g.sl - 0;omega);have hneed:=If hg (S:=(FY g).a.seq+((FY g).l.length:Int)) (s:=AJ (FY g).a (FY g).l) (G:=CP d0) hLB fun z q0 q1=>by
  obtain⟨t,e, -⟩:=hc0.tab hg q0 q1;rw [e];try rfl
 conv=>whnf
 refine zi Unit (fun _=>([(1, .bp 0 0),(2, .bp 1 0),(3, .bp 2 0),(4,bA bl8)], [.box 23 (AT g), .box 39 (EB (AJ (FY g).a (FY g).l)), .box 43 (EN d0)])) (fun _=>True) ?_ ?_
 ·exact⟨(),tv,zF (zQ (zL 4 3 rfl rfl) (zI 4 rfl (E0 (L:=bl8) rfl rfl))) (s:= [0,1,2]) tA⟩
 intro _ _;conv=>whnf
 refine zN hc.go ?_;refine⟨rfl,?_⟩;refine⟨rfl,?_⟩;conv=>whnf
 refine zX [.ag (AT g), .ag (EN d0), .ag (EB (AJ (FY g).a (FY g).l)),iA [1],Ev [bl8]] ⟨ri,ri,ri,EJ (L:= [1]) rfl rfl,Ei (L:= [bl8]) rfl rfl,tv⟩ ?_;refine zH hc rfl ?_;rintro _ ⟨d1,hc1,rfl⟩;have hm0:(aX g (FY g) (CP d0) [1] [bl8]).m=[zero8,bl8]:=by show (List.replicate (g.z*g.d).toNat zero8).set (1:Int).toNat bl8=_;rw [hzd];try rfl
 obtain⟨M,hM⟩:∃ M,M=aX g (FY g) (CP d0) [1] [bl8]:=⟨_,rfl⟩;have hx1:(M.l.getD (Int.toNat 0) ⟨0,0,0, []⟩).n=4:=by
  rw [hM];show (((DS g (AJ (FY g).a (FY g).l) (CP d0) ((FY g).a.seq+((FY g).l.length:Int)) [1] [bl8] g.z.toNat).length:Nat):Int)+1=4;omega
 have hl1:((M.l.length:Nat):Int)=1:=by rw [hM];try rfl
 have eM:M.a=(FY g).a/\M.l=(FY g).l ++ [Pi g (FY g) (CP d0) [1] [bl8]]:=by rw [hM];exact tA
 rw [<-eM.2,<-eM.1];have r1:=(R7 hg hc1 1 (by omega)).2;have r0:=(R7 hg hc1 0 (by omega)).2;rw [hm0,<-hM] at r1 r0;clear hc hc1 hm0 hM hneed eM;have hb1:=Jq bl8 (by decide);have hb0:=Jq zero8 (by decide);conv=>whnf
 refine zH r1 rfl ?_;rintro _ ⟨d2,rfl⟩;conv=>whnf
 refine zH r0 rfl ?_;rintro _ ⟨d3,rfl⟩;conv=>whnf
 rw [show (((AJ M.a M.l).txns.length:Int) == 1)=true from beq_iff_eq.2 hl1];conv=>whnf
 refine Af ⟨by decide,by show (0:Int)<(M.l.length:Nat);omega⟩ ?_;conv=>whnf
 rw [show (((AJ M.a M.l).txns.getD (Int.toNat 0) ⟨0,0,0, []⟩).n == 4)=true from beq_iff_eq.2 hx1];conv=>whnf
 refine zZ hb1 ?_;refine⟨by decide,?_⟩;conv=>whnf
 refine zN hb0.go ?_;refine⟨by decide,?_⟩;conv=>whnf
 refine zX [bA zero8,bA zero8] ⟨ri,E0 rfl rfl,tv⟩ ?_;refine zZ hb0 ?_;exact⟨_,ri,rfl⟩
def aZ (v:Int) (i:Nat):List UInt8:= [UInt8.ofNat (IntKind.u8.wrap v).toNat,UInt8.ofNat (IntKind.u8.wrap (v.fdiv 256)).toNat,3,3,3,UInt8.ofNat (IntKind.u8.wrap (i:Nat)).toNat,0,7]
def Ln (v:Int) (k:Nat):List (List UInt8):=(List.range k).map (aZ v)
theorem I2 (v:Int) (k:Nat):(Ln v k).length=k:=by simp [Ln]
theorem W7 (v:Int) (k:Nat):Ln v (k+1)=Ln v k ++ [aZ v k]:=by simp [Ln,Bd]
theorem ZN (v:Int) (i:Nat) : [[AV.v (Value.int .u8 (IntKind.u8.wrap v))], [AV.v (Value.int .u8 (IntKind.u8.wrap (v.fdiv (2 ^ min (Int.toNat 8) IntKind.i64.bits))))], [AV.v (Value.int .u8 3)], [AV.v (Value.int .u8 3)], [AV.v (Value.int .u8 3)], [AV.v (Value.int .u8 (IntKind.u8.wrap (i:Nat)))], [AV.v (Value.int .u8 0)], [AV.v (Value.int .u8 7)]]=(aZ v i).map Ej:=by
 rw [L6,L6,L6];try rfl
theorem ae {g:Geo} {l:List Int} (h:(GI (g.z*g.d) l&&decide (0<l.length))=true) (hl:l.length<=4) (v:Int):LbOk g l (Ln v l.length):=by
 obtain⟨h1,h2⟩:=(Ad _ _).mp h;have h2:=of_decide_eq_true h2;have hp:∀ i,i<l.length->0<=l.getD i 0/\l.getD i 0<g.z*g.d/\(i=0\/l.getD (i - 1) 0<l.getD i 0):=fun i hi=>by
  have:=Au.1 h1 i (AP.2 hi);simp only [Ih,Ad,Co,decide_eq_true_eq] at this;exact⟨this.1,this.2.1,this.2.2⟩
 have hr:∀ i k,i+k+1<l.length->l.getD i 0<l.getD (i+k+1) 0:=by
  intro i k;induction k with
  | zero=>
   intro hk;have:=(hp (i+0+1) hk).2.2;rcases this with q | q
   ·omega
   ·exact q
  | succ k ih=>
   intro hk;have a:=ih (by omega);have:=(hp (i+(k+1)+1) hk).2.2;rcases this with q | q
   ·omega
   ·exact Int.lt_trans a q
 refine⟨⟨h2,hl⟩,I2 v _,fun b hb=>?_,fun i hi=>⟨(hp i hi).1,(hp i hi).2.1⟩,fun i j hij hj=>?_⟩
 ·obtain⟨i, -,rfl⟩:=AK.1 hb;rfl
 ·have:=hr i (j - i - 1) (by omega);rwa [show i+(j - i - 1)+1=j by omega] at this
theorem kstate0_fn:Fn Tryz.prog 17 [.ag (EB st0), .ag stZ] fun r=>r = .v (.bool true):=by
 have:=Uj st0 st0 (by decide) (fun h hh=>by cases hh) (by decide) (by decide) (fun x hx=>by cases hx);rw [decide_eq_true rfl] at this;exact this.subA ⟨ri,Bi ⟨ri,ri,ri,ri,ri,ri,Bh 3 _,Bh 4 _,ri,ri,ri,ri,ri,Bh 1 _,tv⟩,tv⟩
theorem YS {es:List (List AV)} {e e':List AV} (h:SubL e e') (i:Nat):SubL ((es ++ [e]).getD i []) ((es ++ [e']).getD i []):=by
 rw [Aa,Aa];by_cases hi:i<es.length
 ·rw [A5 hi,A5 hi];exact SubL.refl _
 ·rw [A2 (by omega),A2 (by omega)];cases i - es.length with
  | zero=>exact h
  | succ j=>exact SubL.refl _
@[reducible] def ckH (g:Geo) (M:Md) (d:Dk) (m:List (List UInt8)):List AB:= [.box 23 (AT g), .row 47 1 (m.map DY), .box 39 (EB (AJ M.a M.l)), .box 43 (EN d)]
theorem UR (g:Geo) (L:List Q2) (l:List Int) (v:Int):Fn Tryz.prog 4 [.ag (AT g),RD L,iA l,iv v] fun r=>r = .v (.bool true):=by
 have h1:=VX g;have hw:=wakes23G_fn;cases hg:Bp g with
 | false=>
  rw [hg] at h1;refine zS Tryz.func4 rfl ?_;conv=>whnf
  refine zZ h1 ?_;exact⟨_,ri,rfl⟩
 | true=>
  rw [hg] at h1;obtain⟨g1,g2,g3,g4,g5⟩:=As.1 hg;have hzd:=YU hg;by_cases hL:L.length<=10;rotate_left 1
  ·refine zS Tryz.func4 rfl ?_;conv=>whnf
   refine zZ h1 ?_;conv=>whnf
   rw [show decide ((L.length:Int) > 10)=true from decide_eq_true (by omega)];exact⟨_,ri,rfl⟩
  by_cases hl:l.length<=4;rotate_left 1
  ·refine zS Tryz.func4 rfl ?_;conv=>whnf
   refine zZ h1 ?_;conv=>whnf
   rw [show decide ((L.length:Int) > 10)=false from decide_eq_false (by omega)];conv=>whnf
   rw [show decide ((l.length:Int) > 4)=true from decide_eq_true (by omega)];exact⟨_,ri,rfl⟩
  have hats:=Yl l (g.z*g.d) (by omega) (by omega);have hwz:IntKind.i64.wrap (g.z*g.d)=g.z*g.d:=wi (by omega);cases hA:GI (g.z*g.d) l&&decide (0<l.length) with
  | false=>
   rw [hA] at hats;refine zS Tryz.func4 rfl ?_;conv=>whnf
   refine zZ h1 ?_;conv=>whnf
   rw [show decide ((L.length:Int) > 10)=false from decide_eq_false (by omega)];conv=>whnf
   rw [show decide ((l.length:Int) > 4)=false from decide_eq_false (by omega)];conv=>whnf
   rw [hwz];refine zZ hats ?_;exact⟨_,ri,rfl⟩
  | true=>
   rw [hA] at hats;have hLB:=ae hA hl v;have hp:=RE g L 0 (fun _=> []) id (fun d h=>Rg g d _ h) hg (by omega);refine zS Tryz.func4 rfl ?_;conv=>whnf
   refine zZ h1 ?_;conv=>whnf
   rw [show decide ((L.length:Int) > 10)=false from decide_eq_false (by omega)];conv=>whnf
   rw [show decide ((l.length:Int) > 4)=false from decide_eq_false (by omega)];conv=>whnf
   rw [hwz];refine zZ hats ?_;conv=>whnf
   refine zX [.ag (AT g),RD L, .sl 4 0 fun _=> []] ⟨ri,ri,Bh 4 _,tv⟩ ?_;refine zV hp rfl ?_;rintro _ _ ⟨M,d,hpl,hd,hv,rfl,rfl⟩;obtain⟨D,hD⟩:=ZB hg L;obtain⟨hr, -⟩:=hD _ _ (by omega) hpl;have hn1:=hLB.n;conv=>whnf
   refine zU (Nat × Bool) (fun x=>match x.2 with
    | false=>([(2,iA l),(3,iv v),(4, .bp 0 0),(9, .bp 2 0),(10, .bp 3 0),(11, .ow 1 M.m.length),(12, .ow 4 x.1),(13,iv (x.1:Nat))],ckH g M d M.m ++ ([.row 47 1 ((Ln v x.1).map DY)]:List AB))
    | true=>([(2,iA l),(3,iv v),(4, .bp 0 0),(9, .bp 2 0),(10, .bp 3 0),(11, .ow 1 M.m.length),(12,Ev (Ln v l.length)),(13,iv (x.1:Nat))],ckH g M d M.m)) (fun x=>x.1<=l.length/\(x.2=true↔x.1=l.length)) (fun x=>l.length - x.1) (0,false) ⟨Aj _,⟨fun q=>(by cases q),fun q=>absurd q (by show ¬0=l.length;omega)⟩⟩
    ⟨_,_,zG _ _, [(12,47,1)],tA, [0,1,2,3,4],tA,tA,rfl,rfl,rfl,rfl,rfl⟩ ?_
   rintro⟨k,p⟩ ⟨hk,hp⟩;simp only at hk hp;cases p with
   | false=>
    have hkn:k<l.length:=by
     have:¬k=l.length:=fun q=>by cases hp.2 q
     omega
    simp only;conv=>whnf
    rw [show decide ((k:Int)<(l.length:Nat))=true from decide_eq_true (by omega)];conv=>whnf
    repeat' (refine z_ ?_;conv=>whnf)
    refine⟨by decide,?_⟩;refine⟨rfl,?_⟩;refine⟨rfl,?_⟩;refine⟨⟨by rw [Ab,I2],by omega⟩,?_⟩;conv=>whnf
    have hsr:∀ j,SubL (((Ln v k).map DY ++ [[AV.sl 1 8 fun i=>([[AV.v (Value.int .u8 (IntKind.u8.wrap v))], [AV.v (Value.int .u8 (IntKind.u8.wrap (v.fdiv (2 ^ min (Int.toNat 8) IntKind.i64.bits))))], [AV.v (Value.int .u8 3)], [AV.v (Value.int .u8 3)], [AV.v (Value.int .u8 3)], [AV.v (Value.int .u8 (IntKind.u8.wrap ((k:Nat):Int)))], [AV.v (Value.int .u8 0)], [AV.v (Value.int .u8 7)]]:List (List AV)).getD i []]]).getD j []) (((Ln v (k+1)).map DY).getD j []):=fun j=>by
     rw [W7,Az];refine YS (e':=DY (aZ v k)) ?_ j;exact⟨E0 rfl (ZN v k),tv⟩
    have hlr:((Ln v (k+1)).map DY).length=((Ln v k).map DY).length+1:=by rw [Ab,Ab,I2,I2]
    by_cases hlast:k+1=l.length
    ·exact⟨(k+1,true),⟨by show k+1<=l.length;omega,⟨fun _=>hlast,fun _=>rfl⟩⟩,by show l.length - (k+1)<l.length - k;omega,zF (zQ (zK (zE (k:=4) (es':=(Ln v (k+1)).map DY) rfl (by rw [hlr,Ai];try rfl) hsr)) (zQ (zL 12 4 (es:=(Ln v (k+1)).map DY) (congrArg (AV.ow 4) (by rw [Ab,I2])) rfl) (zI 12 rfl (Ei (L:=Ln v l.length) (by rw [Ab,hlast]) (by rw [hlast]))))) (s:= [0,1,2,3]) ⟨⟨rfl,rfl,rfl,rfl,rfl,rfl,rfl,AH (by omega),tv⟩,tA,rfl,rfl,rfl,rfl,rfl⟩⟩
    ·exact⟨(k+1,false),⟨by show k+1<=l.length;omega,⟨fun q=>(by cases q),fun q=>absurd q hlast⟩⟩,by show l.length - (k+1)<l.length - k;omega,zF (zK (zE (k:=4) (es':=(Ln v (k+1)).map DY) rfl (by rw [hlr,Ai];try rfl) hsr)) (s:= [0,1,2,3,4]) ⟨⟨rfl,rfl,rfl,rfl,rfl,rfl,rfl,AH (by omega),tv⟩,tA,rfl,rfl,rfl,rfl,rfl⟩⟩
   | true=>
    obtain rfl:k=l.length:=hp.1 rfl;simp only;conv=>whnf
    rw [show decide ((l.length:Int)<(l.length:Nat))=false from decide_eq_false (by omega)];conv=>whnf
    have hsm:=(hv.vol hd).sm hg;have hst:=(hv.vol hd).st hg;have hcl:Clv g 14 d M:=⟨⟨hd.ok,hd.left,hd.len,hd.cache⟩,fun q h0 h1=>hd.gs.2 q (by omega) h1,⟨d,hd⟩,hv,hr⟩;by_cases hroom:Er g l<=g.sl - BX M.l;rotate_left 1
    ·have hcr:=Qz g (AJ M.a M.l) d l (Ln v l.length) hg hd.ok hst hsm hLB (.inr (by show Er g l > g.sl - BX M.l;omega));rw [show (if (AJ M.a M.l).only=true then (15:Int) else 21)=21 from rfl] at hcr;have hks:=kstate0_fn;refine zZ hcr ?_;conv=>whnf
     refine zZ hks ?_;conv=>whnf
     refine zZ hw ?_;exact⟨_,ri,rfl⟩
    ·have hcc:=Xi hg hcl hd.free (by decide) hLB hroom;refine zH hcc rfl ?_;rintro _ ⟨d1,hc1,rfl⟩;have hll:(((M.l ++ [Pi g M (CP d) l (Ln v l.length)]).length:Nat):Int)=M.l.length+1:=by
      rw [Ai,Cz];omega
     obtain⟨d9,h9⟩:=hc1.gd;have hv9:=hc1.vo.vol h9;have hsm9:=hv9.sm hg;have cb:=Oc g d1 (AJ M.a (M.l ++ [Pi g M (CP d) l (Ln v l.length)])) (by have:=hc1.un.ok.n;omega) (by have:=hc1.un.ok.m;omega) hsm9.big;rw [show LF g d1 (AJ M.a (M.l ++ [Pi g M (CP d) l (Ln v l.length)]))=true from hv9.st2 hg hc1.un.ok hc1.un.len false] at cb;have hcc0:(d1.cache.length:Int)=0:=by rw [hc1.un.cache];try rfl
     have hml:M.l.length<=30:=hsm.t.1;conv=>whnf
     rw [show (((AJ M.a (M.l ++ [Pi g M (CP d) l (Ln v l.length)])).txns.length:Int) != IntKind.i64.wrap (((AJ M.a M.l).txns.length:Nat)+1))=false from bne_eq_false_iff_eq.2 (by show (((M.l ++ [Pi g M (CP d) l (Ln v l.length)]).length:Nat):Int)=IntKind.i64.wrap ((M.l.length:Nat)+1);rw [hll,wi (by omega)])];conv=>whnf
     refine zZ cb ?_;conv=>whnf
     rw [show ((d1.cache.length:Int) != 0)=false from bne_eq_false_iff_eq.2 hcc0];obtain⟨B,hB⟩:∃ B,B=Ln v l.length:=⟨_,rfl⟩;obtain⟨x,hx⟩:∃ x,x=Pi g M (CP d) l (Ln v l.length):=⟨_,rfl⟩;have hc2:Clv g (14+1) d1 ⟨M.a,M.l ++ [x],M.F,IV M.m l B l.length⟩:=by rw [hx,hB];exact hc1
     have hml:((M.m.length:Nat):Int)=g.z*g.d:=hv.m;have hBl:B.length=l.length:=by rw [hB,I2]
     have hwm:=fun i (hi:i<l.length)=>hLB.i i hi
     rw [<-hx,<-hB];clear cb hsm9 hv9 hll hcc hc1 h9;conv=>whnf
     refine zU Nat (fun k=>([(2,iA l),(4, .bp 0 0),(11, .ow 1 M.m.length),(12,Ev B),(14, .bp 2 0),(15, .bp 3 0),(17,iv (k:Nat))], [.box 23 (AT g), .row 47 1 ((IV M.m l B k).map DY), .box 39 (EB (AJ M.a (M.l ++ [x]))), .box 43 (EN d1)])) (fun k=>k<=l.length) (fun k=>l.length - k) 0 (Aj _)
      (zR (s:= [0,1,4,5]) tA) ?_
     intro k hk;have hsl:=GO M.m l B k;by_cases hkl:k<l.length
     ·have ixA:(0:Int)<=(k:Nat)/\((k:Nat):Int)<(B.length:Nat):=by omega
      have hi:=hwm k hkl;have ixB:0<=l.getD ((k:Nat):Int).toNat 0/\l.getD ((k:Nat):Int).toNat 0<(M.m.length:Nat):=by rw [Ac];omega
      conv=>whnf
      rw [show decide ((k:Int)<(l.length:Nat))=true from decide_eq_true (by omega)];conv=>whnf
      repeat' (refine z_ ?_;conv=>whnf)
      apply zW (0) tys_ok mixed (.o [0,1,2,3,4,5,6,7,8,9,10] .fin) (by kernel_rfl);conv=>whnf
      try (refine tI ?_;conv=>whnf)
      try (refine tI ?_;conv=>whnf)
      try (refine tI ?_;conv=>whnf)
      try (refine tS ?_;conv=>whnf)
      rw [show ((IV M.m l B k).map DY).getD (l.getD ((k:Nat):Int).toNat 0).toNat []=DY ((IV M.m l B k).getD (l.getD ((k:Nat):Int).toNat 0).toNat []) from Bc (by omega)];conv=>whnf
      exact⟨k+1,by omega,by omega,zR (s:= [0,1,2,3]) ⟨⟨rfl,rfl,rfl,rfl,rfl,rfl,AH (by omega),tv⟩,⟨rfl,congrArg (fun es=>some (AB.row 47 1 es)) (by rw [IV,Ca,Ac];try rfl),rfl,rfl,tv⟩,rfl,rfl,rfl,rfl,rfl⟩⟩
     ·obtain rfl:k=l.length:=by omega
      conv=>whnf
      rw [show decide ((l.length:Int)<(l.length:Nat))=false from decide_eq_false (by omega)];conv=>whnf
      repeat' (refine z_ ?_;conv=>whnf)
      have hsl2:=GO M.m l B l.length;obtain⟨mm,hmm⟩:∃ mm,mm=IV M.m l B l.length:=⟨_,rfl⟩;rw [<-hmm] at hsl2 hc2 |-
      rw [<-hsl2];refine zU Nat (fun k=>([(4, .bp 0 0),(11, .ow 1 mm.length),(14, .bp 2 0),(15, .bp 3 0),(18,iv (k:Nat))], [.box 23 (AT g), .row 47 1 (mm.map DY), .box 39 (EB (AJ M.a (M.l ++ [x]))), .box 43 (EN d1)])) (fun k=>k<=mm.length) (fun k=>mm.length - k) 0 (Aj _)
       (zR (s:= [0,1,2,3]) tA) ?_
      intro k hk;by_cases hkm:k<mm.length
      ·obtain⟨h8,r1⟩:=R7 hg hc2 k (by omega);simp only at h8 r1;have hbs:=Jq (mm.getD k []) (by omega);have ixA:(0:Int)<=(k:Nat)/\((k:Nat):Int)<(mm.length:Nat):=by omega
       conv=>whnf
       rw [show decide ((k:Int)<(mm.length:Nat))=true from decide_eq_true (by omega)];conv=>whnf
       repeat' (refine z_ ?_;conv=>whnf)
       refine zH r1 rfl ?_;rintro _ ⟨d2,rfl⟩;refine⟨ixA,?_⟩;conv=>whnf
       refine Af ⟨rfl,(Ab _).symm,by rw [Ac];exact hkm⟩ ?_;rw [show (mm.map DY).getD ((k:Nat):Int).toNat []=DY (mm.getD k []) by rw [Ac];exact Bc hkm];conv=>whnf
       refine zZ hbs ?_;conv=>whnf
       repeat' (refine z_ ?_;conv=>whnf)
       exact⟨k+1,by omega,by omega,zR (s:= [0,1,2,3]) ⟨⟨rfl,rfl,rfl,rfl,AH (by omega),tv⟩,tA,rfl,rfl,rfl,rfl,rfl⟩⟩
      ·conv=>whnf
       rw [show decide ((k:Int)<(mm.length:Nat))=false from decide_eq_false (by omega)];conv=>whnf
       repeat' (refine z_ ?_;conv=>whnf)
       refine zZ hw ?_;exact⟨_,ri,rfl⟩
end
end Go.Proofs.YtepdhdfoipephaaGreatDoor.A
namespace Go.Proofs.YtepdhdfoipephaaGreatDoor
section
open Go.ChangeShapes Go.WideShapes Go.ChangeAt Go.RowKit
theorem own_none:ownKnob Tryz.prog.godebug=none:=by kernel_rfl
theorem laidOut:laidOutB Tryz.prog=true:=by kernel_rfl

section
variable {H:Type} {enc:TypeId × Value->H}
theorem W0 {f:Func} {s:ChangeSpec} {apart fresh handsOn again:Bool} {W W':World} {args:Array Value} {ds:List (DataW H)} {before:List MemPlace}
  (hW:DataW.Whole enc Tryz.prog f.params.toList s.vars apart W args.toList ds [] before) (hv:s.vars=[]) (hvs:(s.fn H (ds ++ [])).vars=[])
  (hr:f.resultTypes = #[4]) (hfr:(s.fn H (ds ++ [])).results=[.lit (.bool true)]) (hfa:(s.fn H (ds ++ [])).args=ds)
  (hrow:∀ t∈f.params.toList,Tryz.prog.readableRec t=true/\t<Tryz.prog.types.size) (hb:Below W.heap.size W W') :
  s.post enc Tryz.prog f apart fresh handsOn again W args (.bool true) W':=by
 have hlt:∀ p∈before,p.block<W.heap.size:=fun p hp=>hW.lt p hp
 obtain⟨p,q,hA,hV,hpq,hz,hn⟩:=id hW;rw [hv] at hV;obtain⟨-,rfl⟩:=trodVars_none hV;rw [AL] at hpq;subst hpq;have stay:∀ sp:Nat->Bool,(∀ x∈before,sp x.block=true)->DataW.TrodAll enc Tryz.prog W' 0 sp true f.params.toList args.toList ds before:=by
  intro sp hsp;have go:∀ (ts:List TypeId) (vs:List Value) (es:List (DataW H)) (ps:List MemPlace),(∀ t∈ts,Tryz.prog.readableRec t=true/\t<Tryz.prog.types.size)->(∀ x∈ps,x∈before)->
    DataW.TrodAll enc Tryz.prog W 0 (fun _=>true) true ts vs es ps->DataW.TrodAll enc Tryz.prog W' 0 sp true ts vs es ps:=by
   intro ts;induction ts with
   | nil=>
    intro vs es ps _ _ h;cases vs <;> cases es <;> exact h
   | cons t ts ih=>
    intro vs es ps ht hin h;cases vs with
    | nil=>cases es <;> exact h.elim
    | cons v vs=>
     cases es with
     | nil=>exact h.elim
     | cons e es=>
      obtain⟨p1,p2,h1,h2,rfl⟩:=h;exact⟨p1,p2,WideElems.Trod_stays laidOut (ht t (by simp)).1 (ht t (by simp)).2 h1 (fun x hx=>hb.same (hlt x (hin x (by simp [hx])))) (fun x hx=>hsp x (hin x (by simp [hx]))),
       ih vs es p2 (fun t' ht'=>ht t' (by simp [ht'])) (fun x hx=>hin x (by simp [hx])) h2,rfl⟩
  exact go _ _ _ _ hrow (fun x hx=>hx) hA
 have hres:∀ (b:Nat) (sp:Nat->Bool) (hd:Bool),DataW.TrodAll enc Tryz.prog W' b sp hd f.resultTypes.toList ((Value.bool true).resultList f.resultTypes.size) (s.fn H (ds ++ [])).results []:=by
  intro b sp hd;rw [hr,hfr];exact trodAll_mk1 ⟨1,by simp [DataW.trod,Value.cells,Tryz.underlying4]⟩
 have hold:∀ p∈before,(fun b=>decide (b<W.heap.size)) p.block=true:=fun p hp=>by simpa using hlt p hp
 have hvars:∀ sp:Nat->Bool,DataW.TrodVars enc Tryz.prog W' sp s.vars (s.fn H (ds ++ [])).vars []:=by
  intro sp;rw [hv,hvs];exact rfl
 refine⟨ds, [],before, [],before, [],hW,hres _ _ _,by rw [hfa];exact stay _ hold,hvars _,World.keptBut_mono (fun p hp=>⟨hp,?_⟩) (hb.frame (·∈before)),fun _=>?_⟩
 ·exact Or.inr (by simpa using hp)
 ·refine⟨ok_one hr rfl (by simp [Value.okWide,Tryz.underlying4,Cell.okWide,Cell.ok]),_,_,([] ++ before) ++ [],⟨[] ++ before, [],trodAll_append (stay _ (fun _ _=>rfl)) (hres _ _ _),hvars _,rfl,?_,?_⟩,?_⟩
  ·intro b off hp;have hin:MemPlace.cell b off∈before:=by simpa using hp
   rw [hb.frozen (hlt _ hin)];exact hz b off hin
  ·intro ha;have:=hn ha;simpa using this
  ·intro p hp _;simpa using hp
end
abbrev W6 : List (String × DataW Unit) := [("unicode/utf8.acceptRanges", Rows.laid_unicode_utf8_acceptRanges), ("unicode/utf8.first", Rows.laid_unicode_utf8_first)]
noncomputable def Kn (os:Os):World:=
 let w0:=World.holding Tryz.prog os ⟨#[], #[], []⟩;let put (h:Array Obj) (g:Nat) (cs:Array Value):Array Obj:=h.modify g fun
  | .cells _ t frozen=> .cells cs t frozen
  | o=>o
 let h1:=put w0.heap 0 (Lib.firstTab.map fun z=>Value.int .u8 z).toArray;let h2:=put h1 1 ((List.range 16).flatMap fun i=> [Value.int .u8 (Lib.accLo i),Value.int .u8 (Lib.accHi i)]).toArray
 { w0 with heap:=h2 }
theorem W5 (os:Os) (args:Array Value):laidMetH Tryz.prog W6 ((Kn os).forCall (fun _ _=>0) ⟨#[],args, []⟩).memory:=by
 rw [MakeChecks.laidMetH_plain _ _ _ (by kernel_rfl)];exact(LaidIn.of_run (l:=W6) [1,0] 8 (by kernel_rfl) (by kernel_rfl) (by kernel_rfl) (by kernel_rfl)).met
theorem first_data:Rows.laid_unicode_utf8_first=Lib.firstData:=by kernel_rfl
theorem accept_data:(Rows.laid_unicode_utf8_acceptRanges:DataW Unit)=Lib.acceptData:=by kernel_rfl
theorem Ug {W:World} (h:laidMetH Tryz.prog W6 W):A.globOk W:=by
 rw [MakeChecks.laidMetH_plain _ _ _ (by kernel_rfl)] at h;have h1:=Lib.laidMet.reads h (.head _);have h2:=Lib.laidMet.reads h (.tail _ (.head _));rw [accept_data] at h1;rw [first_data] at h2;exact utf8Tabs_of_readsT (U8Types.of196 Tryz.laysValid) ⟨by kernel_rfl,by kernel_rfl,by kernel_rfl,by kernel_rfl,by kernel_rfl,by kernel_rfl,by kernel_rfl⟩ h2 h1
end
end Go.Proofs.YtepdhdfoipephaaGreatDoor
