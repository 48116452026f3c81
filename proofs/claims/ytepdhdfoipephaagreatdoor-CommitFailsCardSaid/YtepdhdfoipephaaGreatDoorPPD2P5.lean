/-
Several texts in one.
-/
import Derived.Test.YtepdhdfoipephaaGreatDoorPPD2P4
import Derived.Test.YtepdhdfoipephaaGreatDoorPPD2P3
import Derived.Test.YtepdhdfoipephaaGreatDoorPPD2P2
import Derived.Test.YtepdhdfoipephaaGreatDoorPPD2P1
import Derived.Test.YtepdhdfoipephaaGreatDoorRows
import Derived.Below
import Derived.ChangeSame
import Derived.Carry
import Derived.Lib.LaidIn
import Derived.Lib.LaidU8T
import Derived.LaidHandle
import Derived.MakeChecks
import Derived.Handed
set_option maxRecDepth 100000
set_option maxHeartbeats 8000000
set_option linter.unusedSimpArgs false
set_option linter.unusedVariables false
set_option linter.deprecated false
namespace Go.Proofs.YtepdhdfoipephaaGreatDoor.A
section
open Go.RowKit
def VC (g:Geo) (s:Stt) (G:Gr) (t:List Ent) (z:Int) (k:Nat):List (List UInt8):=(List.range k).map fun i=>EW g s G t z (VB g i)
theorem Kl (g:Geo) (s:Stt) (d:Dk) (G:Gr) (z:Int) (hg:Bq g=true) (hl:LogB s.txns) (ha:Bv g s.a=true) (h:Gs (A4 g) d G) (hF:∀ a,(G a).bytes.length<=100000) (h8:∀ a,(G a).err≠8) (hz:0<=z/\z<g.z) (hB:∀ p,Db s.txns z 255=some p->p.1.bytes.length<=100000/\(Cb g p.1.bytes).isSome=true) (t:List Ent) (ht:Gj g s G z=some t) :
  ACalls Tryz.prog false 67 [.bp 0 0,iv z] (Fz g s d) fun r H=>r = .tp [.ag [BP t],FT (EL g s G t z),iv 0]/\∃ d',Gs (A4 g) d' G/\H=Fz g s d':=by
 obtain⟨g1,g2,g3,g4,g5⟩:=Ar.1 hg;have hT:=PF g s d G z hg hl ha h hF h8 hz hB;rw [ht] at hT;have htn:=Yi hg ht;have hd1:IntKind.i64.wrap (g.d+1)=g.d+1:=wi (by omega);refine zS tys_ok Tryz.func67 rfl rfl (Ag rfl) ?_;conv=>whnf
 refine zh [0,1,2,3,4] hT ?_;rintro _ _ ⟨rfl,d2,hd2,rfl⟩;conv=>whnf
 rw [hd1];refine zU (Nat × Dk) (fun x=>([(0, .bp 0 0),(1,iv z),(4, .bp 5 0),(5, .ow 6 x.1),(27,iv (g.d+1)),(28,iv (x.1:Nat))],Fz g s x.2 ++ ([.box 70 [BP t], .row 47 1 ((VC g s G t z x.1).map HZ)]:List AB))) (fun x=>(x.1:Int)<=g.d+1/\Gs (A4 g) x.2 G) (fun x=>g.d.toNat+1 - x.1) (0,d2) ⟨by show ((0:Nat):Int)<=g.d+1;omega,hd2⟩
  ⟨_,_,zB _ _, [(5,47,1)],tA, [0,1,2,3,4,5,6],tA,tA,rfl,rfl,rfl,rfl,rfl⟩ ?_
 rintro⟨k,d1⟩ ⟨hk,hd1⟩;simp only at hk hd1;by_cases hkn:(k:Int)<g.d+1;rotate_left 1
 ·have ek:k=g.d.toNat+1:=by omega
  conv=>whnf
  rw [show decide ((k:Int)<g.d+1)=false from decide_eq_false hkn];conv=>whnf
  repeat' (refine zZ ?_;conv=>whnf)
  have hlen:(EL g s G t z).length=g.d.toNat+1:=by simp [EL]
  subst ek;exact⟨.tp [.ag [BP t], .ow 6 (EL g s G t z).length,iv 0], .tp [.ag [BP t],FT (EL g s G t z),iv 0],Fz g s d1,BL (m:= [.ag [BP t], .ow 6 (EL g s G t z).length,iv 0]) ⟨ri,by rw [hlen];exact fun _ _ h=>h,ri,tv⟩,zC (zO (ConvF.sealTp 0 6 (es:=(EL g s G t z).map HZ) (by rw [Ac];try rfl) (congrArg (fun L=>some (AB.row 47 1 (List.map HZ L))) rfl)) (zE 0 rfl (BL (m:= [.ag [BP t],FT (EL g s G t z),iv 0]) ⟨ri,Ev (Ac _) rfl,ri,tv⟩))) (s:= [0,1,2,3,4]) tA,rfl,d1,hd1,rfl⟩
 ·conv=>whnf
  rw [show decide ((k:Int)<g.d+1)=true from decide_eq_true hkn];conv=>whnf
  repeat' (refine zZ ?_;conv=>whnf)
  by_cases hkd:(k:Int)=g.d
  ·rw [show (((k:Nat):Int) == g.d)=true by rw [hkd];simp];have e1:VB g k=(-1):=by unfold VB;first | rw [if_pos hkd] | rw [if_neg hkd]
   have e2:(VC g s G t z k).map HZ ++ [HZ (EW g s G t z (-1))]=(VC g s G t z (k+1)).map HZ:=by rw [<-e1];simp [VC,Bh]
   have hf:=HJ s.txns z (-1) hl.n hl.i;have hlk:(VC g s G t z k).length=k:=by simp [VC]
   cases hL:Db s.txns z (-1) with
   | some p=>
    rw [hL] at hf;simp only at hf;have e3:EW g s G t z (-1)=p.1.bytes:=by unfold EW;rw [hL]
    rw [e3] at e2;conv=>whnf
    repeat' (refine zZ ?_;conv=>whnf)
    refine zh [4] hf ?_;rintro _ _ ⟨rfl,rfl⟩;conv=>whnf
    repeat' (refine zZ ?_;conv=>whnf)
    refine⟨rfl,?_⟩;refine⟨⟨by rw [Ac,hlk],by omega⟩,?_⟩;conv=>whnf
    exact⟨(k+1,d1),⟨by show ((k+1:Nat):Int)<=g.d+1;omega,hd1⟩,by show g.d.toNat+1 - (k+1)<g.d.toNat+1 - k;omega,zR (s:= [0,1,2,3,4,5,6]) ⟨⟨rfl,rfl,rfl,rfl,rfl,AR (by omega),tv⟩,⟨rfl,rfl,rfl,rfl,rfl,rfl,congrArg (fun es=>some (AB.row 47 1 es)) e2,tv⟩,rfl,rfl,rfl,rfl,rfl⟩⟩
   | none=>
    rw [hL] at hf;simp only at hf;have e3:EW g s G t z (-1)=(DO (G (DF g s.a z (-1))) (DF g s.a z (-1)) (t.getD (F0 g (-1)).toNat ez)).getD []:=by unfold EW;rw [hL]
    have hh:=JM g s d1 G z (-1) t hg ha hd1 hF h8 hz (by omega) htn;rw [<-e3] at hh;conv=>whnf
    repeat' (refine zZ ?_;conv=>whnf)
    refine zh [4] hf ?_;rintro _ _ ⟨rfl,rfl⟩;conv=>whnf
    repeat' (refine zZ ?_;conv=>whnf)
    refine zh [0,1,2,3,4] hh ?_;rintro _ _ ⟨rfl,d3,hd3,rfl⟩;conv=>whnf
    repeat' (refine zZ ?_;conv=>whnf)
    refine⟨rfl,?_⟩;refine⟨⟨by rw [Ac,hlk],by omega⟩,?_⟩;conv=>whnf
    exact⟨(k+1,d3),⟨by show ((k+1:Nat):Int)<=g.d+1;omega,hd3⟩,by show g.d.toNat+1 - (k+1)<g.d.toNat+1 - k;omega,zR (s:= [0,1,2,3,4,5,6]) ⟨⟨rfl,rfl,rfl,rfl,rfl,AR (by omega),tv⟩,⟨rfl,rfl,rfl,rfl,rfl,rfl,congrArg (fun es=>some (AB.row 47 1 es)) e2,tv⟩,rfl,rfl,rfl,rfl,rfl⟩⟩
  ·rw [show (((k:Nat):Int) == g.d)=false from beq_eq_false_iff_ne.2 hkd];have e1:VB g k=((k:Nat):Int):=by unfold VB;first | rw [if_pos hkd] | rw [if_neg hkd]
   have e2:(VC g s G t z k).map HZ ++ [HZ (EW g s G t z ((k:Nat):Int))]=(VC g s G t z (k+1)).map HZ:=by rw [<-e1];simp [VC,Bh]
   have hf:=HJ s.txns z ((k:Nat):Int) hl.n hl.i;have hlk:(VC g s G t z k).length=k:=by simp [VC]
   cases hL:Db s.txns z ((k:Nat):Int) with
   | some p=>
    rw [hL] at hf;simp only at hf;have e3:EW g s G t z ((k:Nat):Int)=p.1.bytes:=by unfold EW;rw [hL]
    rw [e3] at e2;conv=>whnf
    repeat' (refine zZ ?_;conv=>whnf)
    refine zh [4] hf ?_;rintro _ _ ⟨rfl,rfl⟩;conv=>whnf
    repeat' (refine zZ ?_;conv=>whnf)
    refine⟨rfl,?_⟩;refine⟨⟨by rw [Ac,hlk],by omega⟩,?_⟩;conv=>whnf
    exact⟨(k+1,d1),⟨by show ((k+1:Nat):Int)<=g.d+1;omega,hd1⟩,by show g.d.toNat+1 - (k+1)<g.d.toNat+1 - k;omega,zR (s:= [0,1,2,3,4,5,6]) ⟨⟨rfl,rfl,rfl,rfl,rfl,AR (by omega),tv⟩,⟨rfl,rfl,rfl,rfl,rfl,rfl,congrArg (fun es=>some (AB.row 47 1 es)) e2,tv⟩,rfl,rfl,rfl,rfl,rfl⟩⟩
   | none=>
    rw [hL] at hf;simp only at hf;have e3:EW g s G t z ((k:Nat):Int)=(DO (G (DF g s.a z ((k:Nat):Int))) (DF g s.a z ((k:Nat):Int)) (t.getD (F0 g ((k:Nat):Int)).toNat ez)).getD []:=by unfold EW;rw [hL]
    have hh:=JM g s d1 G z ((k:Nat):Int) t hg ha hd1 hF h8 hz (by omega) htn;rw [<-e3] at hh;conv=>whnf
    repeat' (refine zZ ?_;conv=>whnf)
    refine zh [4] hf ?_;rintro _ _ ⟨rfl,rfl⟩;conv=>whnf
    repeat' (refine zZ ?_;conv=>whnf)
    refine zh [0,1,2,3,4] hh ?_;rintro _ _ ⟨rfl,d3,hd3,rfl⟩;conv=>whnf
    repeat' (refine zZ ?_;conv=>whnf)
    refine⟨rfl,?_⟩;refine⟨⟨by rw [Ac,hlk],by omega⟩,?_⟩;conv=>whnf
    exact⟨(k+1,d3),⟨by show ((k+1:Nat):Int)<=g.d+1;omega,hd3⟩,by show g.d.toNat+1 - (k+1)<g.d.toNat+1 - k;omega,zR (s:= [0,1,2,3,4,5,6]) ⟨⟨rfl,rfl,rfl,rfl,rfl,AR (by omega),tv⟩,⟨rfl,rfl,rfl,rfl,rfl,rfl,congrArg (fun es=>some (AB.row 47 1 es)) e2,tv⟩,rfl,rfl,rfl,rfl,rfl⟩⟩
def HW (t:List Ent) (had:List (List UInt8)) (but:Nat):Nat->Option (List (List UInt8))
 | 0=>some []
 | k+1=>match HW t had but k with
  | none=>none
  | some l=>if k=but\/(t.getD k ez).lost=true then some l else if (had.getD k []).length=0 then none else some (l ++ [had.getD k []])
theorem RO (t:List Ent) (had:List (List UInt8)) (but:Nat):∀ k,F2 t had but k=(HW t had but k).map FO
 | 0=>rfl
 | k+1=>by
  rw [F2,HW,RO t had but k];cases HW t had but k with
  | none=>rfl
  | some l=>
   simp only [Dq];split
   ·rfl
   ·split
    ·rfl
    ·simp [FO]
theorem MI {t:List Ent} {had:List (List UInt8)} {but k:Nat} (h:HW t had but k=none):∀ m,k<=m->HW t had but m=none
 | 0,hm=>by rwa [show k=0 by omega] at h
 | m+1,hm=>by
  by_cases e:k=m+1
  ·rw [<-e];exact h
  ·rw [HW,MI h m (by omega)]
theorem Lm {t:List Ent} {had:List (List UInt8)} {but:Nat} (h8:∀ b∈had,b.length=0\/b.length=8):∀ k l,k<=had.length->HW t had but k=some l->l.length<=k/\∀ b∈l,b.length=8
 | 0,l,_,h=>by
  obtain rfl:=Option.some.inj h;exact⟨Ah _,fun b hb=>by cases hb⟩
 | k+1,l,hk,h=>by
  rw [HW] at h;cases ho:HW t had but k with
  | none=>rw [ho] at h;cases h
  | some m=>
   rw [ho] at h;simp only at h;obtain⟨q1,q2⟩:=Lm h8 k m (by omega) ho;split at h
   ·obtain rfl:=Option.some.inj h;exact⟨by omega,q2⟩
   ·split at h
    ·cases h
    ·rename_i hz;obtain rfl:=Option.some.inj h;refine⟨by rw [Ai,Dl];omega,fun b hb=>?_⟩;rcases A3.1 hb with q | q
     ·exact q2 b q
     ·rw [AF] at q;rw [q];rcases h8 _ (A5 (d:=([]:List UInt8)) (show k<had.length by omega)) with e | e
      ·exact absurd e hz
      ·exact e
@[reducible] def zlR (g:Geo) (t:List Ent) (had l:List (List UInt8)):List AB:= [.box 298 [iv g.d,BP t,FT had], .row 47 1 (l.map HZ)]
theorem P_ (g:Geo) (t:List Ent) (had:List (List UInt8)) (but:Nat) (hg:Bq g=true) (htl:(t.length:Int)=g.d+1) (hh:(had.length:Int)=g.d+1) (hbt:(but:Int)<=g.d) (h8:∀ b∈had,b.length=0\/b.length=8):ACalls Tryz.prog false 229 [.bp 0 0,iv (but:Nat)] (zlH g t had) fun r H=>match HW t had but g.d.toNat with
  | some l=>r = .tp [.ow 1 l.length, .v (.bool true)]/\H=zlR g t had l
  | none=>r = .tp [.v (.slice none 0 0), .v (.bool false)]/\H=zlH g t had:=by
 obtain⟨g1,g2,g3,g4,g5⟩:=Ar.1 hg;refine zS tys_ok Tryz.func229 rfl rfl (Ag rfl) ?_;conv=>whnf
 refine zU (Nat × List (List UInt8)) (fun x=>([(0, .bp 0 0),(1,iv (but:Nat)),(6, .ow 1 x.2.length),(11,iv g.d),(12,iv (x.1:Nat))],zlR g t had x.2)) (fun x=>x.1<=g.d.toNat/\HW t had but x.1=some x.2) (fun x=>g.d.toNat - x.1) (0, []) ⟨Aj _,rfl⟩
  ⟨_,_,zB _ _, [(6,47,1)],tA, [0,1],tA,tA,rfl,rfl,rfl,rfl,rfl⟩ ?_
 rintro⟨k,l⟩ ⟨hk,hl⟩;simp only at hk hl;obtain⟨hll, -⟩:=Lm h8 k l (by omega) hl;by_cases hkd:k<g.d.toNat;rotate_left 1
 ·have ek:k=g.d.toNat:=by omega
  subst ek;rw [hl];conv=>whnf
  rw [show decide (((g.d.toNat:Nat):Int)<g.d)=false from decide_eq_false (by omega)];conv=>whnf
  repeat' (refine zZ ?_;conv=>whnf)
  exact⟨_, .tp [.ow 1 l.length, .v (.bool true)],zlR g t had l,fun _ _ h=>h,zR (s:= [0,1]) tA,rfl,rfl⟩
 ·have hs:HW t had but (k+1)=if k=but\/(t.getD k ez).lost=true then some l else if (had.getD k []).length=0 then none else some (l ++ [had.getD k []]):=by rw [HW,hl]
  have ixA:(0:Int)<=(k:Nat)/\((k:Nat):Int)<(t.length:Nat):=by omega
  have ixB:(0:Int)<=(k:Nat)/\((k:Nat):Int)<(had.length:Nat):=by omega
  conv=>whnf
  rw [show decide ((k:Int)<g.d)=true from decide_eq_true (by omega)];conv=>whnf
  repeat' (refine zZ ?_;conv=>whnf)
  by_cases he:k=but
  ·rw [if_pos (.inl he)] at hs;rw [show (((k:Nat):Int) == ((but:Nat):Int))=true from beq_iff_eq.2 (by rw [he])];conv=>whnf
   repeat' (refine zZ ?_;conv=>whnf)
   exact⟨(k+1,l),⟨hkd,hs⟩,by show g.d.toNat - (k+1)<g.d.toNat - k;omega,zR (s:= [0,1]) ⟨⟨rfl,rfl,rfl,rfl,AR (by omega),tv⟩,tA,rfl,rfl,rfl,rfl,rfl⟩⟩
  ·rw [show (((k:Nat):Int) == ((but:Nat):Int))=false from beq_eq_false_iff_ne.2 (by omega)];refine⟨ixA,?_⟩;conv=>whnf
   rw [Aa];by_cases hlo:(t.getD k ez).lost=true
   ·rw [if_pos (.inr hlo)] at hs;rw [show (t.getD k ⟨0,0,false⟩).lost=true from hlo];conv=>whnf
    repeat' (refine zZ ?_;conv=>whnf)
    exact⟨(k+1,l),⟨hkd,hs⟩,by show g.d.toNat - (k+1)<g.d.toNat - k;omega,zR (s:= [0,1]) ⟨⟨rfl,rfl,rfl,rfl,AR (by omega),tv⟩,tA,rfl,rfl,rfl,rfl,rfl⟩⟩
   ·rw [if_neg (fun q=>q.elim he hlo)] at hs;rw [show (t.getD k ⟨0,0,false⟩).lost=false from Bool.eq_false_iff.2 hlo];conv=>whnf
    repeat' (refine zZ ?_;conv=>whnf)
    refine⟨ixB,?_⟩;conv=>whnf
    rw [Aa];by_cases h0:(had.getD k []).length=0
    ·rw [if_pos h0] at hs;rw [show (((had.getD k []).length:Int) == 0)=true by rw [h0];try rfl];rw [MI hs g.d.toNat (by omega)];exact⟨_, .tp [.v (.slice none 0 0), .v (.bool false)],zlH g t had,fun _ _ h=>h,zR (s:= [0]) tA,rfl,rfl⟩
    ·rw [if_neg h0] at hs;rw [show (((had.getD k []).length:Int) == 0)=false from beq_eq_false_iff_ne.2 (by omega)];conv=>whnf
     repeat' (refine zZ ?_;conv=>whnf)
     refine⟨ixB,?_⟩;conv=>whnf
     rw [Aa];refine⟨rfl,?_⟩;conv=>whnf
     refine Af ⟨by rw [Ac],by show l.length+1<=1000000000;omega⟩ ?_;conv=>whnf
     exact⟨(k+1,l ++ [had.getD k []]),⟨hkd,hs⟩,by show g.d.toNat - (k+1)<g.d.toNat - k;omega,zR (s:= [0,1]) ⟨⟨rfl,rfl,congrArg (AV.ow 1) (show l.length+1=(l ++ [had.getD k []]).length by rw [Ai];try rfl),rfl,AR (by omega),tv⟩,⟨rfl,congrArg (fun z=>some (AB.row 47 1 z)) (show l.map HZ ++ [HZ (had.getD k [])]=(l ++ [had.getD k []]).map HZ by rw [A0];try rfl),tv⟩,rfl,rfl,rfl,rfl,rfl⟩⟩
theorem Oo (g:Geo) (t:List Ent) (had:List (List UInt8)) (b:List UInt8) (i:Nat) (hi:i<t.length):ACalls Tryz.prog false 231 [.bp 0 0,bA b,iv (i:Nat)] (zlH g t had) fun r H=>(if ((CS b:Nat):Int)=(t.getD i ez).sum then r = .tp [bA b, .v (.bool true)] else r = .tp [bA [], .v (.bool false)])/\H=zlH g t had:=by
 have h1:=IH b;have ixA:(0:Int)<=(i:Nat)/\((i:Nat):Int)<(t.length:Nat):=by omega
 by_cases he:((CS b:Nat):Int)=(t.getD i ez).sum
 ·simp only [if_pos he];refine zS tys_ok Tryz.func231 rfl rfl (Ag rfl) ?_;conv=>whnf
  apply zV (0) tys_ok mixed (.o [0,2,3,4,5,6,7,8,9,10,1,11] .fin) (by kernel_rfl);conv=>whnf
  try (refine tI ?_;conv=>whnf)
  refine z_ h1 ?_;conv=>whnf
  all_goals
   rw [Aa,show (((CS b:Nat):Int) != (t.getD i ⟨0,0,false⟩).sum)=false from bne_eq_false_iff_eq.2 he];exact⟨_, .tp [bA b, .v (.bool true)],zlH g t had,fun _ _ h=>h,zR (s:= [0]) tA,rfl,rfl⟩
 ·simp only [if_neg he];refine zS tys_ok Tryz.func231 rfl rfl (Ag rfl) ?_;conv=>whnf
  apply zV (0) tys_ok mixed (.o [0,2,3,4,5,6,7,8,9,10,1,11] .fin) (by kernel_rfl);conv=>whnf
  try (refine tI ?_;conv=>whnf)
  refine z_ h1 ?_;conv=>whnf
  all_goals
   rw [Aa,show (((CS b:Nat):Int) != (t.getD i ⟨0,0,false⟩).sum)=true from bne_iff_ne.2 he];exact⟨_, .tp [bA [], .v (.bool false)],zlH g t had,BL (m:= [bA [], .v (.bool false)]) ⟨Bn 1 _,ri,tv⟩,zR (s:= [0]) tA,rfl,rfl⟩
theorem KE (g:Geo) (t:List Ent) (had:List (List UInt8)) (i:Nat) (hg:Bq g=true) (ht:FB g t=true) (hh:(had.length:Int)=g.d+1) (h8:∀ b∈had,b.length=0\/b.length=8) (hi:(i:Int)<=g.d):ACalls Tryz.prog false 174 [.bp 0 0,iv (i:Nat)] (zlH g t had) fun r H=>r = .tp [bA (BO g t had i), .v (.bool (decide (0<(BO g t had i).length)))]/\H=zlH g t had:=by
 obtain⟨g1,g2,g3,g4,g5⟩:=Ar.1 hg;have htl:=GG ht;have ixA:(0:Int)<=(i:Nat)/\((i:Nat):Int)<(t.length:Nat):=by omega
 have ixB:(0:Int)<=(i:Nat)/\((i:Nat):Int)<(had.length:Nat):=by omega
 have hlp:(t.getD g.d.toNat ez).lost=false:=by
  have hlt:g.d.toNat<t.length:=by omega
  have:=ht;simp only [FB,Gf,Ae hlt,Dq,BE,Ad] at this;rw [Ab,Ae hlt];simpa using this.2
 by_cases hlo:(t.getD i ez).lost=true
 ·have hk:BO g t had i=[]:=by unfold BO;rw [if_pos hlo]
  rw [hk];refine zS tys_ok Tryz.func174 rfl rfl (Ag rfl) ?_;refine⟨ixA,?_⟩;conv=>whnf
  rw [Aa,show (t.getD i ⟨0,0,false⟩).lost=true from hlo];exact⟨_, .tp [bA [], .v (.bool false)],zlH g t had,BL (m:= [bA [], .v (.bool false)]) ⟨Bn 1 _,ri,tv⟩,zR (s:= [0]) tA,rfl,rfl⟩
 have hlo:(t.getD i ez).lost=false:=Bool.eq_false_iff.2 hlo;by_cases h0:0<(had.getD i []).length
 ·have hb:(had.getD i []).length=8:=by
   rcases h8 _ (A5 (d:=([]:List UInt8)) (show i<had.length by omega)) with e | e <;> omega
  have hk:BO g t had i=had.getD i []:=by unfold BO;rw [hlo,if_neg (by decide),if_pos h0]
  have hc:=BK (had.getD i []) (by omega);rw [hk,decide_eq_true h0];refine zS tys_ok Tryz.func174 rfl rfl (Ag rfl) ?_;refine⟨ixA,?_⟩;conv=>whnf
  rw [Aa,show (t.getD i ⟨0,0,false⟩).lost=false from hlo];refine⟨ixB,?_⟩;conv=>whnf
  rw [show decide ((((had.getD (((i:Nat):Int)).toNat []).length:Nat):Int) > 0)=true from decide_eq_true (by rw [Aa];omega)];refine⟨ixB,?_⟩;conv=>whnf
  refine z_ hc ?_;exact⟨_, .tp [bA (had.getD i []), .v (.bool true)],zlH g t had,fun _ _ h=>h,zR (s:= [0]) tA,rfl,rfl⟩
 have hzo:=P_ g t had i hg htl hh hi h8;have hkn:BO g t had i=match F2 t had i (g.d.toNat+1) with
   | none=> []
   | some b=>if ((CS b:Nat):Int)=(t.getD i ez).sum then b else []:=by
  unfold BO;rw [hlo,if_neg (by decide),if_neg h0];try rfl
 rw [RO,HW] at hkn;have ixC:(0:Int)<=g.d/\g.d<(had.length:Nat):=by omega
 cases hO:HW t had i g.d.toNat with
 | none=>
  rw [hO] at hzo hkn;simp only at hzo;have hk:BO g t had i=[]:=hkn;rw [hk];refine zS tys_ok Tryz.func174 rfl rfl (Ag rfl) ?_;refine⟨ixA,?_⟩;conv=>whnf
  rw [Aa,show (t.getD i ⟨0,0,false⟩).lost=false from hlo];refine⟨ixB,?_⟩;conv=>whnf
  rw [show decide ((((had.getD (((i:Nat):Int)).toNat []).length:Nat):Int) > 0)=false from decide_eq_false (by rw [Aa];omega)];conv=>whnf
  refine zh [0] hzo ?_;rintro _ _ ⟨rfl,rfl⟩;conv=>whnf
  repeat' (refine zZ ?_;conv=>whnf)
  by_cases hid:(i:Int)<g.d
  ·rw [show decide (((i:Nat):Int)<g.d)=true from decide_eq_true hid];conv=>whnf
   apply zV (0) tys_ok mixed (.o [0,1,2,3,4,5,6,7,8,9,10,11,12,13] .fin) (by kernel_rfl);conv=>whnf
   try (refine tI ?_;conv=>whnf)
   try (refine tJ ?_;conv=>whnf)
   try (refine tK ?_;conv=>whnf)
   all_goals
    conv=>whnf
    repeat' (refine zZ ?_;conv=>whnf)
    apply zV (0) tys_ok mixed (.o [0,1,2,3,4,5,6,7,8,9,10,11,12,13,14,15,16,17,18,19,20,21,22,23] .fin) (by kernel_rfl);conv=>whnf
    try (refine tI ?_;conv=>whnf)
    all_goals exact⟨_, .tp [bA [], .v (.bool false)],zlH g t had,BL (m:= [bA [], .v (.bool false)]) ⟨Bn 1 _,ri,tv⟩,zR (s:= [0]) tA,rfl,rfl⟩
  ·rw [show decide (((i:Nat):Int)<g.d)=false from decide_eq_false hid];conv=>whnf
   apply zV (0) tys_ok mixed (.o [0,1,2,3,4,5,6,7,8,9,10,11,12,13,14,15,16,17,18,19,20,21,22,23] .fin) (by kernel_rfl);conv=>whnf
   try (refine tI ?_;conv=>whnf)
   all_goals exact⟨_, .tp [bA [], .v (.bool false)],zlH g t had,BL (m:= [bA [], .v (.bool false)]) ⟨Bn 1 _,ri,tv⟩,zR (s:= [0]) tA,rfl,rfl⟩
 | some l=>
  rw [hO] at hzo hkn;simp only at hzo hkn;obtain⟨hll,hl8⟩:=Lm h8 _ l (by omega) hO;have fin:∀ m:List (List UInt8),(∀ b∈m,b.length=8)->BO g t had i=(if ((CS (FO m):Nat):Int)=(t.getD i ez).sum then FO m else [])->∀ r H,((if ((CS (FO m):Nat):Int)=(t.getD i ez).sum then r=AV.tp [bA (FO m), .v (.bool true)] else r = .tp [bA [], .v (.bool false)])/\H=zlH g t had)->r = .tp [bA (BO g t had i), .v (.bool (decide (0<(BO g t had i).length)))]/\H=zlH g t had:=fun m hm e r H hh=>by
   rw [e];by_cases hq:((CS (FO m):Nat):Int)=(t.getD i ez).sum
   ·rw [if_pos hq] at hh |-
    rw [hh.1,show (FO m).length=8 from xorL_len _ _ rfl hm];exact⟨rfl,hh.2⟩
   ·rw [if_neg hq] at hh |-
    exact⟨hh.1,hh.2⟩
  by_cases hid:(i:Int)<g.d;rotate_left 1
  ·have ei:g.d.toNat=i:=by omega
   rw [if_pos (.inl ei)] at hkn;have hxa:=Nx l (by omega) hl8;have hto:=(Oo g t had (FO l) i (by omega)).mono (fin l hl8 hkn);refine zS tys_ok Tryz.func174 rfl rfl (Ag rfl) ?_;refine⟨ixA,?_⟩;conv=>whnf
   rw [Aa,show (t.getD i ⟨0,0,false⟩).lost=false from hlo];refine⟨ixB,?_⟩;conv=>whnf
   rw [show decide ((((had.getD (((i:Nat):Int)).toNat []).length:Nat):Int) > 0)=false from decide_eq_false (by rw [Aa];omega)];conv=>whnf
   refine zh [0] hzo ?_;rintro _ _ ⟨rfl,rfl⟩;conv=>whnf
   repeat' (refine zZ ?_;conv=>whnf)
   rw [show decide (((i:Nat):Int)<g.d)=false from decide_eq_false hid];conv=>whnf
   apply zV (0) tys_ok mixed (.o [0,1,2,3,4,5,6,7,8,9,10,11,12,13,14,15,16,17,18,19,20,21,22,23] .fin) (by kernel_rfl);conv=>whnf
   try (refine tI ?_;conv=>whnf)
   all_goals
    rw [show decide (((i:Nat):Int)<g.d)=false from decide_eq_false hid];conv=>whnf
    repeat' (refine zZ ?_;conv=>whnf)
    refine Fn.shut (args':= [.sl 1 l.length fun i=>(l.map HZ).getD i [],iv 8]) (hxa.subA ⟨Ev rfl rfl,fun _ _ h=>h,tv⟩) ⟨by rw [Ac],rfl,?_⟩;rintro _ rfl;conv=>whnf
    repeat' (refine zZ ?_;conv=>whnf)
    refine zh [0] hto ?_;rintro _ _ ⟨rfl,rfl⟩;exact⟨_, .tp [bA (BO g t had i), .v (.bool (decide (0<(BO g t had i).length)))],zlH g t had,fun _ _ h=>h,zR (s:= [0]) tA,rfl,rfl⟩
  ·have ne:¬(g.d.toNat=i\/(t.getD g.d.toNat ez).lost=true):=fun q=>q.elim (by omega) (by rw [hlp];decide)
   rw [if_neg ne] at hkn;by_cases hp0:(had.getD g.d.toNat []).length=0
   ·rw [if_pos hp0] at hkn;have hk:BO g t had i=[]:=hkn;rw [hk];refine zS tys_ok Tryz.func174 rfl rfl (Ag rfl) ?_;refine⟨ixA,?_⟩;conv=>whnf
    rw [Aa,show (t.getD i ⟨0,0,false⟩).lost=false from hlo];refine⟨ixB,?_⟩;conv=>whnf
    rw [show decide ((((had.getD (((i:Nat):Int)).toNat []).length:Nat):Int) > 0)=false from decide_eq_false (by rw [Aa];omega)];conv=>whnf
    refine zh [0] hzo ?_;rintro _ _ ⟨rfl,rfl⟩;conv=>whnf
    repeat' (refine zZ ?_;conv=>whnf)
    rw [show decide (((i:Nat):Int)<g.d)=true from decide_eq_true hid];conv=>whnf
    apply zV (0) tys_ok mixed (.o [0,1,2,3,4,5,6,7,8,9,10,11,12,13] .fin) (by kernel_rfl);conv=>whnf
    try (refine tI ?_;conv=>whnf)
    try (refine tJ ?_;conv=>whnf)
    try (refine tK ?_;conv=>whnf)
    all_goals
     conv=>whnf
     repeat' (refine zZ ?_;conv=>whnf)
     apply zV (0) tys_ok mixed (.o [0,1,2,3,4,5,6,7,8,9,10,11,12,13,14,15,16,17,18,19,20,21,22,23] .fin) (by kernel_rfl);conv=>whnf
     try (refine tI ?_;conv=>whnf)
     all_goals
      rw [show decide (((i:Nat):Int)<g.d)=true from decide_eq_true hid];refine⟨ixC,?_⟩;conv=>whnf
      rw [show (((had.getD g.d.toNat []).length:Int) == 0)=true by rw [hp0];try rfl];conv=>whnf
      repeat' (refine zZ ?_;conv=>whnf)
      exact⟨_, .tp [bA [], .v (.bool false)],zlH g t had,BL (m:= [bA [], .v (.bool false)]) ⟨Bn 1 _,ri,tv⟩,zR (s:= [0]) tA,rfl,rfl⟩
   ·rw [if_neg hp0] at hkn;have hpl:(had.getD g.d.toNat []).length=8:=by
     rcases h8 _ (A5 (d:=([]:List UInt8)) (show g.d.toNat<had.length by omega)) with e | e
     ·exact absurd e hp0
     ·exact e
    have hm8:∀ b∈l ++ [had.getD g.d.toNat []],b.length=8:=fun b hb=>by
     rcases A3.1 hb with q | q
     ·exact hl8 b q
     ·rw [AF] at q;rw [q];exact hpl
    have hxa:=Nx (l ++ [had.getD g.d.toNat []]) (by rw [Ai,Dl];omega) hm8;have hto:=(Oo g t had (FO (l ++ [had.getD g.d.toNat []])) i (by omega)).mono (fin _ hm8 hkn);refine zS tys_ok Tryz.func174 rfl rfl (Ag rfl) ?_;refine⟨ixA,?_⟩;conv=>whnf
    rw [Aa,show (t.getD i ⟨0,0,false⟩).lost=false from hlo];refine⟨ixB,?_⟩;conv=>whnf
    rw [show decide ((((had.getD (((i:Nat):Int)).toNat []).length:Nat):Int) > 0)=false from decide_eq_false (by rw [Aa];omega)];conv=>whnf
    refine zh [0] hzo ?_;rintro _ _ ⟨rfl,rfl⟩;conv=>whnf
    repeat' (refine zZ ?_;conv=>whnf)
    rw [show decide (((i:Nat):Int)<g.d)=true from decide_eq_true hid];conv=>whnf
    apply zV (0) tys_ok mixed (.o [0,1,2,3,4,5,6,7,8,9,10,11,12,13] .fin) (by kernel_rfl);conv=>whnf
    try (refine tI ?_;conv=>whnf)
    try (refine tJ ?_;conv=>whnf)
    try (refine tK ?_;conv=>whnf)
    all_goals
     conv=>whnf
     repeat' (refine zZ ?_;conv=>whnf)
     apply zV (0) tys_ok mixed (.o [0,1,2,3,4,5,6,7,8,9,10,11,12,13,14,15,16,17,18,19,20,21,22,23] .fin) (by kernel_rfl);conv=>whnf
     try (refine tI ?_;conv=>whnf)
     all_goals
      rw [show decide (((i:Nat):Int)<g.d)=true from decide_eq_true hid];refine⟨ixC,?_⟩;conv=>whnf
      rw [show (((had.getD g.d.toNat []).length:Int) == 0)=false from beq_eq_false_iff_ne.2 (by omega)];conv=>whnf
      repeat' (refine zZ ?_;conv=>whnf)
      refine Fn.shut (args':= [.sl 1 (l.length+1) fun i=>(l.map HZ ++ [HZ (had.getD g.d.toNat [])]).getD i [],iv 8]) (hxa.subA ⟨Ev (by rw [Ai];try rfl) (by rw [A0];try rfl),fun _ _ h=>h,tv⟩) ⟨by rw [Ai,Ac];try rfl,rfl,?_⟩;rintro _ rfl;conv=>whnf
      repeat' (refine zZ ?_;conv=>whnf)
      refine zh [0] hto ?_;rintro _ _ ⟨rfl,rfl⟩;exact⟨_, .tp [bA (BO g t had i), .v (.bool (decide (0<(BO g t had i).length)))],zlH g t had,fun _ _ h=>h,zR (s:= [0]) tA,rfl,rfl⟩
theorem KF (g:Geo) (t:List Ent) (had:List (List UInt8)) (hg:Bq g=true) (ht:FB g t=true) (hh:(had.length:Int)=g.d+1) (h8:∀ b∈had,b.length=0\/b.length=8):ACalls Tryz.prog false 173 [.ag (Ba g), .ag [BP t],FT had] [] fun r H=>r = .tp [.bp 0 0,iv 0]/\H=zlH g t had:=by
 obtain⟨g1,g2,g3,g4,g5⟩:=Ar.1 hg;have htl:=GG ht;have hc:=Mx g t (by omega);rw [ht] at hc;have hz:=Yb had (by omega);have e:(had.any fun b=>((((b.length:Nat):Int) != 0)&&(((b.length:Nat):Int) != 8)))=false:=by
  rw [List.any_eq_false];intro b hb;rcases h8 b hb with e | e <;> rw [e] <;> decide
 rw [e] at hz;refine zS tys_ok Tryz.func173 rfl rfl (Ag rfl) ?_;conv=>whnf
 refine z_ hc ?_;conv=>whnf
 rw [show (((had.length:Nat):Int) != IntKind.i64.wrap (g.d+1))=false from bne_eq_false_iff_eq.2 (by rw [wi (by omega)];exact hh)];conv=>whnf
 refine z_ hz ?_;exact⟨_, .tp [.bp 0 0,iv 0],zlH g t had,fun _ _ h=>h,zR (s:= [2]) tA,rfl,rfl⟩
theorem Qa (g:Geo) (t:List Ent) (had:List (List UInt8)) (i:Nat) (hg:Bq g=true) (ht:FB g t=true) (hh:(had.length:Int)=g.d+1) (h8:∀ b∈had,b.length=0\/b.length=8) (hi:(i:Int)<g.d):Fn Tryz.prog 106 [.ag (Ba g), .ag [BP t],FT had,iv (i:Nat)] fun r=>r=if 0<(BO g t had i).length then .tp [bA (BO g t had i),iv 0] else .tp [bA [],iv 13]:=by
 obtain⟨g1,g2,g3,g4,g5⟩:=Ar.1 hg;have hb:=KF g t had hg ht hh h8;have hk:=KE g t had i hg ht hh h8 (by omega);have t1:decide (((i:Nat):Int) < -1)=false:=decide_eq_false (by omega);have t2:decide (((i:Nat):Int)>=g.d)=false:=decide_eq_false (by omega);have t3:(((i:Nat):Int) == -1)=false:=beq_eq_false_iff_ne.2 (by omega);by_cases hq:0<(BO g t had i).length
 ·rw [decide_eq_true hq] at hk;rw [if_pos hq];refine zT Tryz.func106 rfl ?_;conv=>whnf
  refine zW hb rfl ?_;rintro _ _ ⟨rfl,rfl⟩;conv=>whnf
  repeat' (refine zZ ?_;conv=>whnf)
  rw [t1];conv=>whnf
  rw [t2];conv=>whnf
  repeat' (refine zZ ?_;conv=>whnf)
  rw [t3];conv=>whnf
  repeat' (refine zZ ?_;conv=>whnf)
  refine zh [2] hk ?_;rintro _ _ ⟨rfl,rfl⟩;conv=>whnf
  repeat' (refine zZ ?_;conv=>whnf)
  exact⟨_,ri,rfl⟩
 ·rw [decide_eq_false hq] at hk;rw [if_neg hq];refine zT Tryz.func106 rfl ?_;conv=>whnf
  refine zW hb rfl ?_;rintro _ _ ⟨rfl,rfl⟩;conv=>whnf
  repeat' (refine zZ ?_;conv=>whnf)
  rw [t1];conv=>whnf
  rw [t2];conv=>whnf
  repeat' (refine zZ ?_;conv=>whnf)
  rw [t3];conv=>whnf
  repeat' (refine zZ ?_;conv=>whnf)
  refine zh [2] hk ?_;rintro _ _ ⟨rfl,rfl⟩;conv=>whnf
  repeat' (refine zZ ?_;conv=>whnf)
  exact⟨.tp [bA [],iv 13],BL (m:= [bA [],iv 13]) ⟨Bn 1 _,ri,tv⟩,rfl⟩
def Jn (g:Geo) (t:List Ent) (had:List (List UInt8)) (k:Nat):List (List UInt8):=(List.range k).map (BO g t had)
def Jm (g:Geo) (t:List Ent) (had:List (List UInt8)) (k:Nat):List Bool:=(List.range k).map fun i=>decide (0<(BO g t had i).length)
theorem Uj (g:Geo) (t:List Ent) (had:List (List UInt8)) (hg:Bq g=true) (ht:FB g t=true) (hh:(had.length:Int)=g.d+1) (h8:∀ b∈had,b.length=0\/b.length=8):Fn Tryz.prog 232 [.ag (Ba g), .ag [BP t],FT had] fun r=>r = .tp [FT (Jn g t had had.length),Zu (Jm g t had had.length),iv 0]:=by
 obtain⟨g1,g2,g3,g4,g5⟩:=Ar.1 hg;have htl:=GG ht;have hb:=KF g t had hg ht hh h8;have hd1:IntKind.i64.wrap (g.d+1)=g.d+1:=wi (by omega);have l1:∀ k,(Jn g t had k).length=k:=fun k=>by simp [Jn]
 have l2:∀ k,(Jm g t had k).length=k:=fun k=>by simp [Jm]
 refine zT Tryz.func232 rfl ?_;conv=>whnf
 refine zW hb rfl ?_;rintro _ _ ⟨rfl,rfl⟩;conv=>whnf
 rw [hd1];refine zU Nat (fun k=>([(6, .ow 3 k),(7, .ow 4 k),(9, .bp 2 0),(25,iv (g.d+1)),(26,iv (k:Nat))], [.box 23 (Ba g), .box 70 [BP t], .box 298 [iv g.d,BP t,FT had], .row 47 1 ((Jn g t had k).map HZ), .row 4 1 ((Jm g t had k).map YO)])) (fun k=>k<=had.length) (fun k=>had.length - k) 0 (Aj _)
  ⟨_,_,zB _ _, [(6,47,1),(7,4,1)],tA, [0,1,2,3,4],tA,tA,rfl,rfl,rfl,rfl,rfl⟩ ?_
 intro k hk;by_cases hkn:k<had.length
 ·have hkk:=KE g t had k hg ht hh h8 (by omega);have e1:(Jn g t had k).map HZ ++ [HZ (BO g t had k)]=(Jn g t had (k+1)).map HZ:=by simp [Jn,Bh]
  have e2:(Jm g t had k).map YO ++ [YO (decide (0<(BO g t had k).length))]=(Jm g t had (k+1)).map YO:=by simp [Jm,Bh]
  conv=>whnf
  rw [show decide ((k:Int)<g.d+1)=true from decide_eq_true (by omega)];conv=>whnf
  repeat' (refine zZ ?_;conv=>whnf)
  refine zh [2] hkk ?_;rintro _ _ ⟨rfl,rfl⟩;conv=>whnf
  repeat' (refine zZ ?_;conv=>whnf)
  refine⟨rfl,?_⟩;refine⟨⟨by rw [Ac,l1],by omega⟩,?_⟩;refine⟨rfl,?_⟩;refine⟨⟨by rw [Ac,l2],by omega⟩,?_⟩;exact⟨k+1,by omega,by omega,zR (s:= [0,1,2,3,4]) ⟨⟨rfl,rfl,rfl,rfl,AR (by omega),tv⟩,⟨rfl,rfl,rfl,congrArg (fun es=>some (AB.row 47 1 es)) e1,congrArg (fun es=>some (AB.row 4 1 es)) e2,tv⟩,rfl,rfl,rfl,rfl,rfl⟩⟩
 ·have ek:k=had.length:=by omega
  subst ek;conv=>whnf
  rw [show decide (((had.length:Nat):Int)<g.d+1)=false from decide_eq_false (by omega)];conv=>whnf
  repeat' (refine zZ ?_;conv=>whnf)
  refine⟨(by rw [Ac,l1]),?_⟩;refine⟨(by rw [Ac,l2]),?_⟩;exact⟨.tp [FT (Jn g t had had.length),Zu (Jm g t had had.length),iv 0],BL (m:= [FT (Jn g t had had.length),Zu (Jm g t had had.length),iv 0]) ⟨Ev (l1 _).symm rfl,YN (l2 _).symm rfl,ri,tv⟩,rfl⟩
theorem N3 {g:Geo} {s:Stt} {G:Gr} {z:Int} {t:List Ent} (h:Gj g s G z=some t):FB g t=true:=by
 have hr:∀ {b:List UInt8} {t:List Ent},Cb g b=some t->FB g t=true:=fun {b t} h=>by
  unfold Cb at h;split at h
  ·rename_i hh;obtain rfl:=Option.some.inj h;exact hh.1
  ·cases h
 have ho:∀ {x:Gt} {a r:Int} {t:List Ent},CM g x a r=some t->FB g t=true:=fun {x a r t} h=>by
  unfold CM at h;split at h
  ·split at h
   ·exact hr h
   ·cases h
  ·cases h
 unfold Gj at h;split at h
 ·exact hr h
 ·split at h
  ·rename_i hh;obtain rfl:=Option.some.inj h;exact ho hh
  ·exact ho h
theorem Vk {g:Geo} {s:Stt} {G:Gr} {t:List Ent} {z w:Int} (hi:∀ t∈s.txns,∀ x∈t.images,Bz g x=true) (hw:w≠255):(EW g s G t z w).length=0\/(EW g s G t z w).length=8:=by
 unfold EW;split
 ·rename_i p hp;obtain⟨x,q⟩:=p;obtain⟨t',ht, -,hx, -,e⟩:=G0 (Ah _) hp;exact .inr ((F3 (hi t' ht x hx)).2 (by rw [e];exact hw)).2.2
 ·unfold DO;split
  ·split
   ·rename_i h;exact .inr h.2.1
   ·exact .inl rfl
  ·exact .inl rfl
theorem L6 {g:Geo} (hg:Bq g=true) {s:Stt} {G:Gr} {t:List Ent} {z:Int} (hi:∀ t∈s.txns,∀ x∈t.images,Bz g x=true):((EL g s G t z).length:Int)=g.d+1/\∀ b∈EL g s G t z,b.length=0\/b.length=8:=by
 have g5:=Ar.1 hg;refine⟨by unfold EL;rw [Ac,Cc];omega,fun b hb=>?_⟩;obtain⟨i,hi2,rfl⟩:=AK.1 hb;have:=AO.1 hi2;exact Vk hi (by unfold VB;split <;> omega)
def PR (g:Geo) (s:Stt) (G:Gr) (z A:Int):Option (List UInt8):=match Gj g s G z with
 | none=>none
 | some t=>if (t.getD A.toNat ez).lost=true then none else if 0<(EW g s G t z A).length then some (EW g s G t z A) else if 0<(BO g t (EL g s G t z) A.toNat).length then some (BO g t (EL g s G t z) A.toNat) else none
def Rn (o:Option (List UInt8)):AV:=match o with
 | some b=> .tp [bA b,iv 0]
 | none=> .tp [bA [],iv 13]
theorem Of (g:Geo) (s:Stt) (d:Dk) (G:Gr) (lba:Int) (hg:Bq g=true) (hl:LogB s.txns) (himg:∀ t∈s.txns,∀ x∈t.images,Bz g x=true) (ha:Bv g s.a=true) (h:Gs (A4 g) d G) (hF:∀ a,(G a).bytes.length<=100000) (h8:∀ a,(G a).err≠8) (hb:0<=lba/\lba<g.z*g.d) (hB:∀ p,Db s.txns (lba.tdiv g.d) 255=some p->p.1.bytes.length<=100000/\(Cb g p.1.bytes).isSome=true) :
  ACalls Tryz.prog false 43 [.bp 0 0,iv lba] (Fz g s d) fun r H=>r=Rn (PR g s G (lba.tdiv g.d) (lba.tmod g.d))/\∃ d',Gs (A4 g) d' G/\H=Fz g s d':=by
 have g5:=Ar.1 hg;have h1:=MY g lba hg hb;have hz:0<=lba.tdiv g.d/\lba.tdiv g.d<g.z:=by
  rw [Bj hb.1];exact⟨Ds hb.1 (by omega),Dm (by omega) hb.2⟩
 have hA:0<=lba.tmod g.d/\lba.tmod g.d<g.d:=⟨Be _ hb.1,AL _ (by omega)⟩;obtain⟨Z,hZ⟩:∃ Z,Z=lba.tdiv g.d:=⟨_,rfl⟩;obtain⟨A,hAe⟩:∃ A,A=lba.tmod g.d:=⟨_,rfl⟩;rw [<-hZ] at h1 hz hB |-
 rw [<-hAe] at h1 hA |-
 have h2:=PF g s d G Z hg hl ha h hF h8 hz hB;have h3:=HJ s.txns Z A hl.n hl.i;obtain⟨O,hO⟩:∃ O,O=PR g s G Z A:=⟨_,rfl⟩;rw [<-hO];unfold PR at hO;cases hT:Gj g s G Z with
 | none=>
  rw [hT] at h2 hO;simp only at h2 hO;subst hO;refine zS tys_ok Tryz.func43 rfl rfl (Ag rfl) ?_;conv=>whnf
  refine z_ h1 ?_;conv=>whnf
  refine zh [0,1,2,3,4] h2 ?_;rintro _ _ ⟨rfl,d2,hd2,rfl⟩;conv=>whnf
  repeat' (refine zZ ?_;conv=>whnf)
  exact⟨_,Rn none,Fz g s d2,BL (m:= [bA [],iv 13]) ⟨Bn 1 _,ri,tv⟩,zR (s:= [0,1,2,3,4]) tA,rfl,d2,hd2,rfl⟩
 | some t=>
  rw [hT] at h2 hO;simp only at h2 hO;have htok:=N3 hT;have htl:=GG htok;have ixA:0<=A/\A<(t.length:Nat):=by omega
  by_cases hlo:(t.getD A.toNat ez).lost=true
  ·rw [if_pos hlo] at hO;subst hO;refine zS tys_ok Tryz.func43 rfl rfl (Ag rfl) ?_;conv=>whnf
   refine z_ h1 ?_;conv=>whnf
   refine zh [0,1,2,3,4] h2 ?_;rintro _ _ ⟨rfl,d2,hd2,rfl⟩;conv=>whnf
   repeat' (refine zZ ?_;conv=>whnf)
   refine⟨ixA,?_⟩;conv=>whnf
   rw [show (t.getD A.toNat ⟨0,0,false⟩).lost=true from hlo];exact⟨_,Rn none,Fz g s d2,BL (m:= [bA [],iv 13]) ⟨Bn 1 _,ri,tv⟩,zR (s:= [0,1,2,3,4]) tA,rfl,d2,hd2,rfl⟩
  rw [if_neg hlo] at hO;have hlo:(t.getD A.toNat ⟨0,0,false⟩).lost=false:=Bool.eq_false_iff.2 hlo;cases hL:Db s.txns Z A with
  | some p=>
   have e1:EW g s G t Z A=p.1.bytes:=by unfold EW;rw [hL]
   have hp8:p.1.bytes.length=8:=by
    obtain⟨x,q⟩:=p;obtain⟨t',ht, -,hx, -,e⟩:=G0 (Ah _) hL;exact((F3 (himg t' ht x hx)).2 (by rw [e];omega)).2.2
   rw [e1,if_pos (by omega)] at hO;subst hO;rw [hL] at h3;simp only at h3;refine zS tys_ok Tryz.func43 rfl rfl (Ag rfl) ?_;conv=>whnf
   refine z_ h1 ?_;conv=>whnf
   refine zh [0,1,2,3,4] h2 ?_;rintro _ _ ⟨rfl,d2,hd2,rfl⟩;conv=>whnf
   repeat' (refine zZ ?_;conv=>whnf)
   refine⟨ixA,?_⟩;conv=>whnf
   rw [hlo];conv=>whnf
   refine zh [4] h3 ?_;rintro _ _ ⟨rfl,rfl⟩;exact⟨_,Rn (some p.1.bytes),Fz g s d2,fun _ _ h=>h,zR (s:= [0,1,2,3,4]) tA,rfl,d2,hd2,rfl⟩
  | none=>
   have e1:EW g s G t Z A=(DO (G (DF g s.a Z A)) (DF g s.a Z A) (t.getD (F0 g A).toNat ez)).getD []:=by unfold EW;rw [hL]
   rw [hL] at h3;simp only at h3;refine zS tys_ok Tryz.func43 rfl rfl (Ag rfl) ?_;conv=>whnf
   refine z_ h1 ?_;conv=>whnf
   refine zh [0,1,2,3,4] h2 ?_;rintro _ _ ⟨rfl,d2,hd2,rfl⟩;have h4:=JM g s d2 G Z A t hg ha hd2 hF h8 hz (by omega) htl;rw [<-e1] at h4;conv=>whnf
   repeat' (refine zZ ?_;conv=>whnf)
   refine⟨ixA,?_⟩;conv=>whnf
   rw [hlo];conv=>whnf
   refine zh [4] h3 ?_;rintro _ _ ⟨rfl,rfl⟩;conv=>whnf
   repeat' (refine zZ ?_;conv=>whnf)
   refine zh [0,1,2,3,4] h4 ?_;rintro _ _ ⟨rfl,d3,hd3,rfl⟩;conv=>whnf
   repeat' (refine zZ ?_;conv=>whnf)
   by_cases hq:0<(EW g s G t Z A).length
   ·rw [if_pos hq] at hO;subst hO;rw [show decide ((((EW g s G t Z A).length:Nat):Int) > 0)=true from decide_eq_true (by omega)];exact⟨_,Rn (some (EW g s G t Z A)),Fz g s d3,fun _ _ h=>h,zR (s:= [0,1,2,3,4]) tA,rfl,d3,hd3,rfl⟩
   ·rw [if_neg hq] at hO;have h5:=Kl g s d3 G Z hg hl ha hd3 hF h8 hz hB t hT;obtain⟨k1,k2⟩:=L6 hg (s:=s) (G:=G) (t:=t) (z:=Z) himg;have h6:=Qa g t (EL g s G t Z) A.toNat hg htok k1 k2 (by omega);rw [show ((A.toNat:Nat):Int)=A by omega] at h6;rw [show decide ((((EW g s G t Z A).length:Nat):Int) > 0)=false from decide_eq_false (by omega)];conv=>whnf
    refine zh [0,1,2,3,4] h5 ?_;rintro _ _ ⟨rfl,d4,hd4,rfl⟩;conv=>whnf
    repeat' (refine zZ ?_;conv=>whnf)
    by_cases hk:0<(BO g t (EL g s G t Z) A.toNat).length
    ·rw [if_pos hk] at hO h6;subst hO;apply zV (0) tys_ok mixed (.o [0,1,2,3,4,5,6,7,8,9,10,11] .fin) (by kernel_rfl);conv=>whnf
     refine z_ h6 ?_;conv=>whnf
     all_goals exact⟨_,Rn (some (BO g t (EL g s G t Z) A.toNat)),Fz g s d4,fun _ _ h=>h,zR (s:= [0,1,2,3,4]) tA,rfl,d4,hd4,rfl⟩
    ·rw [if_neg hk] at hO h6;subst hO;apply zV (0) tys_ok mixed (.o [0,1,2,3,4,5,6,7,8,9,10,11] .fin) (by kernel_rfl);conv=>whnf
     refine z_ h6 ?_;conv=>whnf
     all_goals exact⟨_,Rn none,Fz g s d4,fun _ _ h=>h,zR (s:= [0,1,2,3,4]) tA,rfl,d4,hd4,rfl⟩
structure AtsOk (g:Geo) (l:List Int):Prop where
 pos:0<l.length
 len:l.length<=1000
 at_:∀ i:Nat,i<l.length->0<=l.getD i 0/\l.getD i 0<g.d
 up:∀ i:Nat,i+1<l.length->l.getD i 0<l.getD (i+1) 0
theorem AtsOk.lt {g:Geo} {l:List Int} (h:AtsOk g l):∀ {j k:Nat},j<k->k<l.length->l.getD j 0<l.getD k 0:=fun {j k} hjk hk=>by
 induction k with
 | zero=>omega
 | succ k ih=>
  by_cases e:j=k
  ·rw [e];exact h.up k hk
  ·exact Int.lt_trans (ih (by omega) (by omega)) (h.up k hk)
theorem AtsOk.inj {g:Geo} {l:List Int} (h:AtsOk g l) {j k:Nat} (hj:j<l.length) (hk:k<l.length) (e:l.getD j 0=l.getD k 0):j=k:=by
 rcases Nat.lt_trichotomy j k with q | q | q
 ·have:=h.lt q hk;omega
 ·exact q
 ·have:=h.lt q hj;omega
theorem JU (g:Geo) (l:List Int) (h:AtsOk g l):Fn Tryz.prog 233 [.ag (Ba g),iA l] fun r=>r = .v (.bool true):=by
 have hp:=h.pos;have hln:=h.len;refine zT Tryz.func233 rfl ?_;conv=>whnf
 refine zU Nat (fun k=>([(1,iA l),(2, .bp 0 0),(7,iA l),(8,iv (l.length:Nat)),(9,iv (k:Nat))], [.box 23 (Ba g)])) (fun k=>k<=l.length) (fun k=>l.length - k) 0 (Aj _)
  (zR (s:= [0]) tA) ?_
 intro k hk;conv=>whnf
 refine A6 (fun h6=>?_) (fun h6=>?_) <;> (repeat rw [Aa] at h6) <;> conv=>whnf
 ·have hk':k<l.length:=by omega
  obtain⟨q1,q2⟩:=h.at_ k hk';repeat' (refine zZ ?_;conv=>whnf)
  refine⟨⟨by omega,by omega⟩,?_⟩;conv=>whnf
  repeat' (refine zZ ?_;conv=>whnf)
  rw [Aa,show decide (l.getD k 0<0)=false from decide_eq_false (by omega)];conv=>whnf
  rw [show decide (l.getD k 0>=g.d)=false from decide_eq_false (by omega)];conv=>whnf
  by_cases hk0:k=0
  ·rw [show decide (((k:Nat):Int) > 0)=false from decide_eq_false (by omega)];conv=>whnf
   repeat' (refine zZ ?_;conv=>whnf)
   exact⟨k+1,hk',by omega,zR (s:= [0]) ⟨⟨rfl,rfl,rfl,rfl,AR (by omega),tv⟩,tA,rfl,rfl,rfl,rfl,rfl⟩⟩
  ·have hu:=h.up (k - 1) (by omega);have ew:IntKind.i64.wrap (((k:Nat):Int) - 1)=((k - 1:Nat):Int):=by rw [wi (by omega)];omega
   rw [show decide (((k:Nat):Int) > 0)=true from decide_eq_true (by omega)];conv=>whnf
   rw [ew];refine⟨⟨by omega,by omega⟩,?_⟩;conv=>whnf
   rw [Aa,show decide (l.getD k 0<=l.getD (k - 1) 0)=false from decide_eq_false (by rw [Nat.sub_add_cancel (by omega)] at hu;omega)];conv=>whnf
   repeat' (refine zZ ?_;conv=>whnf)
   exact⟨k+1,hk',by omega,zR (s:= [0]) ⟨⟨rfl,rfl,rfl,rfl,AR (by omega),tv⟩,tA,rfl,rfl,rfl,rfl,rfl⟩⟩
 ·repeat' (refine zZ ?_;conv=>whnf)
  exact⟨_,ri,by rw [show decide (((l.length:Nat):Int) > 0)=true from decide_eq_true (by omega)]⟩
theorem WR (l:List Int) (p:Int) (hl:l.length<=1000000):Fn Tryz.prog 186 [iA l,iv p] fun r=>∃ n:Int,r = iv n/\((n = -1/\∀ j:Nat,j<l.length->l.getD j 0≠p)\/∃ k:Nat,k<l.length/\n=(k:Nat)/\l.getD k 0=p):=by
 refine zT Tryz.func186 rfl ?_;conv=>whnf
 refine zU Nat (fun k=>([(0,iA l),(1,iv p),(7,iv (l.length:Nat)),(8,iv (k:Nat))], [])) (fun k=>k<=l.length/\∀ j:Nat,j<k->l.getD j 0≠p) (fun k=>l.length - k) 0 ⟨Aj _,fun j hj=>absurd hj (Ao j)⟩
  (zR (s:= []) tA) ?_
 rintro k ⟨hk,hI⟩;conv=>whnf
 refine A6 (fun h6=>?_) (fun h6=>?_) <;> (repeat rw [Aa] at h6) <;> conv=>whnf
 ·have hk':k<l.length:=by omega
  repeat' (refine zZ ?_;conv=>whnf)
  refine⟨⟨by omega,by omega⟩,?_⟩;conv=>whnf
  rw [Aa];by_cases e:l.getD k 0=p
  ·rw [show (p == l.getD k 0)=true from beq_iff_eq.2 e.symm];exact⟨_,ri,_,rfl, .inr ⟨k,hk',rfl,e⟩⟩
  ·rw [show (p == l.getD k 0)=false from beq_eq_false_iff_ne.2 (Ne.symm e)];conv=>whnf
   repeat' (refine zZ ?_;conv=>whnf)
   exact⟨k+1,⟨hk',fun j hj=>by by_cases q:j=k;exact q ▸ e;exact hI j (by omega)⟩,by omega,zR (s:= []) ⟨⟨rfl,rfl,rfl,AR (by omega),tv⟩,tv,rfl,rfl,rfl,rfl,rfl⟩⟩
 ·have ek:k=l.length:=by omega
  subst ek;exact⟨_,ri,_,rfl, .inl ⟨rfl,hI⟩⟩
theorem OX {ats:List Int} {bs:List (List UInt8)} {i:Nat}:∀ m,(∀ j:Nat,j<m->ats.getD j 0≠(i:Int))->Em ats bs i m=none
 | 0,_=>rfl
 | m+1,h=>by rw [Em,if_neg (h m (by omega)),OX m fun j hj=>h j (by omega)]
theorem OY {g:Geo} {ats:List Int} (h:AtsOk g ats) {bs:List (List UInt8)} {i k:Nat} (hk:k<ats.length) (e:ats.getD k 0=(i:Int)):∀ m,k<m->m<=ats.length->Em ats bs i m=some (bs.getD k [])
 | 0,q,_=>absurd q (Ao k)
 | m+1,q,hm=>by
  rw [Em];by_cases hq:k=m
  ·rw [<-hq,if_pos e]
  ·rw [if_neg fun q2=>hq (h.inj hk (by omega) (e.trans q2.symm)),OY h hk e m (by omega) (by omega)]
def DJ (g:Geo) (t:List Ent) (had:List (List UInt8)) (ats:List Int) (bs:List (List UInt8)) (k:Nat):List (List UInt8):=((List.range k).map (Gp g t had ats bs)).filter fun b=>decide (b.length≠0)
section
variable {g:Geo} {t:List Ent} {had:List (List UInt8)} {ats:List Int} {bs:List (List UInt8)}
theorem KU (k:Nat):DJ g t had ats bs (k+1)=DJ g t had ats bs k ++ if (Gp g t had ats bs k).length=0 then [] else [Gp g t had ats bs k]:=by
 unfold DJ;rw [Bh,A0,List.filter_append,List.map_singleton];congr 1;by_cases h:(Gp g t had ats bs k).length=0
 ·rw [if_pos h,List.filter_cons,if_neg (by simp [Bc h])];try rfl
 ·rw [if_neg h,List.filter_cons,if_pos (decide_eq_true h)];try rfl
theorem stayG_xor:∀ k,FO (DJ g t had ats bs k)=ET g t had ats bs k
 | 0=>rfl
 | k+1=>by
  have ih:=stayG_xor k;rw [KU,ET];unfold FO at ih |-
  rw [Cd,ih];split <;> rfl
theorem WO (h8:∀ b∈had,b.length=0\/b.length=8) (hb:∀ b∈bs,b.length=8) (hl:ats.length<=bs.length) (k:Nat):(DJ g t had ats bs k).length<=k/\∀ b∈DJ g t had ats bs k,b.length=8:=by
 refine⟨by unfold DJ;exact Bo (List.length_filter_le _ _) (by simp),fun b hq=>?_⟩;unfold DJ at hq;obtain⟨h1,h2⟩:=List.mem_filter.1 hq;obtain⟨i, -,rfl⟩:=AK.1 h1;rcases Ph (g:=g) (t:=t) (had:=had) (ats:=ats) (bs:=bs) h8 hb hl i with e | e
 ·exact absurd e (of_decide_eq_true h2)
 ·exact e
end
theorem Qj (g:Geo) (t:List Ent) (had:List (List UInt8)) (ats:List Int) (bs:List (List UInt8)) (stamp:Int) (hg:Bq g=true) (ht:FB g t=true) (hh:(had.length:Int)=g.d+1) (h8:∀ b∈had,b.length=0\/b.length=8) (hA:AtsOk g ats) (hn:ats.length=bs.length) (hb:∀ b∈bs,b.length=8) (hs:0<=stamp/\stamp<=4294967295) :
  Fn Tryz.prog 177 [.ag (Ba g), .ag [BP t],FT had,iA ats,FT bs,iv stamp] fun r=>r = .tp [.ag [BP (BG g t had ats bs stamp)],bA (ET g t had ats bs g.d.toNat),iv 0]:=by
 obtain⟨g1,g2,g3,g4,g5⟩:=Ar.1 hg;have htl:=GG ht;have hal:=hA.len;have hz:=Uj g t had hg ht hh h8;have hr:=JU g ats hA;have hw:=Jv bs (by omega) hb;have htw:=St t (by omega);have l1:(Jn g t had had.length).length=had.length:=by simp [Jn]
 have l2:(Jm g t had had.length).length=had.length:=by simp [Jm]
 refine zT Tryz.func177 rfl ?_;conv=>whnf
 refine z_ hz ?_;conv=>whnf
 refine z_ hr ?_;conv=>whnf
 rw [show decide (stamp<0)=false from decide_eq_false (by omega)];conv=>whnf
 rw [show decide (stamp > 4294967295)=false from decide_eq_false (by omega)];conv=>whnf
 rw [show (((bs.length:Nat):Int) != ((ats.length:Nat):Int))=false from bne_eq_false_iff_eq.2 (by rw [hn])];conv=>whnf
 refine z_ hw ?_;conv=>whnf
 refine zW htw rfl ?_;rintro _ _ ⟨rfl,rfl⟩;conv=>whnf
 refine zU Nat (fun i=>([(3,iA ats),(4,FT bs),(5,iv stamp),(6, .bp 0 0),(12, .bp 2 0),(15,FT (Jn g t had had.length)),(16,Zu (Jm g t had had.length)),(17, .ow 4 (DJ g t had ats bs i).length),(62,iv g.d),(63,iv (i:Nat))], [.box 23 (Ba g), .box 70 [BP t], .box 70 [.ow 3 t.length], .row 97 3 ((EU g t had ats bs stamp i).map CX), .row 47 1 ((DJ g t had ats bs i).map HZ)])) (fun i=>i<=g.d.toNat) (fun i=>g.d.toNat - i) 0 (Aj _)
  ⟨_,_,zB _ _, [(17,47,1)],tA, [0,1,2,3,4],tA,tA,rfl,rfl,rfl,rfl,rfl⟩ ?_
 intro i hi;obtain⟨hsl,hs8⟩:=WO (g:=g) (t:=t) (had:=had) (ats:=ats) (bs:=bs) h8 hb (by omega) i;by_cases hin:i<g.d.toNat
 ·have hit:i<t.length:=by omega
  have hih:i<had.length:=by omega
  have hix:=WR ats (i:Nat) (by omega);have hlo2:=Pc g t had ats bs stamp (Nat.le_of_lt hit);have hst:=KU (g:=g) (t:=t) (had:=had) (ats:=ats) (bs:=bs) i;conv=>whnf
  rw [show decide ((i:Int)<g.d)=true from decide_eq_true (by omega)];conv=>whnf
  repeat' (refine zZ ?_;conv=>whnf)
  refine zM hix rfl ?_;rintro _ ⟨n,rfl,⟨rfl,hno⟩ | ⟨k,hk,rfl,hk2⟩⟩
  ·have hp:=OX (bs:=bs) ats.length hno;have hN:Gp g t had ats bs i=BO g t had i:=by unfold Gp;rw [hp]
   have hE:Kt g t had ats bs stamp i=if (BO g t had i).length=0 then { t.getD i ez with lost:=true } else t.getD i ez:=by unfold Kt;rw [hN,hp]
   rw [hN] at hst;conv=>whnf
   repeat' (refine zZ ?_;conv=>whnf)
   refine Af ⟨by omega,by rw [l2];omega⟩ ?_;conv=>whnf
   rw [show (Jm g t had had.length).getD ((i:Nat):Int).toNat false=decide (0<(BO g t had i).length) by rw [Aa,Jm,Ab,AZ,Br (by omega)];try rfl];by_cases hq:0<(BO g t had i).length
   ·rw [decide_eq_true hq];rw [if_neg (by omega)] at hE hst;conv=>whnf
    repeat' (refine zZ ?_;conv=>whnf)
    refine Af ⟨by omega,by rw [l1];omega⟩ ?_;conv=>whnf
    rw [show (Jn g t had had.length).getD ((i:Nat):Int).toNat []=BO g t had i by rw [Aa,Jn,Ab,AZ,Br (by omega)];try rfl];refine⟨rfl,?_⟩;refine⟨⟨by rw [Ac],by omega⟩,?_⟩;conv=>whnf
    exact⟨i+1,by omega,by omega,zR (s:= [0,1,2,3,4]) ⟨⟨rfl,rfl,rfl,rfl,rfl,rfl,rfl,congrArg (AV.ow 4) (show (DJ g t had ats bs i).length+1=(DJ g t had ats bs (i+1)).length by rw [hst,Ai];try rfl),rfl,AR (by omega),tv⟩,⟨rfl,rfl,rfl,congrArg (fun z=>some (AB.row 97 3 z)) (show (EU g t had ats bs stamp i).map CX=(EU g t had ats bs stamp (i+1)).map CX by rw [<-J8 g t had ats bs stamp hit,hE,Yv g t had ats bs stamp hit]),congrArg (fun z=>some (AB.row 47 1 z)) (show (DJ g t had ats bs i).map HZ ++ [HZ (BO g t had i)]=(DJ g t had ats bs (i+1)).map HZ by rw [hst,A0];try rfl),tv⟩,rfl,rfl,rfl,rfl,rfl⟩⟩
   ·rw [decide_eq_false hq];rw [if_pos (by omega)] at hE hst;conv=>whnf
    repeat' (refine zZ ?_;conv=>whnf)
    refine⟨⟨by omega,by omega⟩,?_⟩;refine⟨⟨rfl,by rw [Ac,hlo2],by omega⟩,?_⟩;rw [Aa,show ((EU g t had ats bs stamp i).map CX).getD i []=CX ((EU g t had ats bs stamp i).getD i ez) from Bf (by omega),show (EU g t had ats bs stamp i).getD i ez=t.getD i ez by rw [EU,Ab,A9 (by simp),Ac,Cc,CI,BB,C5,<-Ab]];conv=>whnf
    repeat' (refine zZ ?_;conv=>whnf)
    exact⟨i+1,by omega,by omega,zR (s:= [0,1,2,3,4]) ⟨⟨rfl,rfl,rfl,rfl,rfl,rfl,rfl,congrArg (AV.ow 4) (show (DJ g t had ats bs i).length=(DJ g t had ats bs (i+1)).length by rw [hst,AM]),rfl,AR (by omega),tv⟩,⟨rfl,rfl,rfl,congrArg (fun z=>some (AB.row 97 3 z)) (show ((EU g t had ats bs stamp i).map CX).set i (CX { t.getD i ez with lost:=true })=(EU g t had ats bs stamp (i+1)).map CX by rw [<-C6,<-hE,J8 g t had ats bs stamp hit]),congrArg (fun z=>some (AB.row 47 1 (List.map HZ z))) (show DJ g t had ats bs i=DJ g t had ats bs (i+1) by rw [hst,AM]),tv⟩,rfl,rfl,rfl,rfl,rfl⟩⟩
  ·have hp:=OY hA (bs:=bs) hk hk2 ats.length hk (Ah _);have hN:Gp g t had ats bs i=bs.getD k []:=by unfold Gp;rw [hp]
   have hb8:=hb _ (A5 (d:=([]:List UInt8)) (show k<bs.length by omega));have hE:Kt g t had ats bs stamp i=⟨stamp,(CS (bs.getD k []):Nat),false⟩:=by unfold Kt;rw [hN,hp,if_neg (by omega)]
   have em:=P6 stamp (bs.getD k []) hs hb8;have ixA:(0:Int)<=(k:Nat)/\((k:Nat):Int)<(bs.length:Nat):=by omega
   rw [hN,if_neg (by omega)] at hst;conv=>whnf
   repeat' (refine zZ ?_;conv=>whnf)
   rw [show decide (((k:Nat):Int)>=0)=true from decide_eq_true (by omega)];conv=>whnf
   apply zV (0) tys_ok mixed (.o [0,1,2,3,4,5,6,7,8,9,10,11,12,13] .fin) (by kernel_rfl);conv=>whnf
   try (refine tI ?_;conv=>whnf)
   (rw [Aa];refine z_ em ?_)
   conv=>whnf
   try (refine tI ?_;conv=>whnf)
   try (refine tS ?_;conv=>whnf)
   all_goals rw [show ((EU g t had ats bs stamp i).map CX).getD (((i:Nat):Int)).toNat []=CX ((EU g t had ats bs stamp i).getD i ez) by rw [Aa];exact Bf (by omega)]
   all_goals
    conv=>whnf
    repeat' (refine zZ ?_;conv=>whnf)
    refine⟨ixA,?_⟩;conv=>whnf
    rw [Aa k];refine⟨rfl,?_⟩;refine⟨⟨by rw [Ac],by omega⟩,?_⟩;conv=>whnf
    exact⟨i+1,by omega,by omega,zR (s:= [0,1,2,3,4]) ⟨⟨rfl,rfl,rfl,rfl,rfl,rfl,rfl,congrArg (AV.ow 4) (show (DJ g t had ats bs i).length+1=(DJ g t had ats bs (i+1)).length by rw [hst,Ai];try rfl),rfl,AR (by omega),tv⟩,⟨rfl,rfl,rfl,congrArg (fun z=>some (AB.row 97 3 z)) (show ((EU g t had ats bs stamp i).map CX).set (((i:Nat):Int)).toNat (CX ⟨stamp,(CS (bs.getD k []):Nat),false⟩)=(EU g t had ats bs stamp (i+1)).map CX by rw [Aa,<-C6,<-hE,J8 g t had ats bs stamp hit]),congrArg (fun z=>some (AB.row 47 1 z)) (show (DJ g t had ats bs i).map HZ ++ [HZ (bs.getD k [])]=(DJ g t had ats bs (i+1)).map HZ by rw [hst,A0];try rfl),tv⟩,rfl,rfl,rfl,rfl,rfl⟩⟩
 ·have ei:i=g.d.toNat:=by omega
  subst ei;have hxa:=Nx (DJ g t had ats bs g.d.toNat) (by omega) hs8;rw [stayG_xor] at hxa;have hp8:(ET g t had ats bs g.d.toNat).length=8:=Gn h8 hb (by omega) _;have he:=P6 stamp (ET g t had ats bs g.d.toNat) hs hp8;conv=>whnf
  rw [show decide (((g.d.toNat:Nat):Int)<g.d)=false from decide_eq_false (by omega)];conv=>whnf
  repeat' (refine zZ ?_;conv=>whnf)
  refine Fn.shut (args':= [.sl 1 (DJ g t had ats bs g.d.toNat).length fun i=>((DJ g t had ats bs g.d.toNat).map HZ).getD i [],iv 8]) (hxa.subA ⟨Ev rfl rfl,fun _ _ h=>h,tv⟩) ⟨by rw [Ac],rfl,?_⟩;rintro _ rfl;conv=>whnf
  apply zV (0) tys_ok mixed (.o [0,1,2,3,4,5,6,7,8,9,10,11] .fin) (by kernel_rfl);conv=>whnf
  refine z_ he ?_;conv=>whnf
  try (refine tI ?_;conv=>whnf)
  try (refine tS ?_;conv=>whnf)
  have hdl:g.d.toNat<t.length:=by omega
  have hlo2:=Pc g t had ats bs stamp (Nat.le_of_lt hdl);have eW:(EU g t had ats bs stamp g.d.toNat).set g.d.toNat ⟨stamp,(CS (ET g t had ats bs g.d.toNat):Nat),false⟩=BG g t had ats bs stamp:=by
   rw [Ll g t had ats bs stamp hdl,BG,AG (by omega)]
  have hgl:((EU g t had ats bs stamp g.d.toNat).map CX).getD g.d.toNat []=CX ((EU g t had ats bs stamp g.d.toNat).getD g.d.toNat ez):=Bf (by omega);have eR:((EU g t had ats bs stamp g.d.toNat).map CX).set g.d.toNat (CX ⟨stamp,(CS (ET g t had ats bs g.d.toNat):Nat),false⟩)=(BG g t had ats bs stamp).map CX:=by rw [<-C6,eW]
  have eN:(BG g t had ats bs stamp).length=t.length:=by simp [BG];omega
  all_goals
   refine⟨⟨rfl,by rw [Ac,hlo2],hdl⟩,?_⟩;rw [hgl];refine⟨(by rw [AW,Ac,hlo2]),?_⟩;exact⟨.tp [.ag [BP (BG g t had ats bs stamp)],bA (ET g t had ats bs g.d.toNat),iv 0],BL ⟨Bk ⟨B4 (f:=CX) (BG g t had ats bs stamp) eN.symm eR,tv⟩,ri,ri,tv⟩,rfl⟩
theorem O8 (g:Geo) (z:Int) (t:List Ent) (par:List UInt8) (ats:List Int) (bs:List (List UInt8)) (hg:Bq g=true) (hz:0<=z/\z<g.z) (ht:FB g t=true) (hp:par.length=8) (hA:AtsOk g ats) (hn:ats.length=bs.length) (hb:∀ b∈bs,b.length=8) :
  Fn Tryz.prog 178 [.ag (Ba g),iv z, .ag [BP t],bA par,iA ats,FT bs] fun r=>r = .tp [Ee (Cr z t par ats bs),iv 0]:=by
 obtain⟨g1,g2,g3,g4,g5⟩:=Ar.1 hg;have htl:=GG ht;have hal:=hA.len;have h1:=BK par (by omega);have h3:=My g t (by omega);rw [ht,if_pos rfl] at h3;have hr:=JU g ats hA;have hw:=Jv bs (by omega) hb;have hwp:=Jv [par] (show 1<=1000000 by decide) (fun x hx=>by rw [AF] at hx;rw [hx];exact hp);obtain⟨I,hI⟩:∃ I:List Img,I=(List.range ats.length).map fun i=>⟨z,ats.getD i 0,bs.getD i []⟩:=⟨_,rfl⟩
 have hIl:I.length=ats.length:=by rw [hI,Ac,Cc]
 refine zT Tryz.func178 rfl ?_;conv=>whnf
 refine z_ h3 ?_;conv=>whnf
 rw [show decide (z<0)=false from decide_eq_false (by omega)];conv=>whnf
 rw [show decide (z>=g.z)=false from decide_eq_false (by omega)];conv=>whnf
 refine z_ hr ?_;conv=>whnf
 rw [show (((bs.length:Nat):Int) != ((ats.length:Nat):Int))=false from bne_eq_false_iff_eq.2 (by rw [hn])];conv=>whnf
 refine z_ hw ?_;conv=>whnf
 refine zj (args':= [.sl 1 1 fun i=>([HZ par]:List (List AV)).getD i []]) (hwp.subA ⟨Ev (L:= [par]) rfl rfl,tv⟩) tA ?_;rintro _ rfl;refine⟨rfl,?_⟩;conv=>whnf
 refine zU Nat (fun k=>([(1,iv z),(3,bA par),(5,FT bs),(14,bA (CL t)),(16, .ow 2 k),(61,iA ats),(62,iv (ats.length:Nat)),(63,iv (k:Nat))], [.box 23 (Ba g), .box 70 [BP t], .row 166 3 ((I.take k).map Dv)])) (fun k=>k<=ats.length) (fun k=>ats.length - k) 0 (Aj _)
  ⟨_,_,zB _ _, [(16,166,3)],tA, [0,1,3],tA,tA,rfl,rfl,rfl,rfl,rfl⟩ ?_
 intro k hk;by_cases hk1:k<ats.length
 ·have h2:=BK (bs.getD k []) (by have:=hb _ (A5 (d:=([]:List UInt8)) (show k<bs.length by omega));omega);have e1:(I.take k).map Dv ++ [Dv ⟨z,ats.getD k 0,bs.getD k []⟩]=(I.take (k+1)).map Dv:=by
   have e:I[k]? = some ⟨z,ats.getD k 0,bs.getD k []⟩:=by rw [hI,AZ,Br hk1];try rfl
   rw [Bi,e,A0];try rfl
  conv=>whnf
  rw [show decide (((k:Nat):Int)<((ats.length:Nat):Int))=true from decide_eq_true (by omega)];conv=>whnf
  repeat' (refine zZ ?_;conv=>whnf)
  refine⟨⟨by omega,by omega⟩,?_⟩;conv=>whnf
  repeat' (refine zZ ?_;conv=>whnf)
  refine⟨⟨by omega,by omega⟩,?_⟩;conv=>whnf
  rw [Aa];refine z_ h2 ?_;refine⟨rfl,?_⟩;conv=>whnf
  refine Af ⟨by rw [Ac,As,hIl];omega,by omega⟩ ?_;exact⟨k+1,by omega,by omega,zR (s:= [0,1,2]) ⟨⟨rfl,rfl,rfl,rfl,rfl,rfl,rfl,AR (by omega),tv⟩,⟨rfl,rfl,congrArg (fun es=>some (AB.row 166 3 es)) e1,tv⟩,rfl,rfl,rfl,rfl,rfl⟩⟩
 ·have ek:k=ats.length:=by omega
  subst ek;conv=>whnf
  rw [show decide (((ats.length:Nat):Int)<((ats.length:Nat):Int))=false from decide_eq_false (by omega)];conv=>whnf
  repeat' (refine zZ ?_;conv=>whnf)
  rw [show I.take ats.length=I by rw [<-hIl,Ay]];refine z_ h1 ?_;refine⟨rfl,?_⟩;refine⟨⟨by rw [Ac,hIl],by omega⟩,?_⟩;conv=>whnf
  refine Af (by rw [Ai,Ac,hIl];try rfl) ?_;conv=>whnf
  exact⟨.tp [Ee (Cr z t par ats bs),iv 0],BL ⟨B4 (f:=Dv) (Cr z t par ats bs) (Fs z t par ats bs).symm (by unfold Cr;rw [<-hI,A0];try rfl),ri,tv⟩,rfl⟩
theorem Wf (g:Geo) (s:Stt) (d:Dk) (x:Rc) (Q:Int) (hg:Bq g=true) (hx:DP g x=true) (hxl:x.img.bytes.length<=100000) (hQ:0<=Q/\Q<g.sl) (h:DkOk d) (hn:(d.cells.length:Int)=A4 g) (h1:(d.write (AU g 0 Q) (BV g x 0 Q)).2≠8) (h2:((d.write (AU g 0 Q) (BV g x 0 Q)).1.write (AU g 1 Q) (BV g x 1 Q)).2≠8) :
  ACalls Tryz.prog false 111 [.bp 0 0, .ag (FQ x),iv Q] (Fz g s d) fun r H=>r = .tp [.v (.bool (decide ((d.write (AU g 0 Q) (BV g x 0 Q)).2=0) || decide (((d.write (AU g 0 Q) (BV g x 0 Q)).1.write (AU g 1 Q) (BV g x 1 Q)).2=0))),iv 0]/\H=Fz g s ((d.write (AU g 0 Q) (BV g x 0 Q)).1.write (AU g 1 Q) (BV g x 1 Q)).1:=by
 have q0:=Lp (g:=g) (.inl rfl) hQ (c:=0);have q1:=Lp (g:=g) (.inr rfl) hQ (c:=1);have l0:=QM g 0 Q;have l1:=QM g 1 Q;have r0:=OR g x 0 Q hxl;have r1:=OR g x 1 Q hxl;rw [hg,q0] at l0;rw [hg,q1] at l1;rw [hx,q0] at r0;rw [hx,q1] at r1;have b0:=DY hg hn (.inl rfl) hQ (c:=0);have b1:=DY hg hn (.inr rfl) hQ (c:=1);have c0:=PL g s d (AU g 0 Q) (BV g x 0 Q) h (by omega) (Dy hx 0 Q);have hok:=h.write (a:=AU g 0 Q) (b:=BV g x 0 Q) (by omega) (Dy hx 0 Q);have hlen:(d.write (AU g 0 Q) (BV g x 0 Q)).1.cells.length=d.cells.length:=Kx d _ _;have c1:=PL g s (d.write (AU g 0 Q) (BV g x 0 Q)).1 (AU g 1 Q) (BV g x 1 Q) hok (by omega) (Dy hx 1 Q);rw [if_neg h1] at c0;rw [if_neg h2] at c1;generalize (d.write (AU g 0 Q) (BV g x 0 Q)).1.write (AU g 1 Q) (BV g x 1 Q)=W2 at c1 |-
 generalize d.write (AU g 0 Q) (BV g x 0 Q)=W1 at c0 c1 |-
 generalize decide (W1.2=0)=p1 at c0 |-
 generalize decide (W2.2=0)=p2 at c1 |-
 simp only [Bool.and_self,if_true,if_pos] at l0 l1 r0 r1;cases p1 with
 | true=>
  refine zS tys_ok Tryz.func111 rfl rfl (Ag rfl) ?_;conv=>whnf
  refine zv 3 ?_;conv=>whnf
  repeat' (refine zZ ?_;conv=>whnf)
  refine z_ l0 ?_;conv=>whnf
  repeat' (refine zZ ?_;conv=>whnf)
  apply zV (0) tys_ok mixed (.o [0,1,2,3,4,5,6,7,8,9,10,11,12] .fin) (by kernel_rfl);conv=>whnf
  refine z_ r0 ?_;conv=>whnf
  repeat' (refine zZ ?_;conv=>whnf)
  refine zh [0,1,2,3,4] c0 ?_;rintro _ _ ⟨rfl,rfl⟩;conv=>whnf
  repeat' (refine zZ ?_;conv=>whnf)
  refine z_ l1 ?_;conv=>whnf
  repeat' (refine zZ ?_;conv=>whnf)
  apply zV (0) tys_ok mixed (.o [0,1,2,3,4,5,6,7,8,9,10,11,12] .fin) (by kernel_rfl);conv=>whnf
  refine z_ r1 ?_;conv=>whnf
  repeat' (refine zZ ?_;conv=>whnf)
  refine zh [0,1,2,3,4] c1 ?_;rintro _ _ ⟨rfl,rfl⟩;conv=>whnf
  repeat' (refine zZ ?_;conv=>whnf)
  exact⟨_, .tp [.v (.bool true),iv 0],Fz g s W2.1,fun _ _ h=>h,zR (s:= [0,1,2,3,4]) tA,rfl,rfl⟩
 | false=>
  refine zS tys_ok Tryz.func111 rfl rfl (Ag rfl) ?_;conv=>whnf
  refine zv 3 ?_;conv=>whnf
  repeat' (refine zZ ?_;conv=>whnf)
  refine z_ l0 ?_;conv=>whnf
  repeat' (refine zZ ?_;conv=>whnf)
  apply zV (0) tys_ok mixed (.o [0,1,2,3,4,5,6,7,8,9,10,11,12] .fin) (by kernel_rfl);conv=>whnf
  refine z_ r0 ?_;conv=>whnf
  repeat' (refine zZ ?_;conv=>whnf)
  refine zh [0,1,2,3,4] c0 ?_;rintro _ _ ⟨rfl,rfl⟩;conv=>whnf
  repeat' (refine zZ ?_;conv=>whnf)
  refine z_ l1 ?_;conv=>whnf
  repeat' (refine zZ ?_;conv=>whnf)
  apply zV (0) tys_ok mixed (.o [0,1,2,3,4,5,6,7,8,9,10,11,12] .fin) (by kernel_rfl);conv=>whnf
  refine z_ r1 ?_;conv=>whnf
  repeat' (refine zZ ?_;conv=>whnf)
  refine zh [0,1,2,3,4] c1 ?_;rintro _ _ ⟨rfl,rfl⟩;conv=>whnf
  repeat' (refine zZ ?_;conv=>whnf)
  exact⟨_, .tp [.v (.bool p2),iv 0],Fz g s W2.1,fun _ _ h=>h,zR (s:= [0,1,2,3,4]) tA,rfl,rfl⟩
theorem Se (g:Geo) (s:Stt) (d:Dk) (lba:Int) (b:List UInt8) (hg:Bq g=true) (hl:s.txns.length<=1000) (hlba:0<=lba/\lba<g.z*g.d) (hb:b.length=8) :
  ACalls Tryz.prog false 107 [.bp 0 0,iA [lba],FT [b]] (Fz g s d) fun r H=>r = iv (if s.only then 15 else if 4 > g.sl - CT s.txns then 21 else 0)/\H=Fz g s d:=by
 obtain⟨g1,g2,g3,g4,g5⟩:=Ar.1 hg;have hun:=F5 s.txns s.txns.length;have hn:=S9 g lba hg hlba;have hu:=MD s.txns (by omega);have tsub:SubL [.sl 4 s.txns.length fun i=>(s.txns.map Eb).getD i []] [Eg s.txns]:=⟨B4 (f:=Eb) s.txns rfl rfl,tv⟩;refine zS tys_ok Tryz.func107 rfl rfl (Ag rfl) ?_;conv=>whnf
 refine zv 2 ?_;conv=>whnf
 repeat' (refine zZ ?_;conv=>whnf)
 refine⟨in01,?_⟩;conv=>whnf
 repeat' (refine zZ ?_;conv=>whnf)
 refine zA tys_ok mixed [0,1,2,3,4,5,6,7,8,9,10,11,12,13,14,15,16,17,18] (by kernel_rfl) ?_;conv=>whnf
 rw [show ((([b].getD (Int.toNat 0) []).length:Int) != 8)=false from bne_eq_false_iff_eq.2 (by show ((b.length:Nat):Int)=8;omega)];conv=>whnf
 repeat' (refine zZ ?_;conv=>whnf)
 refine z_ hn ?_;conv=>whnf
 cases ho:s.only with
 | true=>
  exact⟨_,iv 15,Fz g s d,fun _ _ h=>h,zR (s:= [0,1,2,3,4]) tA,rfl,rfl⟩
 | false=>
  conv=>whnf
  apply zL tys_ok mixed (.o [0,1,2,3,4,5,6,7,8,9,10,11,12,13,14] .fin) [72,73,74,75,76,77,78,79,80,81,82,83,84,85,86] (by kernel_rfl)
  ·conv=>whnf
   (refine zj (args':= [.sl 4 s.txns.length fun i=>(s.txns.map Eb).getD i []]) (hu.subA tsub) ⟨(Ac _).symm,rfl⟩ ?_;rintro _ rfl;refine⟨rfl,?_⟩)
   exact tA
  conv=>whnf
  rw [wi (show -9223372036854775808<=g.sl - CT s.txns/\g.sl - CT s.txns<=9223372036854775807 by unfold CT;omega)];by_cases hfull:(4:Int) > g.sl - CT s.txns
  ·rw [decide_eq_true hfull,if_pos hfull];exact⟨_,iv 21,Fz g s d,fun _ _ h=>h,zR (s:= [0,1,2,3,4]) tA,rfl,rfl⟩
  ·rw [decide_eq_false hfull,if_neg hfull];exact⟨_,iv 0,Fz g s d,fun _ _ h=>h,zR (s:= [0,1,2,3,4]) tA,rfl,rfl⟩
theorem YR {g:Geo} {A:Int} (h:0<=A/\A<g.d):AtsOk g [A]:=⟨Nat.zero_lt_one,(by show 1<=1000;decide),fun i hi=>by
 obtain rfl:i=0:=Nat.lt_one_iff.1 hi;exact h,fun i hi=>absurd hi (by show ¬i+1<1;omega)⟩
def EE (g:Geo) (s:Stt) (G:Gr) (seq lba:Int) (b:List UInt8):List Img:=match Gj g s G (lba.tdiv g.d) with
 | some t=>Cr (lba.tdiv g.d) (BG g t (EL g s G t (lba.tdiv g.d)) [lba.tmod g.d] [b] seq) (ET g t (EL g s G t (lba.tdiv g.d)) [lba.tmod g.d] [b] g.d.toNat) [lba.tmod g.d] [b]
 | none=> []
theorem PH (g:Geo) (s:Stt) (d:Dk) (G:Gr) (lba S:Int) (b:List UInt8) (hg:Bq g=true) (hl:LogB s.txns) (ha:Bv g s.a=true) (h:Gs (A4 g) d G) (himg:∀ t∈s.txns,∀ x∈t.images,Bz g x=true) (hF:∀ a,(G a).bytes.length<=100000) (h8:∀ a,(G a).err≠8) (hlba:0<=lba/\lba<g.z*g.d) (hb:b.length=8) (hS:0<=S/\S<=4294967295) (hB:∀ p,Db s.txns (lba.tdiv g.d) 255=some p->p.1.bytes.length<=100000/\(Cb g p.1.bytes).isSome=true) (t:List Ent) (ht:Gj g s G (lba.tdiv g.d)=some t) :
  ACalls Tryz.prog false 109 [.bp 0 0,iA [lba],FT [b],iv S] (Fz g s d) fun r H=>r = .tp [Ee (EE g s G S lba b),iv 0]/\∃ d',Gs (A4 g) d' G/\H=Fz g s d':=by
 obtain⟨g1,g2,g3,g4,g5⟩:=Ar.1 hg;obtain⟨Z,hZ⟩:∃ Z,Z=lba.tdiv g.d:=⟨_,rfl⟩;obtain⟨A,hA⟩:∃ A,A=lba.tmod g.d:=⟨_,rfl⟩;have hZ2:0<=Z/\Z<g.z:=by
  rw [hZ,Bj hlba.1];exact⟨Ds hlba.1 (by omega),Dm (by omega) hlba.2⟩
 have hA2:0<=A/\A<g.d:=by
  rw [hA];exact⟨Be _ hlba.1,AL _ (by omega)⟩
 have hdiv:IntKind.i64.wrap (([lba].getD (Int.toNat 0) 0).tdiv g.d)=Z:=by
  rw [hZ];exact wi (by have:=hZ2;rw [hZ] at this;show -9223372036854775808<=lba.tdiv g.d/\lba.tdiv g.d<=9223372036854775807;omega)
 have hL:EE g s G S lba b=Cr Z (BG g t (EL g s G t Z) [A] [b] S) (ET g t (EL g s G t Z) [A] [b] g.d.toNat) [A] [b]:=by
  rw [EE,<-hZ,<-hA];rw [<-hZ] at ht;rw [ht]
 rw [hL];rw [<-hZ] at ht hB;obtain⟨L,hL⟩:∃ L,L=Cr Z (BG g t (EL g s G t Z) [A] [b] S) (ET g t (EL g s G t Z) [A] [b] g.d.toNat) [A] [b]:=⟨_,rfl⟩;rw [<-hL];have hL3:L.length=3:=by rw [hL,Fs];try rfl
 have htok:=N3 ht;have h01:∀ x∈ [b],x.length=8:=fun x hx=>by rw [AF] at hx;rw [hx];exact hb
 obtain⟨k1,k2⟩:=L6 hg (s:=s) (G:=G) (t:=t) (z:=Z) himg;have hAt:AtsOk g [A]:=YR hA2;have hpl:(ET g t (EL g s G t Z) [A] [b] g.d.toNat).length=8:=Gn k2 h01 (show [A].length<= [b].length from Ah 1) _;have hwr:=Qj g t (EL g s G t Z) [A] [b] S hg htok k1 k2 hAt rfl h01 hS;have him:=O8 g Z (BG g t (EL g s G t Z) [A] [b] S) (ET g t (EL g s G t Z) [A] [b] g.d.toNat) [A] [b] hg hZ2 (FU hg htok hS) hpl hAt rfl h01;rw [<-hL] at him;refine zS tys_ok Tryz.func109 rfl rfl (Ag rfl) ?_;conv=>whnf
 refine zU (Nat × Dk × Bool) (fun x=>([(0, .bp 0 0),(1,iA [lba]),(2,FT [b]),(3,iv S),(10,Zm L x.2.2),(27,iv g.z),(28,iv (x.1:Nat))],Fz g s x.2.1)) (fun x=>(x.1:Int)<=g.z/\Gs (A4 g) x.2.1 G/\(x.2.2=true↔Z<(x.1:Int))) (fun x=>g.z.toNat - x.1) (0,d,false) ⟨by show ((0:Nat):Int)<=g.z;omega,h,⟨fun q=>(by cases q),fun q=>absurd q (by show ¬Z<((0:Nat):Int);omega)⟩⟩
  (zR (s:= [0,1,2,3,4]) tA) ?_
 rintro⟨k,d1,p⟩ ⟨hk,hd1,hpz⟩;simp only at hk hd1 hpz;by_cases hkz:(k:Int)<g.z;rotate_left 1
 ·obtain rfl:p=true:=hpz.2 (by omega);conv=>whnf
  rw [decide_eq_false hkz];conv=>whnf
  repeat' (refine zZ ?_;conv=>whnf)
  exact⟨_, .tp [Ee L,iv 0],Fz g s d1,fun _ _ h=>h,zR (s:= [0,1,2,3,4]) tA,rfl,d1,hd1,rfl⟩
 by_cases he:(k:Int)=Z;rotate_left 1
 ·conv=>whnf
  rw [decide_eq_true hkz];conv=>whnf
  repeat' (refine zZ ?_;conv=>whnf)
  refine zv 2 ?_;conv=>whnf
  repeat' (refine zZ ?_;conv=>whnf)
  refine⟨in01,?_⟩;conv=>whnf
  repeat' (refine zZ ?_;conv=>whnf)
  refine⟨by omega,?_⟩;conv=>whnf
  rw [hdiv,show (Z == (k:Int))=false from beq_eq_false_iff_ne.2 fun q=>he q.symm];conv=>whnf
  repeat' (refine zZ ?_;conv=>whnf)
  cases p
  ·exact⟨(k+1,d1,false),⟨by show ((k+1:Nat):Int)<=g.z;omega,hd1,⟨fun q=>by have:=hpz.1 q;show Z<((k+1:Nat):Int);omega,fun q=>hpz.2 (by have:Z<((k+1:Nat):Int):=q;omega)⟩⟩,by show g.z.toNat - (k+1)<g.z.toNat - k;omega,zR (s:= [0,1,2,3,4]) ⟨⟨rfl,rfl,rfl,rfl,rfl,rfl,AR (by omega),tv⟩,tA,rfl,rfl,rfl,rfl,rfl⟩⟩
  ·exact⟨(k+1,d1,true),⟨by show ((k+1:Nat):Int)<=g.z;omega,hd1,⟨fun q=>by have:=hpz.1 q;show Z<((k+1:Nat):Int);omega,fun q=>hpz.2 (by have:Z<((k+1:Nat):Int):=q;omega)⟩⟩,by show g.z.toNat - (k+1)<g.z.toNat - k;omega,zR (s:= [0,1,2,3,4]) ⟨⟨rfl,rfl,rfl,rfl,rfl,rfl,AR (by omega),tv⟩,tA,rfl,rfl,rfl,rfl,rfl⟩⟩
 ·obtain rfl:p=false:=by
   cases p with
   | false=>rfl
   | true=>exact absurd (hpz.1 rfl) (by omega)
  have hgat:=Kl g s d1 G Z hg hl ha hd1 hF h8 hZ2 hB t ht;conv=>whnf
  rw [decide_eq_true hkz];conv=>whnf
  repeat' (refine zZ ?_;conv=>whnf)
  refine zU (Nat × Bool) (fun i=>([(0, .bp 0 0),(1,iA [lba]),(2,FT [b]),(3,iv S),(10, .v (.slice none 0 0)),(11,iv (k:Nat)),(12,ZC A i.2),(13,ZT b i.2),(27,iv g.z),(28,iv (k:Nat)),(31,iA [lba]),(32,iv 1),(33,iv (i.1:Nat))],Fz g s d1)) (fun i=>i.1<=1/\(i.2=true↔i.1=1)) (fun i=>1 - i.1) (0,false) ⟨by show 0<=1;omega,by decide⟩
   (zR (s:= [0,1,2,3,4]) tA) ?_
  rintro⟨i,q⟩ ⟨hi,hq⟩;simp only at hi hq;by_cases hi1:i=1;rotate_left 1
  ·obtain rfl:i=0:=by omega
   obtain rfl:q=false:=by
    cases q with
    | false=>rfl
    | true=>exact absurd (hq.1 rfl) (by decide)
   have ixA:(0:Int)<=0/\(0:Int)<(([b]:List (List UInt8)).length:Nat):=in01;conv=>whnf
   repeat' (refine zZ ?_;conv=>whnf)
   refine⟨in01,?_⟩;conv=>whnf
   repeat' (refine zZ ?_;conv=>whnf)
   refine⟨by omega,?_⟩;conv=>whnf
   rw [show IntKind.i64.wrap (([lba].getD (((0:Nat):Int)).toNat 0).tdiv g.d)=Z from hdiv,show (Z == (k:Int))=true from beq_iff_eq.2 he.symm];conv=>whnf
   repeat' (refine zZ ?_;conv=>whnf)
   apply zV (16384) tys_ok mixed (.o [0,1,2,3,4,5,6,7,10,11,12,13] (.two 8 (.two 9 (.o [14,15,16,17,18] .fin) 14 (.two 9 (.o [15,16,17,18] .fin) 15 (.o [9,16,17,18] .fin))) 14 (.two 8 (.two 9 (.o [15,16,17,18] .fin) 15 (.o [9,16,17,18] .fin)) 15 (.o [8,9,16,17,18] .fin)))) (by kernel_rfl);conv=>whnf
   try (refine tI ?_;conv=>whnf)
   try (refine tI ?_;conv=>whnf)
   refine Af ?_ ?_;refine Af ?_ ?_;conv=>whnf
   try (refine tJ ?_;conv=>whnf)
   try (refine tK ?_;conv=>whnf)
   try (refine tJ ?_;conv=>whnf)
   try (refine tK ?_;conv=>whnf)
   rotate_left 1;refine Af ?_ ?_;conv=>whnf
   try (refine tJ ?_;conv=>whnf)
   try (refine tK ?_;conv=>whnf)
   try (refine tJ ?_;conv=>whnf)
   try (refine tK ?_;conv=>whnf)
   rotate_left 1;conv=>whnf
   try (refine tJ ?_;conv=>whnf)
   try (refine tK ?_;conv=>whnf)
   try (refine tJ ?_;conv=>whnf)
   try (refine tK ?_;conv=>whnf)
   rotate_left 1;refine Af ?_ ?_;refine Af ?_ ?_;conv=>whnf
   try (refine tJ ?_;conv=>whnf)
   try (refine tK ?_;conv=>whnf)
   try (refine tJ ?_;conv=>whnf)
   try (refine tK ?_;conv=>whnf)
   rotate_left 1;conv=>whnf
   try (refine tJ ?_;conv=>whnf)
   try (refine tK ?_;conv=>whnf)
   try (refine tJ ?_;conv=>whnf)
   try (refine tK ?_;conv=>whnf)
   rotate_left 1;conv=>whnf
   try (refine tJ ?_;conv=>whnf)
   try (refine tK ?_;conv=>whnf)
   try (refine tJ ?_;conv=>whnf)
   try (refine tK ?_;conv=>whnf)
   rotate_left 1;all_goals
    conv=>whnf
    first
    | exact⟨(1,true),⟨by show 1<=1;omega,by decide⟩,by show 1 - 1<1 - 0;omega,zC (zO (zG 12 6 rfl rfl) (zO (zE 12 rfl (ED (L:= [A]) rfl (by rw [hA];rfl))) (zO (zG 13 7 rfl rfl) (zE 13 rfl (Ev (L:= [b]) rfl rfl))))) (s:= [0,1,2,3,4]) tA⟩
    | exact⟨(1,true),⟨by show 1<=1;omega,by decide⟩,by show 1 - 1<1 - 0;omega,zC (zO (zG 12 6 rfl rfl) (zO (zE 12 rfl (ED (L:= [A]) rfl (by rw [hA];rfl))) (zO (zG 13 8 rfl rfl) (zE 13 rfl (Ev (L:= [b]) rfl rfl))))) (s:= [0,1,2,3,4]) tA⟩
    | exact⟨(1,true),⟨by show 1<=1;omega,by decide⟩,by show 1 - 1<1 - 0;omega,zC (zO (zG 12 7 rfl rfl) (zO (zE 12 rfl (ED (L:= [A]) rfl (by rw [hA];rfl))) (zO (zG 13 6 rfl rfl) (zE 13 rfl (Ev (L:= [b]) rfl rfl))))) (s:= [0,1,2,3,4]) tA⟩
    | exact⟨(1,true),⟨by show 1<=1;omega,by decide⟩,by show 1 - 1<1 - 0;omega,zC (zO (zG 12 7 rfl rfl) (zO (zE 12 rfl (ED (L:= [A]) rfl (by rw [hA];rfl))) (zO (zG 13 8 rfl rfl) (zE 13 rfl (Ev (L:= [b]) rfl rfl))))) (s:= [0,1,2,3,4]) tA⟩
    | exact⟨(1,true),⟨by show 1<=1;omega,by decide⟩,by show 1 - 1<1 - 0;omega,zC (zO (zG 12 8 rfl rfl) (zO (zE 12 rfl (ED (L:= [A]) rfl (by rw [hA];rfl))) (zO (zG 13 6 rfl rfl) (zE 13 rfl (Ev (L:= [b]) rfl rfl))))) (s:= [0,1,2,3,4]) tA⟩
    | exact⟨(1,true),⟨by show 1<=1;omega,by decide⟩,by show 1 - 1<1 - 0;omega,zC (zO (zG 12 8 rfl rfl) (zO (zE 12 rfl (ED (L:= [A]) rfl (by rw [hA];rfl))) (zO (zG 13 7 rfl rfl) (zE 13 rfl (Ev (L:= [b]) rfl rfl))))) (s:= [0,1,2,3,4]) tA⟩
    | fail
  subst hi1;obtain rfl:q=true:=hq.2 rfl;conv=>whnf
  repeat' (refine zZ ?_;conv=>whnf)
  rw [he];refine zh [0,1,2,3,4] hgat ?_;rintro _ _ ⟨rfl,d2,hd2,rfl⟩;conv=>whnf
  repeat' (refine zZ ?_;conv=>whnf)
  apply zV (0) tys_ok mixed (.o [0,1,2,3,4,5,6,7,8] (.two 9 (.o [10,11,12,13,14,15,16,17] .fin) 14 (.o [9,10,11,12,13,15,16,17] .fin))) (by kernel_rfl);refine Af ?_ ?_;conv=>whnf
  refine z_ hwr ?_;conv=>whnf
  try (refine tS ?_;conv=>whnf)
  rotate_left 1;conv=>whnf
  refine z_ hwr ?_;conv=>whnf
  try (refine tS ?_;conv=>whnf)
  rotate_left 1;all_goals
   conv=>whnf
   repeat' (refine zZ ?_;conv=>whnf)
   apply zV (0) tys_ok mixed (.o [0,1,2,3,4,5,6,7,8,9,10,11,12,13,14] .fin) (by kernel_rfl);conv=>whnf
   refine z_ him ?_;conv=>whnf
   all_goals
    conv=>whnf
    repeat' (refine zZ ?_;conv=>whnf)
    refine⟨by omega,?_⟩;conv=>whnf
    exact⟨(k+1,d2,true),⟨by show ((k+1:Nat):Int)<=g.z;omega,hd2,⟨fun _=>by show Z<((k+1:Nat):Int);omega,fun _=>rfl⟩⟩,by show g.z.toNat - (k+1)<g.z.toNat - k;omega,zC (zO (zG 10 7 (congrArg (AV.ow 7) (by rw [Ac,Cc])) rfl) (zE 10 rfl (WW rfl (by rw [Ac,Cc])))) (s:= [0,1,2,3,4]) ⟨⟨rfl,rfl,rfl,rfl,rfl,rfl,by rw [<-he];exact AR (by omega),tv⟩,tA,rfl,rfl,rfl,rfl,rfl⟩⟩
theorem VolV.far {g:Geo} (hg:Bq g=true) {a:An} (ha:Bv g a=true) {l:List Tx} {F F':Int->List UInt8} {V:Int->Int->List UInt8} (h:VolV g a l F V) (e:∀ q,g.an+2*g.sl<=q->F' q=F q):VolV g a l F' V:=by
 obtain⟨g1,g2,g3,g4,g5⟩:=Ar.1 hg;intro z h0 h1;obtain⟨t,hz⟩:=h z h0 h1;refine⟨t,⟨?_,hz.len,hz.ent,fun w hw hw2=>?_,hz.par⟩⟩
 ·have:=hz.tab;unfold G7 at this |-
  rw [e (By g z 0) (by unfold By;omega),e (By g z 1) (by unfold By;omega)];exact this
 ·have:=hz.val w hw hw2;obtain⟨sl,e1,e2⟩:=L_ hg ha ⟨h0,h1⟩ (w:=w) ⟨hw,hw2⟩;have hsl:=K2 hg ⟨h0,h1⟩ e2;rw [e (DF g a z w) (by omega)];exact this
theorem XH {g:Geo} (hg:Bq g=true) {a:An} {l:List Tx} {F:Int->List UInt8} {lba:Int} {b:List UInt8} (himg:∀ t∈l,∀ x∈t.images,Bz g x=true) (hs:0<=a.seq+(l.length:Int)/\a.seq+(l.length:Int)<=4294967295) (hlba:0<=lba/\lba<g.z*g.d) (hb:b.length=8) (ht:(G7 g (Bt a l) F (lba.tdiv g.d)).isSome=true):(I4 g a l F lba b).images.length=3/\(∀ x∈(I4 g a l F lba b).images,Bz g x=true)/\OneTab (I4 g a l F lba b).images:=by
 obtain⟨g1,g2,g3,g4,g5⟩:=Ar.1 hg;obtain⟨t,ht⟩:=Cq.1 ht;have ei:(I4 g a l F lba b).images=Cr (lba.tdiv g.d) (BG g t (EF g (Bt a l) F t (lba.tdiv g.d)) [lba.tmod g.d] [b] (a.seq+(l.length:Int))) (ET g t (EF g (Bt a l) F t (lba.tdiv g.d)) [lba.tmod g.d] [b] g.d.toNat) [lba.tmod g.d] [b]:=by
  show Ja g (Bt a l) F _ lba b=_;unfold Ja;rw [ht]
 have htok:=R5 ht;obtain⟨Z,hZ⟩:∃ Z,Z=lba.tdiv g.d:=⟨_,rfl⟩;obtain⟨A,hA⟩:∃ A,A=lba.tmod g.d:=⟨_,rfl⟩;have hZ2:0<=Z/\Z<g.z:=by
  rw [hZ,Bj hlba.1];exact⟨Ds hlba.1 (by omega),Dm (by omega) hlba.2⟩
 have hA2:0<=A/\A<g.d:=by
  rw [hA];exact⟨Be _ hlba.1,AL _ (by omega)⟩
 rw [<-hZ,<-hA] at ei;have hadlen:∀ x∈EF g (Bt a l) F t Z,x.length=0\/x.length=8:=fun x hx=>by
  have himg:∀ t∈(Bt a l).txns,∀ x∈t.images,Bz g x=true:=himg;rcases A3.1 hx with q | q
  ·obtain⟨i,hi,rfl⟩:=AK.1 q;exact IV himg (by have:=AO.1 hi;omega)
  ·rw [AF] at q;rw [q];exact IV himg (by decide)
 have h01:∀ x∈ [b],x.length=8:=fun x hx=>by rw [AF] at hx;rw [hx];exact hb
 have hA3:∀ x∈ [A],0<=x/\x<g.d:=fun x hx=>by rw [AF] at hx;rw [hx];exact hA2
 rw [ei];refine⟨by rw [Fs];try rfl,fun x hx=>?_,?_⟩
 ·exact(L4 hg hZ2 (FU hg htok (by omega)) (Gn hadlen h01 (show [A].length<= [b].length from Ah 1) _) hA3 h01 (Ah 1) x hx).1
 ·exact Ke (l:= []) hg List.Pairwise.nil (fun x hx=>by cases hx) hA3
def Z4 (g:Geo) (M:Md):Prop:=(M.m.length:Int)=g.z*g.d/\∃ V,VolV g M.a M.l M.F V/\∀ z w,0<=z->z<g.z->0<=w->w<g.d->M.m.getD (z*g.d+w).toNat []=V z w
theorem ZG {g:Geo} (hg:Bq g=true) {z w:Int} (h0:0<=z) (h1:z<g.z) (h2:0<=w) (h3:w<g.d):0<=z*g.d+w/\z*g.d+w<g.z*g.d:=by
 obtain⟨g1,g2,g3,g4,g5⟩:=Ar.1 hg;have e1:0<=z*g.d:=CO h0 (by omega);have e2:(z+1)*g.d<=g.z*g.d:=Ci (by omega) (by omega);rw [Int.add_mul,Int.one_mul] at e2;omega
theorem Y3 {g:Geo} (hg:Bq g=true):Z4 g (EP g):=by
 obtain⟨g1,g2,g3,g4,g5⟩:=Ar.1 hg;have hn:0<=g.z*g.d:=CO (by omega) (by omega);refine⟨?_,_,Vr hg,fun z w h0 h1 h2 h3=>?_⟩
 ·show (((List.replicate (g.z*g.d).toNat zero8).length:Nat):Int)=_;rw [BC];omega
 ·have:=ZG hg h0 h1 h2 h3;show (List.replicate (g.z*g.d).toNat zero8).getD _ []=zero8;rw [Ab,List.getElem?_replicate,if_pos (by omega)];try rfl
theorem Zs {g:Geo} (hg:Bq g=true) {K:Int} (hK:K<=4294967294) {D:Dk} {M M':Md} {lba:Int} {b:List UInt8} (hlba:0<=lba/\lba<g.z*g.d) (hb:b.length=8) (hv:Vol g K D (Bt M.a M.l)) (h:Z4 g M) (hc:ZV g M lba b M'):Z4 g M'/\Vol g (K+1) D (Bt M'.a M'.l):=by
 obtain⟨g1,g2,g3,g4,g5⟩:=Ar.1 hg;rcases hc with ⟨hu,ht,W,hW,rfl⟩ | ⟨-,rfl⟩
 rotate_left 1
 ·exact⟨h,⟨hv.gd,hv.an,hv.ring,hv.rest,by have:=hv.gen;omega,by have:=hv.seq;omega,hv.one⟩⟩
 obtain⟨a,l,F,m⟩:=M;obtain⟨hm,V,hV,hr⟩:=h;simp only at hu ht hW hm hV hr;have ha:Bv g a=true:=hv.an;obtain⟨a1,a2,a3,a4⟩:=FL ha;have hseq:a.seq+l.length<=K:=hv.seq;have himg:∀ t∈l,∀ x∈t.images,Bz g x=true:=fun t ht=>Av.1 (DV hv.ring t ht).1
 obtain⟨c1,c2,c3⟩:=XH hg (F:=F) himg (by omega) hlba hb ht;refine⟨⟨?_,Sn V (I4 g a l F lba b),?_,fun z w h0 h1 h2 h3=>?_⟩,?_⟩
 ·show (((m.set lba.toNat b).length:Nat):Int)=_;rw [AW];exact hm
 ·have q:=W7 hg (x:=I4 g a l F lba b) (by show 0<=a.seq+(l.length:Int)/\a.seq+(l.length:Int)<=4294967295;omega) himg hV (YI hg hlba hb ht);exact q.far hg ha fun p hp=>Oz (by omega) _ _ rfl fun w hw e=>by have:=(hW w hw).1;omega
 ·rw [YH hg hlba ht V ⟨h2,h3⟩];show (m.set lba.toNat b).getD (z*g.d+w).toNat []=_;have hz:=ZG hg h0 h1 h2 h3;have hdm:g.d*lba.tdiv g.d+lba.tmod g.d=lba:=Int.mul_tdiv_add_tmod lba g.d;rw [Ab,List.getElem?_set];by_cases e:z=lba.tdiv g.d/\w=lba.tmod g.d
  ·rw [if_pos e,if_pos (by rw [e.1,e.2,Int.mul_comm,hdm]),if_pos (by omega)];try rfl
  ·rw [if_neg e,if_neg fun q=>e ?_,<-Ab]
   ·exact hr z w h0 h1 h2 h3
   ·have q2:lba=z*g.d+w:=by omega
    have e1:lba.tdiv g.d=lba / g.d:=Bj hlba.1;have e2:lba / g.d=z:=by
     rw [q2,Int.add_comm,Int.add_mul_ediv_right _ _ (by omega),Int.ediv_eq_zero_of_lt h2 h3,Int.zero_add]
    refine⟨by rw [e1,e2],?_⟩;rw [e1,e2,Int.mul_comm] at hdm;omega
 ·exact hv.add hg hK (d':=D) hv.gd (x:=I4 g a l F lba b) rfl rfl (by show (2:Int)<=4;omega) (by show (4:Int)<=g.sl - CT l;omega) (by show (4:Int)=_;rw [c1];try rfl) c2 c3

theorem WH (g:Geo) (seq epoch:Int) (l:List Img) (hl:l.length<=100000) (hb:∀ x∈l,x.bytes.length<=100000):Fn Tryz.prog 110 [.ag (Ba g),iv seq,iv epoch,Ee l] fun r=>r = .tp [RI (if Kq g seq epoch l=0 then CE seq epoch l else []),iv (Kq g seq epoch l)]:=by
 have nilr:∀ c v n,n≠0->Kq g seq epoch l=n->Rd (.tp [.v (.slice none 0 0),iv n]) c v->Rd (.tp [RI (if Kq g seq epoch l=0 then CE seq epoch l else []),iv (Kq g seq epoch l)]) c v:=by
  intro c v n hn he h;rw [if_neg (by rw [he];exact hn),he];simp only [Rd,RdL] at h |-
  obtain⟨xs,rfl,a,_,rfl,h1,h2⟩:=h;exact⟨_,rfl,a,_,rfl,Bn _ _ _ _ (by simpa [Rd] using h1),h2⟩
 obtain⟨z,d,sp,sl,an⟩:=g;refine zT Tryz.func110 rfl ?_;conv=>whnf
 repeat' (first | (refine Am (fun h=>?_) (fun h=>?_) <;> (try simp at h) <;> conv=>whnf) | (refine z_ (DC z d sp sl an) ?_;conv=>whnf) | (refine z_ (Ik _ _ _) ?_;conv=>whnf))
 iterate 3 (exact⟨_,fun c v h=>nilr c v 1 (by decide) (by simp [Kq, *]) h,rfl⟩)
 rename_i h1 h2;have ht0:(Bq ⟨z,d,sp,sl,an⟩&&(C2 seq 0 4294967295&&C2 epoch 0 4294967295))=true:=by simp [*]
 clear h h1 h2;refine zP Nat (fun k=>([(1,iv seq),(2,iv epoch),(3,Ee l),(4, .bp 0 0),(29,Ee l),(30,iv l.length),(31,iv k)], [.box 23 (Ba ⟨z,d,sp,sl,an⟩)])) (fun k=>k<=l.length/\∀ i,i<k->Bz ⟨z,d,sp,sl,an⟩ (l.getD i ⟨0,0, []⟩)=true) (fun k=>l.length - k) 0 ⟨Aj _,by simp⟩ ⟨[],tv,tA,tA,rfl,rfl,rfl⟩ ?_;rintro k ⟨hk,hI⟩;conv=>whnf
 refine Am (fun h2=>?_) (fun h2=>?_) <;> simp at h2 <;> conv=>whnf
 ·refine⟨by first | omega | (refine⟨rfl,?_,?_⟩ <;> first | omega | (simp only [Ac];done) | (simp only [Ac];omega)) | (simp only [Ac];omega),?_⟩;conv=>whnf
  refine zM (JH ⟨z,d,sp,sl,an⟩ (l.getD k ⟨0,0, []⟩) (hb _ (A5 h2))) rfl ?_;rintro _ rfl;conv=>whnf
  refine Am (fun h3=>?_) (fun h3=>?_) <;> conv=>whnf
  ·refine⟨_,fun c v h=>nilr c v 1 (by decide) ?_ h,rfl⟩;have:l.all (Bz ⟨z,d,sp,sl,an⟩)=false:=by
    rw [<-BF];intro hh;have:=Av.1 hh _ (A5 (d:=⟨0,0, []⟩) h2);rw [this] at h3;simp at h3
   simp [Kq,ht0,this]
  ·refine⟨k+1,⟨by omega,fun i hi=>?_⟩,by omega, [],tv,⟨rfl,rfl,rfl,rfl,rfl,rfl,AR (by omega),tv⟩,tA,rfl,rfl,rfl⟩;rcases BU i k with h | h
   ·exact hI i h
   ·obtain rfl:i=k:=by omega
    cases hq:Bz ⟨z,d,sp,sl,an⟩ (l.getD i ⟨0,0, []⟩) with
    | true=>rfl
    | false=>rw [hq] at h3;simp at h3
 ·have ht1:l.all (Bz ⟨z,d,sp,sl,an⟩)=true:=by
   rw [Av];intro x hx;obtain⟨i,hi,rfl⟩:=List.getElem_of_mem hx;have:=hI i (by omega);rwa [Ab,Ae hi] at this
  clear hI;refine z_ (Ik _ _ _) ?_;conv=>whnf
  refine Am (fun h3=>?_) (fun h3=>?_) <;> simp at h3 <;> conv=>whnf
  ·exact⟨_,fun c v h=>nilr c v 2 (by decide) (by simp [Kq,ht0,ht1,h3]) h,rfl⟩
  have ht2:Kq ⟨z,d,sp,sl,an⟩ seq epoch l=0:=by simp [Kq,ht0,ht1,h3]
  clear nilr;rw [wi (by omega)];refine zP Nat (fun k=>([(1,iv seq),(2,iv epoch),(13,iv (l.length+1)),(12, .ow 1 k),(47,Ee l),(48,iv l.length),(49,iv k)], [.dead, .row 168 8 ((Iw seq epoch (l.length+1) k l).map FQ)])) (fun k=>k<=l.length) (fun k=>l.length - k) 0 (Aj _) ⟨[(12,168,8)],tA,tA,tA,rfl,rfl,rfl⟩ ?_;rintro k hk;have hlk:=Jb seq epoch (l.length+1) k l;conv=>whnf
  refine Am (fun h2=>?_) (fun h2=>?_) <;> simp at h2 <;> conv=>whnf
  ·refine⟨by first | omega | (refine⟨rfl,?_,?_⟩ <;> first | omega | (simp only [Ac];done) | (simp only [Ac];omega)) | (simp only [Ac];omega),?_⟩;conv=>whnf
   refine zM (BK (l.getD k ⟨0,0, []⟩).bytes (by have:=hb _ (A5 (d:=⟨0,0, []⟩) h2);omega)) rfl ?_;rintro _ rfl;refine⟨rfl,?_⟩;conv=>whnf
   refine⟨⟨by rw [Ac,hlk];omega,by omega⟩,?_⟩;refine⟨k+1,by omega,by omega, [],tv,⟨rfl,rfl,rfl,rfl,rfl,rfl,AR (by omega),tv⟩,⟨Zg ?_,tv⟩,rfl,rfl,rfl⟩;rw [QP _ _ _ h2];try rfl
  ·obtain rfl:k=l.length:=by omega
   rw [wi (by omega),show (l.length:Int)+1 - 1=l.length by omega];refine⟨rfl,?_⟩;conv=>whnf
   refine⟨⟨by rw [Ac,hlk];omega,by omega⟩,?_⟩;conv=>whnf
   refine⟨by rw [Ai,Ac,hlk];simp,?_⟩;refine⟨_,fun c v h=>?_,rfl⟩;rw [ht2,if_pos rfl];simp only [Rd,RdL] at h |-
   obtain⟨xs,rfl,a,_,rfl,h1,h2⟩:=h;exact⟨_,rfl,a,_,rfl,Rd.sub (sz:=8) (Lh seq epoch l).symm (UY seq epoch l) (by simp only [Rd];exact h1),h2⟩
@[reducible] def delX (lba:Int):AV:= .fn 114 [.rp [iA [lba]]]
theorem Xv (lba:Int):Fn Tryz.prog 185 [iA [],delX lba] fun r=>r = iv (-1):=by
 refine zT Tryz.func185 rfl ?_;conv=>whnf
 refine zv 1 ?_;conv=>whnf
 repeat' (refine zZ ?_;conv=>whnf)
 exact⟨_,ri,rfl⟩
theorem VY (lba:Int):Fn Tryz.prog 113 [iA [],delX lba] fun r=>r=iA []:=by
 have h1:=Xv lba;refine zT Tryz.func113 rfl ?_;conv=>whnf
 refine z_ h1 ?_;exact⟨_,ri,rfl⟩
theorem Yh {g:Geo} {seq epoch:Int} {l:List Img} (hg:Bq g=true) (h1:C2 seq 0 4294967295=true) (h2:C2 epoch 0 4294967295=true) (h3:l.all (Bz g)=true) (h4:C2 l.length 1 29=true):Kq g seq epoch l=0:=by
 simp [Kq,hg,h1,h2,h3,h4]
theorem Qf {H:List AB} {t:TypeId} {g:Geo} {s:Stt} {T:List Tx} {es:List (List AV)} {n:Nat} (hj:H[0]? = some (.box t (XY g (.bp 1 0) (.ow 4 n) (iA s.lost) s))) (hk:H[4]? = some (.row 112 4 es)) (hn:n=T.length) (he:es=T.map Eb):ConvH H ((H.set 4 .dead).set 0 (.box t (YM g (.bp 1 0) { s with txns:=T }))):=by
 subst hn he;have h4:4<H.length:=(At.1 hk).1;have e:=zo (H:=H) 0 4 (cs2:=XY g (.bp 1 0) (.sl 4 (T.map Eb).length fun i=>(T.map Eb).getD i []) (iA s.lost) s) hj hk (by simp only [A8,BM,R9 (Ac _).symm];rfl);have q:=ConvH.subBox (H:=(H.set 4 .dead).set 0 (.box t (XY g (.bp 1 0) (.sl 4 (T.map Eb).length fun i=>(T.map Eb).getD i []) (iA s.lost) s))) 0 (t:=t) (cs':=YM g (.bp 1 0) { s with txns:=T }) (AE (by rw [AW];omega)) ⟨ri,ri,ri,ri,ri,ri,ri,ri,ri,ri,ri,ri,ri,B4 (f:=Eb) T (Ac _) rfl,ri,ri,ri,ri,ri,ri,tv⟩;rw [List.set_set] at q;exact e.trans q
@[reducible] def YY (g:Geo) (s:Stt) (d:Dk):List AB:= [.box 116 (YM g (.bp 1 0) s), .box 185 (H0 (.ow 2 d.cells.length) (.ow 5 d.cache.length) d.reqs d.left), .row 128 3 (d.cells.map B5), .dead, .dead, .row 134 2 (d.cache.map DR)]
@[reducible] def conH (g:Geo) (s:Stt) (d:Dk) (lba:Int):List AB:=Fz g s d ++ [.box 35 [iA [lba]]]
theorem F4 {d:Dk} (h:d.left = -1) (a:Int) (b:List UInt8):(d.write a b).2≠8/\(d.write a b).1.left = -1:=by
 have e:d.req.left = -1:=by unfold Dk.req;rw [h];try rfl
 unfold Dk.write;rw [if_neg (by rw [h];decide)];split
 ·exact⟨by show (7:Int)≠8;decide,e⟩
 ·exact⟨by show (0:Int)≠8;decide,e⟩
def QB (g:Geo) (d:Dk) (x:Rc) (Q:Int):Dk:=((d.write (AU g 0 Q) (BV g x 0 Q)).1.write (AU g 1 Q) (BV g x 1 Q)).1
def YV (g:Geo) (d:Dk) (x:Rc) (Q:Int):Bool:=decide ((d.write (AU g 0 Q) (BV g x 0 Q)).2=0) || decide (((d.write (AU g 0 Q) (BV g x 0 Q)).1.write (AU g 1 Q) (BV g x 1 Q)).2=0)
def dW (g:Geo) (P:Int) (R:List Rc) (d:Dk):Nat->Dk
 | 0=>d
 | i+1=>QB g (dW g P R d i) (R.getD i rc0) (BW g P (i:Nat))
def tW (g:Geo) (P:Int) (R:List Rc) (d:Dk) (i:Nat):Bool:=YV g (dW g P R d i) (R.getD i rc0) (BW g P (i:Nat))
theorem Yu {g:Geo} (hg:Bq g=true) {d:Dk} {x:Rc} {Q:Int} (hx:DP g x=true) (hQ:0<=Q/\Q<g.sl) (h:DkOk d) (hl:d.left = -1) (hn:(d.cells.length:Int)=A4 g):DkOk (QB g d x Q)/\(QB g d x Q).left = -1/\((QB g d x Q).cells.length:Int)=A4 g:=by
 have b0:=DY hg hn (.inl rfl) hQ (c:=0);have b1:=DY hg hn (.inr rfl) hQ (c:=1);have h1:=h.write (a:=AU g 0 Q) (b:=BV g x 0 Q) (by omega) (Dy hx 0 Q);have l1:=(F4 hl (AU g 0 Q) (BV g x 0 Q)).2;have n1:=Kx d (AU g 0 Q) (BV g x 0 Q);have h2:=h1.write (a:=AU g 1 Q) (b:=BV g x 1 Q) (by omega) (Dy hx 1 Q);have l2:=(F4 l1 (AU g 1 Q) (BV g x 1 Q)).2;have n2:=Kx (d.write (AU g 0 Q) (BV g x 0 Q)).1 (AU g 1 Q) (BV g x 1 Q);exact⟨h2,l2,by show ((((d.write _ _).1.write _ _).1.cells.length:Nat):Int)=_;omega⟩
theorem No {g:Geo} (hg:Bq g=true) {P:Int} {R:List Rc} {n:Nat} (hR:∀ i:Nat,i<n->DP g (R.getD i rc0)=true) (hP:∀ i:Nat,i<n->0<=BW g P (i:Nat)/\BW g P (i:Nat)<g.sl) {d:Dk} (h:DkOk d) (hl:d.left = -1) (hn:(d.cells.length:Int)=A4 g):∀ i,i<=n->DkOk (dW g P R d i)/\(dW g P R d i).left = -1/\((dW g P R d i).cells.length:Int)=A4 g
 | 0,_=>⟨h,hl,hn⟩
 | i+1,hi=>by
  obtain⟨q1,q2,q3⟩:=No hg hR hP h hl hn i (by omega);exact Yu hg (hR i (by omega)) (hP i (by omega)) q1 q2 q3
theorem TV (g:Geo) (s:Stt) (d:Dk) (x:Rc) (Q:Int) (hg:Bq g=true) (hx:DP g x=true) (hxl:x.img.bytes.length<=100000) (hQ:0<=Q/\Q<g.sl) (h:DkOk d) (hl:d.left = -1) (hn:(d.cells.length:Int)=A4 g) :
  ACalls Tryz.prog false 111 [.bp 0 0, .ag (FQ x),iv Q] (Fz g s d) fun r H=>r = .tp [.v (.bool (YV g d x Q)),iv 0]/\H=Fz g s (QB g d x Q):=
 Wf g s d x Q hg hx hxl hQ h hn (F4 hl _ _).1 (F4 (F4 hl _ _).2 _ _).1
theorem XG (g:Geo) (a:An) (l:List Tx) (d:Dk) (G:Gr) (lba:Int) (b:List UInt8) (t:List Ent) (hg:Bq g=true) (ha:Bv g a=true) (hring:CD g l a.seq a.pos g.sl=true) (hsm:StSm (Bt a l)) (hseq:a.seq+(l.length:Int)<=4294967295) (h:Gs (A4 g) d G) (hF:∀ a,(G a).bytes.length<=100000) (h8:∀ a,(G a).err≠8) (hlba:0<=lba/\lba<g.z*g.d) (hb:b.length=8) (hroom:4<=g.sl - CT l) (hB:∀ p,Db l (lba.tdiv g.d) 255=some p->p.1.bytes.length<=100000/\(Cb g p.1.bytes).isSome=true) (htab:Gj g (Bt a l) G (lba.tdiv g.d)=some t) (S P:Int) (L:List Img) (hS:S=a.seq+(l.length:Int)) (hP:P=(a.pos+CT l).tmod g.sl) (hL:L=EE g (Bt a l) G S lba b) (hL3:L.length=3) (hLok:∀ x∈L,Bz g x=true) :
  ACalls Tryz.prog false 46 [.bp 0 0,iA [lba],FT [b]] (Fz g (Bt a l) d) fun r H=>∃ d1,Gs (A4 g) d1 G/\(((∀ j:Nat,j<4->tW g P (CE S a.epoch L) d1 j=true)/\r = iv 0/\H=YY g (Bt a (l ++ [⟨S,P,4,L⟩])) (dW g P (CE S a.epoch L) d1 4).flush)\/∃ k:Nat,k<4/\(∀ j:Nat,j<k->tW g P (CE S a.epoch L) d1 j=true)/\tW g P (CE S a.epoch L) d1 k=false/\r = iv 14/\H=YY g { Bt a l with only:=true } (dW g P (CE S a.epoch L) d1 (k+1))):=by
 obtain⟨g1,g2,g3,g4,g5⟩:=Ar.1 hg;have hl30:l.length<=30:=hsm.t.1;have hlb:LogB (Bt a l).txns:=⟨by have:=hsm.t.1;omega,fun t ht=>⟨by have:=(hsm.t.2 t ht).1;omega,fun x hx=>by have:=(hsm.t.2 t ht).2 x hx;omega⟩⟩;have hun:=F5 l l.length;obtain⟨a1,a2,a3,a4⟩:=FL ha;have tsub:SubL [.ag (Ba g), .ag (EJ a), .sl 4 l.length fun i=>(l.map Eb).getD i []] [.ag (Ba g), .ag (EJ a),Eg l]:=⟨ri,ri,B4 (f:=Eb) l rfl rfl,tv⟩;have hmay:=Se g (Bt a l) d lba b hg (by show l.length<=1000;omega) hlba hb;rw [show (Bt a l).only=false from rfl,if_neg (by decide),show (Bt a l).txns=l from rfl,if_neg (by omega)] at hmay;have hnext:=SD g a l hg ha hring (by omega) (fun t ht=>⟨by have:=(hsm.t.2 t ht).1;omega,fun x hx=>by have:=(hsm.t.2 t ht).2 x hx;omega⟩) (by have:=(LV hg ha).1;omega) (by have:=(LV hg ha).2.1;omega) (by omega);have himg:=PH g (Bt a l) d G lba S b hg hlb ha h (fun t ht=>Av.1 (DV hring t ht).1) hF h8 hlba hb (by omega) hB t htab;rw [<-hS,<-hP] at hnext;rw [<-hL] at himg;have hep:0<=a.epoch/\a.epoch<=4294967295:=by
  have:=ha;simp only [Bv,AX,BD,Bx,Ad,decide_eq_true_eq,AD] at this;omega
 have hLb:∀ x∈L,x.bytes.length<=45:=fun x hx=>Gy hg (hLok x hx)
 have hrec:=WH g S a.epoch L (by omega) fun x hx=>by have:=hLb x hx;omega
 have hS1:C2 S 0 4294967295=true:=AD.2 (by omega);rw [Yh hg hS1 (AD.2 hep) (Av.2 hLok) (by rw [hL3];decide),if_pos rfl] at hrec;obtain⟨R,hR⟩:∃ R,R=CE S a.epoch L:=⟨_,rfl⟩;have hRl:R.length=4:=by rw [hR,Lh,hL3]
 have hRok:∀ k:Nat,k<4->DP g (R.getD k rc0)=true/\(R.getD k rc0).img.bytes.length<=100000:=fun k hk=>by
  rw [hR,J2 _ _ _ (by omega)];split
  ·rename_i q;exact⟨NJ hg hS1 (AD.2 hep) (hLok _ (A5 (d:=⟨0,0, []⟩) q)) q hL3,by have:=hLb _ (A5 (d:=(⟨0,0, []⟩:Img)) q);show (L.getD k _).bytes.length<=_;omega⟩
  ·rw [show k=L.length by omega];exact⟨NI hg hS1 (AD.2 hep) hL3,Aj _⟩
 have hPb:∀ i:Nat,i<4->0<=BW g P (i:Nat)/\BW g P (i:Nat)<g.sl:=fun i hi=>Hg hg (pos:=P) (at_:=(i:Nat)) (by rw [hP];exact⟨Be _ (by unfold CT;omega),AL _ (by omega)⟩) (by omega)
 rw [<-hR] at hrec |-
 refine zS tys_ok Tryz.func46 rfl rfl (Ag rfl) ?_;conv=>whnf
 refine zh [0,1,2,3,4] hmay ?_;rintro _ _ ⟨rfl,rfl⟩;conv=>whnf
 apply zV (0) tys_ok mixed (.o [0,1,2,3,4,5,6,7,8,9,10,11,12,13,14,15,16,17,18,19,20,21] .fin) (by kernel_rfl);conv=>whnf
 (refine zj (args':= [.ag (Ba g), .ag (EJ a), .sl 4 l.length fun i=>(l.map Eb).getD i []]) (hnext.subA tsub) ⟨(Ac _).symm,rfl⟩ ?_;rintro _ rfl;refine⟨rfl,?_⟩)
 conv=>whnf
 refine zh [0,1,2,3,4] himg ?_;rintro _ _ ⟨rfl,d1,hd1,rfl⟩;have hok:=No hg (P:=P) (R:=R) (fun i hi=>(hRok i hi).1) hPb hd1.ok hd1.left hd1.len;conv=>whnf
 repeat' (refine zZ ?_;conv=>whnf)
 apply zV (0) tys_ok mixed (.o [0,1,2,3,4,5,6,7,8,9,10,11,12,13,14,15,16,17] .fin) (by kernel_rfl);conv=>whnf
 refine z_ hrec ?_;conv=>whnf
 refine zU Nat (fun i=>([(0, .bp 0 0),(4, .bp 5 0),(8,iv P),(9,iv S),(10,Ee L),(11,RI R),(73,RI R),(74,iv R.length),(75,iv (i:Nat))],conH g (Bt a l) (dW g P R d1 i) lba)) (fun i=>i<=4/\∀ j:Nat,j<i->tW g P R d1 j=true) (fun i=>4 - i) 0 ⟨by show 0<=4;omega,fun j hj=>absurd hj (Ao j)⟩
  (zR (s:= [0,1,2,3,4,5]) tA) ?_
 rintro i ⟨hi,hT⟩;by_cases hi4:i<4
 ·obtain⟨q1,q2,q3⟩:=hok i (by omega);have hbo:=TV g (Bt a l) (dW g P R d1 i) (R.getD i rc0) (BW g P (i:Nat)) hg (hRok i hi4).1 (hRok i hi4).2 (hPb i hi4) q1 q2 q3;cases ht:tW g P R d1 i with
  | true=>
   rw [show YV g (dW g P R d1 i) (R.getD i rc0) (BW g P (i:Nat))=true from ht] at hbo;conv=>whnf
   rw [show decide ((i:Int)<(R.length:Nat))=true from decide_eq_true (by omega)];conv=>whnf
   repeat' (refine zZ ?_;conv=>whnf)
   refine⟨⟨by omega,by omega⟩,?_⟩;conv=>whnf
   rw [Aa];repeat' (refine zZ ?_;conv=>whnf)
   apply zV (2 ^ 139) tys_ok mixed (.o [0,1,2,3,4,5,6,7,8,9,10,11,12,13,14,15,16] .fin) (by kernel_rfl);conv=>whnf
   try (refine tI ?_;conv=>whnf)
   (refine zh [0,1,2,3,4] hbo ?_;rintro _ _ ⟨rfl,rfl⟩)
   conv=>whnf
   conv=>whnf
   repeat' (refine zZ ?_;conv=>whnf)
   exact⟨i+1,⟨by omega,fun j hj=>by by_cases e:j=i;exact e ▸ ht;exact hT j (by omega)⟩,by omega,zR (s:= [0,1,2,3,4,5]) ⟨⟨rfl,rfl,rfl,rfl,rfl,rfl,rfl,rfl,AR (by omega),tv⟩,tA,rfl,rfl,rfl,rfl,rfl⟩⟩
  | false=>
   rw [show YV g (dW g P R d1 i) (R.getD i rc0) (BW g P (i:Nat))=false from ht] at hbo;conv=>whnf
   rw [show decide ((i:Int)<(R.length:Nat))=true from decide_eq_true (by omega)];conv=>whnf
   repeat' (refine zZ ?_;conv=>whnf)
   refine⟨⟨by omega,by omega⟩,?_⟩;conv=>whnf
   rw [Aa];repeat' (refine zZ ?_;conv=>whnf)
   apply zV (2 ^ 139) tys_ok mixed (.o [0,1,2,3,4,5,6,7,8,9,10,11,12,13,14,15,16] .fin) (by kernel_rfl);conv=>whnf
   try (refine tI ?_;conv=>whnf)
   (refine zh [0,1,2,3,4] hbo ?_;rintro _ _ ⟨rfl,rfl⟩)
   conv=>whnf
   conv=>whnf
   repeat' (refine zZ ?_;conv=>whnf)
   exact⟨_,iv 14,YY g { Bt a l with only:=true } (dW g P R d1 (i+1)),fun _ _ h=>h,zC (zK (ConvH.trans (Qf (s:={ Bt a l with only:=true }) (T:=l) rfl rfl rfl rfl) (zw 1 3 (by decide) rfl rfl))) (s:= [0,1,2,3,4,7]) tA,d1,hd1, .inr ⟨i,hi4,hT,ht,rfl,rfl⟩⟩
 ·have ei:i=4:=by omega
  subst ei;obtain⟨q1,q2,q3⟩:=hok 4 (Ah _);have hfl:=Re (dW g P R d1 4) q1.l q1.m fun w hw=>(q1.w w hw).1
  rw [if_neg (by rw [q2];decide),if_neg (by rw [q2];decide)] at hfl;have hdel:=VY lba;conv=>whnf
  rw [show decide (((4:Nat):Int)<(R.length:Nat))=false from decide_eq_false (by omega)];conv=>whnf
  repeat' (refine zZ ?_;conv=>whnf)
  refine zh [1,2,3] hfl ?_;rintro _ _ ⟨rfl,rfl⟩;conv=>whnf
  repeat' (refine zZ ?_;conv=>whnf)
  refine⟨rfl,?_⟩;conv=>whnf
  refine Af ⟨by rw [Ac],by show l.length+1<=1000000000;omega⟩ ?_;conv=>whnf
  repeat' (refine zZ ?_;conv=>whnf)
  refine z_ hdel ?_;conv=>whnf
  have e4:((R.length:Nat):Int)=4:=by omega
  rw [e4];exact⟨_,iv 0,YY g (Bt a (l ++ [⟨S,P,4,L⟩])) (dW g P R d1 4).flush,fun _ _ h=>h,zC (zK (Qf (T:=l ++ [⟨S,P,4,L⟩]) rfl rfl (by rw [Ai];try rfl) (by rw [A0];try rfl))) (s:= [0,1,2,3,4,6]) tA,d1,hd1, .inl ⟨hT,rfl,rfl⟩⟩

theorem Sd (g:Geo) (s:Stt) (d:Dk) (lba:Int) (b:List UInt8) (e:Int) (hg:Bq g=true) (hl:s.txns.length<=1000) (hlba:0<=lba/\lba<g.z*g.d) (hb:b.length=8) (he:e=if s.only then 15 else if 4 > g.sl - CT s.txns then 21 else 0) (h0:e≠0) :
  ACalls Tryz.prog false 46 [.bp 0 0,iA [lba],FT [b]] (Fz g s d) fun r H=>r = iv e/\H=YY g s d:=by
 have hmay:=Se g s d lba b hg hl hlba hb;rw [<-he] at hmay;refine zS tys_ok Tryz.func46 rfl rfl (Ag rfl) ?_;conv=>whnf
 refine zh [0,1,2,3,4] hmay ?_;rintro _ _ ⟨rfl,rfl⟩;conv=>whnf
 repeat' (refine zZ ?_;conv=>whnf)
 rw [show (e != 0)=true from bne_iff_ne.2 h0];exact⟨_,iv e,YY g s d,fun _ _ h=>h,zC (zK (ConvH.trans (Qf (s:=s) (T:=s.txns) rfl rfl rfl rfl) (zw 1 3 (by decide) rfl rfl))) (s:= [0,1,2,3,4,6]) tA,rfl,rfl⟩
theorem Rh (g:Geo) (s:Stt) (d:Dk) (lba:Int) (b:List UInt8) (hg:Bq g=true) (h:DkOk d) (hst:Mf g d s=true) (hsm:StSm s) (hlba:0<=lba/\lba<g.z*g.d) (hb:b.length=8) (h0:s.only=true\/4 > g.sl - CT s.txns) :
  Fn Tryz.prog 16 [.ag (Ba g), .ag (Eh d), .ag (E6 s),iA [lba],FT [b]] fun r=>r = .tp [.ag (E6 st0), .ag (Eh d),iv (if s.only then 15 else 21)]:=by
 have c1:=Oh g d s h hst hsm;have c4:=LU g s d h;cases ho:s.only with
 | true=>
  rw [if_pos rfl];have c2:=Sd g s d lba b 15 hg (by have:=hsm.t.1;omega) hlba hb (by rw [ho,if_pos rfl]) (by decide);refine zT Tryz.func16 rfl ?_;conv=>whnf
  refine zW c1 rfl ?_;rintro _ _ ⟨rfl,rfl⟩;conv=>whnf
  refine zh [5,6,7,8,9] c2 ?_;rintro _ _ ⟨rfl,rfl⟩;conv=>whnf
  repeat' (refine zZ ?_;conv=>whnf)
  refine zh [5,6,7,8,10] c4 ?_;rintro _ _ ⟨rfl,rfl⟩;exact⟨.tp [.ag (E6 st0), .ag (Eh d),iv 15],BL ⟨Bk st0_sub,ri,ri,tv⟩,rfl⟩
 | false=>
  rw [if_neg (by decide)];have hr:4 > g.sl - CT s.txns:=h0.resolve_left (by rw [ho];decide);have c2:=Sd g s d lba b 21 hg (by have:=hsm.t.1;omega) hlba hb (by rw [ho,if_neg (by decide),if_pos hr]) (by decide);refine zT Tryz.func16 rfl ?_;conv=>whnf
  refine zW c1 rfl ?_;rintro _ _ ⟨rfl,rfl⟩;conv=>whnf
  refine zh [5,6,7,8,9] c2 ?_;rintro _ _ ⟨rfl,rfl⟩;conv=>whnf
  repeat' (refine zZ ?_;conv=>whnf)
  refine zh [5,6,7,8,10] c4 ?_;rintro _ _ ⟨rfl,rfl⟩;exact⟨.tp [.ag (E6 st0), .ag (Eh d),iv 21],BL ⟨Bk st0_sub,ri,ri,tv⟩,rfl⟩
theorem PM (g:Geo) (a:An) (l:List Tx) (d:Dk) (G:Gr) (lba:Int) (b:List UInt8) (t:List Ent) (hg:Bq g=true) (ha:Bv g a=true) (hring:CD g l a.seq a.pos g.sl=true) (hst:Mf g d (Bt a l)=true) (hsm:StSm (Bt a l)) (hseq:a.seq+(l.length:Int)<=4294967295) (h:Gs (A4 g) d G) (hF:∀ a,(G a).bytes.length<=100000) (h8:∀ a,(G a).err≠8) (hlba:0<=lba/\lba<g.z*g.d) (hb:b.length=8) (hroom:4<=g.sl - CT l) (hB:∀ p,Db l (lba.tdiv g.d) 255=some p->p.1.bytes.length<=100000/\(Cb g p.1.bytes).isSome=true) (htab:Gj g (Bt a l) G (lba.tdiv g.d)=some t) (S P:Int) (L:List Img) (hS:S=a.seq+(l.length:Int)) (hP:P=(a.pos+CT l).tmod g.sl) (hL:L=EE g (Bt a l) G S lba b) (hL3:L.length=3) (hLok:∀ x∈L,Bz g x=true) (hsm2:StSm (Bt a (l ++ [⟨S,P,4,L⟩]))) :
  Fn Tryz.prog 16 [.ag (Ba g), .ag (Eh d), .ag (E6 (Bt a l)),iA [lba],FT [b]] fun r=>∃ d1,Gs (A4 g) d1 G/\(((∀ j:Nat,j<4->tW g P (CE S a.epoch L) d1 j=true)/\r = .tp [.ag (E6 (Bt a (l ++ [⟨S,P,4,L⟩]))), .ag (Eh (dW g P (CE S a.epoch L) d1 4).flush),iv 0])\/∃ k:Nat,k<4/\(∀ j:Nat,j<k->tW g P (CE S a.epoch L) d1 j=true)/\tW g P (CE S a.epoch L) d1 k=false/\r = .tp [.ag (E6 { Bt a l with only:=true }), .ag (Eh (dW g P (CE S a.epoch L) d1 (k+1))),iv 14]):=by
 have c1:=Oh g d (Bt a l) h.ok hst hsm;have c2:=XG g a l d G lba b t hg ha hring hsm hseq h hF h8 hlba hb hroom hB htab S P L hS hP hL hL3 hLok;have hsm3:StSm { Bt a l with only:=true }:=⟨hsm.h,hsm.l,hsm.t,hsm.o⟩;obtain⟨g1,g2,g3,g4,g5⟩:=Ar.1 hg;have hun:=F5 l l.length;have hep:0<=a.epoch/\a.epoch<=4294967295:=by
  have:=ha;simp only [Bv,AX,BD,Bx,Ad,decide_eq_true_eq,AD] at this;omega
 obtain⟨a1,a2,a3,a4⟩:=FL ha;have hS1:C2 S 0 4294967295=true:=AD.2 (by omega);have hRok:∀ k:Nat,k<4->DP g ((CE S a.epoch L).getD k rc0)=true:=fun k hk=>by
  rw [J2 _ _ _ (by omega)];split
  ·rename_i q;exact NJ hg hS1 (AD.2 hep) (hLok _ (A5 (d:=⟨0,0, []⟩) q)) q hL3
  ·rw [show k=L.length by omega];exact NI hg hS1 (AD.2 hep) hL3
 have hPb:∀ i:Nat,i<4->0<=BW g P (i:Nat)/\BW g P (i:Nat)<g.sl:=fun i hi=>Hg hg (pos:=P) (at_:=(i:Nat)) (by rw [hP];exact⟨Be _ (by unfold CT;omega),AL _ (by omega)⟩) (by omega)
 refine zT Tryz.func16 rfl ?_;conv=>whnf
 refine zW c1 rfl ?_;rintro _ _ ⟨rfl,rfl⟩;conv=>whnf
 refine zh [5,6,7,8,9] c2 ?_;rintro _ _ ⟨d1,hd1,⟨hT,rfl,rfl⟩ | ⟨k,hk,hT,hTk,rfl,rfl⟩⟩
 ·have hok:=No hg hRok hPb hd1.ok hd1.left hd1.len 4 (Ah _);have c3:=PP _ hsm2;have c4:=LU g (Bt a (l ++ [⟨S,P,4,L⟩])) (dW g P (CE S a.epoch L) d1 4).flush hok.1.flush;conv=>whnf
  repeat' (refine zZ ?_;conv=>whnf)
  refine z_ c3 ?_;conv=>whnf
  refine zh [5,6,7,8,10] c4 ?_;rintro _ _ ⟨rfl,rfl⟩;exact⟨_,ri,d1,hd1, .inl ⟨hT,rfl⟩⟩
 ·have hok:=No hg hRok hPb hd1.ok hd1.left hd1.len (k+1) (by omega);have c3:=PP _ hsm3;have c4:=LU g { Bt a l with only:=true } (dW g P (CE S a.epoch L) d1 (k+1)) hok.1;conv=>whnf
  repeat' (refine zZ ?_;conv=>whnf)
  refine z_ c3 ?_;conv=>whnf
  refine zh [5,6,7,8,10] c4 ?_;rintro _ _ ⟨rfl,rfl⟩;exact⟨_,ri,d1,hd1, .inr ⟨k,hk,hT,hTk,rfl⟩⟩
theorem Mr (d:Dk) (a:Int) (b:List UInt8):(d.write a b).1.cells=d.cells/\∃ W,(d.write a b).1.cache=d.cache ++ W/\∀ w∈W,w.addr=a:=by
 unfold Dk.write;split
 ·exact⟨rfl, [],(AM _).symm,fun w hw=>by cases hw⟩
 ·split
  ·exact⟨rfl, [],(AM _).symm,fun w hw=>by cases hw⟩
  ·exact⟨rfl, [⟨a,b⟩],rfl,fun w hw=>by rw [AF] at hw;rw [hw]⟩
theorem Xd {g:Geo} (d:Dk) (x:Rc) {Q:Int} (hQ:0<=Q/\Q<g.sl):(QB g d x Q).cells=d.cells/\∃ W,(QB g d x Q).cache=d.cache ++ W/\∀ w∈W,g.an<=w.addr/\w.addr<g.an+2*g.sl:=by
 obtain⟨e1,W1,c1,h1⟩:=Mr d (AU g 0 Q) (BV g x 0 Q);obtain⟨e2,W2,c2,h2⟩:=Mr (d.write (AU g 0 Q) (BV g x 0 Q)).1 (AU g 1 Q) (BV g x 1 Q);refine⟨e2.trans e1,W1 ++ W2,by unfold QB;rw [c2,c1,A7],fun w hw=>?_⟩;rcases A3.1 hw with q | q
 ·rw [h1 w q];exact Hu (.inl rfl) hQ
 ·rw [h2 w q];exact Hu (.inr rfl) hQ
theorem Rg {g:Geo} {P:Int} {R:List Rc} {n:Nat} (hP:∀ i:Nat,i<n->0<=BW g P (i:Nat)/\BW g P (i:Nat)<g.sl) (d:Dk):∀ i,i<=n->(dW g P R d i).cells=d.cells/\∃ W,(dW g P R d i).cache=d.cache ++ W/\∀ w∈W,g.an<=w.addr/\w.addr<g.an+2*g.sl
 | 0,_=>⟨rfl, [],(AM _).symm,fun w hw=>by cases hw⟩
 | i+1,hi=>by
  obtain⟨e1,W1,c1,h1⟩:=Rg (R:=R) hP d i (by omega);obtain⟨e2,W2,c2,h2⟩:=Xd (dW g P R d i) (R.getD i rc0) (hP i (by omega));refine⟨e2.trans e1,W1 ++ W2,by show (QB g _ _ _).cache=_;rw [c2,c1,A7],fun w hw=>?_⟩;rcases A3.1 hw with q | q
  ·exact h1 w q
  ·exact h2 w q
theorem Ts {d:Dk} {q:Int} (hq:0<=q/\q<d.cells.length) (h:∀ w∈d.cache,0<=w.addr/\w.addr≠q):d.flush.got q=if (d.cells.getD q.toNat cz).state=0 then ((d.cells.getD q.toNat cz).bytes,0) else ([],6):=by
 have e:d.flush.cells=CH d.cells d.cache:=by
  unfold Dk.flush;rw [allFin_cells];try rfl
 unfold Dk.got;rw [e,show d.flush.cache=[] from rfl];show (if ((CH d.cells d.cache).getD q.toNat cz).state=0 then (((CH d.cells d.cache).getD q.toNat cz).bytes,(0:Int)) else ([],6))=_;rw [finL_miss _ _ _ (by omega) fun w hw=>by have:=h w hw;omega]
theorem Gs.after {g:Geo} (hg:Bq g=true) {P:Int} {R:List Rc} {n:Nat} (hR:∀ i:Nat,i<n->DP g (R.getD i rc0)=true) (hP:∀ i:Nat,i<n->0<=BW g P (i:Nat)/\BW g P (i:Nat)<g.sl) {d:Dk} {G:Gr} (h:Gs (A4 g) d G) (hc:d.cache=[]):Gs (A4 g) (dW g P R d n).flush (Fa (dW g P R d n).flush)/\(∀ q,g.an+2*g.sl<=q->q<A4 g->Fa (dW g P R d n).flush q=G q)/\(dW g P R d n).flush.cache=[]:=by
 obtain⟨g1,g2,g3,g4,g5⟩:=Ar.1 hg;obtain⟨h1,h2,h3⟩:=No hg hR hP h.ok h.left h.len n (Ah _);obtain⟨e1,W,c1,hW⟩:=Rg (R:=R) hP d n (Ah _);rw [hc,Bu] at c1;generalize dW g P R d n=D at *
 have hl:=h.len;refine⟨Gs.of h1.flush ?_ ?_,fun q q1 q2=>?_,rfl⟩
 ·unfold Dk.flush;rw [allFin_cells];show D.req.left = -1;unfold Dk.req;rw [h2];try rfl
 ·unfold Dk.flush;rw [allFin_cells];show ((CH D.cells D.cache).length:Int)=_;rw [finL_len];exact h3
 ·have hq:=h.got q (by omega) q2;have hf:=Ts (d:=D) (q:=q) ⟨by omega,by omega⟩ (by rw [c1];intro w hw;have:=hW w hw;omega);unfold Fa;simp only;have hd:d.got q=D.flush.got q:=by
   rw [hf,e1];unfold Dk.got;rw [hc];try rfl
  rw [<-hd,hq]
theorem Gd.gs {n:Int} {d:Dk} {F:Int->List UInt8} (h:Gd n d F):Gs n d (Fa d)/\∀ q,0<=q->q<n->Fa d q=⟨0,F q⟩:=
 ⟨Gs.of h.ok h.left h.len,fun q h0 h1=>by show (⟨_,_⟩:Gt)=_;rw [h.got h0 h1]⟩
theorem N4 {g:Geo} (hg:Bq g=true) {s:Stt} {G:Gr} {F:Int->List UInt8} {z:Int} (hz:0<=z/\z<g.z) (h:∀ q,g.an+2*g.sl<=q->q<A4 g->G q=⟨0,F q⟩):Gj g s G z=G7 g s F z:=by
 obtain⟨g1,g2,g3,g4,g5⟩:=Ar.1 hg;have h0:=N2 (k:=0) hg hz (by decide);have h1:=N2 (k:=1) hg hz (by decide);unfold Gj G7;rw [h _ h0.1 h0.2.2,h _ h1.1 h1.2.2];try rfl
theorem T7 (d:Dk) (h1:d.cells.length<=1000000000) (h2:d.cache.length<=1000000000) (hb:∀ c∈d.cells,c.bytes.length<=1000000000/\c.old.length<=1000000000) (hw:∀ w∈d.cache,w.bytes.length<=1000000000):ACalls Tryz.prog false 94 [.ag (Eh d)] [] fun r H=>r = .ag (H0 (.ow 0 d.cells.length) (.ow 1 d.cache.length) d.reqs d.left)/\H=[.row 128 3 (d.cells.map B5), .row 134 2 (d.cache.map DR)]:=by
 have c1:=I5 d.cells h1;have c2:=Js d.cache h2;refine zS tys_ok Tryz.func94 rfl rfl (Ag rfl) ?_;conv=>whnf
 apply zV (0) tys_ok mixed (.o [0,1,3,4,2,6,5,7,8,9] .fin) (by kernel_rfl);conv=>whnf
 (refine zW c1 rfl ?_;rintro _ _ ⟨rfl,rfl⟩)
 conv=>whnf
 (refine zW c2 rfl ?_;rintro _ _ ⟨rfl,rfl⟩)
 conv=>whnf
 try (refine tS ?_;conv=>whnf)
 try (refine tS ?_;conv=>whnf)
 refine zU Nat (fun k=>([(1, .bp 0 0),(2, .bp 1 0),(16, .ow 2 d.cells.length),(17,iv d.cells.length),(18,iv k)], [.box 43 (H0 (.ow 2 d.cells.length) (.ow 3 d.cache.length) d.reqs d.left), .box 43 [.v (.slice none 0 0), .v (.slice none 0 0),iv 0,iv 0], .row 128 3 (d.cells.map B5), .row 134 2 (d.cache.map DR)])) (fun k=>k<=d.cells.length) (fun k=>d.cells.length - k) 0 (Aj _)
  (zR (s:= [0,1,2,3]) tA) ?_
 intro k hk;conv=>whnf
 refine A6 (fun h6=>?_) (fun h6=>?_) <;> (repeat rw [Aa] at h6) <;> conv=>whnf
 ·have hk':k<d.cells.length:=by omega
  have hm:=hb _ (A5 (d:=(⟨0, [], []⟩:Cel)) hk');have b1:=BK (d.cells.getD k ⟨0, [], []⟩).bytes hm.1;have b2:=BK (d.cells.getD k ⟨0, [], []⟩).old hm.2;have hE:(d.cells.map B5).getD (k:Int).toNat []=B5 (d.cells.getD k ⟨0, [], []⟩):=by rw [Aa];exact Bf hk'
  refine⟨⟨by omega,by omega⟩,?_⟩;conv=>whnf
  refine Af ⟨rfl,(Ac _).symm,by rw [Aa];exact hk'⟩ ?_;conv=>whnf
  rw [hE];conv=>whnf
  apply zV (16) tys_ok mixed (.o [0,1,2,3,5,6,7,9,10] (.two 4 (.o [8,11,12,13,14,15,16,17] .fin) 8 (.two 4 (.o [11,12,13,14,15,16,17] .fin) 11 (.o [12,13] (.two 4 (.o [14,15,16,17] .fin) 14 (.o [4,15,16,17] .fin)))))) (by kernel_rfl);refine Af ?_ ?_;conv=>whnf
  refine z_ b1 ?_;conv=>whnf
  refine z_ b2 ?_;conv=>whnf
  try (refine tI ?_;conv=>whnf)
  try (refine tS ?_;conv=>whnf)
  (first | rw [hE] | rw [Bm (by rw [Aa,Ac];exact hk')] | skip)
  conv=>whnf
  try (refine tI ?_;conv=>whnf)
  try (refine tS ?_;conv=>whnf)
  (first | rw [hE] | rw [Bm (by rw [Aa,Ac];exact hk')] | skip)
  conv=>whnf
  rotate_left 1;conv=>whnf
  refine z_ b1 ?_;refine Af ?_ ?_;conv=>whnf
  refine z_ b2 ?_;conv=>whnf
  try (refine tI ?_;conv=>whnf)
  try (refine tS ?_;conv=>whnf)
  (first | rw [hE] | rw [Bm (by rw [Aa,Ac];exact hk')] | skip)
  conv=>whnf
  try (refine tI ?_;conv=>whnf)
  try (refine tS ?_;conv=>whnf)
  (first | rw [hE] | rw [Bm (by rw [Aa,Ac];exact hk')] | skip)
  conv=>whnf
  rotate_left 1;conv=>whnf
  refine z_ b2 ?_;conv=>whnf
  try (refine tI ?_;conv=>whnf)
  refine Af ?_ ?_;conv=>whnf
  try (refine tS ?_;conv=>whnf)
  (first | rw [hE] | rw [Bm (by rw [Aa,Ac];exact hk')] | skip)
  conv=>whnf
  try (refine tI ?_;conv=>whnf)
  try (refine tS ?_;conv=>whnf)
  (first | rw [hE] | rw [Bm (by rw [Aa,Ac];exact hk')] | skip)
  conv=>whnf
  rotate_left 1;conv=>whnf
  try (refine tS ?_;conv=>whnf)
  (first | rw [hE] | rw [Bm (by rw [Aa,Ac];exact hk')] | skip)
  conv=>whnf
  try (refine tI ?_;conv=>whnf)
  try (refine tS ?_;conv=>whnf)
  (first | rw [hE] | rw [Bm (by rw [Aa,Ac];exact hk')] | skip)
  conv=>whnf
  rotate_left 1;all_goals refine⟨k+1,hk',by omega,zC (zK (z8 (k:=2) rfl (es':=d.cells.map B5) (by simp) ?_)) (s:= [0,1,2,3]) ⟨⟨rfl,rfl,rfl,rfl,AR (by omega),tv⟩,tA,rfl,rfl,rfl,rfl,rfl⟩⟩
  all_goals
   intro i;rw [List.set_set,Aa];refine Fo (f:=B5) (d:=(⟨0, [], []⟩:Cel)) hk' ?_ i;exact⟨fun _ _ h=>h,fun _ _ h=>h,fun _ _ h=>h,tv⟩
 ·refine zU Nat (fun k=>([(1, .bp 0 0),(2, .bp 1 0),(41, .ow 3 d.cache.length),(42,iv d.cache.length),(43,iv k)], [.box 43 (H0 (.ow 2 d.cells.length) (.ow 3 d.cache.length) d.reqs d.left), .box 43 [.v (.slice none 0 0), .v (.slice none 0 0),iv 0,iv 0], .row 128 3 (d.cells.map B5), .row 134 2 (d.cache.map DR)])) (fun k=>k<=d.cache.length) (fun k=>d.cache.length - k) 0 (Aj _)
   (zR (s:= [0,1,2,3]) tA) ?_
  intro k hk;conv=>whnf
  refine A6 (fun h7=>?_) (fun h7=>?_) <;> (repeat rw [Aa] at h7) <;> conv=>whnf
  ·have hk':k<d.cache.length:=by omega
   have hm:=hw _ (A5 (d:=(⟨0, []⟩:Wr)) hk');have b1:=BK (d.cache.getD k ⟨0, []⟩).bytes hm;have hE:(d.cache.map DR).getD (k:Int).toNat []=DR (d.cache.getD k ⟨0, []⟩):=by rw [Aa];exact Bf hk'
   refine⟨⟨by omega,by omega⟩,?_⟩;conv=>whnf
   refine Af ⟨rfl,(Ac _).symm,by rw [Aa];exact hk'⟩ ?_;conv=>whnf
   rw [hE];conv=>whnf
   apply zV (0) tys_ok mixed (.o [0,1,2,3,4,5,6,7,8] .fin) (by kernel_rfl);conv=>whnf
   refine z_ b1 ?_;conv=>whnf
   try (refine tI ?_;conv=>whnf)
   try (refine tS ?_;conv=>whnf)
   (first | rw [hE] | skip)
   conv=>whnf
   all_goals refine⟨k+1,hk',by omega,zC (zK (z8 (k:=3) rfl (es':=d.cache.map DR) (by simp) ?_)) (s:= [0,1,2,3]) ⟨⟨rfl,rfl,rfl,rfl,AR (by omega),tv⟩,tA,rfl,rfl,rfl,rfl,rfl⟩⟩
   all_goals
    intro i;rw [Aa];refine Fo (f:=DR) (d:=(⟨0, []⟩:Wr)) hk' ?_ i;exact⟨fun _ _ h=>h,fun _ _ h=>h,tv⟩
  ·exact⟨_, .ag (H0 (.ow 0 d.cells.length) (.ow 1 d.cache.length) d.reqs d.left), [.row 128 3 (d.cells.map B5), .row 134 2 (d.cache.map DR)],fun _ _ h=>h,zR (s:= [2,3]) tA,rfl,rfl⟩
def Dk.faultX (d:Dk) (kind a frm bit bits:Int):Dk:=if (d.fault kind a frm bit bits).2=0 then (d.fault kind a frm bit bits).1 else dk0
theorem TE {d:Dk} (h:DkOk d):Fn Tryz.prog 92 [.ag (Eh d)] fun r=>r = iv 0:=by
 have:=Nn d (by have:=h.n;omega) (by have:=h.m;omega);rwa [Lq.2 h] at this
theorem TC (hfl:∀ (b:List UInt8) (bit bs:Int),b.length<=200->Fn Tryz.prog 95 [bA b,iv bit,iv bs] fun r=>r=bA (Nd b bit bs)) (d:Dk) (kind a frm bit bits:Int) (h:DkOk d):Fn Tryz.prog 35 [.ag (Eh d),iv kind,iv a,iv frm,iv bit,iv bits] fun r=>r = .tp [.ag (Eh (d.faultX kind a frm bit bits)), .v (.int .i64 (d.fault kind a frm bit bits).2)]:=by
 have hn:=h.n;have hm:=h.m;have w1:IntKind.i64.wrap ((d.cells.length:Int) - 1)=d.cells.length - 1:=wi (by omega);have i1:=LS a 0 ((d.cells.length:Int) - 1);have i2:=LS frm 0 ((d.cells.length:Int) - 1);have hck:=TE h;have htw:=T7 d (by omega) (by omega) (fun c hc=>by have:=(h.c c hc).2;omega) (fun w hw=>by have:=(h.w w hw).2;omega);have bad:∀ e:Int,e≠0->(d.fault kind a frm bit bits).2=e->∃ r',(∀ (c:Ctx) (v:Value),Rd (.tp [.ag [nilV,nilV,ze 0,ze 0],iv e]) c v->Rd r' c v)/\r' = .tp [.ag (Eh (d.faultX kind a frm bit bits)), .v (.int .i64 (d.fault kind a frm bit bits).2)]:=fun e he hq=>by
  refine⟨_,?_,rfl⟩;rw [Dk.faultX,hq,if_neg he];exact BL ⟨Bk dk0_sub,ri,tv⟩
 refine zT Tryz.func35 rfl ?_;conv=>whnf
 refine z_ hck ?_;conv=>whnf
 rw [w1];refine z_ i1 ?_;cases hA:C2 a 0 ((d.cells.length:Int) - 1) with
 | false=>
  conv=>whnf
  exact bad 1 (by decide) (by rw [Dk.fault,if_pos hA])
 | true=>
  have ha:0<=a/\a<d.cells.length:=by rw [AD] at hA;omega
  have hmem:a.toNat<d.cells.length:=by omega
  have hgc:=Wd ha;have hA':¬C2 a 0 ((d.cells.length:Int) - 1)=false:=by rw [hA];simp
  conv=>whnf
  repeat' (refine zZ ?_;conv=>whnf)
  by_cases hc:0<d.cache.length
  ·rw [show decide ((d.cache.length:Int) > 0)=true from decide_eq_true (by omega)];conv=>whnf
   exact bad 9 (by decide) (by rw [Dk.fault,if_neg hA',if_pos hc])
  ·rw [show decide ((d.cache.length:Int) > 0)=false from decide_eq_false (by omega)];have hcn:d.cache=[]:=by cases hq:d.cache with | nil=>rfl | cons x y=>rw [hq] at hc;simp at hc
   conv=>whnf
   have hget:d.fault kind a frm bit bits=d.fault kind a frm bit bits:=rfl;conv at hget=>rhs;rw [Dk.fault,if_neg hA',if_neg hc]
   simp only at hget;refine zW htw rfl ?_;rintro _ _ ⟨rfl,rfl⟩;refine⟨ha,?_⟩;conv=>whnf
   have hb:(d.cells.getD a.toNat cz).bytes.length<=200:=(h.c _ (A5 (d:=cz) hmem)).2.1;have ho:(d.cells.getD a.toNat cz).old.length<=200:=(h.c _ (A5 (d:=cz) hmem)).2.2;have c1:=hfl (d.cells.getD a.toNat cz).bytes bit bits hb;have c2:=BK (d.cells.getD a.toNat cz).old (by omega);generalize hq:d.cells.getD a.toNat cz=c at hget hgc hb ho c1 c2;have LDB:(d.cells.map B5).length=d.cells.length:=Ac _;have LSET:∀ e:List AV,d.cells.length=((d.cells.map B5).set a.toNat e).length:=fun e=>by rw [AW,Ac]
   have OK:∀ c':Cel,d.fault kind a frm bit bits=(FK d a c',0)->∀ es:List (List AV),es=(d.cells.map B5).set a.toNat (B5 c')->∃ r',(∀ (x:Ctx) (v:Value),Rd (.tp [.ag [.sl 3 d.cells.length fun i=>es.getD i [], .sl 2 d.cache.length fun i=>(d.cache.map DR).getD i [],iv d.reqs,iv d.left],iv 0]) x v->Rd r' x v)/\r' = .tp [.ag (Eh (d.faultX kind a frm bit bits)), .v (.int .i64 (d.fault kind a frm bit bits).2)]:=fun c' hf es he=>by
    refine⟨_,?_,rfl⟩;rw [Dk.faultX,hf,if_pos rfl];exact BL ⟨Bk ⟨B4 (f:=B5) (FK d a c').cells (by simp [FK]) (by rw [he];simp [FK,C6]),B4 (f:=DR) d.cache rfl rfl,ri,ri,tv⟩,ri,tv⟩
   repeat' (refine zZ ?_;conv=>whnf)
   refine A6 (fun k1=>?_) (fun k1=>?_) <;> (repeat rw [Aa] at k1) <;> conv=>whnf
   ·rw [if_pos k1] at hget;refine⟨⟨rfl,LDB.symm,hmem⟩,?_⟩;conv=>whnf
    rw [hgc];conv=>whnf
    refine A6 (fun k2=>?_) (fun k2=>?_) <;> (repeat rw [Aa] at k2) <;> conv=>whnf
    ·rw [if_pos k2] at hget;refine⟨⟨rfl,LDB.symm,hmem⟩,?_⟩;conv=>whnf
     rw [hgc];conv=>whnf
     repeat' (refine zZ ?_;conv=>whnf)
     refine⟨(LSET _),?_⟩;refine Af (Ac _).symm ?_;conv=>whnf
     exact OK _ hget _ rfl
    ·rw [if_neg k2] at hget;repeat' (refine zZ ?_;conv=>whnf)
     refine⟨LDB.symm,?_⟩;refine Af (Ac _).symm ?_;conv=>whnf
     exact OK c hget _ (by have e:=congrArg (fun x=>x.cells.map B5) (Wc ha);simp only [FK,C6] at e;rw [hq] at e;exact e.symm)
   ·rw [if_neg k1] at hget;refine A6 (fun k2=>?_) (fun k2=>?_) <;> (repeat rw [Aa] at k2) <;> conv=>whnf
    ·rw [if_pos k2] at hget;refine⟨⟨rfl,LDB.symm,hmem⟩,?_⟩;conv=>whnf
     rw [hgc];conv=>whnf
     repeat' (refine zZ ?_;conv=>whnf)
     refine⟨(LSET _),?_⟩;refine Af (Ac _).symm ?_;conv=>whnf
     exact OK _ hget _ rfl
    ·rw [if_neg k2] at hget;refine A6 (fun k3=>?_) (fun k3=>?_) <;> (repeat rw [Aa] at k3) <;> conv=>whnf
     ·rw [if_pos k3] at hget;refine A6 (fun k4=>?_) (fun k4=>?_) <;> (repeat rw [Aa] at k4) <;> conv=>whnf
      ·rw [if_pos (.inl k4)] at hget;exact bad 1 (by decide) (by rw [hget])
      ·refine A6 (fun k5=>?_) (fun k5=>?_) <;> (repeat rw [Aa] at k5) <;> conv=>whnf
       ·rw [if_pos (.inr k5)] at hget;exact bad 1 (by decide) (by rw [hget])
       ·rw [if_neg (by omega)] at hget;refine⟨⟨rfl,LDB.symm,hmem⟩,?_⟩;conv=>whnf
        rw [hgc];conv=>whnf
        refine z_ c1 ?_;refine⟨⟨rfl,LDB.symm,hmem⟩,?_⟩;conv=>whnf
        rw [hgc];conv=>whnf
        repeat' (refine zZ ?_;conv=>whnf)
        refine⟨(LSET _),?_⟩;refine Af (Ac _).symm ?_;conv=>whnf
        exact OK _ hget _ rfl
     ·rw [if_neg k3] at hget;refine A6 (fun k4=>?_) (fun k4=>?_) <;> (repeat rw [Aa] at k4) <;> conv=>whnf
      ·rw [if_pos k4] at hget;refine⟨⟨rfl,LDB.symm,hmem⟩,?_⟩;conv=>whnf
       rw [hgc];conv=>whnf
       refine z_ c2 ?_;refine⟨⟨rfl,LDB.symm,hmem⟩,?_⟩;conv=>whnf
       rw [hgc];conv=>whnf
       repeat' (refine zZ ?_;conv=>whnf)
       refine⟨(LSET _),?_⟩;refine Af (Ac _).symm ?_;conv=>whnf
       exact OK _ hget _ rfl
      ·rw [if_neg k4] at hget;refine A6 (fun k5=>?_) (fun k5=>?_) <;> (repeat rw [Aa] at k5) <;> conv=>whnf
       ·rw [if_pos k5] at hget;rw [w1];refine z_ i2 ?_;cases hF:C2 frm 0 ((d.cells.length:Int) - 1) with
        | false=>
         rw [if_pos hF] at hget;conv=>whnf
         exact bad 1 (by decide) (by rw [hget])
        | true=>
         rw [if_neg (by rw [hF];simp)] at hget;have hf:0<=frm/\frm<d.cells.length:=by rw [AD] at hF;omega
         have c3:=BK (d.cells.getD frm.toNat cz).bytes (by have:=(h.c _ (A5 (d:=cz) (show frm.toNat<d.cells.length by omega))).2.1;omega);refine⟨hf,?_⟩;refine⟨⟨rfl,LDB.symm,show frm.toNat<d.cells.length by omega⟩,?_⟩;conv=>whnf
         rw [Wd hf];conv=>whnf
         refine z_ c3 ?_;refine⟨⟨rfl,LDB.symm,hmem⟩,?_⟩;conv=>whnf
         rw [hgc];conv=>whnf
         repeat' (refine zZ ?_;conv=>whnf)
         refine⟨(LSET _),?_⟩;refine Af (Ac _).symm ?_;conv=>whnf
         exact OK _ hget _ rfl
       ·rw [if_neg k5] at hget;exact bad 1 (by decide) (by rw [hget])
section
variable {g:Geo} {s:ByteArray} {b:An} {fill:UInt8} {sizes:List Int} {d:Dk} {bad0 bad1:Int->Bool}
end
theorem Xw {g:Geo} {x:Img} (h:Bz g x=true) (hw:x.what=255):(Cb g x.bytes).isSome=true:=by
 simp only [Bz,Ad] at h;have h2:=h.2.2;rwa [if_pos hw] at h2
theorem R6 {g:Geo} (hg:Bq g=true) {l:List Tx} (h:∀ t∈l,∀ x∈t.images,Bz g x=true) {z:Int}:∀ p,Db l z 255=some p->p.1.bytes.length<=100000/\(Cb g p.1.bytes).isSome=true:=fun p hp=>by
 obtain⟨x,s⟩:=p;obtain⟨t,ht, -,hx, -,hw⟩:=G0 (Ah _) hp;have hi:=h t ht x hx;exact⟨by have:=Gy hg hi;show x.bytes.length<=_;omega,Xw hi hw⟩
theorem MU {g:Geo} (hg:Bq g=true) {s:Stt} {G:Gr} {lba S:Int} {b:List UInt8} (himg:∀ t∈s.txns,∀ x∈t.images,Bz g x=true) (hs:0<=S/\S<=4294967295) (hlba:0<=lba/\lba<g.z*g.d) (hb:b.length=8) {t:List Ent} (ht:Gj g s G (lba.tdiv g.d)=some t):(EE g s G S lba b).length=3/\(∀ x∈EE g s G S lba b,Bz g x=true)/\OneTab (EE g s G S lba b):=by
 obtain⟨g1,g2,g3,g4,g5⟩:=Ar.1 hg;have hZ2:0<=lba.tdiv g.d/\lba.tdiv g.d<g.z:=by
  rw [Bj hlba.1];exact⟨Ds hlba.1 (by omega),Dm (by omega) hlba.2⟩
 have hA2:0<=lba.tmod g.d/\lba.tmod g.d<g.d:=⟨Be _ hlba.1,AL _ (by omega)⟩;have htok:=N3 ht;have h01:∀ x∈ [b],x.length=8:=fun x hx=>by rw [AF] at hx;rw [hx];exact hb
 have hA3:∀ x∈ [lba.tmod g.d],0<=x/\x<g.d:=fun x hx=>by rw [AF] at hx;rw [hx];exact hA2
 unfold EE;rw [ht];simp only;refine⟨by rw [Fs];try rfl,fun x hx=>?_,?_⟩
 ·exact(L4 hg hZ2 (FU hg htok hs) (Gn (L6 hg himg).2 h01 (show [lba.tmod g.d].length<= [b].length from Ah 1) _) hA3 h01 (Ah 1) x hx).1
 ·exact Ke (l:= []) hg List.Pairwise.nil (fun x hx=>by cases hx) hA3
structure Sk (k n:Int) (d:Dk) (F:Int->List UInt8) (A:Int->Prop):Prop where
 ok:DkOk d
 left:d.left = -1
 len:(d.cells.length:Int)=n
 cache:d.cache=[]
 cell:∀ a:Int,0<=a->a<n->(d.cells.getD a.toNat cz).bytes=F a/\((d.cells.getD a.toNat cz).state=0/\¬A a\/(d.cells.getD a.toNat cz).state=k/\A a)
theorem Gd.sk {k n:Int} {d:Dk} {F:Int->List UInt8} (h:Gd n d F):Sk k n d F fun _=>False:=⟨h.ok,h.left,h.len,h.cache,fun a h0 h1=>⟨(h.cell a h0 h1).2, .inl ⟨(h.cell a h0 h1).1,id⟩⟩⟩
theorem Sk.fault {k j n:Int} {d:Dk} {F:Int->List UInt8} {A:Int->Prop} (hk:k=1/\j=11\/k=2/\j=12) (h:Sk k n d F A) {q:Int} (hq:0<=q/\q<n):(d.fault j q 0 0 0).2=0/\Sk k n (d.faultX j q 0 0 0) F fun a=>A a\/a=q:=by
 have hl:=h.len;have e:d.fault j q 0 0 0=(FK d q { d.cells.getD q.toNat cz with state:=k },0):=by
  have hc:=h.cell q hq.1 hq.2;unfold Dk.fault;rw [if_neg (by rw [Bool.not_eq_false,AD];omega),if_neg (by rw [h.cache];decide)];rcases hk with ⟨rfl,rfl⟩ | ⟨rfl,rfl⟩
  ·rw [if_pos rfl];rcases hc.2 with h | h
   ·simp only [if_pos h.1]
   ·simp only [h.1];rfl
  ·rw [if_neg (by decide),if_pos rfl]
 have ho:=h.ok.fault j q 0 0 0;unfold Dk.faultX;rw [e] at ho |-
 rw [if_pos rfl];refine⟨rfl,ho.1,h.left,by rw [<-hl];exact congrArg Nat.cast ho.2.1,h.cache,fun a h0 h1=>?_⟩;have hc:=h.cell a h0 h1;show ((d.cells.set q.toNat _).getD a.toNat cz).bytes=_/\_;rw [show (FK d q { d.cells.getD q.toNat cz with state:=k }).cells=d.cells.set q.toNat { d.cells.getD q.toNat cz with state:=k } from rfl,GL _ _ _ _ (by omega)];by_cases hqa:q.toNat=a.toNat
 ·have:a=q:=by omega
  subst this;rw [if_pos rfl];exact⟨hc.1, .inr ⟨rfl, .inr rfl⟩⟩
 ·rw [if_neg hqa];refine⟨hc.1,hc.2.imp (fun x=>⟨x.1,fun y=>y.elim x.2 fun z=>hqa (by rw [z])⟩) fun x=>⟨x.1, .inl x.2⟩⟩
theorem Sk.gs {k n:Int} {d:Dk} {F:Int->List UInt8} {A:Int->Prop} (hk:k=1\/k=2) (h:Sk k n d F A) {q:Int} (h0:0<=q) (h1:q<n):(¬A q->Fa d q=⟨0,F q⟩)/\(A q->(Fa d q).err≠0):=by
 have hc:=h.cell q h0 h1;have e:Fa d q=⟨(if (d.cells.getD q.toNat cz).state=0 then ((d.cells.getD q.toNat cz).bytes,(0:Int)) else ([],6)).2,(if (d.cells.getD q.toNat cz).state=0 then ((d.cells.getD q.toNat cz).bytes,(0:Int)) else ([],6)).1⟩:=by
  show (⟨(d.got q).2,(d.got q).1⟩:Gt)=_;unfold Dk.got;rw [h.cache];try rfl
 rw [e];refine⟨fun hA=>?_,fun hA=>?_⟩
 ·rw [if_pos (hc.2.resolve_right fun x=>hA x.2).1,hc.1]
 ·rw [if_neg (by have:=(hc.2.resolve_left fun x=>x.2 hA).1;omega)];decide
theorem Sk.stuck {n:Int} {d:Dk} {F:Int->List UInt8} {A:Int->Prop} (h:Sk 2 n d F A) {q:Int} (h0:0<=q) (h1:q<n):(A q->decide ((d.cells.getD q.toNat cz).state=2)=true)/\(¬A q->decide ((d.cells.getD q.toNat cz).state=2)=false):=by
 have hc:=h.cell q h0 h1;exact⟨fun hA=>decide_eq_true (hc.2.resolve_left fun x=>x.2 hA).1,fun hA=>decide_eq_false (by have:=(hc.2.resolve_right fun x=>hA x.2).1;omega)⟩
theorem K9 {d:Dk} (h:DkOk d) (a:Int):(Fa d a).bytes.length<=100000/\(Fa d a).err≠8:=by
 show (d.got a).1.length<=100000/\(d.got a).2≠8;unfold Dk.got;split
 ·rename_i w hw;have:=(h.w w (MR _ _ _ rfl hw)).2;exact⟨by show w.bytes.length<=_;omega,by show (0:Int)≠8;decide⟩
 ·split
  ·refine⟨?_,by show (0:Int)≠8;decide⟩;show (d.cells.getD a.toNat ⟨0, [], []⟩).bytes.length<=_;by_cases hi:a.toNat<d.cells.length
   ·have:=(h.c _ (A5 (d:=(⟨0, [], []⟩:Cel)) hi)).2.1;omega
   ·rw [Ab,AH (by omega)];exact Aj _
  ·exact⟨Aj _,by show (6:Int)≠8;decide⟩
theorem Mq {d:Dk} (hl:d.left = -1) (hc:d.cache.length<2000) (a:Int) (b:List UInt8):(d.write a b).2=(if (d.cells.getD a.toNat cz).state=2 then 7 else 0)/\(d.write a b).1.cells=d.cells/\(d.write a b).1.left = -1/\(d.write a b).1.cache.length<=d.cache.length+1:=by
 have hr:d.req.left = -1:=by unfold Dk.req;rw [hl];try rfl
 unfold Dk.write;rw [if_neg (by rw [hl];decide)];by_cases h:(d.cells.getD a.toNat cz).state=2
 ·rw [if_pos (.inl h),if_pos h];exact⟨rfl,rfl,hr,by show d.cache.length<=_;omega⟩
 ·rw [if_neg (by rintro(q | q);exact h q;omega),if_neg h];exact⟨rfl,rfl,hr,by show (d.cache ++ [_]).length<=_;rw [Ai];exact Ah _⟩
def stuck (d:Dk) (a:Int):Bool:=decide ((d.cells.getD a.toNat cz).state=2)
theorem RL {g:Geo} {d:Dk} (hl:d.left = -1) (hc:d.cache.length<1999) (x:Rc) (Q:Int):YV g d x Q=(!(stuck d (AU g 0 Q)&&stuck d (AU g 1 Q)))/\(QB g d x Q).cells=d.cells/\(QB g d x Q).left = -1/\(QB g d x Q).cache.length<=d.cache.length+2:=by
 obtain⟨e1,c1,l1,n1⟩:=Mq hl (by omega) (AU g 0 Q) (BV g x 0 Q);obtain⟨e2,c2,l2,n2⟩:=Mq l1 (by omega) (AU g 1 Q) (BV g x 1 Q);refine⟨?_,by unfold QB;rw [c2,c1],l2,by unfold QB;omega⟩;unfold YV stuck;rw [e2,e1,c1];by_cases h1:(d.cells.getD (AU g 0 Q).toNat cz).state=2 <;> by_cases h2:(d.cells.getD (AU g 1 Q).toNat cz).state=2 <;> simp_all
theorem Wa {g:Geo} {P:Int} {R:List Rc} {d:Dk} (hl:d.left = -1) (hc:d.cache=[]):∀ i:Nat,i<=100->(dW g P R d i).cells=d.cells/\(dW g P R d i).left = -1/\(dW g P R d i).cache.length<=2*i
 | 0,_=>⟨rfl,hl,by show d.cache.length<=_;rw [hc];exact Aj _⟩
 | i+1,hi=>by
  obtain⟨e1,l1,n1⟩:=Wa (R:=R) (P:=P) hl hc i (by omega);obtain⟨-,e2,l2,n2⟩:=RL (g:=g) l1 (by omega) (R.getD i rc0) (BW g P (i:Nat));exact⟨e2.trans e1,l2,by show (QB g _ _ _).cache.length<=_;omega⟩
theorem Yj {g:Geo} {P:Int} {R:List Rc} {d:Dk} (hl:d.left = -1) (hc:d.cache=[]) (i:Nat) (hi:i<=100):tW g P R d i = !(stuck d (AU g 0 (BW g P (i:Nat)))&&stuck d (AU g 1 (BW g P (i:Nat)))):=by
 obtain⟨e1,l1,n1⟩:=Wa (g:=g) (R:=R) (P:=P) hl hc i hi;obtain⟨e2, -⟩:=RL (g:=g) l1 (by omega) (R.getD i rc0) (BW g P (i:Nat));unfold tW;rw [e2];unfold stuck;rw [e1]
@[reducible] def bwZ (g:Geo) (s:Stt) (d:Dk):List AB:= [.box 116 (XY g (.bp 1 0) (.ow 4 s.txns.length) (iA s.lost) s), .box 185 (H0 (.ow 2 d.cells.length) (.ow 3 d.cache.length) d.reqs d.left), .dead, .dead, .row 112 4 (s.txns.map Eb)]
theorem Nr (g:Geo) (s:Stt) (d:Dk) (h:DkOk d):ACalls Tryz.prog false 44 [.bp 0 0] (Fz g s d) fun r H=>r = .ag (Eh d)/\H=bwZ g s d:=by
 have ht:=PA d (by have:=h.n;omega) (by have:=h.m;omega) (fun c hc=>by have:=(h.c c hc).2;omega) (fun w hw=>by have:=(h.w w hw).2;omega);refine zS tys_ok Tryz.func44 rfl rfl (Ag rfl) ?_;conv=>whnf
 refine zQ ht.go ?_;refine Af (Ac _).symm ?_;refine Af (Ac _).symm ?_;conv=>whnf
 refine zY [.ag (Eh d)] ⟨Bk ⟨B4 (f:=B5) d.cells rfl rfl,B4 (f:=DR) d.cache rfl rfl,ri,ri,tv⟩,tv⟩ ?_;refine z_ ht ?_;exact⟨_, .ag (Eh d),bwZ g s d,fun _ _ h=>h,zR (s:= [0,1,2,3,4]) tA,rfl,rfl⟩
def Zt (o:Option (List UInt8)) (d:Dk):AV:=match o with
 | some b=> .tp [bA b, .ag (Eh d),iv 0]
 | none=> .tp [bA [], .ag (Eh d),iv 13]
theorem Rk (g:Geo) (s:Stt) (d:Dk) (G:Gr) (lba:Int) (hg:Bq g=true) (hst:Mf g d s=true) (hsm:StSm s) (himg:∀ t∈s.txns,∀ x∈t.images,Bz g x=true) (ha:Bv g s.a=true) (h:Gs (A4 g) d G) (hF:∀ a,(G a).bytes.length<=100000) (h8:∀ a,(G a).err≠8) (hb:0<=lba/\lba<g.z*g.d) (hB:∀ p,Db s.txns (lba.tdiv g.d) 255=some p->p.1.bytes.length<=100000/\(Cb g p.1.bytes).isSome=true) :
  Fn Tryz.prog 12 [.ag (Ba g), .ag (Eh d), .ag (E6 s),iv lba] fun r=>∃ d',Gs (A4 g) d' G/\r=Zt (PR g s G (lba.tdiv g.d) (lba.tmod g.d)) d':=by
 have c1:=Oh g d s h.ok hst hsm;have hlb:LogB s.txns:=⟨by have:=hsm.t.1;omega,fun t ht=>⟨by have:=(hsm.t.2 t ht).1;omega,fun x hx=>by have:=(hsm.t.2 t ht).2 x hx;omega⟩⟩;have c2:=Of g s d G lba hg hlb himg ha h hF h8 hb hB;cases hO:PR g s G (lba.tdiv g.d) (lba.tmod g.d) with
 | some b=>
  rw [hO] at c2;refine zT Tryz.func12 rfl ?_;conv=>whnf
  refine zW c1 rfl ?_;rintro _ _ ⟨rfl,rfl⟩;conv=>whnf
  refine zh [4,5,6,7,8] c2 ?_;rintro _ _ ⟨rfl,d2,hd2,rfl⟩;have c4:=Nr g s d2 hd2.ok;conv=>whnf
  refine zh [4,5,6,7,8] c4 ?_;rintro _ _ ⟨rfl,rfl⟩;exact⟨_,ri,d2,hd2,rfl⟩
 | none=>
  rw [hO] at c2;refine zT Tryz.func12 rfl ?_;conv=>whnf
  refine zW c1 rfl ?_;rintro _ _ ⟨rfl,rfl⟩;conv=>whnf
  refine zh [4,5,6,7,8] c2 ?_;rintro _ _ ⟨rfl,d2,hd2,rfl⟩;have c4:=Nr g s d2 hd2.ok;conv=>whnf
  refine zh [4,5,6,7,8] c4 ?_;rintro _ _ ⟨rfl,rfl⟩;exact⟨_,ri,d2,hd2,rfl⟩
theorem Vol.st2 {g:Geo} {K:Int} {d0 d:Dk} {s:Stt} (hg:Bq g=true) (h:Vol g K d0 s) (hd:DkOk d) (hn:(d.cells.length:Int)=A4 g) (o:Bool):Mf g d { s with only:=o }=true:=by
 obtain⟨r1,r2,r3,r4,r5,r6⟩:=h.rest;have hu:=KM hg;have hh:DZ g { s with only:=o }=true:=by
  unfold DZ;rw [show ({ s with only:=o }:Stt).found=0 from r3,show ({ s with only:=o }:Stt).fixed=0 from r4,show ({ s with only:=o }:Stt).moved=0 from r5,show ({ s with only:=o }:Stt).lost=[] from r6];try rfl
 unfold Mf;rw [hh,hg,Lq.2 hd,decide_eq_true hn,show ({ s with only:=o }:Stt).a=s.a from rfl,show ({ s with only:=o }:Stt).txns=s.txns from rfl,show ({ s with only:=o }:Stt).cursor=0 from r2,h.an,h.ring,decide_eq_true (show (0:Int)<Gb g by omega)];try rfl
structure Un (g:Geo) (d:Dk):Prop where
 ok:DkOk d
 left:d.left = -1
 len:(d.cells.length:Int)=A4 g
 cache:d.cache=[]
def YJ (g:Geo) (a:An) (l:List Tx) (G:Gr) (lba:Int) (b:List UInt8):Tx:=⟨a.seq+(l.length:Int),(a.pos+CT l).tmod g.sl,4,EE g (Bt a l) G (a.seq+(l.length:Int)) lba b⟩
def Ig (g:Geo) (d:Dk) (P:Int) (j:Nat):Bool:=stuck d (AU g 0 (BW g P (j:Nat)))&&stuck d (AU g 1 (BW g P (j:Nat)))
theorem YG {g:Geo} {K:Int} {d0:Dk} {a:An} {l:List Tx} {G:Gr} {lba:Int} {b:List UInt8} {t:List Ent} (hg:Bq g=true) (hv:Vol g K d0 (Bt a l)) (hK:K<=4294967294) (hlba:0<=lba/\lba<g.z*g.d) (hb:b.length=8) (hroom:4<=g.sl - CT l) (ht:Gj g (Bt a l) G (lba.tdiv g.d)=some t):Vol g (K+1) d0 (Bt a (l ++ [YJ g a l G lba b]))/\(YJ g a l G lba b).images.length=3:=by
 have ha:=(FL hv.an).2.1;have hq:a.seq+(l.length:Int)<=K:=hv.seq;have ha1:1<=a.seq:=ha.1;have himg:∀ t∈l,∀ x∈t.images,Bz g x=true:=fun t ht=>Av.1 (DV hv.ring t ht).1
 obtain⟨c1,c2,c3⟩:=MU hg (s:=Bt a l) (G:=G) (S:=a.seq+(l.length:Int)) himg (by omega) hlba hb ht;exact⟨hv.add hg hK hv.gd (x:=YJ g a l G lba b) rfl rfl (by show (2:Int)<=4;omega) (by show (4:Int)<=g.sl - CT l;omega) (by show (4:Int)=((EE g (Bt a l) G (a.seq+(l.length:Int)) lba b).length:Int)+1;omega) c2 c3,c1⟩
theorem P1 {d:Dk} {q:Int} (h:stuck d.flush q=true):stuck d q=true:=by
 have e:d.flush.cells=CH d.cells d.cache:=by
  unfold Dk.flush;rw [allFin_cells];try rfl
 unfold stuck at h |-
 rw [decide_eq_true_eq,e] at h;rw [decide_eq_true_eq];by_cases hi:q.toNat<d.cells.length
 ·rcases finL_any d.cache d.cells q.toNat hi with e | ⟨-,e, -⟩
  ·rwa [e] at h
  ·rw [e] at h;cases h
 ·rw [Ab,AH (by rw [finL_len];omega)] at h;cases h
theorem YK {g:Geo} {K:Int} {d0 d:Dk} {a:An} {l:List Tx} {lba:Int} {b:List UInt8} {t:List Ent} (hg:Bq g=true) (hv:Vol g K d0 (Bt a l)) (hK:K<=4294967294) (hd:Un g d) (hlba:0<=lba/\lba<g.z*g.d) (hb:b.length=8) (hroom:4<=g.sl - CT l) (ht:Gj g (Bt a l) (Fa d) (lba.tdiv g.d)=some t) (P:Int) (hP:P=(a.pos+CT l).tmod g.sl) :
  Fn Tryz.prog 16 [.ag (Ba g), .ag (Eh d), .ag (E6 (Bt a l)),iA [lba],FT [b]] fun r=>((∀ j:Nat,j<4->Ig g d P j=false)/\∃ d',Un g d'/\(∀ q,g.an+2*g.sl<=q->q<A4 g->Fa d' q=Fa d q)/\(∀ q,stuck d' q=true->stuck d q=true)/\r = .tp [.ag (E6 (Bt a (l ++ [YJ g a l (Fa d) lba b]))), .ag (Eh d'),iv 0])\/((∃ j:Nat,j<4/\Ig g d P j=true)/\∃ d',(DkOk d'/\(d'.cells.length:Int)=A4 g)/\r = .tp [.ag (E6 { Bt a l with only:=true }), .ag (Eh d'),iv 14]):=by
 have hsm:=hv.sm hg;have ha:Bv g a=true:=hv.an;have hring:CD g l a.seq a.pos g.sl=true:=hv.ring;have himg:∀ t∈l,∀ x∈t.images,Bz g x=true:=fun t ht=>Av.1 (DV hring t ht).1
 obtain⟨a1,a2,a3,a4⟩:=FL ha;have hseq:a.seq+(l.length:Int)<=K:=hv.seq;obtain⟨g1,g2,g3,g4,g5⟩:=Ar.1 hg;obtain⟨hv2,hL3⟩:=YG hg hv hK hlba hb hroom ht;have hG:=Gs.of hd.ok hd.left hd.len;obtain⟨-,hLok, -⟩:=MU hg (s:=Bt a l) (G:=Fa d) (S:=a.seq+(l.length:Int)) himg (by omega) hlba hb ht;obtain⟨L,hL⟩:∃ L,L=EE g (Bt a l) (Fa d) (a.seq+(l.length:Int)) lba b:=⟨_,rfl⟩;have hcm:YJ g a l (Fa d) lba b=⟨a.seq+(l.length:Int),P,4,L⟩:=by rw [hL,hP];try rfl
 rw [hcm] at hL3 hv2 |-
 rw [<-hL] at hLok;have hst:=hv.st2 hg hd.ok hd.len false;have hc:=PM g a l d (Fa d) lba b t hg ha hring hst hsm (by omega) hG (fun a=>(K9 hd.ok a).1) (fun a=>(K9 hd.ok a).2) hlba hb hroom (R6 hg himg) ht (a.seq+(l.length:Int)) P L rfl hP hL hL3 hLok (hv2.sm hg);have hep:0<=a.epoch/\a.epoch<=4294967295:=by
  have:=ha;simp only [Bv,AX,BD,Bx,Ad,decide_eq_true_eq,AD] at this;omega
 have hS1:C2 (a.seq+(l.length:Int)) 0 4294967295=true:=AD.2 (by omega);have hLb:∀ x∈L,x.bytes.length<=45:=fun x hx=>Gy hg (hLok x hx)
 have hLen:L.length=3:=hL3;have hRok:∀ k:Nat,k<4->DP g ((CE (a.seq+(l.length:Int)) a.epoch L).getD k rc0)=true:=fun k hk=>by
  rw [J2 _ _ _ (by omega)];split
  ·rename_i q;exact NJ hg hS1 (AD.2 hep) (hLok _ (A5 (d:=⟨0,0, []⟩) q)) q hLen
  ·rw [show k=L.length by omega];exact NI hg hS1 (AD.2 hep) hLen
 have hPb:∀ i:Nat,i<4->0<=BW g P (i:Nat)/\BW g P (i:Nat)<g.sl:=fun i hi=>Hg hg (pos:=P) (at_:=(i:Nat)) (by rw [hP];have:=F5 l l.length;exact⟨Be _ (by unfold CT;omega),AL _ (by omega)⟩) (by omega)
 refine hc.mono fun r hr=>?_
 obtain⟨d1,hd1,hr⟩:=hr;have ec:d1.cells=d.cells:=hd1.cells;have ek:d1.cache=[]:=hd1.cache.trans hd.cache;have hT:∀ j:Nat,j<4->tW g P (CE (a.seq+(l.length:Int)) a.epoch L) d1 j = !Ig g d P j:=fun j hj=>by
  rw [Yj hd1.left ek j (by omega)];unfold Ig stuck;rw [ec]
 rcases hr with ⟨ht,rfl⟩ | ⟨k,hk, -,htk,rfl⟩
 ·obtain⟨n1,n2,n3⟩:=Gs.after hg hRok hPb hd1 ek;refine .inl ⟨fun j hj=>by have:=ht j hj;rw [hT j hj] at this;simpa using this,_,⟨n1.ok,n1.left,n1.len,n3⟩,n2,fun q hq=>?_,rfl⟩;have hq:=P1 hq;unfold stuck at hq |-
  rwa [(Rg hPb d1 4 (Ah _)).1,ec] at hq
 ·obtain⟨m1,m2,m3⟩:=No hg hRok hPb hd1.ok hd1.left hd1.len (k+1) (by omega);exact .inr ⟨⟨k,hk,by rw [hT k hk] at htk;simpa using htk⟩,_,⟨m1,m3⟩,rfl⟩
theorem YL {g:Geo} {K:Int} {d0 d:Dk} {a:An} {l:List Tx} {lba:Int} (hg:Bq g=true) (hv:Vol g K d0 (Bt a l)) (hd:Un g d) (hlba:0<=lba/\lba<g.z*g.d) :
  Fn Tryz.prog 12 [.ag (Ba g), .ag (Eh d), .ag (E6 (Bt a l)),iv lba] fun r=>∃ d',Gs (A4 g) d' (Fa d)/\r=Zt (PR g (Bt a l) (Fa d) (lba.tdiv g.d) (lba.tmod g.d)) d':=by
 have himg:∀ t∈l,∀ x∈t.images,Bz g x=true:=fun t ht=>Av.1 (DV hv.ring t ht).1
 exact Rk g (Bt a l) d (Fa d) lba hg (hv.st2 hg hd.ok hd.len false) (hv.sm hg) himg hv.an (Gs.of hd.ok hd.left hd.len) (fun a=>(K9 hd.ok a).1) (fun a=>(K9 hd.ok a).2) hlba (R6 hg himg)
def Fg (g:Geo) (G:Gr) (F:Int->List UInt8):Prop:=∀ q,g.an+2*g.sl<=q->q<A4 g->G q=⟨0,F q⟩
theorem NQ {g:Geo} (hg:Bq g=true) {s:Stt} (ha:Bv g s.a=true) {G:Gr} {F:Int->List UInt8} {t:List Ent} {z w:Int} (hz:0<=z/\z<g.z) (hw : -1<=w/\w<g.d) (h:Fg g G F):EW g s G t z w=Mh g s F t z w:=by
 obtain⟨g1,g2,g3,g4,g5⟩:=Ar.1 hg;obtain⟨i,e,hi⟩:=L_ hg ha hz hw;have:=K2 hg hz hi;unfold EW Mh;rw [h _ (by omega) (by omega)];try rfl
theorem X4 {g:Geo} (hg:Bq g=true) {s:Stt} (ha:Bv g s.a=true) {G:Gr} {F:Int->List UInt8} {t:List Ent} {z:Int} (hz:0<=z/\z<g.z) (h:Fg g G F):EL g s G t z=EF g s F t z:=by
 obtain⟨g1,g2,g3,g4,g5⟩:=Ar.1 hg;unfold EL EF X5;rw [Bh,A0,List.map_singleton];congr 1
 ·refine Cn fun i hi=>?_
  have:=AO.1 hi;rw [show VB g i=(i:Int) by unfold VB;rw [if_neg (by omega)]];exact NQ hg ha hz (by omega) h
 ·rw [show VB g g.d.toNat = -1 by unfold VB;rw [if_pos (by omega)]];rw [NQ hg ha hz (by omega) h]
theorem Tg {g:Geo} (hg:Bq g=true) {s:Stt} (ha:Bv g s.a=true) {G:Gr} {F:Int->List UInt8} {S lba:Int} {b:List UInt8} (hz:0<=lba.tdiv g.d/\lba.tdiv g.d<g.z) (h:Fg g G F):EE g s G S lba b=Ja g s F S lba b:=by
 unfold EE Ja;rw [N4 hg hz h];cases G7 g s F (lba.tdiv g.d) with
 | some t=>
  simp only;rw [X4 hg ha hz h]
 | none=>rfl
theorem TZ {g:Geo} (hg:Bq g=true) {a:An} (ha:Bv g a=true) {l:List Tx} {G:Gr} {F:Int->List UInt8} {V:Int->Int->List UInt8} (hV:VolV g a l F V) (h:Fg g G F) {z w:Int} (hz:0<=z/\z<g.z) (hw:0<=w/\w<g.d):PR g (Bt a l) G z w=some (V z w)/\(V z w).length=8:=by
 obtain⟨t,ht⟩:=hV z hz.1 hz.2;have e1:=ht.ent w (by omega) hw.2;have e2:=ht.len w (by omega) hw.2;have e3:=ht.one (w:=w) ⟨by omega,hw.2⟩;rw [show (F0 g w).toNat=w.toNat by unfold F0;rw [if_neg (by omega)]] at e1;unfold PR;rw [N4 hg hz h,ht.tab];simp only;rw [if_neg (by rw [e1.1];decide),NQ hg ha hz ⟨by omega,hw.2⟩ h,e3,if_pos (by rw [e2];decide)];exact⟨rfl,e2⟩
theorem Nw {g:Geo} (hg:Bq g=true) {lba:Int} (hlba:0<=lba/\lba<g.z*g.d):(0<=lba.tdiv g.d/\lba.tdiv g.d<g.z)/\0<=lba.tmod g.d/\lba.tmod g.d<g.d:=by
 obtain⟨g1,g2,g3,g4,g5⟩:=Ar.1 hg;rw [Bj hlba.1];exact⟨⟨Ds hlba.1 (by omega),Dm (by omega) hlba.2⟩,Be _ hlba.1,AL _ (by omega)⟩
structure Clv (g:Geo) (K:Int) (d:Dk) (M:Md):Prop where
 un:Un g d
 fg:Fg g (Fa d) M.F
 gd:∃ d0,Gd (A4 g) d0 M.F
 vo:Vo g K M
 rd:Z4 g M
theorem Clv.on {g:Geo} (hg:Bq g=true) {d:Dk} (hd:Gd (A4 g) d (EP g).F):Clv g 2 d (EP g):=by
 obtain⟨g1,g2,g3,g4,g5⟩:=Ar.1 hg;obtain⟨-, -, -, -, -,hvo⟩:=XS hg;exact⟨⟨hd.ok,hd.left,hd.len,hd.cache⟩,fun q h0 h1=>hd.gs.2 q (by omega) h1,⟨d,hd⟩,hvo,Y3 hg⟩
def WD (g:Geo) (M:Md) (lba:Int) (b:List UInt8):Md:=⟨M.a,M.l ++ [I4 g M.a M.l M.F lba b],M.F,M.m.set lba.toNat b⟩
theorem Clv.add {g:Geo} (hg:Bq g=true) {K:Int} {d d':Dk} {M:Md} (h:Clv g K d M) (hK:K<=4294967294) {lba:Int} {b:List UInt8} (hlba:0<=lba/\lba<g.z*g.d) (hb:b.length=8) (hroom:4<=g.sl - CT M.l) (hu:Un g d') (hf:∀ q,g.an+2*g.sl<=q->q<A4 g->Fa d' q=Fa d q):Clv g (K+1) d' (WD g M lba b):=by
 obtain⟨d0,h0⟩:=h.gd;have hz:=(Nw hg hlba).1;have ht:(G7 g (Bt M.a M.l) M.F (lba.tdiv g.d)).isSome=true:=by
  obtain⟨-,V,hV, -⟩:=h.rd;obtain⟨t,hz⟩:=hV _ hz.1 hz.2;rw [hz.tab];try rfl
 have hvol:=h.vo.vol h0;obtain⟨r,v⟩:=Zs hg hK hlba hb hvol h.rd (M':=WD g M lba b) (.inl ⟨by omega,ht, [],(fun w hw=>by cases hw),rfl⟩);exact⟨hu,fun q q1 q2=>(hf q q1 q2).trans (h.fg q q1 q2),⟨d0,h0⟩,Vo.of v h.vo.fb (by show ((M.m.set lba.toNat b).length:Int)=_;rw [AW];exact h.vo.m),r⟩
theorem We {g:Geo} {K:Int} {d:Dk} {M:Md} {lba:Int} {b:List UInt8} (hg:Bq g=true) (h:Clv g K d M) (hK:K<=4294967294) (hlba:0<=lba/\lba<g.z*g.d) (hb:b.length=8) (hroom:4<=g.sl - CT M.l) (P:Int) (hP:P=(M.a.pos+CT M.l).tmod g.sl) :
  Fn Tryz.prog 16 [.ag (Ba g), .ag (Eh d), .ag (E6 (Bt M.a M.l)),iA [lba],FT [b]] fun r=>((∀ j:Nat,j<4->Ig g d P j=false)/\∃ d',Clv g (K+1) d' (WD g M lba b)/\(∀ q,stuck d' q=true->stuck d q=true)/\r = .tp [.ag (E6 (Bt (WD g M lba b).a (WD g M lba b).l)), .ag (Eh d'),iv 0])\/((∃ j:Nat,j<4/\Ig g d P j=true)/\∃ d',(DkOk d'/\(d'.cells.length:Int)=A4 g)/\r = .tp [.ag (E6 { Bt M.a M.l with only:=true }), .ag (Eh d'),iv 14]):=by
 obtain⟨d0,h0⟩:=h.gd;have hz:=(Nw hg hlba).1;obtain⟨-,V,hV, -⟩:=h.rd;obtain⟨t,ht⟩:=hV _ hz.1 hz.2;have hvol:=h.vo.vol h0;have htab:Gj g (Bt M.a M.l) (Fa d) (lba.tdiv g.d)=some t:=by rw [N4 hg hz h.fg];exact ht.tab
 have hc:=YK hg hvol hK h.un hlba hb hroom htab P hP;refine hc.mono fun r hr=>?_
 rcases hr with ⟨h1,d',h2,h3,h4,rfl⟩ | h1
 ·refine .inl ⟨h1,d',h.add hg hK hlba hb hroom h2 h3,h4,?_⟩;have e:YJ g M.a M.l (Fa d) lba b=I4 g M.a M.l M.F lba b:=by
   unfold YJ I4;rw [Tg hg h.vo.an hz h.fg]
  rw [e];try rfl
 ·exact .inr h1
theorem Q8 {g:Geo} {K:Int} {d:Dk} {M:Md} (hg:Bq g=true) (h:Clv g K d M) (k:Nat) (hk:(k:Int)<g.z*g.d):(M.m.getD k []).length=8/\
  Fn Tryz.prog 12 [.ag (Ba g), .ag (Eh d), .ag (E6 (Bt M.a M.l)),iv (k:Nat)] fun r=>∃ d',r = .tp [bA (M.m.getD k []), .ag (Eh d'),iv 0]:=by
 obtain⟨d0,h0⟩:=h.gd;have hb:(0:Int)<=(k:Nat)/\((k:Nat):Int)<g.z*g.d:=by omega
 obtain⟨hz,hA⟩:=Nw hg hb;obtain⟨hm,V,hV,hE⟩:=h.rd;have hc:=YL hg (h.vo.vol h0) h.un hb;obtain⟨e1,e2⟩:=TZ hg h.vo.an hV h.fg hz hA;have e:=hE _ _ hz.1 hz.2 hA.1 hA.2;rw [Int.mul_comm,Int.mul_tdiv_add_tmod,Aa] at e;rw [e1,<-e] at hc;rw [<-e] at e2;exact⟨e2,hc.mono fun r ⟨d',_,hr⟩=>⟨d',hr⟩⟩
theorem Y4 {m:Nat} (h:Nat.ble 8 m=true):∀ z∈ [4,5,6,7],z<m:=fun z hz=>by
 have:=Ag h;simp at hz;omega
theorem Qw (g:Geo) (d:Dk) (hg:Bq g=true) (h:DkOk d) (hn:(d.cells.length:Int)=A4 g):Fn Tryz.prog 56 [.ag (Ba g), .ag (Eh d)] fun r=>r = .tp [.ag (E6 (C_ g d).2.2), .ag (Eh (C_ g d).1), .v (.int .i64 (C_ g d).2.1)]:=by
 have hb:=SN g d st0 h st0_sm;have hm:=SA g st0 d hg h hn;have herr:=QJ (g:=g) (d:=d);generalize C_ g d=M at hm herr |-
 obtain⟨D,e,S⟩:=M;simp only at herr hm;refine zT Tryz.func56 rfl ?_;conv=>whnf
 refine zY [.ag (Ba g), .ag (Eh d), .ag (E6 st0)] ⟨ri,ri,Bk st0_sub,tv⟩ ?_;refine zW hb rfl ?_;rintro _ _ ⟨rfl,rfl⟩;conv=>whnf
 refine zh [4,5,6,7] hm ?_;rintro _ _ ⟨⟨S',rfl,hS⟩,rfl⟩;by_cases he:e=0
 ·subst he;have:=hS rfl;subst this;conv=>whnf
  apply aDraw.dag (144) tys_ok mixed [([],11,(.o [0,1,2,3] (.alt 4 (.o [5,6] (.alt 7 (.o [8,9,10] .fin) (.alt 8 (.o [7,9,10] .fin) .non))) (.alt 8 (.o [4,5,6,7,9,10] .fin) .non))))] [6,32,33,34,35,36,37,38,39] [] (by kernel_rfl)
  ·refine Af ?_ ?_
   ·refine Af ?_ (Af ?_ (trivial))
    ·refine Af ?_ (Af ?_ (trivial))
     ·conv=>whnf
      try (refine tS ?_;conv=>whnf)
      try (refine tS ?_;conv=>whnf)
      exact tA
     ·conv=>whnf
      try (refine tS ?_;conv=>whnf)
      try (refine tS ?_;conv=>whnf)
      exact tA
    ·conv=>whnf
     try (refine tS ?_;conv=>whnf)
     try (refine tS ?_;conv=>whnf)
     exact tA
   conv=>whnf
   exact trivial
  refine Af (Ac _).symm ?_;refine Af (Ac _).symm ?_;exact⟨.tp [.ag (E6 S'), .ag (Eh D),iv 0],BL ⟨ri,Bk ⟨B4 (f:=B5) D.cells rfl rfl,B4 (f:=DR) D.cache rfl rfl,ri,ri,tv⟩,ri,tv⟩,rfl⟩
 ·have hbe:(e != 0)=true:=bne_iff_ne.2 he;have:=herr he;subst this;conv=>whnf
  rw [hbe];conv=>whnf
  apply aDraw.dag (2192) tys_ok mixed [([],15,(.o [0,1,2,3,8,9,10] (.alt 4 (.o [5,6] (.alt 7 (.alt 11 (.jump 2) (.alt 12 (.jump 3) .non)) (.alt 11 (.alt 7 (.jump 2) (.alt 12 (.jump 4) .non)) (.alt 12 (.alt 7 (.jump 3) (.alt 11 (.jump 4) .non)) .non)))) (.alt 11 (.alt 4 (.o [5,6] (.alt 7 (.jump 2) (.alt 12 (.jump 4) .non))) (.alt 12 (.jump 1) .non)) (.alt 12 (.alt 4 (.o [5,6] (.alt 7 (.jump 3) (.alt 11 (.jump 4) .non))) (.alt 11 (.jump 1) .non)) .non))))),([0,1,2,3,8,9,10,11,12],6,(.o [4,5,6,7,13,14] .fin)),([0,1,2,3,4,5,6,7,8,9,10,11],3,(.o [12,13,14] .fin)),([0,1,2,3,4,5,6,7,8,9,10,12],3,(.alt 11 (.o [13,14] .fin) (.alt 13 (.o [11,14] .fin) .non))),([0,1,2,3,4,5,6,8,9,10,11,12],3,(.o [7,13,14] .fin))] [6,20,21,22,23,24,25,26,27,28,29,30,31] [(_,_),(_,_),(_,_),(_,_)] (by kernel_rfl)
  ·refine Af ?_ ?_
   ·refine Af ?_ (Af ?_ (Af ?_ (trivial)))
    ·refine Af ?_ (Af ?_ (Af ?_ (trivial)))
     ·refine Af ?_ (Af ?_ (trivial))
      ·exact tA
      ·conv=>whnf
       try (refine tS ?_;conv=>whnf)
       exact tA
     ·refine Af ?_ (Af ?_ (trivial))
      ·exact tA
      ·conv=>whnf
       try (refine tS ?_;conv=>whnf)
       exact tA
     ·conv=>whnf
      try (refine tS ?_;conv=>whnf)
      refine Af ?_ (Af ?_ (trivial))
      ·exact tA
      ·exact tA
    ·refine Af ?_ (Af ?_ (trivial))
     ·refine Af ?_ (Af ?_ (trivial))
      ·exact tA
      ·conv=>whnf
       try (refine tS ?_;conv=>whnf)
       exact tA
     ·conv=>whnf
      try (refine tS ?_;conv=>whnf)
      exact tA
    ·conv=>whnf
     try (refine tS ?_;conv=>whnf)
     refine Af ?_ (Af ?_ (trivial))
     ·refine Af ?_ (Af ?_ (trivial))
      ·exact tA
      ·exact tA
     ·exact tA
   refine Af ?_ ?_
   ·conv=>whnf
    try (refine tS ?_;conv=>whnf)
    exact tA
   refine Af ?_ ?_
   ·conv=>whnf
    try (refine tS ?_;conv=>whnf)
    try (refine tS ?_;conv=>whnf)
    exact tA
   refine Af ?_ ?_
   ·refine Af ?_ (Af ?_ (trivial))
    ·conv=>whnf
     try (refine tS ?_;conv=>whnf)
     exact tA
    ·conv=>whnf
     try (refine tS ?_;conv=>whnf)
     exact tA
   refine Af ?_ ?_
   ·conv=>whnf
    try (refine tS ?_;conv=>whnf)
    exact tA
   conv=>whnf
   exact trivial
  refine Af (Ac _).symm ?_;refine Af (Ac _).symm ?_;exact⟨.tp [.ag (E6 st0), .ag (Eh D),iv e],BL ⟨Bk st0_sub,Bk ⟨B4 (f:=B5) D.cells rfl rfl,B4 (f:=DR) D.cache rfl rfl,ri,ri,tv⟩,ri,tv⟩,rfl⟩
theorem UO (g:Geo) (hg:Bq g=true):Fn Tryz.prog 20 [.ag (Ba g)] fun r=>∃ D,r = .tp [.ag (E6 (Bt (EP g).a (EP g).l)), .ag (Eh D)]/\Gd (A4 g) D (EP g).F:=by
 obtain⟨D,h1,h2,h3,h4,h5⟩:=XS hg;have hfm:=Qy g ⟨#[]⟩ hg (by exact lab_nil);have hmn:=Qw g (GO g ⟨#[]⟩) hg h2 h3;rw [h1] at hmn;refine zT Tryz.func20 rfl ?_;conv=>whnf
 apply zV (0) tys_ok mixed (.o [0,1] (.three 2 (.three 3 (.o [4,5,6,7] (.two 8 (.o [9,10,11,12] .fin) 9 (.o [8,10,11,12] .fin))) 8 (.two 3 (.o [4,5,6,7,9,10,11,12] .fin) 9 (.o [3,4,5,6,7,10,11,12] .fin)) 9 (.two 3 (.o [4,5,6,7,8,10,11,12] .fin) 8 (.o [3,4,5,6,7,10,11,12] .fin))) 8 (.two 2 (.two 3 (.o [4,5,6,7,9,10,11,12] .fin) 9 (.o [3,4,5,6,7,10,11,12] .fin)) 9 (.o [2,3,4,5,6,7,10,11,12] .fin)) 9 (.two 2 (.two 3 (.o [4,5,6,7,8,10,11,12] .fin) 8 (.o [3,4,5,6,7,10,11,12] .fin)) 8 (.o [2,3,4,5,6,7,10,11,12] .fin)))) (by kernel_rfl);refine Af ?_ (Af ?_ ?_);conv=>whnf
 refine z_ hfm ?_;refine Af ?_ (Af ?_ ?_);conv=>whnf
 refine z_ hmn ?_;refine Af ?_ ?_;conv=>whnf
 try (refine tS ?_;conv=>whnf)
 try (refine tS ?_;conv=>whnf)
 rotate_left 1;conv=>whnf
 try (refine tS ?_;conv=>whnf)
 try (refine tS ?_;conv=>whnf)
 rotate_left 1;refine Af ?_ ?_;conv=>whnf
 refine z_ hmn ?_;conv=>whnf
 try (refine tS ?_;conv=>whnf)
 try (refine tS ?_;conv=>whnf)
 rotate_left 1;conv=>whnf
 refine z_ hmn ?_;conv=>whnf
 try (refine tS ?_;conv=>whnf)
 try (refine tS ?_;conv=>whnf)
 rotate_left 1;refine Af ?_ ?_;conv=>whnf
 refine z_ hmn ?_;conv=>whnf
 try (refine tS ?_;conv=>whnf)
 try (refine tS ?_;conv=>whnf)
 rotate_left 1;conv=>whnf
 refine z_ hmn ?_;conv=>whnf
 try (refine tS ?_;conv=>whnf)
 try (refine tS ?_;conv=>whnf)
 rotate_left 1;refine Af ?_ ?_;conv=>whnf
 refine z_ hfm ?_;refine Af ?_ ?_;conv=>whnf
 refine z_ hmn ?_;conv=>whnf
 try (refine tS ?_;conv=>whnf)
 try (refine tS ?_;conv=>whnf)
 rotate_left 1;conv=>whnf
 refine z_ hmn ?_;conv=>whnf
 try (refine tS ?_;conv=>whnf)
 try (refine tS ?_;conv=>whnf)
 rotate_left 1;conv=>whnf
 refine z_ hfm ?_;conv=>whnf
 refine z_ hmn ?_;conv=>whnf
 try (refine tS ?_;conv=>whnf)
 try (refine tS ?_;conv=>whnf)
 rotate_left 1;refine Af ?_ ?_;conv=>whnf
 refine z_ hfm ?_;refine Af ?_ ?_;conv=>whnf
 refine z_ hmn ?_;conv=>whnf
 try (refine tS ?_;conv=>whnf)
 try (refine tS ?_;conv=>whnf)
 rotate_left 1;conv=>whnf
 refine z_ hmn ?_;conv=>whnf
 try (refine tS ?_;conv=>whnf)
 try (refine tS ?_;conv=>whnf)
 rotate_left 1;conv=>whnf
 refine z_ hfm ?_;conv=>whnf
 refine z_ hmn ?_;conv=>whnf
 try (refine tS ?_;conv=>whnf)
 try (refine tS ?_;conv=>whnf)
 rotate_left 1;all_goals
  apply zV (2) tys_ok mixed (.one 0 (.two 1 (.o [2,3] .fin) 2 (.o [1,3] .fin))) (by kernel_rfl);refine Af ?_ ?_;conv=>whnf
  try (refine tS ?_;conv=>whnf)
  try (refine tS ?_;conv=>whnf)
  rotate_left 1;conv=>whnf
  try (refine tS ?_;conv=>whnf)
  try (refine tS ?_;conv=>whnf)
  rotate_left 1;all_goals
   exact⟨_,ri,D,rfl,h4⟩
theorem aDraw.conv {P:Program} {T:Tys} {n d0 id:Nat} {ops:Array Oper} {K:Fr->List AB->Prop} {fr:Fr} {H:List AB} (h:aDraw P T n d0 id ops (fun fr H=>∃ fr2 H2,ConvF fr H fr2 H2/\K fr2 H2) fr H):aDraw P T n d0 id ops K fr H:=
 ⟨fun w0 M0 ce c a hs hf he hd Q hq=>h.wp w0 M0 ce c a hs hf he hd Q fun c' fr' H' a' ⟨fr2,H2,hc,hk⟩ hs' hf' he'=>by
  obtain⟨c2,e,s2,f2,x2⟩:=hc _ _ _ _ _ hs' hf';have:=hq c2 fr2 H2 a' hk s2 f2 (he'.trans x2);rwa [e] at this⟩

theorem RdL.seal1 {c c1:Ctx} (x1:Ext c c1) {x y:AV} (r1:∀ v,Rd x c v->Rd y c1 v):∀ {l:List AV} {us:List Value} {i:Nat},RdL l c us->l[i]? = some x->RdL (l.set i y) c1 us
 | [],us,i,h,hi=>by simp at hi
 | a::l,us,0,h,hi=>by
  simp only [CW,Option.some.injEq] at hi;subst hi;simp only [List.set_cons_zero,RdL] at h |-
  obtain⟨u,vs,rfl,h1,h2⟩:=h;exact⟨u,vs,rfl,r1 u h1,RdL.ext _ x1 h2⟩
 | a::l,us,i+1,h,hi=>by
  simp only [List.getElem?_cons_succ] at hi;simp only [List.set_cons_succ,RdL] at h |-
  obtain⟨u,vs,rfl,h1,h2⟩:=h;exact⟨u,vs,rfl,Rd.ext _ x1 h1,RdL.seal1 x1 r1 h2 hi⟩
theorem ACalls.sealArg {P:Program} {q:Bool} {f:FuncId} {args:List AV} {H:List AB} {K:AV->List AB->Prop} (i k:Nat) {t:TypeId} {sz:Nat} {es:List (List AV)} (hx:args[i]? = some (.ow k es.length)) (hk:H[k]? = some (.row t sz es))
  (hc:ACalls P q f (args.set i (.sl sz es.length fun j=>es.getD j [])) (H.set k .dead) K):ACalls P q f args H K:=by
 refine⟨hc.go,fun w0 M0 c us hs hr=>?_⟩;obtain⟨c1,e1,s1,x1,r1⟩:=hs.freeze hk;have:=hc.calls w0 M0 c1 us s1 (RdL.seal1 x1 r1 hr hx);rw [e1] at this;refine this.mono ?_;rintro e w' ⟨v,c',r,H2,rfl,rfl,q1,q2,q3,q4,q5⟩;exact⟨v,c',r,H2,rfl,rfl,q1,q2,x1.trans q3,q4,q5⟩

theorem Zd (x:Int) : [AV.v (Value.int .u8 (IntKind.u8.wrap x))]=Eo (UInt8.ofNat (IntKind.u8.wrap x).toNat):=by
 rw [Eo,IntKind.wrap_u8];have h1:0<=x % 256/\x % 256<256:=by omega
 have h2:(UInt8.ofNat (x % 256).toNat).toNat=(x % 256).toNat:=B8 (by show (x % 256).toNat<256;omega);rw [h2,BZ h1.1]
theorem Vo.mono {g:Geo} {K K':Int} {M:Md} (h:Vo g K M) (hk:K<=K'):Vo g K' M:=⟨h.an,h.ring,Int.le_trans h.gen hk,Int.le_trans h.seq hk,h.one,h.fb,h.m⟩
theorem YZ {g:Geo} (hg:Bq g=true):1<=g.z*g.d/\g.z*g.d<=16:=by
 obtain⟨g1,g2,g3,g4,g5⟩:=Ar.1 hg;rcases(show g.z=1\/g.z=2\/g.z=3\/g.z=4 by omega) with h | h | h | h <;> rw [h] <;> omega
@[reducible] def stZ:List AV:= [iv 0,iv 0,iv 0,iv 0,iv 0, .v (.string ⟨#[]⟩), .v (.slice none 0 0), .v (.slice none 0 0), .v (.bool false),iv 0,iv 0,iv 0,iv 0, .v (.slice none 0 0)]
@[reducible] def dkZ:List AV:= [.v (.slice none 0 0), .v (.slice none 0 0),iv 0,iv 0]
@[reducible] def plH (g:Geo) (M:Md) (d:Dk):List AB:= [.box 23 (Ba g), .box 39 stZ, .box 43 dkZ, .box 39 (E6 (Bt M.a M.l)), .box 43 (Eh d), .row 47 1 (M.m.map HZ)]
def bl8:List UInt8:= [1,2,3,4,5,6,7,8]
theorem Gd.free {n:Int} {d:Dk} {F:Int->List UInt8} (h:Gd n d F) (q:Int):stuck d q=false:=by
 unfold stuck;refine decide_eq_false fun e=>?_
 by_cases hi:q.toNat<d.cells.length
 ·have:=(h.cell (q.toNat:Nat) (by omega) (by rw [<-h.len];omega)).1;rw [Aa,e] at this;cases this
 ·rw [Ab,AH (by omega)] at e;cases e
theorem Tq {g:Geo} {d:Dk} (h:∀ q,stuck d q=false) {P:Int}:¬∃ j:Nat,j<4/\Ig g d P j=true:=by
 rintro⟨j, -,hj⟩;unfold Ig at hj;rw [h] at hj;cases hj
theorem wakes23_fn:Fn Tryz.prog 13 [] fun r=>r = .v (.bool true):=by
 have h1:=R8 0 1 0 0 1;have hg:=O6 0 1 0 0 1;have hzd:(II 0 1 0 0 1).z*(II 0 1 0 0 1).d=2:=by decide
 have hsl:(II 0 1 0 0 1).sl=14:=by decide
 generalize II 0 1 0 0 1=g at h1 hg hzd hsl;have hon:=UO g hg;refine zT Tryz.func13 rfl ?_;conv=>whnf
 refine z_ h1 ?_;conv=>whnf
 refine zM hon rfl ?_;rintro _ ⟨d0,rfl,hd0⟩;have hc0:=Clv.on hg hd0;have hc:=We (lba:=1) (b:=bl8) hg hc0 (by decide) ⟨by decide,by omega⟩ rfl (by show 4<=g.sl - 0;omega) 0 (by show (0:Int)=((0:Int)+0).tmod g.sl;simp);conv=>whnf
 refine aSeq.cutR Unit (fun _=>([(1, .bp 0 0),(2, .bp 1 0),(3, .bp 2 0),(4,bA bl8)], [.box 23 (Ba g), .box 39 (E6 (Bt (EP g).a (EP g).l)), .box 43 (Eh d0)])) (fun _=>True) ?_ ?_
 ·exact⟨(),tv,zC (zO (zG 4 3 rfl rfl) (zE 4 rfl (H9 (L:=bl8) rfl rfl))) (s:= [0,1,2]) tA⟩
 intro _ _;conv=>whnf
 refine zQ hc.go ?_;refine⟨rfl,?_⟩;refine⟨rfl,?_⟩;conv=>whnf
 refine zY [.ag (Ba g), .ag (Eh d0), .ag (E6 (Bt (EP g).a (EP g).l)),iA [1],FT [bl8]] ⟨ri,ri,ri,ED (L:= [1]) rfl rfl,Ev (L:= [bl8]) rfl rfl,tv⟩ ?_;refine zM hc rfl ?_;rintro _ (⟨-,d1,hc1, -,rfl⟩ | ⟨hx, -⟩);rotate_left 1
 ·exact absurd hx (Tq hd0.free)
 have hm0:(WD g (EP g) 1 bl8).m=[zero8,bl8]:=by show (List.replicate (g.z*g.d).toNat zero8).set (1:Int).toNat bl8=_;rw [hzd];try rfl
 have hx1:((WD g (EP g) 1 bl8).l.getD (Int.toNat 0) ⟨0,0,0, []⟩).n=4:=rfl;have hl1:(((WD g (EP g) 1 bl8).l.length:Nat):Int)=1:=rfl;have r1:=(Q8 hg hc1 1 (by omega)).2;have r0:=(Q8 hg hc1 0 (by omega)).2;rw [hm0] at r1 r0;obtain⟨M,hM⟩:∃ M,M=WD g (EP g) 1 bl8:=⟨_,rfl⟩;rw [<-hM] at r1 r0 hx1 hl1 |-
 clear hc hc1 hm0 hM;have hb1:=I6 bl8 (by decide);have hb0:=I6 zero8 (by decide);conv=>whnf
 refine zM r1 rfl ?_;rintro _ ⟨d2,rfl⟩;conv=>whnf
 refine zM r0 rfl ?_;rintro _ ⟨d3,rfl⟩;conv=>whnf
 rw [show (((Bt M.a M.l).txns.length:Int) == 1)=true from beq_iff_eq.2 hl1];conv=>whnf
 refine Af ⟨by decide,by show (0:Int)<(M.l.length:Nat);omega⟩ ?_;conv=>whnf
 rw [show (((Bt M.a M.l).txns.getD (Int.toNat 0) ⟨0,0,0, []⟩).n == 4)=true from beq_iff_eq.2 hx1];conv=>whnf
 refine z_ hb1 ?_;refine⟨by decide,?_⟩;conv=>whnf
 refine zQ hb0.go ?_;refine⟨by decide,?_⟩;conv=>whnf
 refine zY [bA zero8,bA zero8] ⟨ri,H9 rfl rfl,tv⟩ ?_;refine z_ hb0 ?_;exact⟨_,ri,rfl⟩
theorem PT (b:List UInt8) (hb:b.length<=1000000000):ACalls Tryz.prog false 96 [bA b] [] fun r H=>r = .ow 0 b.length/\H=[.row 5 1 (bR b)]:=by
 refine z7 tys_ok Tryz.func96 rfl rfl (Ag rfl) ?_;refine Af (fun h=>?_) ?_
 ·conv=>whnf
  have h0:=AQ.1 h;subst h0;exact⟨_, .ow 0 0, [.row 5 1 []],fun _ _ h=>h,zI ⟨[(0,5,1)],tA,tA,tA,rfl,rfl,rfl⟩,rfl,rfl⟩
 ·refine⟨⟨rfl,by omega⟩,?_⟩;exact⟨.ow 0 b.length, .ow 0 b.length, [.row 5 1 (bR b)],fun _ _ h=>by rwa [Az] at h,zI ⟨[],tv,tA,⟨(congrArg (AB.row _ _) (Wu b)).symm,tv⟩,rfl,rfl,rfl⟩,rfl,rfl⟩
theorem VX {bit:Int} {n:Int} (hn:0<n) (hn2:n<=1000000):(IntKind.i64.wrap (bit.tmod n+n)).tmod n=bit % n:=by
 have a1:=AL bit hn;have a2:=Int.lt_tmod_of_pos bit hn;have e:=Sv (a:=bit) hn;rw [wi (by omega)];by_cases h:bit.tmod n<0
 ·rw [if_pos h] at e;rw [e,AI (Int.emod_nonneg _ (by omega)),Int.emod_emod]
 ·rw [if_neg h] at e;rw [AI (by omega),<-e,Int.add_emod_right,Int.emod_eq_of_lt (by omega) (by omega)]
theorem Yw (m:Nat):m ||| 1=2*(m / 2)+1:=by
 apply Nat.eq_of_testBit_eq;intro i;rw [Nat.testBit_or];cases i with
 | zero=>simp [Nat.testBit_zero]
 | succ i=>
  rw [Nat.testBit_succ,Nat.testBit_succ,Nat.testBit_succ,show (2*(m / 2)+1) / 2=m / 2 by omega,show 1 / 2=0 from rfl,Nat.zero_testBit,Bool.or_false]
theorem PB (bs:Int):IntKind.u32.wrap ((BitVec.ofInt IntKind.u32.bits (IntKind.u32.wrap bs) ||| BitVec.ofInt IntKind.u32.bits 1).toNat:Nat)=(fX bs:Nat):=by
 have hl:=XW bs;have e:(BitVec.ofInt IntKind.u32.bits (IntKind.u32.wrap bs) ||| BitVec.ofInt IntKind.u32.bits 1).toNat=fX bs:=by
  rw [BitVec.toNat_or];have h1:(BitVec.ofInt IntKind.u32.bits (IntKind.u32.wrap bs)).toNat=(bs % 4294967296).toNat:=by
   rw [BitVec.toNat_ofInt,IntKind.wrap_u32];show (bs % 4294967296 % (4294967296:Nat)).toNat=_;omega
  have h2:(BitVec.ofInt IntKind.u32.bits 1).toNat=1:=rfl;rw [h1,h2,Yw];unfold fX;split <;> omega
 rw [e,IntKind.wrap_u32];omega
theorem TB {X k:Nat} (hX:X<4294967296) (hk:k<32):IntKind.u32.wrap ((BitVec.ofInt IntKind.u32.bits ((X:Int).fdiv (2 ^ min ((k:Nat):Int).toNat IntKind.u32.bits))&&&BitVec.ofInt IntKind.u32.bits 1).toNat:Nat)=((X / 2 ^ k % 2:Nat):Int):=by
 have e0:min ((k:Nat):Int).toNat IntKind.u32.bits=k:=by rw [Aa];show min k 32=k;omega
 have e1:(X:Int).fdiv (2 ^ k)=((X / 2 ^ k:Nat):Int):=by
  rw [Int.fdiv_eq_ediv_of_nonneg _ (Int.le_of_lt (Int.pow_pos (by decide)))]
  push_cast
  rfl
 have hd:=Nat.div_le_self X (2 ^ k);have e2:(BitVec.ofInt IntKind.u32.bits ((X / 2 ^ k:Nat):Int)).toNat=X / 2 ^ k:=by
  rw [BitVec.toNat_ofInt];show (((X / 2 ^ k:Nat):Int) % (4294967296:Nat)).toNat=_;generalize X / 2 ^ k=Z at hd |-
  omega
 rw [e0,e1,BitVec.toNat_and,e2];clear e0 e1 e2;generalize X / 2 ^ k=Z at hd |-
 rw [show (BitVec.ofInt IntKind.u32.bits 1).toNat=1 from rfl,Nat.and_one_is_mod,IntKind.wrap_u32];omega
theorem VW (b:List UInt8) (bit bs:Int) (hb:b.length<=200):Fn Tryz.prog 95 [bA b,iv bit,iv bs] fun r=>r=bA (Nd b bit bs):=by
 have hc:=PT b (by omega);have w8:IntKind.i64.wrap (8*(b.length:Int))=8*b.length:=wi (by omega);by_cases h0:b.length=0
 ·have e:b=[]:=Bc h0;subst e;refine zT Tryz.func95 rfl ?_;conv=>whnf
  refine zW hc rfl ?_;rintro _ _ ⟨rfl,rfl⟩;refine⟨rfl,?_⟩;exact⟨_,fun c u h=>Wt [] c u h,by rw [Tt]⟩
 ·have hat:=VX (bit:=bit) (n:=8*(b.length:Int)) (by omega) (by omega);have a1:=Int.emod_lt_of_pos bit (show (0:Int)<8*b.length by omega);have a2:=Int.emod_nonneg bit (show (8*(b.length:Int))≠0 by omega);refine zT Tryz.func95 rfl ?_;conv=>whnf
  refine zW hc rfl ?_;rintro _ _ ⟨rfl,rfl⟩;conv=>whnf
  rw [w8];refine A6 (fun c=>absurd c (by omega)) (fun _=>?_);refine⟨by omega,?_⟩;refine⟨by omega,?_⟩;conv=>whnf
  rw [hat,PB bs];obtain⟨A,eA⟩:∃ A:Nat,(A:Int)=bit % (8*b.length):=⟨(bit % (8*(b.length:Int))).toNat,by omega⟩;rw [<-eA];have hXl:=XW bs;have hR:FZ (fun i=>decide (fX bs / 2 ^ i % 2=1)) (bit % (8*(b.length:Int))).toNat b 32=Nd b bit bs:=rfl;rw [<-eA,Aa] at hR;obtain⟨X,eX⟩:∃ X,X=fX bs:=⟨_,rfl⟩;rw [<-eX] at hR hXl;rw [<-eX];refine zU Nat (fun k=>([(7, .ow 0 b.length),(8,iv (8*(b.length:Int))),(9, .v (.int .u32 (X:Nat))),(10,iv (A:Nat)),(31,iv k)], [.row 5 1 (bR (FZ (fun i=>decide (X / 2 ^ i % 2=1)) A b k))])) (fun k=>k<=32) (fun k=>32 - k) 0 (Aj _)
   (zR (s:= [0]) tA) ?_
  intro k hk;have hfl:=Jg (fun i=>decide (X / 2 ^ i % 2=1)) A b k;conv=>whnf
  refine A6 (fun h1=>?_) (fun h1=>?_) <;> (repeat rw [Aa] at h1) <;> conv=>whnf
  ·repeat' (refine zZ ?_;conv=>whnf)
   rw [show IntKind.i64.wrap ((A:Int)+k)=((A+k:Nat):Int) by rw [wi (by omega)];omega];refine⟨by omega,?_⟩;conv=>whnf
   rw [TB hXl (show k<32 by omega)];have skip:¬(X / 2 ^ k % 2=1/\A+k<8*b.length)->FZ (fun i=>decide (X / 2 ^ i % 2=1)) A b (k+1)=FZ (fun i=>decide (X / 2 ^ i % 2=1)) A b k:=fun h=>by
    rw [FZ,if_neg];simpa using h
   by_cases hp:X / 2 ^ k % 2=1
   ·rw [show (((X / 2 ^ k % 2:Nat):Int) == 1)=true by rw [hp];try rfl];conv=>whnf
    by_cases h2:A+k<8*b.length
    ·rw [show decide (((A+k:Nat):Int)<8*(b.length:Int))=true from decide_eq_true (by omega)];conv=>whnf
     have hN:FZ (fun i=>decide (X / 2 ^ i % 2=1)) A b (k+1)=P2 (FZ (fun i=>decide (X / 2 ^ i % 2=1)) A b k) (A+k):=by
      rw [FZ,if_pos];simp [hp,h2]
     rw [Tu _ _ (by rw [hfl];omega)] at hN;generalize FZ (fun i=>decide (X / 2 ^ i % 2=1)) A b k=F at hN hfl skip |-
     have hq:(A+k) / 8<b.length:=by omega
     have hz:(2:Nat) ^ ((A+k) % 8)<256:=by
      have:=Nat.pow_lt_pow_right (a:=2) (by omega) (show (A+k) % 8<8 by omega);omega
     have eq:IntKind.i64.wrap (((A+k:Nat):Int).tdiv 8)=(((A+k) / 8:Nat):Int):=by
      rw [Bj (by omega),wi (by omega)];omega
     have er:((A+k:Nat):Int).tmod 8=(((A+k) % 8:Nat):Int):=by
      rw [AI (by omega)];omega
     have es:IntKind.u8.wrap (1*2 ^ min ((((A+k) % 8:Nat):Int).toNat) IntKind.u8.bits)=((2 ^ ((A+k) % 8):Nat):Int):=by
      rw [Aa,show min ((A+k) % 8) IntKind.u8.bits=(A+k) % 8 from Dr (by show _<=8;omega),Int.one_mul,IntKind.wrap_u8];have:((2 ^ ((A+k) % 8):Nat):Int)=(2:Int) ^ ((A+k) % 8):=by simp
      rw [<-this];generalize 2 ^ ((A+k) % 8)=z at hz |-
      omega
     refine zA tys_ok mixed [0,1,2,3,4,5,6,7,8,9,10] (by kernel_rfl) ?_;refine⟨by decide,?_⟩;conv=>whnf
     rw [eq];refine⟨⟨by omega,by omega⟩,?_⟩;refine⟨⟨rfl,by simp [bR,hfl],by omega⟩,?_⟩;conv=>whnf
     rw [Aa,Wv (by rw [hfl];omega)];refine⟨by decide,?_⟩;conv=>whnf
     rw [er];refine⟨by omega,?_⟩;refine⟨⟨by omega,by omega⟩,?_⟩;conv=>whnf
     rw [es];refine⟨⟨rfl,by simp [bR,hfl],by omega⟩,?_⟩;conv=>whnf
     rw [Aa,Wv (by rw [hfl];omega)];conv=>whnf
     have ex:=Uv (F.getD ((A+k) / 8) 0) (2 ^ ((A+k) % 8)) hz;rw [ex,YQ];repeat' (refine zZ ?_;conv=>whnf)
     refine⟨k+1,by omega,by omega,?_⟩;rw [hN];exact zR (s:= [0]) ⟨⟨rfl,rfl,rfl,rfl,AR (by omega),tv⟩,tA,rfl,rfl,rfl,rfl,rfl⟩
    ·rw [show decide (((A+k:Nat):Int)<8*(b.length:Int))=false from decide_eq_false (by omega)];conv=>whnf
     repeat' (refine zZ ?_;conv=>whnf)
     refine⟨k+1,by omega,by omega,?_⟩;rw [skip (fun h=>h2 h.2)];exact zR (s:= [0]) ⟨⟨rfl,rfl,rfl,rfl,AR (by omega),tv⟩,tA,rfl,rfl,rfl,rfl,rfl⟩
   ·rw [show (((X / 2 ^ k % 2:Nat):Int) == 1)=false by rw [show X / 2 ^ k % 2=0 by omega];try rfl];conv=>whnf
    repeat' (refine zZ ?_;conv=>whnf)
    refine⟨k+1,by omega,by omega,?_⟩;rw [skip (fun h=>hp h.1)];exact zR (s:= [0]) ⟨⟨rfl,rfl,rfl,rfl,AR (by omega),tv⟩,tA,rfl,rfl,rfl,rfl,rfl⟩
  ·have ek:k=32:=by omega
   subst ek;rw [hR];rw [hR] at hfl;refine⟨(by simp [bR,hfl]),?_⟩;exact⟨_,fun c u h=>XN (GQ b bit bs).symm c u h,rfl⟩
theorem Sk.congr {k n:Int} {d:Dk} {F:Int->List UInt8} {A A':Int->Prop} (h:Sk k n d F A) (e:∀ a,A a↔A' a):Sk k n d F A':=⟨h.ok,h.left,h.len,h.cache,fun a h0 h1=>⟨(h.cell a h0 h1).1,(h.cell a h0 h1).2.imp (fun x=>⟨x.1,fun y=>x.2 ((e a).2 y)⟩) fun x=>⟨x.1,(e a).1 x.2⟩⟩⟩
theorem Sk.fn {k j n:Int} {d:Dk} {F:Int->List UInt8} {A:Int->Prop} (hk:k=1/\j=11\/k=2/\j=12) (h:Sk k n d F A) {q:Int} (hq:0<=q/\q<n):Fn Tryz.prog 35 [.ag (Eh d),iv j,iv q,iv 0,iv 0,iv 0] fun r=>r = .tp [.ag (Eh (d.faultX j q 0 0 0)),iv 0]:=by
 have hx:=TC (fun b bit bs hb=>VW b bit bs hb) d j q 0 0 0 h.ok;rwa [(h.fault hk hq).1] at hx
theorem Sk.un {g:Geo} {k:Int} {d:Dk} {F:Int->List UInt8} {A:Int->Prop} (h:Sk k (A4 g) d F A):Un g d:=⟨h.ok,h.left,h.len,h.cache⟩
def XJ (g:Geo) (slot:Int) (one two:Bool) (c:Nat) (a:Int):Prop:=(0<c/\one=true/\a=AU g 0 slot)\/(1<c/\two=true/\a=AU g 1 slot)
theorem Clv.sk {g:Geo} (hg:Bq g=true) {d d0:Dk} {A:Int->Prop} (hd0:Gd (A4 g) d0 (EP g).F) (h:Sk 2 (A4 g) d (EP g).F A) (hA:∀ a,A a->a<g.an+2*g.sl):Clv g 2 d (EP g):=by
 obtain⟨g1,g2,g3,g4,g5⟩:=Ar.1 hg;have hc:=Clv.on hg hd0;exact⟨h.un,fun q h0 h1=>(h.gs (.inr rfl) (by omega) h1).1 fun x=>by have:=hA q x;omega,⟨d0,hd0⟩,hc.vo,hc.rd⟩
theorem XM {g:Geo} (hg:Bq g=true) {d:Dk} {slot:Int} {one two:Bool} (hs:0<=slot/\slot<6) (h:Sk 2 (A4 g) d (EP g).F (XJ g slot one two 2)) {j:Nat} (hj:j<4):Ig g d 0 j=(one&&(two&&decide (slot=(j:Int)))):=by
 obtain⟨g1,g2,g3,g4,g5⟩:=Ar.1 hg;have em:BW g 0 (j:Nat)=(j:Nat):=by
  unfold BW;rw [wi (by omega),Int.zero_add,AI (by omega),Int.emod_eq_of_lt (by omega) (by omega)]
 have l0:=DY hg h.len (.inl rfl) (s:=(j:Nat)) ⟨by omega,by omega⟩;have l1:=DY hg h.len (.inr rfl) (s:=(j:Nat)) ⟨by omega,by omega⟩;rw [h.len] at l0 l1;have s0:=h.stuck l0.1 l0.2;have s1:=h.stuck l1.1 l1.2;have inj:∀ {c c' s s':Int},(c=0\/c=1)->(c'=0\/c'=1)->(0<=s/\s<g.sl)->(0<=s'/\s'<g.sl)->AU g c s=AU g c' s'->c=c'/\s=s':=fun a b c d e=>SX a b c d e
 unfold Ig stuck;rw [em];by_cases e:slot=(j:Int)
 ·have a0:XJ g slot one two 2 (AU g 0 (j:Nat))↔one=true:=by
   rw [e];exact⟨fun x=>x.elim (fun y=>y.2.1) fun y=>absurd (inj (.inl rfl) (.inr rfl) ⟨by omega,by omega⟩ ⟨by omega,by omega⟩ y.2.2).1 (by decide),fun x=> .inl ⟨by decide,x,rfl⟩⟩
  have a1:XJ g slot one two 2 (AU g 1 (j:Nat))↔two=true:=by
   rw [e];exact⟨fun x=>x.elim (fun y=>absurd (inj (.inr rfl) (.inl rfl) ⟨by omega,by omega⟩ ⟨by omega,by omega⟩ y.2.2).1 (by decide)) fun y=>y.2.1,fun x=> .inr ⟨by decide,x,rfl⟩⟩
  rw [decide_eq_true e,Bx];have b0:decide ((d.cells.getD (AU g 0 (j:Nat)).toNat cz).state=2)=one:=by
   cases one with
   | true=>exact s0.1 (a0.2 rfl)
   | false=>exact s0.2 fun x=>by cases a0.1 x
  have b1:decide ((d.cells.getD (AU g 1 (j:Nat)).toNat cz).state=2)=two:=by
   cases two with
   | true=>exact s1.1 (a1.2 rfl)
   | false=>exact s1.2 fun x=>by cases a1.1 x
  rw [b0,b1]
 ·rw [decide_eq_false e,Bool.and_false,Bool.and_false];have b0:decide ((d.cells.getD (AU g 0 (j:Nat)).toNat cz).state=2)=false:=s0.2 fun x=>by
   rcases x with y | y
   ·exact e (inj (.inl rfl) (.inl rfl) ⟨by omega,by omega⟩ ⟨by omega,by omega⟩ y.2.2).2.symm
   ·exact absurd (inj (.inl rfl) (.inr rfl) ⟨by omega,by omega⟩ ⟨by omega,by omega⟩ y.2.2).1 (by decide)
  rw [b0,CP]
theorem WG (x:Int):∃ b:List UInt8,b.length=8/\ [[AV.v (Value.int .u8 9)], [AV.v (Value.int .u8 9)], [AV.v (Value.int .u8 9)], [AV.v (Value.int .u8 9)], [AV.v (Value.int .u8 9)], [AV.v (Value.int .u8 9)], [AV.v (Value.int .u8 9)], [AV.v (Value.int .u8 (IntKind.u8.wrap x))]]=b.map Eo:=
 ⟨[9,9,9,9,9,9,9,UInt8.ofNat (IntKind.u8.wrap x).toNat],rfl,by rw [Zd];try rfl⟩
@[reducible] def cxH (g:Geo) (d:Dk):List AB:= [.box 23 (Ba g), .box 39 (E6 (Bt (EP g).a (EP g).l)), .box 43 (Eh d)]
theorem TT (zones data lba0 slot0:Int) (one two:Bool):Fn Tryz.prog 7 [iv zones,iv data,iv lba0,iv slot0, .v (.bool one), .v (.bool two)] fun r=>r = .v (.bool true):=by
 have h1:=R8 zones data 1 3 1;have hg:=O6 zones data 1 3 1;generalize II zones data 1 3 1=g at h1 hg;have hw:=wakes23_fn;have hon:=UO g hg;have hzd:=YZ hg;obtain⟨g1,g2,g3,g4,g5⟩:=Ar.1 hg;have hwz:IntKind.u64.wrap (IntKind.i64.wrap (g.z*g.d))=g.z*g.d:=by rw [wi (by omega),IntKind.wrap_u64];omega
 obtain⟨A,hA⟩:∃ A,A=IW lba0 (g.z*g.d):=⟨_,rfl⟩;have hA2:0<=A/\A<g.z*g.d:=by rw [hA];exact EC (by omega) (by omega)
 obtain⟨s,hs⟩:∃ s,s=IW slot0 6:=⟨_,rfl⟩;have hs2:0<=s/\s<6:=by rw [hs];exact EC (by decide) (by decide)
 have hsl:0<=s/\s<g.sl:=by omega
 refine zT Tryz.func7 rfl ?_;conv=>whnf
 refine z_ h1 ?_;conv=>whnf
 refine zM hon rfl ?_;rintro _ ⟨d0,rfl,hd0⟩;have hsk0:Sk 2 (A4 g) d0 (EP g).F (XJ g s one two 0):=hd0.sk.congr fun a=>⟨False.elim,fun h=>by rcases h with h | h <;> exact absurd h.1 (by decide)⟩
 conv=>whnf
 rw [hwz];refine⟨by omega,?_⟩;refine⟨by decide,?_⟩;conv=>whnf
 rw [show IntKind.i64.wrap ((IntKind.u64.wrap lba0).tmod (g.z*g.d))=A from hA.symm,show IntKind.i64.wrap ((IntKind.u64.wrap slot0).tmod 6)=s from hs.symm];refine zU (Nat × Dk) (fun x=>([(2,iv A),(3,iv s),(4, .v (.bool one)),(5, .v (.bool two)),(13, .bp 0 0),(14, .bp 1 0),(15, .bp 2 0),(16,iv (x.1:Nat))],cxH g x.2)) (fun x=>x.1<=2/\Sk 2 (A4 g) x.2 (EP g).F (XJ g s one two x.1)) (fun x=>2 - x.1) (0,d0) ⟨Aj _,hsk0⟩
  (zR (s:= [0,1,2]) tA) ?_
 rintro⟨c,d⟩ ⟨hc,hk⟩;simp only at hc hk;have l0:=DY hg hk.len (.inl rfl) (c:=0) hsl;have l1:=DY hg hk.len (.inr rfl) (c:=1) hsl;rw [hk.len] at l0 l1;rcases(show c=0\/c=1\/c=2 by omega) with rfl | rfl | rfl
 ·have hl:=Dd g 0 s hg (Lp (.inl rfl) hsl);have hf:=hk.fn (.inr tA) l0;have hk2:=(hk.fault (.inr tA) l0).2;conv=>whnf
  repeat' (refine zZ ?_;conv=>whnf)
  cases one with
  | false=>
   conv=>whnf
   repeat' (refine zZ ?_;conv=>whnf)
   exact⟨(1,d),⟨by show 1<=2;decide,hk.congr fun a=>by unfold XJ;simp⟩,by show 2 - 1<2 - 0;decide,WkN.r (s:= [0,1,2]) ⟨⟨rfl,rfl,rfl,rfl,rfl,rfl,rfl,AR (by omega),tv⟩,tA,rfl,rfl,rfl,rfl,rfl⟩⟩
  | true=>
   conv=>whnf
   repeat' (refine zZ ?_;conv=>whnf)
   apply zV (0) tys_ok mixed (.o [0,1,2,3] (.two 4 (.two 5 (.o [6,7,8,9,10,11] .fin) 9 (.o [5,6,7,8,10,11] .fin)) 9 (.o [4,5,6,7,8,10,11] .fin))) (by kernel_rfl);refine Af ?_ ?_;conv=>whnf
   refine z_ hl ?_;refine Af ?_ ?_;conv=>whnf
   refine z_ hf ?_;conv=>whnf
   try (refine tS ?_;conv=>whnf)
   rotate_left 1;conv=>whnf
   refine z_ hf ?_;conv=>whnf
   try (refine tS ?_;conv=>whnf)
   rotate_left 1;conv=>whnf
   refine z_ hl ?_;conv=>whnf
   refine z_ hf ?_;conv=>whnf
   try (refine tS ?_;conv=>whnf)
   rotate_left 1;all_goals
    repeat' (refine zZ ?_;conv=>whnf)
    exact⟨(1,d.faultX 12 (AU g 0 s) 0 0 0),⟨by show 1<=2;decide,hk2.congr fun a=>by unfold XJ;simp⟩,by show 2 - 1<2 - 0;decide,WkN.r (s:= [0,1,2]) ⟨⟨rfl,rfl,rfl,rfl,rfl,rfl,rfl,AR (by omega),tv⟩,tA,rfl,rfl,rfl,rfl,rfl⟩⟩
 ·have hl:=Dd g 1 s hg (Lp (.inr rfl) hsl);have hf:=hk.fn (.inr tA) l1;have hk2:=(hk.fault (.inr tA) l1).2;conv=>whnf
  repeat' (refine zZ ?_;conv=>whnf)
  cases two with
  | false=>
   conv=>whnf
   repeat' (refine zZ ?_;conv=>whnf)
   exact⟨(2,d),⟨by show 2<=2;decide,hk.congr fun a=>by unfold XJ;simp⟩,by show 2 - 2<2 - 1;decide,WkN.r (s:= [0,1,2]) ⟨⟨rfl,rfl,rfl,rfl,rfl,rfl,rfl,AR (by omega),tv⟩,tA,rfl,rfl,rfl,rfl,rfl⟩⟩
  | true=>
   conv=>whnf
   repeat' (refine zZ ?_;conv=>whnf)
   apply zV (0) tys_ok mixed (.o [0,1,2,3] (.two 4 (.two 5 (.o [6,7,8,9,10,11] .fin) 9 (.o [5,6,7,8,10,11] .fin)) 9 (.o [4,5,6,7,8,10,11] .fin))) (by kernel_rfl);refine Af ?_ ?_;conv=>whnf
   refine z_ hl ?_;refine Af ?_ ?_;conv=>whnf
   refine z_ hf ?_;conv=>whnf
   try (refine tS ?_;conv=>whnf)
   rotate_left 1;conv=>whnf
   refine z_ hf ?_;conv=>whnf
   try (refine tS ?_;conv=>whnf)
   rotate_left 1;conv=>whnf
   refine z_ hl ?_;conv=>whnf
   refine z_ hf ?_;conv=>whnf
   try (refine tS ?_;conv=>whnf)
   rotate_left 1;all_goals
    repeat' (refine zZ ?_;conv=>whnf)
    exact⟨(2,d.faultX 12 (AU g 1 s) 0 0 0),⟨by show 2<=2;decide,hk2.congr fun a=>by unfold XJ;simp⟩,by show 2 - 2<2 - 1;decide,WkN.r (s:= [0,1,2]) ⟨⟨rfl,rfl,rfl,rfl,rfl,rfl,rfl,AR (by omega),tv⟩,tA,rfl,rfl,rfl,rfl,rfl⟩⟩
 ·obtain⟨b,hb8,hbe⟩:=WG A;have hcl:=Clv.sk hg hd0 hk fun a h=>by
   rcases h with h | h
   ·have:=Hu (g:=g) (.inl rfl) hsl (c:=0);rw [h.2.2];exact this.2
   ·have:=Hu (g:=g) (.inr rfl) hsl (c:=1);rw [h.2.2];exact this.2
  have hb2:=fun {j:Nat} (hj:j<4)=>XM hg hs2 hk hj
  have hcc:=We (lba:=A) (b:=b) hg hcl (by decide) hA2 hb8 (by show 4<=g.sl - 0;omega) 0 (by show (0:Int)=((0:Int)+0).tmod g.sl;simp);conv=>whnf
  refine aSeq.cutR Unit (fun _=>([(2,iv A),(3,iv s),(4, .v (.bool one)),(5, .v (.bool two)),(13, .bp 0 0),(14, .bp 1 0),(15, .bp 2 0),(19,bA b)],cxH g d)) (fun _=>True) ?_ ?_
  ·exact⟨(),tv,zC (zO (zG 19 3 rfl rfl) (zE 19 rfl (H9 (L:=b) hb8.symm hbe))) (s:= [0,1,2]) tA⟩
  intro _ _;conv=>whnf
  refine zQ hcc.go ?_;refine⟨rfl,?_⟩;refine⟨rfl,?_⟩;conv=>whnf
  refine zY [.ag (Ba g), .ag (Eh d), .ag (E6 (Bt (EP g).a (EP g).l)),iA [A],FT [b]] ⟨ri,ri,ri,ED (L:= [A]) rfl rfl,Ev (L:= [b]) rfl rfl,tv⟩ ?_;refine zM hcc rfl ?_;rintro _ (⟨hno,d1,hc1, -,rfl⟩ | ⟨⟨j,hj4,hj⟩,d1,⟨hd1,hn1⟩,rfl⟩)
  ·have hml:(((EP g).m.length:Nat):Int)=g.z*g.d:=hcl.vo.m;have hm:(WD g (EP g) A b).m.getD A.toNat []=b:=by
    show ((EP g).m.set A.toNat b).getD A.toNat []=b;rw [Ab,AE (by omega)];try rfl
   have r1:=(Q8 hg hc1 A.toNat (by omega)).2;rw [hm,BZ hA2.1] at r1;have hb1:=I6 b (by omega);cases one with
   | false=>
    conv=>whnf
    refine zM r1 rfl ?_;rintro _ ⟨d2,rfl⟩;conv=>whnf
    refine z_ hb1 ?_;conv=>whnf
    refine z_ hw ?_;exact⟨_,ri,rfl⟩
   | true=>
   cases two with
   | false=>
    conv=>whnf
    refine zM r1 rfl ?_;rintro _ ⟨d2,rfl⟩;conv=>whnf
    refine z_ hb1 ?_;conv=>whnf
    refine z_ hw ?_;exact⟨_,ri,rfl⟩
   | true=>
    have hs4:¬s<4:=fun h=>by
     have e:=hno s.toNat (by omega);rw [hb2 (by omega),BZ hs2.1,decide_eq_true rfl] at e;cases e
    conv=>whnf
    rw [show decide (s<4)=false from decide_eq_false hs4];conv=>whnf
    refine zM r1 rfl ?_;rintro _ ⟨d2,rfl⟩;conv=>whnf
    refine z_ hb1 ?_;conv=>whnf
    refine z_ hw ?_;exact⟨_,ri,rfl⟩
  ·rw [hb2 hj4] at hj;obtain⟨e1,e2⟩:=(Ad _ _).mp hj;obtain⟨e2,e3⟩:=(Ad _ _).mp e2;have e3:=of_decide_eq_true e3;subst e1 e2;have hvo:=(Clv.on hg hd0).vo.vol hd0;have hsm:=hvo.sm hg;have hcr:=Rh g { Bt (EP g).a (EP g).l with only:=true } d1 A b hg hd1 (hvo.st2 hg hd1 hn1 true) ⟨hsm.h,hsm.l,hsm.t,hsm.o⟩ hA2 hb8 (.inl rfl);conv=>whnf
   rw [show decide (s<4)=true from decide_eq_true (by omega)];conv=>whnf
   rw [show (if ({ Bt (EP g).a (EP g).l with only:=true }:Stt).only=true then (15:Int) else 21)=15 from rfl] at hcr;refine zQ hcr.go ?_;refine⟨rfl,?_⟩;refine⟨rfl,?_⟩;conv=>whnf
   refine zY [.ag (Ba g), .ag (Eh d1), .ag (E6 { Bt (EP g).a (EP g).l with only:=true }),iA [A],FT [b]] ⟨ri,ri,ri,ED (L:= [A]) rfl rfl,Ev (L:= [b]) rfl rfl,tv⟩ ?_;refine z_ hcr ?_;conv=>whnf
   refine z_ hw ?_;exact⟨_,ri,rfl⟩
end
end Go.Proofs.YtepdhdfoipephaaGreatDoor.A
namespace Go.Proofs.YtepdhdfoipephaaGreatDoor
section
open Go.ChangeShapes Go.WideShapes Go.ChangeAt Go.RowKit
theorem own_none:ownKnob Tryz.prog.godebug=none:=by kernel_rfl
theorem laidOut:laidOutB Tryz.prog=true:=by kernel_rfl

section
variable {H:Type} {enc:TypeId × Value->H}
theorem Vv {f:Func} {s:ChangeSpec} {apart fresh handsOn again:Bool} {W W':World} {args:Array Value} {ds:List (DataW H)} {before:List MemPlace}
  (hW:DataW.Whole enc Tryz.prog f.params.toList s.vars apart W args.toList ds [] before) (hv:s.vars=[]) (hvs:(s.fn H (ds ++ [])).vars=[])
  (hr:f.resultTypes = #[4]) (hfr:(s.fn H (ds ++ [])).results=[.lit (.bool true)]) (hfa:(s.fn H (ds ++ [])).args=ds)
  (hrow:∀ t∈f.params.toList,Tryz.prog.readableRec t=true/\t<Tryz.prog.types.size) (hb:Below W.heap.size W W') :
  s.post enc Tryz.prog f apart fresh handsOn again W args (.bool true) W':=by
 have hlt:∀ p∈before,p.block<W.heap.size:=fun p hp=>hW.lt p hp
 obtain⟨p,q,hA,hV,hpq,hz,hn⟩:=id hW;rw [hv] at hV;obtain⟨-,rfl⟩:=trodVars_none hV;rw [AM] at hpq;subst hpq;have stay:∀ sp:Nat->Bool,(∀ x∈before,sp x.block=true)->DataW.TrodAll enc Tryz.prog W' 0 sp true f.params.toList args.toList ds before:=by
  intro sp hsp;have go:∀ (ts:List TypeId) (vs:List Value) (es:List (DataW H)) (ps:List MemPlace),(∀ t∈ts,Tryz.prog.readableRec t=true/\t<Tryz.prog.types.size)->(∀ x∈ps,x∈before)->
    DataW.TrodAll enc Tryz.prog W 0 (fun _=>true) true ts vs es ps->DataW.TrodAll enc Tryz.prog W' 0 sp true ts vs es ps:=by
   intro ts;induction ts with
   | nil=>
    intro vs es ps _ _ h;cases vs <;> cases es <;> exact h
   | cons t ts ih=>
    intro vs es ps ht hin h;cases vs with
    | nil=>cases es <;> exact h.elim
    | cons v vs=>
     cases es with
     | nil=>exact h.elim
     | cons e es=>
      obtain⟨p1,p2,h1,h2,rfl⟩:=h;exact⟨p1,p2,WideElems.Trod_stays laidOut (ht t (by simp)).1 (ht t (by simp)).2 h1 (fun x hx=>hb.same (hlt x (hin x (by simp [hx])))) (fun x hx=>hsp x (hin x (by simp [hx]))),
       ih vs es p2 (fun t' ht'=>ht t' (by simp [ht'])) (fun x hx=>hin x (by simp [hx])) h2,rfl⟩
  exact go _ _ _ _ hrow (fun x hx=>hx) hA
 have hres:∀ (b:Nat) (sp:Nat->Bool) (hd:Bool),DataW.TrodAll enc Tryz.prog W' b sp hd f.resultTypes.toList ((Value.bool true).resultList f.resultTypes.size) (s.fn H (ds ++ [])).results []:=by
  intro b sp hd;rw [hr,hfr];exact trodAll_mk1 ⟨1,by simp [DataW.trod,Value.cells,Tryz.underlying4]⟩
 have hold:∀ p∈before,(fun b=>decide (b<W.heap.size)) p.block=true:=fun p hp=>by simpa using hlt p hp
 have hvars:∀ sp:Nat->Bool,DataW.TrodVars enc Tryz.prog W' sp s.vars (s.fn H (ds ++ [])).vars []:=by
  intro sp;rw [hv,hvs];exact rfl
 refine⟨ds, [],before, [],before, [],hW,hres _ _ _,by rw [hfa];exact stay _ hold,hvars _,World.keptBut_mono (fun p hp=>⟨hp,?_⟩) (hb.frame (·∈before)),fun _=>?_⟩
 ·exact Or.inr (by simpa using hp)
 ·refine⟨ok_one hr rfl (by simp [Value.okWide,Tryz.underlying4,Cell.okWide,Cell.ok]),_,_,([] ++ before) ++ [],⟨[] ++ before, [],trodAll_append (stay _ (fun _ _=>rfl)) (hres _ _ _),hvars _,rfl,?_,?_⟩,?_⟩
  ·intro b off hp;have hin:MemPlace.cell b off∈before:=by simpa using hp
   rw [hb.frozen (hlt _ hin)];exact hz b off hin
  ·intro ha;have:=hn ha;simpa using this
  ·intro p hp _;simpa using hp
end
abbrev Vy : List (String × DataW Unit) := [("unicode/utf8.acceptRanges", Rows.laid_unicode_utf8_acceptRanges), ("unicode/utf8.first", Rows.laid_unicode_utf8_first)]
noncomputable def JF (os:Os):World:=
 let w0:=World.holding Tryz.prog os ⟨#[], #[], []⟩;let put (h:Array Obj) (g:Nat) (cs:Array Value):Array Obj:=h.modify g fun
  | .cells _ t frozen=> .cells cs t frozen
  | o=>o
 let h1:=put w0.heap 0 (Lib.firstTab.map fun z=>Value.int .u8 z).toArray;let h2:=put h1 1 ((List.range 16).flatMap fun i=> [Value.int .u8 (Lib.accLo i),Value.int .u8 (Lib.accHi i)]).toArray
 { w0 with heap:=h2 }
theorem Vx (os:Os) (args:Array Value):laidMetH Tryz.prog Vy ((JF os).forCall (fun _ _=>0) ⟨#[],args, []⟩).memory:=by
 rw [MakeChecks.laidMetH_plain _ _ _ (by kernel_rfl)];exact(LaidIn.of_run (l:=Vy) [1,0] 8 (by kernel_rfl) (by kernel_rfl) (by kernel_rfl) (by kernel_rfl)).met
theorem first_data:Rows.laid_unicode_utf8_first=Lib.firstData:=by kernel_rfl
theorem accept_data:(Rows.laid_unicode_utf8_acceptRanges:DataW Unit)=Lib.acceptData:=by kernel_rfl
theorem S_ {W:World} (h:laidMetH Tryz.prog Vy W):A.globOk W:=by
 rw [MakeChecks.laidMetH_plain _ _ _ (by kernel_rfl)] at h;have h1:=Lib.laidMet.reads h (.head _);have h2:=Lib.laidMet.reads h (.tail _ (.head _));rw [accept_data] at h1;rw [first_data] at h2;exact utf8Tabs_of_readsT (U8Types.of196 Tryz.laysValid) ⟨by kernel_rfl,by kernel_rfl,by kernel_rfl,by kernel_rfl,by kernel_rfl,by kernel_rfl,by kernel_rfl⟩ h2 h1
end
end Go.Proofs.YtepdhdfoipephaaGreatDoor
