/-
Several texts in one.
-/
import Derived.Test.YtepdhdfoipephaaGreatDoorPPD3P4
import Derived.Test.YtepdhdfoipephaaGreatDoorPPD3P3
import Derived.Test.YtepdhdfoipephaaGreatDoorPPD3P2
import Derived.Test.YtepdhdfoipephaaGreatDoorPPD3P1
import Derived.Test.YtepdhdfoipephaaGreatDoorRows
import Derived.Below
import Derived.ChangeSame
import Derived.Carry
import Derived.Lib.LaidIn
import Derived.Lib.LaidU8T
import Derived.LaidHandle
import Derived.MakeChecks
import Derived.Handed
set_option maxRecDepth 100000
set_option maxHeartbeats 8000000
set_option linter.unusedSimpArgs false
set_option linter.unusedVariables false
set_option linter.deprecated false
namespace Go.Proofs.YtepdhdfoipephaaGreatDoor.A
section
open Go.RowKit
theorem Mc (g:Geo) (s:Stt) (d:Dk) (G:Gr) (z:Int) (hg:Bt g=true) (hl:LogB s.txns) (ha:Bv g s.a=true) (h:Gs (A3 g) d G) (hF:∀ a,(G a).bytes.length<=100000) (h8:∀ a,(G a).err≠8) (hz:0<=z/\z<g.z) (hB:∀ p,CC s.txns z 255=some p->p.1.bytes.length<=100000/\(BX g p.1.bytes).isSome=true) :
    ACalls Tryz.prog false 66 [.bp 0 0,iv z] (F5 g s d) fun r H=>r=(match EV g s G z with | some t=>AV.tp [.ag [BN t],iv 0] | none=> .tp [.ag [BN []],iv 13])/\∃ d',Gs (A3 g) d' G/\H=F5 g s d':=by
  have hf:=HW s.txns z 255 hl.n hl.i;obtain⟨O,hO⟩:∃ O,O=EV g s G z:=⟨_,rfl⟩;rw [<-hO];unfold EV at hO;cases hL:CC s.txns z 255 with
  | some p=>
    obtain⟨x,q⟩:=p;rw [hL] at hf hO;simp only at hf hO;obtain⟨hx,ht⟩:=hB _ hL;obtain⟨t,ht⟩:=Cr.1 ht;have ht:BX g x.bytes=some t:=ht;rw [ht] at hO;subst hO;have hr:=KU g x.bytes hx;rw [hg,if_pos rfl,ht] at hr;refine zS tys_ok Tryz.func66 rfl rfl (Ah rfl) ?_;conv=>whnf
    refine zh [4] hf ?_;rintro _ _ ⟨rfl,rfl⟩;conv=>whnf
    refine z_ hr ?_;exact⟨.tp [.ag [BN t],iv 0], .tp [.ag [BN t],iv 0],F5 g s d,fun _ _ h=>h,zR (s:= [0,1,2,3,4]) tA,rfl,d,h,rfl⟩
  | none=>
    rw [hL] at hf hO;simp only at hf hO;have hR:=Vg s.a s.txns z (by have:=(V1 ha hz).1;omega) hl.n (fun t ht=>(hl.i t ht).1);refine zS tys_ok Tryz.func66 rfl rfl (Ah rfl) ?_;conv=>whnf
    refine zh [4] hf ?_;rintro _ _ ⟨rfl,rfl⟩;conv=>whnf
    apply zL tys_ok mixed (.o [0,1,2,3,4,5,6,7,8,9,10,11,12,13,14,15,16] .fin) [11,12,41,42,43,44,45,46,47,48,49,50,51,52,53,54,55] (by kernel_rfl)
    · conv=>whnf
      (refine zj (args':= [.ag (EO s.a), .sl 4 s.txns.length fun i=>(s.txns.map Ei).getD i [],iv z]) (hR.subA ⟨fun _ _ h=>h,B3 (f:=Ei) s.txns rfl rfl,fun _ _ h=>h,tv⟩) ⟨(Ac _).symm,rfl⟩ ?_;rintro _ rfl;refine⟨rfl,?_⟩)
      exact tA
    conv=>whnf
    have htab:∀ k:Nat,k<2->g.an+2*g.sl<=Bx g z (k:Nat)/\Bx g z (k:Nat)<A3 g:=fun k hk=>by have:=J1 hg hz (k:=(k:Nat)) (by omega);omega
    refine zU (Nat × Dk) (fun x=>([(0, .bp 0 0),(1,iv z),(4, .bp 5 0),(11,iv (EI s.a s.txns z)),(56,iv (x.1:Nat))],F5 g s x.2 ++ ([.box 70 [.v (.slice none 0 0)]]:List AB))) (fun x=>x.1<=2/\Gs (A3 g) x.2 G/\∀ j:Nat,j<x.1->CO g (G (Bx g z (j:Nat))) (Bx g z (j:Nat)) (EI s.a s.txns z)=none) (fun x=>2 - x.1) (0,d) ⟨Aj _,h,fun j hj=>absurd hj (Ao j)⟩
      (zR (s:= [0,1,2,3,4,5]) tA) ?_
    rintro⟨k,d1⟩ ⟨hk,hd1,hno⟩;simp only at hk hd1 hno;conv=>whnf
    refine A6 (fun h6=>?_) (fun h6=>?_) <;> (repeat rw [Ab] at h6) <;> conv=>whnf
    · have hk2:k<2:=by omega
      have hta:=Tt g z (k:Nat) hg hz (by omega);obtain⟨q1,q2⟩:=htab k hk2;have hz2:=As.1 hg;have hrd:=Se g s d1 G (Bx g z (k:Nat)) hd1 (by omega);have hto:=T8 g (G (Bx g z (k:Nat))) (Bx g z (k:Nat)) (EI s.a s.txns z) hg (hF _);repeat' (refine zZ ?_;conv=>whnf)
      refine z_ hta ?_;conv=>whnf
      repeat' (refine zZ ?_;conv=>whnf)
      refine zh [0,1,2,3,4] hrd ?_;rintro _ _ ⟨rfl,d2,hd2,rfl⟩;conv=>whnf
      rw [show ((G (Bx g z (k:Nat))).err == 8)=false from beq_eq_false_iff_ne.2 (h8 _)];conv=>whnf
      repeat' (refine zZ ?_;conv=>whnf)
      have hGk:∀ u,CO g (G (Bx g z (k:Nat))) (Bx g z (k:Nat)) (EI s.a s.txns z)=some u->O=some u:=fun u hu=>by
        match k,hk2 with
        | 0,_=>
          have hu:CO g (G (Bx g z 0)) (Bx g z 0) (EI s.a s.txns z)=some u:=hu;rw [hO,hu]
        | 1,_=>
          have h0:CO g (G (Bx g z 0)) (Bx g z 0) (EI s.a s.txns z)=none:=hno 0 (by decide);have hu:CO g (G (Bx g z 1)) (Bx g z 1) (EI s.a s.txns z)=some u:=hu;rw [hO,h0];exact hu
      apply zV (0) tys_ok mixed (.o [0,1,2,3,4,5,6] (.two 7 (.o [8,9,10,11,12,13] .fin) 11 (.o [7,8,9,10,12,13] .fin))) (by kernel_rfl);refine Af ?_ ?_;conv=>whnf
      refine z_ hto ?_;conv=>whnf
      try (refine tS ?_;conv=>whnf)
      rotate_left 1;conv=>whnf
      refine z_ hto ?_;conv=>whnf
      try (refine tS ?_;conv=>whnf)
      rotate_left 1;all_goals
        cases hT:CO g (G (Bx g z (k:Nat))) (Bx g z (k:Nat)) (EI s.a s.txns z)
      all_goals
        conv=>whnf
        first
        | exact⟨(k+1,d2),⟨by show k+1<=2;omega,hd2,fun j hj=>by by_cases e:j=k;exact e ▸ hT;exact hno j (by have:j<k+1:=hj;omega)⟩,by show 2 - (k+1)<2 - k;omega,zR (s:= [0,1,2,3,4,5]) ⟨⟨rfl,rfl,rfl,rfl,AR (by omega),tv⟩,tA,rfl,rfl,rfl,rfl,rfl⟩⟩
        | (rename_i u
           rw [hGk _ hT];exact⟨.tp [.ag [BN u],iv 0], .tp [.ag [BN u],iv 0],F5 g s d2,fun _ _ h=>h,zR (s:= [0,1,2,3,4]) tA,rfl,d2,hd2,rfl⟩)
    · have ek:k=2:=by omega
      subst ek;have h0:CO g (G (Bx g z 0)) (Bx g z 0) (EI s.a s.txns z)=none:=hno 0 (by decide);have h1:CO g (G (Bx g z 1)) (Bx g z 1) (EI s.a s.txns z)=none:=hno 1 (by decide);rw [h0] at hO;simp only at hO;rw [h1] at hO;subst hO;repeat' (refine zZ ?_;conv=>whnf)
      exact⟨_, .tp [.ag [BN []],iv 13],F5 g s d1,BS (m:= [.ag [BN []],iv 13]) ⟨Bm ⟨Bp 3 _,tv⟩,ri,tv⟩,zR (s:= [0,1,2,3,4]) tA,rfl,d1,hd1,rfl⟩
theorem JS (g:Geo) (s:Stt) (d:Dk) (G:Gr) (z w:Int) (t:List Ent) (hg:Bt g=true) (ha:Bv g s.a=true) (h:Gs (A3 g) d G) (hF:∀ a,(G a).bytes.length<=100000) (h8:∀ a,(G a).err≠8) (hz:0<=z/\z<g.z) (hw : -1<=w/\w<g.d) (ht:(t.length:Int)=g.d+1) :
  ACalls Tryz.prog false 105 [.bp 0 0,iv z,iv w, .ag [BN t]] (F5 g s d) fun r H=>r = .tp [bA ((Di (G (C3 g s.a z w)) (C3 g s.a z w) (t.getD (Ej g w).toNat ez)).getD []),iv 0]/\∃ d',Gs (A3 g) d' G/\H=F5 g s d':=by
 have hadr:=Ve g s.a z w hg ha hz hw;obtain⟨sl,e1,e2⟩:=Mk hg ha hz (w:=w) hw;have hsl:=GC hg hz e2;have hat:0<=Ej g w/\Ej g w<=g.d:=by have:=As.1 hg;unfold Ej;split <;> omega
 have hci:=TP g w;obtain⟨X,hX⟩:∃ X,X=C3 g s.a z w:=⟨_,rfl⟩;rw [<-hX] at hadr e1 |-
 have hcb:=HH hg;have hrd:=Se g s d G X h (by have:=As.1 hg;omega);have heb:=TB (G X) X (t.getD (Ej g w).toNat ez) (hF _);have ixA:0<=Ej g w/\Ej g w<(t.length:Nat):=by omega
 refine zS tys_ok Tryz.func105 rfl rfl (Ah rfl) ?_;conv=>whnf
 apply zL tys_ok mixed (.o [0,1,2,3,4,5,6,7,8,9,10,11,12,13,14,15,16] .fin) [10,11,15,16,17,18,19,20,21,22,23,24,25,26,27,28,29] (by kernel_rfl)
 ·conv=>whnf
  refine z_ hadr ?_;exact tA
 conv=>whnf
 refine zh [0,1,2,3,4] hrd ?_;rintro _ _ ⟨rfl,d2,hd2,rfl⟩;conv=>whnf
 rw [show ((G X).err == 8)=false from beq_eq_false_iff_ne.2 (h8 X)];conv=>whnf
 repeat' (refine zZ ?_;conv=>whnf)
 apply zL tys_ok mixed (.o [0,1,2,3,4,5,6,7,8,9,10,11,12,13,14,15,16,17] .fin) [13,14,36,37,38,39,40,41,42,43,44,45,46,47,48,49,50,51] (by kernel_rfl)
 ·conv=>whnf
  refine z_ hci ?_;conv=>whnf
  try (refine Af (by first | omega | exact ixA | exact ixB | (simp;done)) ?_;conv=>whnf)
  refine z_ heb ?_;exact tA
 conv=>whnf
 obtain⟨B,hBe⟩:∃ B,B=(Di (G X) X (t.getD (Ej g w).toNat ez)).getD []:=⟨_,rfl⟩;rw [<-hBe];exact⟨.tp [bA B,iv 0], .tp [bA B,iv 0],F5 g s d2,fun _ _ h=>h,zR (s:= [0,1,2,3,4]) tA,rfl,d2,hd2,rfl⟩
def V9 (g:Geo) (s:Stt) (G:Gr) (t:List Ent) (z:Int) (k:Nat):List (List UInt8):=(List.range k).map fun i=>DB g s G t z (O0 g i)
theorem Ks (g:Geo) (s:Stt) (d:Dk) (G:Gr) (z:Int) (hg:Bt g=true) (hl:LogB s.txns) (ha:Bv g s.a=true) (h:Gs (A3 g) d G) (hF:∀ a,(G a).bytes.length<=100000) (h8:∀ a,(G a).err≠8) (hz:0<=z/\z<g.z) (hB:∀ p,CC s.txns z 255=some p->p.1.bytes.length<=100000/\(BX g p.1.bytes).isSome=true) (t:List Ent) (ht:EV g s G z=some t) :
  ACalls Tryz.prog false 67 [.bp 0 0,iv z] (F5 g s d) fun r H=>r = .tp [.ag [BN t],Gk (E9 g s G t z),iv 0]/\∃ d',Gs (A3 g) d' G/\H=F5 g s d':=by
 obtain⟨g1,g2,g3,g4,g5⟩:=As.1 hg;have hT:=Mc g s d G z hg hl ha h hF h8 hz hB;rw [ht] at hT;have htn:=Yt hg ht;have hd1:IntKind.i64.wrap (g.d+1)=g.d+1:=wi (by omega);refine zS tys_ok Tryz.func67 rfl rfl (Ah rfl) ?_;conv=>whnf
 refine zh [0,1,2,3,4] hT ?_;rintro _ _ ⟨rfl,d2,hd2,rfl⟩;conv=>whnf
 rw [hd1];refine zU (Nat × Dk) (fun x=>([(0, .bp 0 0),(1,iv z),(4, .bp 5 0),(5, .ow 6 x.1),(27,iv (g.d+1)),(28,iv (x.1:Nat))],F5 g s x.2 ++ ([.box 70 [BN t], .row 47 1 ((V9 g s G t z x.1).map Ii)]:List AB))) (fun x=>(x.1:Int)<=g.d+1/\Gs (A3 g) x.2 G) (fun x=>g.d.toNat+1 - x.1) (0,d2) ⟨by show ((0:Nat):Int)<=g.d+1;omega,hd2⟩
  ⟨_,_,zB _ _, [(5,47,1)],tA, [0,1,2,3,4,5,6],tA,tA,rfl,rfl,rfl,rfl,rfl⟩ ?_
 rintro⟨k,d1⟩ ⟨hk,hd1⟩;simp only at hk hd1;by_cases hkn:(k:Int)<g.d+1;rotate_left 1
 ·have ek:k=g.d.toNat+1:=by omega
  conv=>whnf
  rw [show decide ((k:Int)<g.d+1)=false from decide_eq_false hkn];conv=>whnf
  repeat' (refine zZ ?_;conv=>whnf)
  have hlen:(E9 g s G t z).length=g.d.toNat+1:=by simp [E9]
  subst ek;exact⟨.tp [.ag [BN t], .ow 6 (E9 g s G t z).length,iv 0], .tp [.ag [BN t],Gk (E9 g s G t z),iv 0],F5 g s d1,BS (m:= [.ag [BN t], .ow 6 (E9 g s G t z).length,iv 0]) ⟨ri,by rw [hlen];exact fun _ _ h=>h,ri,tv⟩,z7 (zO (ConvF.sealTp 0 6 (es:=(E9 g s G t z).map Ii) (by rw [Ac];try rfl) (congrArg (fun L=>some (AB.row 47 1 (List.map Ii L))) rfl)) (zC 0 rfl (BS (m:= [.ag [BN t],Gk (E9 g s G t z),iv 0]) ⟨ri,EM (Ac _) rfl,ri,tv⟩))) (s:= [0,1,2,3,4]) tA,rfl,d1,hd1,rfl⟩
 ·conv=>whnf
  rw [show decide ((k:Int)<g.d+1)=true from decide_eq_true hkn];conv=>whnf
  repeat' (refine zZ ?_;conv=>whnf)
  by_cases hkd:(k:Int)=g.d
  ·rw [show (((k:Nat):Int) == g.d)=true by rw [hkd];simp];have e1:O0 g k=(-1):=by unfold O0;first | rw [if_pos hkd] | rw [if_neg hkd]
   have e2:(V9 g s G t z k).map Ii ++ [Ii (DB g s G t z (-1))]=(V9 g s G t z (k+1)).map Ii:=by rw [<-e1];simp [V9,Bh]
   have hf:=HW s.txns z (-1) hl.n hl.i;have hlk:(V9 g s G t z k).length=k:=by simp [V9]
   cases hL:CC s.txns z (-1) with
   | some p=>
    rw [hL] at hf;simp only at hf;have e3:DB g s G t z (-1)=p.1.bytes:=by unfold DB;rw [hL]
    rw [e3] at e2;conv=>whnf
    repeat' (refine zZ ?_;conv=>whnf)
    refine zh [4] hf ?_;rintro _ _ ⟨rfl,rfl⟩;conv=>whnf
    repeat' (refine zZ ?_;conv=>whnf)
    refine⟨rfl,?_⟩;refine⟨⟨by rw [Ac,hlk],by omega⟩,?_⟩;conv=>whnf
    exact⟨(k+1,d1),⟨by show ((k+1:Nat):Int)<=g.d+1;omega,hd1⟩,by show g.d.toNat+1 - (k+1)<g.d.toNat+1 - k;omega,zR (s:= [0,1,2,3,4,5,6]) ⟨⟨rfl,rfl,rfl,rfl,rfl,AR (by omega),tv⟩,⟨rfl,rfl,rfl,rfl,rfl,rfl,congrArg (fun es=>some (AB.row 47 1 es)) e2,tv⟩,rfl,rfl,rfl,rfl,rfl⟩⟩
   | none=>
    rw [hL] at hf;simp only at hf;have e3:DB g s G t z (-1)=(Di (G (C3 g s.a z (-1))) (C3 g s.a z (-1)) (t.getD (Ej g (-1)).toNat ez)).getD []:=by unfold DB;rw [hL]
    have hh:=JS g s d1 G z (-1) t hg ha hd1 hF h8 hz (by omega) htn;rw [<-e3] at hh;conv=>whnf
    repeat' (refine zZ ?_;conv=>whnf)
    refine zh [4] hf ?_;rintro _ _ ⟨rfl,rfl⟩;conv=>whnf
    repeat' (refine zZ ?_;conv=>whnf)
    refine zh [0,1,2,3,4] hh ?_;rintro _ _ ⟨rfl,d3,hd3,rfl⟩;conv=>whnf
    repeat' (refine zZ ?_;conv=>whnf)
    refine⟨rfl,?_⟩;refine⟨⟨by rw [Ac,hlk],by omega⟩,?_⟩;conv=>whnf
    exact⟨(k+1,d3),⟨by show ((k+1:Nat):Int)<=g.d+1;omega,hd3⟩,by show g.d.toNat+1 - (k+1)<g.d.toNat+1 - k;omega,zR (s:= [0,1,2,3,4,5,6]) ⟨⟨rfl,rfl,rfl,rfl,rfl,AR (by omega),tv⟩,⟨rfl,rfl,rfl,rfl,rfl,rfl,congrArg (fun es=>some (AB.row 47 1 es)) e2,tv⟩,rfl,rfl,rfl,rfl,rfl⟩⟩
  ·rw [show (((k:Nat):Int) == g.d)=false from beq_eq_false_iff_ne.2 hkd];have e1:O0 g k=((k:Nat):Int):=by unfold O0;first | rw [if_pos hkd] | rw [if_neg hkd]
   have e2:(V9 g s G t z k).map Ii ++ [Ii (DB g s G t z ((k:Nat):Int))]=(V9 g s G t z (k+1)).map Ii:=by rw [<-e1];simp [V9,Bh]
   have hf:=HW s.txns z ((k:Nat):Int) hl.n hl.i;have hlk:(V9 g s G t z k).length=k:=by simp [V9]
   cases hL:CC s.txns z ((k:Nat):Int) with
   | some p=>
    rw [hL] at hf;simp only at hf;have e3:DB g s G t z ((k:Nat):Int)=p.1.bytes:=by unfold DB;rw [hL]
    rw [e3] at e2;conv=>whnf
    repeat' (refine zZ ?_;conv=>whnf)
    refine zh [4] hf ?_;rintro _ _ ⟨rfl,rfl⟩;conv=>whnf
    repeat' (refine zZ ?_;conv=>whnf)
    refine⟨rfl,?_⟩;refine⟨⟨by rw [Ac,hlk],by omega⟩,?_⟩;conv=>whnf
    exact⟨(k+1,d1),⟨by show ((k+1:Nat):Int)<=g.d+1;omega,hd1⟩,by show g.d.toNat+1 - (k+1)<g.d.toNat+1 - k;omega,zR (s:= [0,1,2,3,4,5,6]) ⟨⟨rfl,rfl,rfl,rfl,rfl,AR (by omega),tv⟩,⟨rfl,rfl,rfl,rfl,rfl,rfl,congrArg (fun es=>some (AB.row 47 1 es)) e2,tv⟩,rfl,rfl,rfl,rfl,rfl⟩⟩
   | none=>
    rw [hL] at hf;simp only at hf;have e3:DB g s G t z ((k:Nat):Int)=(Di (G (C3 g s.a z ((k:Nat):Int))) (C3 g s.a z ((k:Nat):Int)) (t.getD (Ej g ((k:Nat):Int)).toNat ez)).getD []:=by unfold DB;rw [hL]
    have hh:=JS g s d1 G z ((k:Nat):Int) t hg ha hd1 hF h8 hz (by omega) htn;rw [<-e3] at hh;conv=>whnf
    repeat' (refine zZ ?_;conv=>whnf)
    refine zh [4] hf ?_;rintro _ _ ⟨rfl,rfl⟩;conv=>whnf
    repeat' (refine zZ ?_;conv=>whnf)
    refine zh [0,1,2,3,4] hh ?_;rintro _ _ ⟨rfl,d3,hd3,rfl⟩;conv=>whnf
    repeat' (refine zZ ?_;conv=>whnf)
    refine⟨rfl,?_⟩;refine⟨⟨by rw [Ac,hlk],by omega⟩,?_⟩;conv=>whnf
    exact⟨(k+1,d3),⟨by show ((k+1:Nat):Int)<=g.d+1;omega,hd3⟩,by show g.d.toNat+1 - (k+1)<g.d.toNat+1 - k;omega,zR (s:= [0,1,2,3,4,5,6]) ⟨⟨rfl,rfl,rfl,rfl,rfl,AR (by omega),tv⟩,⟨rfl,rfl,rfl,rfl,rfl,rfl,congrArg (fun es=>some (AB.row 47 1 es)) e2,tv⟩,rfl,rfl,rfl,rfl,rfl⟩⟩
def Ig (t:List Ent) (had:List (List UInt8)) (but:Nat):Nat->Option (List (List UInt8))
 | 0=>some []
 | k+1=>match Ig t had but k with
  | none=>none
  | some l=>if k=but\/(t.getD k ez).lost=true then some l else if (had.getD k []).length=0 then none else some (l ++ [had.getD k []])
theorem RW (t:List Ent) (had:List (List UInt8)) (but:Nat):∀ k,DC t had but k=(Ig t had but k).map FV
 | 0=>rfl
 | k+1=>by
  rw [DC,Ig,RW t had but k];cases Ig t had but k with
  | none=>rfl
  | some l=>
   simp only [Du];split
   ·rfl
   ·split
    ·rfl
    ·simp [FV]
theorem MP {t:List Ent} {had:List (List UInt8)} {but k:Nat} (h:Ig t had but k=none):∀ m,k<=m->Ig t had but m=none
 | 0,hm=>by rwa [show k=0 by omega] at h
 | m+1,hm=>by
  by_cases e:k=m+1
  ·rw [<-e];exact h
  ·rw [Ig,MP h m (by omega)]
theorem Lw {t:List Ent} {had:List (List UInt8)} {but:Nat} (h8:∀ b∈had,b.length=0\/b.length=8):∀ k l,k<=had.length->Ig t had but k=some l->l.length<=k/\∀ b∈l,b.length=8
 | 0,l,_,h=>by
  obtain rfl:=Option.some.inj h;exact⟨Ag _,fun b hb=>by cases hb⟩
 | k+1,l,hk,h=>by
  rw [Ig] at h;cases ho:Ig t had but k with
  | none=>rw [ho] at h;cases h
  | some m=>
   rw [ho] at h;simp only at h;obtain⟨q1,q2⟩:=Lw h8 k m (by omega) ho;split at h
   ·obtain rfl:=Option.some.inj h;exact⟨by omega,q2⟩
   ·split at h
    ·cases h
    ·rename_i hz;obtain rfl:=Option.some.inj h;refine⟨by rw [Ai,Dp];omega,fun b hb=>?_⟩;rcases A4.1 hb with q | q
     ·exact q2 b q
     ·rw [AF] at q;rw [q];rcases h8 _ (A5 (d:=([]:List UInt8)) (show k<had.length by omega)) with e | e
      ·exact absurd e hz
      ·exact e
@[reducible] def zlR (g:Geo) (t:List Ent) (had l:List (List UInt8)):List AB:= [.box 298 [iv g.d,BN t,Gk had], .row 47 1 (l.map Ii)]
theorem Qi (g:Geo) (t:List Ent) (had:List (List UInt8)) (but:Nat) (hg:Bt g=true) (htl:(t.length:Int)=g.d+1) (hh:(had.length:Int)=g.d+1) (hbt:(but:Int)<=g.d) (h8:∀ b∈had,b.length=0\/b.length=8):ACalls Tryz.prog false 229 [.bp 0 0,iv (but:Nat)] (zlH g t had) fun r H=>match Ig t had but g.d.toNat with
  | some l=>r = .tp [.ow 1 l.length, .v (.bool true)]/\H=zlR g t had l
  | none=>r = .tp [.v (.slice none 0 0), .v (.bool false)]/\H=zlH g t had:=by
 obtain⟨g1,g2,g3,g4,g5⟩:=As.1 hg;refine zS tys_ok Tryz.func229 rfl rfl (Ah rfl) ?_;conv=>whnf
 refine zU (Nat × List (List UInt8)) (fun x=>([(0, .bp 0 0),(1,iv (but:Nat)),(6, .ow 1 x.2.length),(11,iv g.d),(12,iv (x.1:Nat))],zlR g t had x.2)) (fun x=>x.1<=g.d.toNat/\Ig t had but x.1=some x.2) (fun x=>g.d.toNat - x.1) (0, []) ⟨Aj _,rfl⟩
  ⟨_,_,zB _ _, [(6,47,1)],tA, [0,1],tA,tA,rfl,rfl,rfl,rfl,rfl⟩ ?_
 rintro⟨k,l⟩ ⟨hk,hl⟩;simp only at hk hl;obtain⟨hll, -⟩:=Lw h8 k l (by omega) hl;by_cases hkd:k<g.d.toNat;rotate_left 1
 ·have ek:k=g.d.toNat:=by omega
  subst ek;rw [hl];conv=>whnf
  rw [show decide (((g.d.toNat:Nat):Int)<g.d)=false from decide_eq_false (by omega)];conv=>whnf
  repeat' (refine zZ ?_;conv=>whnf)
  exact⟨_, .tp [.ow 1 l.length, .v (.bool true)],zlR g t had l,fun _ _ h=>h,zR (s:= [0,1]) tA,rfl,rfl⟩
 ·have hs:Ig t had but (k+1)=if k=but\/(t.getD k ez).lost=true then some l else if (had.getD k []).length=0 then none else some (l ++ [had.getD k []]):=by rw [Ig,hl]
  have ixA:(0:Int)<=(k:Nat)/\((k:Nat):Int)<(t.length:Nat):=by omega
  have ixB:(0:Int)<=(k:Nat)/\((k:Nat):Int)<(had.length:Nat):=by omega
  conv=>whnf
  rw [show decide ((k:Int)<g.d)=true from decide_eq_true (by omega)];conv=>whnf
  repeat' (refine zZ ?_;conv=>whnf)
  by_cases he:k=but
  ·rw [if_pos (.inl he)] at hs;rw [show (((k:Nat):Int) == ((but:Nat):Int))=true from beq_iff_eq.2 (by rw [he])];conv=>whnf
   repeat' (refine zZ ?_;conv=>whnf)
   exact⟨(k+1,l),⟨hkd,hs⟩,by show g.d.toNat - (k+1)<g.d.toNat - k;omega,zR (s:= [0,1]) ⟨⟨rfl,rfl,rfl,rfl,AR (by omega),tv⟩,tA,rfl,rfl,rfl,rfl,rfl⟩⟩
  ·rw [show (((k:Nat):Int) == ((but:Nat):Int))=false from beq_eq_false_iff_ne.2 (by omega)];refine⟨ixA,?_⟩;conv=>whnf
   rw [Ab];by_cases hlo:(t.getD k ez).lost=true
   ·rw [if_pos (.inr hlo)] at hs;rw [show (t.getD k ⟨0,0,false⟩).lost=true from hlo];conv=>whnf
    repeat' (refine zZ ?_;conv=>whnf)
    exact⟨(k+1,l),⟨hkd,hs⟩,by show g.d.toNat - (k+1)<g.d.toNat - k;omega,zR (s:= [0,1]) ⟨⟨rfl,rfl,rfl,rfl,AR (by omega),tv⟩,tA,rfl,rfl,rfl,rfl,rfl⟩⟩
   ·rw [if_neg (fun q=>q.elim he hlo)] at hs;rw [show (t.getD k ⟨0,0,false⟩).lost=false from Bool.eq_false_iff.2 hlo];conv=>whnf
    repeat' (refine zZ ?_;conv=>whnf)
    refine⟨ixB,?_⟩;conv=>whnf
    rw [Ab];by_cases h0:(had.getD k []).length=0
    ·rw [if_pos h0] at hs;rw [show (((had.getD k []).length:Int) == 0)=true by rw [h0];try rfl];rw [MP hs g.d.toNat (by omega)];exact⟨_, .tp [.v (.slice none 0 0), .v (.bool false)],zlH g t had,fun _ _ h=>h,zR (s:= [0]) tA,rfl,rfl⟩
    ·rw [if_neg h0] at hs;rw [show (((had.getD k []).length:Int) == 0)=false from beq_eq_false_iff_ne.2 (by omega)];conv=>whnf
     repeat' (refine zZ ?_;conv=>whnf)
     refine⟨ixB,?_⟩;conv=>whnf
     rw [Ab];refine⟨rfl,?_⟩;conv=>whnf
     refine Af ⟨by rw [Ac],by show l.length+1<=1000000000;omega⟩ ?_;conv=>whnf
     exact⟨(k+1,l ++ [had.getD k []]),⟨hkd,hs⟩,by show g.d.toNat - (k+1)<g.d.toNat - k;omega,zR (s:= [0,1]) ⟨⟨rfl,rfl,congrArg (AV.ow 1) (show l.length+1=(l ++ [had.getD k []]).length by rw [Ai];try rfl),rfl,AR (by omega),tv⟩,⟨rfl,congrArg (fun z=>some (AB.row 47 1 z)) (show l.map Ii ++ [Ii (had.getD k [])]=(l ++ [had.getD k []]).map Ii by rw [A0];try rfl),tv⟩,rfl,rfl,rfl,rfl,rfl⟩⟩
theorem O1 (g:Geo) (t:List Ent) (had:List (List UInt8)) (b:List UInt8) (i:Nat) (hi:i<t.length):ACalls Tryz.prog false 231 [.bp 0 0,bA b,iv (i:Nat)] (zlH g t had) fun r H=>(if ((CJ b:Nat):Int)=(t.getD i ez).sum then r = .tp [bA b, .v (.bool true)] else r = .tp [bA [], .v (.bool false)])/\H=zlH g t had:=by
 have h1:=IP b;have ixA:(0:Int)<=(i:Nat)/\((i:Nat):Int)<(t.length:Nat):=by omega
 by_cases he:((CJ b:Nat):Int)=(t.getD i ez).sum
 ·simp only [if_pos he];refine zS tys_ok Tryz.func231 rfl rfl (Ah rfl) ?_;conv=>whnf
  apply zV (0) tys_ok mixed (.o [0,2,3,4,5,6,7,8,9,10,1,11] .fin) (by kernel_rfl);conv=>whnf
  try (refine tI ?_;conv=>whnf)
  refine z_ h1 ?_;conv=>whnf
  all_goals
   rw [Ab,show (((CJ b:Nat):Int) != (t.getD i ⟨0,0,false⟩).sum)=false from bne_eq_false_iff_eq.2 he];exact⟨_, .tp [bA b, .v (.bool true)],zlH g t had,fun _ _ h=>h,zR (s:= [0]) tA,rfl,rfl⟩
 ·simp only [if_neg he];refine zS tys_ok Tryz.func231 rfl rfl (Ah rfl) ?_;conv=>whnf
  apply zV (0) tys_ok mixed (.o [0,2,3,4,5,6,7,8,9,10,1,11] .fin) (by kernel_rfl);conv=>whnf
  try (refine tI ?_;conv=>whnf)
  refine z_ h1 ?_;conv=>whnf
  all_goals
   rw [Ab,show (((CJ b:Nat):Int) != (t.getD i ⟨0,0,false⟩).sum)=true from bne_iff_ne.2 he];exact⟨_, .tp [bA [], .v (.bool false)],zlH g t had,BS (m:= [bA [], .v (.bool false)]) ⟨Bp 1 _,ri,tv⟩,zR (s:= [0]) tA,rfl,rfl⟩
theorem KL (g:Geo) (t:List Ent) (had:List (List UInt8)) (i:Nat) (hg:Bt g=true) (ht:F7 g t=true) (hh:(had.length:Int)=g.d+1) (h8:∀ b∈had,b.length=0\/b.length=8) (hi:(i:Int)<=g.d):ACalls Tryz.prog false 174 [.bp 0 0,iv (i:Nat)] (zlH g t had) fun r H=>r = .tp [bA (BJ g t had i), .v (.bool (decide (0<(BJ g t had i).length)))]/\H=zlH g t had:=by
 obtain⟨g1,g2,g3,g4,g5⟩:=As.1 hg;have htl:=GM ht;have ixA:(0:Int)<=(i:Nat)/\((i:Nat):Int)<(t.length:Nat):=by omega
 have ixB:(0:Int)<=(i:Nat)/\((i:Nat):Int)<(had.length:Nat):=by omega
 have hlp:(t.getD g.d.toNat ez).lost=false:=by
  have hlt:g.d.toNat<t.length:=by omega
  have:=ht;simp only [F7,Gj,Ae hlt,Du,BG,Ad] at this;rw [Aa,Ae hlt];simpa using this.2
 by_cases hlo:(t.getD i ez).lost=true
 ·have hk:BJ g t had i=[]:=by unfold BJ;rw [if_pos hlo]
  rw [hk];refine zS tys_ok Tryz.func174 rfl rfl (Ah rfl) ?_;refine⟨ixA,?_⟩;conv=>whnf
  rw [Ab,show (t.getD i ⟨0,0,false⟩).lost=true from hlo];exact⟨_, .tp [bA [], .v (.bool false)],zlH g t had,BS (m:= [bA [], .v (.bool false)]) ⟨Bp 1 _,ri,tv⟩,zR (s:= [0]) tA,rfl,rfl⟩
 have hlo:(t.getD i ez).lost=false:=Bool.eq_false_iff.2 hlo;by_cases h0:0<(had.getD i []).length
 ·have hb:(had.getD i []).length=8:=by
   rcases h8 _ (A5 (d:=([]:List UInt8)) (show i<had.length by omega)) with e | e <;> omega
  have hk:BJ g t had i=had.getD i []:=by unfold BJ;rw [hlo,if_neg (by decide),if_pos h0]
  have hc:=BM (had.getD i []) (by omega);rw [hk,decide_eq_true h0];refine zS tys_ok Tryz.func174 rfl rfl (Ah rfl) ?_;refine⟨ixA,?_⟩;conv=>whnf
  rw [Ab,show (t.getD i ⟨0,0,false⟩).lost=false from hlo];refine⟨ixB,?_⟩;conv=>whnf
  rw [show decide ((((had.getD (((i:Nat):Int)).toNat []).length:Nat):Int) > 0)=true from decide_eq_true (by rw [Ab];omega)];refine⟨ixB,?_⟩;conv=>whnf
  refine z_ hc ?_;exact⟨_, .tp [bA (had.getD i []), .v (.bool true)],zlH g t had,fun _ _ h=>h,zR (s:= [0]) tA,rfl,rfl⟩
 have hzo:=Qi g t had i hg htl hh hi h8;have hkn:BJ g t had i=match DC t had i (g.d.toNat+1) with
   | none=> []
   | some b=>if ((CJ b:Nat):Int)=(t.getD i ez).sum then b else []:=by
  unfold BJ;rw [hlo,if_neg (by decide),if_neg h0];try rfl
 rw [RW,Ig] at hkn;have ixC:(0:Int)<=g.d/\g.d<(had.length:Nat):=by omega
 cases hO:Ig t had i g.d.toNat with
 | none=>
  rw [hO] at hzo hkn;simp only at hzo;have hk:BJ g t had i=[]:=hkn;rw [hk];refine zS tys_ok Tryz.func174 rfl rfl (Ah rfl) ?_;refine⟨ixA,?_⟩;conv=>whnf
  rw [Ab,show (t.getD i ⟨0,0,false⟩).lost=false from hlo];refine⟨ixB,?_⟩;conv=>whnf
  rw [show decide ((((had.getD (((i:Nat):Int)).toNat []).length:Nat):Int) > 0)=false from decide_eq_false (by rw [Ab];omega)];conv=>whnf
  refine zh [0] hzo ?_;rintro _ _ ⟨rfl,rfl⟩;conv=>whnf
  repeat' (refine zZ ?_;conv=>whnf)
  by_cases hid:(i:Int)<g.d
  ·rw [show decide (((i:Nat):Int)<g.d)=true from decide_eq_true hid];conv=>whnf
   apply zV (0) tys_ok mixed (.o [0,1,2,3,4,5,6,7,8,9,10,11,12,13] .fin) (by kernel_rfl);conv=>whnf
   try (refine tI ?_;conv=>whnf)
   try (refine tJ ?_;conv=>whnf)
   try (refine tK ?_;conv=>whnf)
   all_goals
    conv=>whnf
    repeat' (refine zZ ?_;conv=>whnf)
    apply zV (0) tys_ok mixed (.o [0,1,2,3,4,5,6,7,8,9,10,11,12,13,14,15,16,17,18,19,20,21,22,23] .fin) (by kernel_rfl);conv=>whnf
    try (refine tI ?_;conv=>whnf)
    all_goals exact⟨_, .tp [bA [], .v (.bool false)],zlH g t had,BS (m:= [bA [], .v (.bool false)]) ⟨Bp 1 _,ri,tv⟩,zR (s:= [0]) tA,rfl,rfl⟩
  ·rw [show decide (((i:Nat):Int)<g.d)=false from decide_eq_false hid];conv=>whnf
   apply zV (0) tys_ok mixed (.o [0,1,2,3,4,5,6,7,8,9,10,11,12,13,14,15,16,17,18,19,20,21,22,23] .fin) (by kernel_rfl);conv=>whnf
   try (refine tI ?_;conv=>whnf)
   all_goals exact⟨_, .tp [bA [], .v (.bool false)],zlH g t had,BS (m:= [bA [], .v (.bool false)]) ⟨Bp 1 _,ri,tv⟩,zR (s:= [0]) tA,rfl,rfl⟩
 | some l=>
  rw [hO] at hzo hkn;simp only at hzo hkn;obtain⟨hll,hl8⟩:=Lw h8 _ l (by omega) hO;have fin:∀ m:List (List UInt8),(∀ b∈m,b.length=8)->BJ g t had i=(if ((CJ (FV m):Nat):Int)=(t.getD i ez).sum then FV m else [])->∀ r H,((if ((CJ (FV m):Nat):Int)=(t.getD i ez).sum then r=AV.tp [bA (FV m), .v (.bool true)] else r = .tp [bA [], .v (.bool false)])/\H=zlH g t had)->r = .tp [bA (BJ g t had i), .v (.bool (decide (0<(BJ g t had i).length)))]/\H=zlH g t had:=fun m hm e r H hh=>by
   rw [e];by_cases hq:((CJ (FV m):Nat):Int)=(t.getD i ez).sum
   ·rw [if_pos hq] at hh |-
    rw [hh.1,show (FV m).length=8 from xorL_len _ _ rfl hm];exact⟨rfl,hh.2⟩
   ·rw [if_neg hq] at hh |-
    exact⟨hh.1,hh.2⟩
  by_cases hid:(i:Int)<g.d;rotate_left 1
  ·have ei:g.d.toNat=i:=by omega
   rw [if_pos (.inl ei)] at hkn;have hxa:=N5 l (by omega) hl8;have hto:=(O1 g t had (FV l) i (by omega)).mono (fin l hl8 hkn);refine zS tys_ok Tryz.func174 rfl rfl (Ah rfl) ?_;refine⟨ixA,?_⟩;conv=>whnf
   rw [Ab,show (t.getD i ⟨0,0,false⟩).lost=false from hlo];refine⟨ixB,?_⟩;conv=>whnf
   rw [show decide ((((had.getD (((i:Nat):Int)).toNat []).length:Nat):Int) > 0)=false from decide_eq_false (by rw [Ab];omega)];conv=>whnf
   refine zh [0] hzo ?_;rintro _ _ ⟨rfl,rfl⟩;conv=>whnf
   repeat' (refine zZ ?_;conv=>whnf)
   rw [show decide (((i:Nat):Int)<g.d)=false from decide_eq_false hid];conv=>whnf
   apply zV (0) tys_ok mixed (.o [0,1,2,3,4,5,6,7,8,9,10,11,12,13,14,15,16,17,18,19,20,21,22,23] .fin) (by kernel_rfl);conv=>whnf
   try (refine tI ?_;conv=>whnf)
   all_goals
    rw [show decide (((i:Nat):Int)<g.d)=false from decide_eq_false hid];conv=>whnf
    repeat' (refine zZ ?_;conv=>whnf)
    refine Fn.shut (args':= [.sl 1 l.length fun i=>(l.map Ii).getD i [],iv 8]) (hxa.subA ⟨EM rfl rfl,fun _ _ h=>h,tv⟩) ⟨by rw [Ac],rfl,?_⟩;rintro _ rfl;conv=>whnf
    repeat' (refine zZ ?_;conv=>whnf)
    refine zh [0] hto ?_;rintro _ _ ⟨rfl,rfl⟩;exact⟨_, .tp [bA (BJ g t had i), .v (.bool (decide (0<(BJ g t had i).length)))],zlH g t had,fun _ _ h=>h,zR (s:= [0]) tA,rfl,rfl⟩
  ·have ne:¬(g.d.toNat=i\/(t.getD g.d.toNat ez).lost=true):=fun q=>q.elim (by omega) (by rw [hlp];decide)
   rw [if_neg ne] at hkn;by_cases hp0:(had.getD g.d.toNat []).length=0
   ·rw [if_pos hp0] at hkn;have hk:BJ g t had i=[]:=hkn;rw [hk];refine zS tys_ok Tryz.func174 rfl rfl (Ah rfl) ?_;refine⟨ixA,?_⟩;conv=>whnf
    rw [Ab,show (t.getD i ⟨0,0,false⟩).lost=false from hlo];refine⟨ixB,?_⟩;conv=>whnf
    rw [show decide ((((had.getD (((i:Nat):Int)).toNat []).length:Nat):Int) > 0)=false from decide_eq_false (by rw [Ab];omega)];conv=>whnf
    refine zh [0] hzo ?_;rintro _ _ ⟨rfl,rfl⟩;conv=>whnf
    repeat' (refine zZ ?_;conv=>whnf)
    rw [show decide (((i:Nat):Int)<g.d)=true from decide_eq_true hid];conv=>whnf
    apply zV (0) tys_ok mixed (.o [0,1,2,3,4,5,6,7,8,9,10,11,12,13] .fin) (by kernel_rfl);conv=>whnf
    try (refine tI ?_;conv=>whnf)
    try (refine tJ ?_;conv=>whnf)
    try (refine tK ?_;conv=>whnf)
    all_goals
     conv=>whnf
     repeat' (refine zZ ?_;conv=>whnf)
     apply zV (0) tys_ok mixed (.o [0,1,2,3,4,5,6,7,8,9,10,11,12,13,14,15,16,17,18,19,20,21,22,23] .fin) (by kernel_rfl);conv=>whnf
     try (refine tI ?_;conv=>whnf)
     all_goals
      rw [show decide (((i:Nat):Int)<g.d)=true from decide_eq_true hid];refine⟨ixC,?_⟩;conv=>whnf
      rw [show (((had.getD g.d.toNat []).length:Int) == 0)=true by rw [hp0];try rfl];conv=>whnf
      repeat' (refine zZ ?_;conv=>whnf)
      exact⟨_, .tp [bA [], .v (.bool false)],zlH g t had,BS (m:= [bA [], .v (.bool false)]) ⟨Bp 1 _,ri,tv⟩,zR (s:= [0]) tA,rfl,rfl⟩
   ·rw [if_neg hp0] at hkn;have hpl:(had.getD g.d.toNat []).length=8:=by
     rcases h8 _ (A5 (d:=([]:List UInt8)) (show g.d.toNat<had.length by omega)) with e | e
     ·exact absurd e hp0
     ·exact e
    have hm8:∀ b∈l ++ [had.getD g.d.toNat []],b.length=8:=fun b hb=>by
     rcases A4.1 hb with q | q
     ·exact hl8 b q
     ·rw [AF] at q;rw [q];exact hpl
    have hxa:=N5 (l ++ [had.getD g.d.toNat []]) (by rw [Ai,Dp];omega) hm8;have hto:=(O1 g t had (FV (l ++ [had.getD g.d.toNat []])) i (by omega)).mono (fin _ hm8 hkn);refine zS tys_ok Tryz.func174 rfl rfl (Ah rfl) ?_;refine⟨ixA,?_⟩;conv=>whnf
    rw [Ab,show (t.getD i ⟨0,0,false⟩).lost=false from hlo];refine⟨ixB,?_⟩;conv=>whnf
    rw [show decide ((((had.getD (((i:Nat):Int)).toNat []).length:Nat):Int) > 0)=false from decide_eq_false (by rw [Ab];omega)];conv=>whnf
    refine zh [0] hzo ?_;rintro _ _ ⟨rfl,rfl⟩;conv=>whnf
    repeat' (refine zZ ?_;conv=>whnf)
    rw [show decide (((i:Nat):Int)<g.d)=true from decide_eq_true hid];conv=>whnf
    apply zV (0) tys_ok mixed (.o [0,1,2,3,4,5,6,7,8,9,10,11,12,13] .fin) (by kernel_rfl);conv=>whnf
    try (refine tI ?_;conv=>whnf)
    try (refine tJ ?_;conv=>whnf)
    try (refine tK ?_;conv=>whnf)
    all_goals
     conv=>whnf
     repeat' (refine zZ ?_;conv=>whnf)
     apply zV (0) tys_ok mixed (.o [0,1,2,3,4,5,6,7,8,9,10,11,12,13,14,15,16,17,18,19,20,21,22,23] .fin) (by kernel_rfl);conv=>whnf
     try (refine tI ?_;conv=>whnf)
     all_goals
      rw [show decide (((i:Nat):Int)<g.d)=true from decide_eq_true hid];refine⟨ixC,?_⟩;conv=>whnf
      rw [show (((had.getD g.d.toNat []).length:Int) == 0)=false from beq_eq_false_iff_ne.2 (by omega)];conv=>whnf
      repeat' (refine zZ ?_;conv=>whnf)
      refine Fn.shut (args':= [.sl 1 (l.length+1) fun i=>(l.map Ii ++ [Ii (had.getD g.d.toNat [])]).getD i [],iv 8]) (hxa.subA ⟨EM (by rw [Ai];try rfl) (by rw [A0];try rfl),fun _ _ h=>h,tv⟩) ⟨by rw [Ai,Ac];try rfl,rfl,?_⟩;rintro _ rfl;conv=>whnf
      repeat' (refine zZ ?_;conv=>whnf)
      refine zh [0] hto ?_;rintro _ _ ⟨rfl,rfl⟩;exact⟨_, .tp [bA (BJ g t had i), .v (.bool (decide (0<(BJ g t had i).length)))],zlH g t had,fun _ _ h=>h,zR (s:= [0]) tA,rfl,rfl⟩
theorem KM (g:Geo) (t:List Ent) (had:List (List UInt8)) (hg:Bt g=true) (ht:F7 g t=true) (hh:(had.length:Int)=g.d+1) (h8:∀ b∈had,b.length=0\/b.length=8):ACalls Tryz.prog false 173 [.ag (Ba g), .ag [BN t],Gk had] [] fun r H=>r = .tp [.bp 0 0,iv 0]/\H=zlH g t had:=by
 obtain⟨g1,g2,g3,g4,g5⟩:=As.1 hg;have htl:=GM ht;have hc:=M7 g t (by omega);rw [ht] at hc;have hz:=Ym had (by omega);have e:(had.any fun b=>((((b.length:Nat):Int) != 0)&&(((b.length:Nat):Int) != 8)))=false:=by
  rw [List.any_eq_false];intro b hb;rcases h8 b hb with e | e <;> rw [e] <;> decide
 rw [e] at hz;refine zS tys_ok Tryz.func173 rfl rfl (Ah rfl) ?_;conv=>whnf
 refine z_ hc ?_;conv=>whnf
 rw [show (((had.length:Nat):Int) != IntKind.i64.wrap (g.d+1))=false from bne_eq_false_iff_eq.2 (by rw [wi (by omega)];exact hh)];conv=>whnf
 refine z_ hz ?_;exact⟨_, .tp [.bp 0 0,iv 0],zlH g t had,fun _ _ h=>h,zR (s:= [2]) tA,rfl,rfl⟩
theorem Qj (g:Geo) (t:List Ent) (had:List (List UInt8)) (i:Nat) (hg:Bt g=true) (ht:F7 g t=true) (hh:(had.length:Int)=g.d+1) (h8:∀ b∈had,b.length=0\/b.length=8) (hi:(i:Int)<g.d):Fn Tryz.prog 106 [.ag (Ba g), .ag [BN t],Gk had,iv (i:Nat)] fun r=>r=if 0<(BJ g t had i).length then .tp [bA (BJ g t had i),iv 0] else .tp [bA [],iv 13]:=by
 obtain⟨g1,g2,g3,g4,g5⟩:=As.1 hg;have hb:=KM g t had hg ht hh h8;have hk:=KL g t had i hg ht hh h8 (by omega);have t1:decide (((i:Nat):Int) < -1)=false:=decide_eq_false (by omega);have t2:decide (((i:Nat):Int)>=g.d)=false:=decide_eq_false (by omega);have t3:(((i:Nat):Int) == -1)=false:=beq_eq_false_iff_ne.2 (by omega);by_cases hq:0<(BJ g t had i).length
 ·rw [decide_eq_true hq] at hk;rw [if_pos hq];refine zT Tryz.func106 rfl ?_;conv=>whnf
  refine zW hb rfl ?_;rintro _ _ ⟨rfl,rfl⟩;conv=>whnf
  repeat' (refine zZ ?_;conv=>whnf)
  rw [t1];conv=>whnf
  rw [t2];conv=>whnf
  repeat' (refine zZ ?_;conv=>whnf)
  rw [t3];conv=>whnf
  repeat' (refine zZ ?_;conv=>whnf)
  refine zh [2] hk ?_;rintro _ _ ⟨rfl,rfl⟩;conv=>whnf
  repeat' (refine zZ ?_;conv=>whnf)
  exact⟨_,ri,rfl⟩
 ·rw [decide_eq_false hq] at hk;rw [if_neg hq];refine zT Tryz.func106 rfl ?_;conv=>whnf
  refine zW hb rfl ?_;rintro _ _ ⟨rfl,rfl⟩;conv=>whnf
  repeat' (refine zZ ?_;conv=>whnf)
  rw [t1];conv=>whnf
  rw [t2];conv=>whnf
  repeat' (refine zZ ?_;conv=>whnf)
  rw [t3];conv=>whnf
  repeat' (refine zZ ?_;conv=>whnf)
  refine zh [2] hk ?_;rintro _ _ ⟨rfl,rfl⟩;conv=>whnf
  repeat' (refine zZ ?_;conv=>whnf)
  exact⟨.tp [bA [],iv 13],BS (m:= [bA [],iv 13]) ⟨Bp 1 _,ri,tv⟩,rfl⟩
def Js (g:Geo) (t:List Ent) (had:List (List UInt8)) (k:Nat):List (List UInt8):=(List.range k).map (BJ g t had)
def Jr (g:Geo) (t:List Ent) (had:List (List UInt8)) (k:Nat):List Bool:=(List.range k).map fun i=>decide (0<(BJ g t had i).length)
theorem Uf (g:Geo) (t:List Ent) (had:List (List UInt8)) (hg:Bt g=true) (ht:F7 g t=true) (hh:(had.length:Int)=g.d+1) (h8:∀ b∈had,b.length=0\/b.length=8):Fn Tryz.prog 232 [.ag (Ba g), .ag [BN t],Gk had] fun r=>r = .tp [Gk (Js g t had had.length),Z3 (Jr g t had had.length),iv 0]:=by
 obtain⟨g1,g2,g3,g4,g5⟩:=As.1 hg;have htl:=GM ht;have hb:=KM g t had hg ht hh h8;have hd1:IntKind.i64.wrap (g.d+1)=g.d+1:=wi (by omega);have l1:∀ k,(Js g t had k).length=k:=fun k=>by simp [Js]
 have l2:∀ k,(Jr g t had k).length=k:=fun k=>by simp [Jr]
 refine zT Tryz.func232 rfl ?_;conv=>whnf
 refine zW hb rfl ?_;rintro _ _ ⟨rfl,rfl⟩;conv=>whnf
 rw [hd1];refine zU Nat (fun k=>([(6, .ow 3 k),(7, .ow 4 k),(9, .bp 2 0),(25,iv (g.d+1)),(26,iv (k:Nat))], [.box 23 (Ba g), .box 70 [BN t], .box 298 [iv g.d,BN t,Gk had], .row 47 1 ((Js g t had k).map Ii), .row 4 1 ((Jr g t had k).map YW)])) (fun k=>k<=had.length) (fun k=>had.length - k) 0 (Aj _)
  ⟨_,_,zB _ _, [(6,47,1),(7,4,1)],tA, [0,1,2,3,4],tA,tA,rfl,rfl,rfl,rfl,rfl⟩ ?_
 intro k hk;by_cases hkn:k<had.length
 ·have hkk:=KL g t had k hg ht hh h8 (by omega);have e1:(Js g t had k).map Ii ++ [Ii (BJ g t had k)]=(Js g t had (k+1)).map Ii:=by simp [Js,Bh]
  have e2:(Jr g t had k).map YW ++ [YW (decide (0<(BJ g t had k).length))]=(Jr g t had (k+1)).map YW:=by simp [Jr,Bh]
  conv=>whnf
  rw [show decide ((k:Int)<g.d+1)=true from decide_eq_true (by omega)];conv=>whnf
  repeat' (refine zZ ?_;conv=>whnf)
  refine zh [2] hkk ?_;rintro _ _ ⟨rfl,rfl⟩;conv=>whnf
  repeat' (refine zZ ?_;conv=>whnf)
  refine⟨rfl,?_⟩;refine⟨⟨by rw [Ac,l1],by omega⟩,?_⟩;refine⟨rfl,?_⟩;refine⟨⟨by rw [Ac,l2],by omega⟩,?_⟩;exact⟨k+1,by omega,by omega,zR (s:= [0,1,2,3,4]) ⟨⟨rfl,rfl,rfl,rfl,AR (by omega),tv⟩,⟨rfl,rfl,rfl,congrArg (fun es=>some (AB.row 47 1 es)) e1,congrArg (fun es=>some (AB.row 4 1 es)) e2,tv⟩,rfl,rfl,rfl,rfl,rfl⟩⟩
 ·have ek:k=had.length:=by omega
  subst ek;conv=>whnf
  rw [show decide (((had.length:Nat):Int)<g.d+1)=false from decide_eq_false (by omega)];conv=>whnf
  repeat' (refine zZ ?_;conv=>whnf)
  refine⟨(by rw [Ac,l1]),?_⟩;refine⟨(by rw [Ac,l2]),?_⟩;exact⟨.tp [Gk (Js g t had had.length),Z3 (Jr g t had had.length),iv 0],BS (m:= [Gk (Js g t had had.length),Z3 (Jr g t had had.length),iv 0]) ⟨EM (l1 _).symm rfl,YV (l2 _).symm rfl,ri,tv⟩,rfl⟩
theorem K8 {g:Geo} {s:Stt} {G:Gr} {z:Int} {t:List Ent} (h:EV g s G z=some t):F7 g t=true:=by
 have hr:∀ {b:List UInt8} {t:List Ent},BX g b=some t->F7 g t=true:=fun {b t} h=>by
  unfold BX at h;split at h
  ·rename_i hh;obtain rfl:=Option.some.inj h;exact hh.1
  ·cases h
 have ho:∀ {x:Gt} {a r:Int} {t:List Ent},CO g x a r=some t->F7 g t=true:=fun {x a r t} h=>by
  unfold CO at h;split at h
  ·split at h
   ·exact hr h
   ·cases h
  ·cases h
 unfold EV at h;split at h
 ·exact hr h
 ·split at h
  ·rename_i hh;obtain rfl:=Option.some.inj h;exact ho hh
  ·exact ho h
theorem Vi {g:Geo} {s:Stt} {G:Gr} {t:List Ent} {z w:Int} (hi:∀ t∈s.txns,∀ x∈t.images,By g x=true) (hw:w≠255):(DB g s G t z w).length=0\/(DB g s G t z w).length=8:=by
 unfold DB;split
 ·rename_i p hp;obtain⟨x,q⟩:=p;obtain⟨t',ht, -,hx, -,e⟩:=G5 (Ag _) hp;exact .inr ((F8 (hi t' ht x hx)).2 (by rw [e];exact hw)).2.2
 ·unfold Di;split
  ·split
   ·rename_i h;exact .inr h.2.1
   ·exact .inl rfl
  ·exact .inl rfl
theorem LF {g:Geo} (hg:Bt g=true) {s:Stt} {G:Gr} {t:List Ent} {z:Int} (hi:∀ t∈s.txns,∀ x∈t.images,By g x=true):((E9 g s G t z).length:Int)=g.d+1/\∀ b∈E9 g s G t z,b.length=0\/b.length=8:=by
 have g5:=As.1 hg;refine⟨by unfold E9;rw [Ac,Ca];omega,fun b hb=>?_⟩;obtain⟨i,hi2,rfl⟩:=AK.1 hb;have:=AO.1 hi2;exact Vi hi (by unfold O0;split <;> omega)
def Mu (g:Geo) (s:Stt) (G:Gr) (z A:Int):Option (List UInt8):=match EV g s G z with
 | none=>none
 | some t=>if (t.getD A.toNat ez).lost=true then none else if 0<(DB g s G t z A).length then some (DB g s G t z A) else if 0<(BJ g t (E9 g s G t z) A.toNat).length then some (BJ g t (E9 g s G t z) A.toNat) else none
def Ry (o:Option (List UInt8)):AV:=match o with
 | some b=> .tp [bA b,iv 0]
 | none=> .tp [bA [],iv 13]
theorem Oo (g:Geo) (s:Stt) (d:Dk) (G:Gr) (lba:Int) (hg:Bt g=true) (hl:LogB s.txns) (himg:∀ t∈s.txns,∀ x∈t.images,By g x=true) (ha:Bv g s.a=true) (h:Gs (A3 g) d G) (hF:∀ a,(G a).bytes.length<=100000) (h8:∀ a,(G a).err≠8) (hb:0<=lba/\lba<g.z*g.d) (hB:∀ p,CC s.txns (lba.tdiv g.d) 255=some p->p.1.bytes.length<=100000/\(BX g p.1.bytes).isSome=true) :
  ACalls Tryz.prog false 43 [.bp 0 0,iv lba] (F5 g s d) fun r H=>r=Ry (Mu g s G (lba.tdiv g.d) (lba.tmod g.d))/\∃ d',Gs (A3 g) d' G/\H=F5 g s d':=by
 have g5:=As.1 hg;have h1:=Nf g lba hg hb;have hz:0<=lba.tdiv g.d/\lba.tdiv g.d<g.z:=by
  rw [AU hb.1];exact⟨Dw hb.1 (by omega),Dq (by omega) hb.2⟩
 have hA:0<=lba.tmod g.d/\lba.tmod g.d<g.d:=⟨Bf _ hb.1,AL _ (by omega)⟩;obtain⟨Z,hZ⟩:∃ Z,Z=lba.tdiv g.d:=⟨_,rfl⟩;obtain⟨A,hAe⟩:∃ A,A=lba.tmod g.d:=⟨_,rfl⟩;rw [<-hZ] at h1 hz hB |-
 rw [<-hAe] at h1 hA |-
 have h2:=Mc g s d G Z hg hl ha h hF h8 hz hB;have h3:=HW s.txns Z A hl.n hl.i;obtain⟨O,hO⟩:∃ O,O=Mu g s G Z A:=⟨_,rfl⟩;rw [<-hO];unfold Mu at hO;cases hT:EV g s G Z with
 | none=>
  rw [hT] at h2 hO;simp only at h2 hO;subst hO;refine zS tys_ok Tryz.func43 rfl rfl (Ah rfl) ?_;conv=>whnf
  refine z_ h1 ?_;conv=>whnf
  refine zh [0,1,2,3,4] h2 ?_;rintro _ _ ⟨rfl,d2,hd2,rfl⟩;conv=>whnf
  repeat' (refine zZ ?_;conv=>whnf)
  exact⟨_,Ry none,F5 g s d2,BS (m:= [bA [],iv 13]) ⟨Bp 1 _,ri,tv⟩,zR (s:= [0,1,2,3,4]) tA,rfl,d2,hd2,rfl⟩
 | some t=>
  rw [hT] at h2 hO;simp only at h2 hO;have htok:=K8 hT;have htl:=GM htok;have ixA:0<=A/\A<(t.length:Nat):=by omega
  by_cases hlo:(t.getD A.toNat ez).lost=true
  ·rw [if_pos hlo] at hO;subst hO;refine zS tys_ok Tryz.func43 rfl rfl (Ah rfl) ?_;conv=>whnf
   refine z_ h1 ?_;conv=>whnf
   refine zh [0,1,2,3,4] h2 ?_;rintro _ _ ⟨rfl,d2,hd2,rfl⟩;conv=>whnf
   repeat' (refine zZ ?_;conv=>whnf)
   refine⟨ixA,?_⟩;conv=>whnf
   rw [show (t.getD A.toNat ⟨0,0,false⟩).lost=true from hlo];exact⟨_,Ry none,F5 g s d2,BS (m:= [bA [],iv 13]) ⟨Bp 1 _,ri,tv⟩,zR (s:= [0,1,2,3,4]) tA,rfl,d2,hd2,rfl⟩
  rw [if_neg hlo] at hO;have hlo:(t.getD A.toNat ⟨0,0,false⟩).lost=false:=Bool.eq_false_iff.2 hlo;cases hL:CC s.txns Z A with
  | some p=>
   have e1:DB g s G t Z A=p.1.bytes:=by unfold DB;rw [hL]
   have hp8:p.1.bytes.length=8:=by
    obtain⟨x,q⟩:=p;obtain⟨t',ht, -,hx, -,e⟩:=G5 (Ag _) hL;exact((F8 (himg t' ht x hx)).2 (by rw [e];omega)).2.2
   rw [e1,if_pos (by omega)] at hO;subst hO;rw [hL] at h3;simp only at h3;refine zS tys_ok Tryz.func43 rfl rfl (Ah rfl) ?_;conv=>whnf
   refine z_ h1 ?_;conv=>whnf
   refine zh [0,1,2,3,4] h2 ?_;rintro _ _ ⟨rfl,d2,hd2,rfl⟩;conv=>whnf
   repeat' (refine zZ ?_;conv=>whnf)
   refine⟨ixA,?_⟩;conv=>whnf
   rw [hlo];conv=>whnf
   refine zh [4] h3 ?_;rintro _ _ ⟨rfl,rfl⟩;exact⟨_,Ry (some p.1.bytes),F5 g s d2,fun _ _ h=>h,zR (s:= [0,1,2,3,4]) tA,rfl,d2,hd2,rfl⟩
  | none=>
   have e1:DB g s G t Z A=(Di (G (C3 g s.a Z A)) (C3 g s.a Z A) (t.getD (Ej g A).toNat ez)).getD []:=by unfold DB;rw [hL]
   rw [hL] at h3;simp only at h3;refine zS tys_ok Tryz.func43 rfl rfl (Ah rfl) ?_;conv=>whnf
   refine z_ h1 ?_;conv=>whnf
   refine zh [0,1,2,3,4] h2 ?_;rintro _ _ ⟨rfl,d2,hd2,rfl⟩;have h4:=JS g s d2 G Z A t hg ha hd2 hF h8 hz (by omega) htl;rw [<-e1] at h4;conv=>whnf
   repeat' (refine zZ ?_;conv=>whnf)
   refine⟨ixA,?_⟩;conv=>whnf
   rw [hlo];conv=>whnf
   refine zh [4] h3 ?_;rintro _ _ ⟨rfl,rfl⟩;conv=>whnf
   repeat' (refine zZ ?_;conv=>whnf)
   refine zh [0,1,2,3,4] h4 ?_;rintro _ _ ⟨rfl,d3,hd3,rfl⟩;conv=>whnf
   repeat' (refine zZ ?_;conv=>whnf)
   by_cases hq:0<(DB g s G t Z A).length
   ·rw [if_pos hq] at hO;subst hO;rw [show decide ((((DB g s G t Z A).length:Nat):Int) > 0)=true from decide_eq_true (by omega)];exact⟨_,Ry (some (DB g s G t Z A)),F5 g s d3,fun _ _ h=>h,zR (s:= [0,1,2,3,4]) tA,rfl,d3,hd3,rfl⟩
   ·rw [if_neg hq] at hO;have h5:=Ks g s d3 G Z hg hl ha hd3 hF h8 hz hB t hT;obtain⟨k1,k2⟩:=LF hg (s:=s) (G:=G) (t:=t) (z:=Z) himg;have h6:=Qj g t (E9 g s G t Z) A.toNat hg htok k1 k2 (by omega);rw [show ((A.toNat:Nat):Int)=A by omega] at h6;rw [show decide ((((DB g s G t Z A).length:Nat):Int) > 0)=false from decide_eq_false (by omega)];conv=>whnf
    refine zh [0,1,2,3,4] h5 ?_;rintro _ _ ⟨rfl,d4,hd4,rfl⟩;conv=>whnf
    repeat' (refine zZ ?_;conv=>whnf)
    by_cases hk:0<(BJ g t (E9 g s G t Z) A.toNat).length
    ·rw [if_pos hk] at hO h6;subst hO;apply zV (0) tys_ok mixed (.o [0,1,2,3,4,5,6,7,8,9,10,11] .fin) (by kernel_rfl);conv=>whnf
     refine z_ h6 ?_;conv=>whnf
     all_goals exact⟨_,Ry (some (BJ g t (E9 g s G t Z) A.toNat)),F5 g s d4,fun _ _ h=>h,zR (s:= [0,1,2,3,4]) tA,rfl,d4,hd4,rfl⟩
    ·rw [if_neg hk] at hO h6;subst hO;apply zV (0) tys_ok mixed (.o [0,1,2,3,4,5,6,7,8,9,10,11] .fin) (by kernel_rfl);conv=>whnf
     refine z_ h6 ?_;conv=>whnf
     all_goals exact⟨_,Ry none,F5 g s d4,fun _ _ h=>h,zR (s:= [0,1,2,3,4]) tA,rfl,d4,hd4,rfl⟩
structure AtsOk (g:Geo) (l:List Int):Prop where
 pos:0<l.length
 len:l.length<=1000
 at_:∀ i:Nat,i<l.length->0<=l.getD i 0/\l.getD i 0<g.d
 up:∀ i:Nat,i+1<l.length->l.getD i 0<l.getD (i+1) 0
theorem AtsOk.lt {g:Geo} {l:List Int} (h:AtsOk g l):∀ {j k:Nat},j<k->k<l.length->l.getD j 0<l.getD k 0:=fun {j k} hjk hk=>by
 induction k with
 | zero=>omega
 | succ k ih=>
  by_cases e:j=k
  ·rw [e];exact h.up k hk
  ·exact Int.lt_trans (ih (by omega) (by omega)) (h.up k hk)
theorem AtsOk.inj {g:Geo} {l:List Int} (h:AtsOk g l) {j k:Nat} (hj:j<l.length) (hk:k<l.length) (e:l.getD j 0=l.getD k 0):j=k:=by
 rcases Nat.lt_trichotomy j k with q | q | q
 ·have:=h.lt q hk;omega
 ·exact q
 ·have:=h.lt q hj;omega
theorem Ka (g:Geo) (l:List Int) (h:AtsOk g l):Fn Tryz.prog 233 [.ag (Ba g),iA l] fun r=>r = .v (.bool true):=by
 have hp:=h.pos;have hln:=h.len;refine zT Tryz.func233 rfl ?_;conv=>whnf
 refine zU Nat (fun k=>([(1,iA l),(2, .bp 0 0),(7,iA l),(8,iv (l.length:Nat)),(9,iv (k:Nat))], [.box 23 (Ba g)])) (fun k=>k<=l.length) (fun k=>l.length - k) 0 (Aj _)
  (zR (s:= [0]) tA) ?_
 intro k hk;conv=>whnf
 refine A6 (fun h6=>?_) (fun h6=>?_) <;> (repeat rw [Ab] at h6) <;> conv=>whnf
 ·have hk':k<l.length:=by omega
  obtain⟨q1,q2⟩:=h.at_ k hk';repeat' (refine zZ ?_;conv=>whnf)
  refine⟨⟨by omega,by omega⟩,?_⟩;conv=>whnf
  repeat' (refine zZ ?_;conv=>whnf)
  rw [Ab,show decide (l.getD k 0<0)=false from decide_eq_false (by omega)];conv=>whnf
  rw [show decide (l.getD k 0>=g.d)=false from decide_eq_false (by omega)];conv=>whnf
  by_cases hk0:k=0
  ·rw [show decide (((k:Nat):Int) > 0)=false from decide_eq_false (by omega)];conv=>whnf
   repeat' (refine zZ ?_;conv=>whnf)
   exact⟨k+1,hk',by omega,zR (s:= [0]) ⟨⟨rfl,rfl,rfl,rfl,AR (by omega),tv⟩,tA,rfl,rfl,rfl,rfl,rfl⟩⟩
  ·have hu:=h.up (k - 1) (by omega);have ew:IntKind.i64.wrap (((k:Nat):Int) - 1)=((k - 1:Nat):Int):=by rw [wi (by omega)];omega
   rw [show decide (((k:Nat):Int) > 0)=true from decide_eq_true (by omega)];conv=>whnf
   rw [ew];refine⟨⟨by omega,by omega⟩,?_⟩;conv=>whnf
   rw [Ab,show decide (l.getD k 0<=l.getD (k - 1) 0)=false from decide_eq_false (by rw [Nat.sub_add_cancel (by omega)] at hu;omega)];conv=>whnf
   repeat' (refine zZ ?_;conv=>whnf)
   exact⟨k+1,hk',by omega,zR (s:= [0]) ⟨⟨rfl,rfl,rfl,rfl,AR (by omega),tv⟩,tA,rfl,rfl,rfl,rfl,rfl⟩⟩
 ·repeat' (refine zZ ?_;conv=>whnf)
  exact⟨_,ri,by rw [show decide (((l.length:Nat):Int) > 0)=true from decide_eq_true (by omega)]⟩
theorem WZ (l:List Int) (p:Int) (hl:l.length<=1000000):Fn Tryz.prog 186 [iA l,iv p] fun r=>∃ n:Int,r = iv n/\((n = -1/\∀ j:Nat,j<l.length->l.getD j 0≠p)\/∃ k:Nat,k<l.length/\n=(k:Nat)/\l.getD k 0=p):=by
 refine zT Tryz.func186 rfl ?_;conv=>whnf
 refine zU Nat (fun k=>([(0,iA l),(1,iv p),(7,iv (l.length:Nat)),(8,iv (k:Nat))], [])) (fun k=>k<=l.length/\∀ j:Nat,j<k->l.getD j 0≠p) (fun k=>l.length - k) 0 ⟨Aj _,fun j hj=>absurd hj (Ao j)⟩
  (zR (s:= []) tA) ?_
 rintro k ⟨hk,hI⟩;conv=>whnf
 refine A6 (fun h6=>?_) (fun h6=>?_) <;> (repeat rw [Ab] at h6) <;> conv=>whnf
 ·have hk':k<l.length:=by omega
  repeat' (refine zZ ?_;conv=>whnf)
  refine⟨⟨by omega,by omega⟩,?_⟩;conv=>whnf
  rw [Ab];by_cases e:l.getD k 0=p
  ·rw [show (p == l.getD k 0)=true from beq_iff_eq.2 e.symm];exact⟨_,ri,_,rfl, .inr ⟨k,hk',rfl,e⟩⟩
  ·rw [show (p == l.getD k 0)=false from beq_eq_false_iff_ne.2 (Ne.symm e)];conv=>whnf
   repeat' (refine zZ ?_;conv=>whnf)
   exact⟨k+1,⟨hk',fun j hj=>by by_cases q:j=k;exact q ▸ e;exact hI j (by omega)⟩,by omega,zR (s:= []) ⟨⟨rfl,rfl,rfl,AR (by omega),tv⟩,tv,rfl,rfl,rfl,rfl,rfl⟩⟩
 ·have ek:k=l.length:=by omega
  subst ek;exact⟨_,ri,_,rfl, .inl ⟨rfl,hI⟩⟩
theorem Pg {ats:List Int} {bs:List (List UInt8)} {i:Nat}:∀ m,(∀ j:Nat,j<m->ats.getD j 0≠(i:Int))->Ec ats bs i m=none
 | 0,_=>rfl
 | m+1,h=>by rw [Ec,if_neg (h m (by omega)),Pg m fun j hj=>h j (by omega)]
theorem Ph {g:Geo} {ats:List Int} (h:AtsOk g ats) {bs:List (List UInt8)} {i k:Nat} (hk:k<ats.length) (e:ats.getD k 0=(i:Int)):∀ m,k<m->m<=ats.length->Ec ats bs i m=some (bs.getD k [])
 | 0,q,_=>absurd q (Ao k)
 | m+1,q,hm=>by
  rw [Ec];by_cases hq:k=m
  ·rw [<-hq,if_pos e]
  ·rw [if_neg fun q2=>hq (h.inj hk (by omega) (e.trans q2.symm)),Ph h hk e m (by omega) (by omega)]
def DR (g:Geo) (t:List Ent) (had:List (List UInt8)) (ats:List Int) (bs:List (List UInt8)) (k:Nat):List (List UInt8):=((List.range k).map (FY g t had ats bs)).filter fun b=>decide (b.length≠0)
section
variable {g:Geo} {t:List Ent} {had:List (List UInt8)} {ats:List Int} {bs:List (List UInt8)}
theorem La (k:Nat):DR g t had ats bs (k+1)=DR g t had ats bs k ++ if (FY g t had ats bs k).length=0 then [] else [FY g t had ats bs k]:=by
 unfold DR;rw [Bh,A0,List.filter_append,List.map_singleton];congr 1;by_cases h:(FY g t had ats bs k).length=0
 ·rw [if_pos h,List.filter_cons,if_neg (by simp [Bc h])];try rfl
 ·rw [if_neg h,List.filter_cons,if_pos (decide_eq_true h)];try rfl
theorem stayG_xor:∀ k,FV (DR g t had ats bs k)=EQ g t had ats bs k
 | 0=>rfl
 | k+1=>by
  have ih:=stayG_xor k;rw [La,EQ];unfold FV at ih |-
  rw [Cb,ih];split <;> rfl
theorem WV (h8:∀ b∈had,b.length=0\/b.length=8) (hb:∀ b∈bs,b.length=8) (hl:ats.length<=bs.length) (k:Nat):(DR g t had ats bs k).length<=k/\∀ b∈DR g t had ats bs k,b.length=8:=by
 refine⟨by unfold DR;exact Bq (List.length_filter_le _ _) (by simp),fun b hq=>?_⟩;unfold DR at hq;obtain⟨h1,h2⟩:=List.mem_filter.1 hq;obtain⟨i, -,rfl⟩:=AK.1 h1;rcases Ps (g:=g) (t:=t) (had:=had) (ats:=ats) (bs:=bs) h8 hb hl i with e | e
 ·exact absurd e (of_decide_eq_true h2)
 ·exact e
end
theorem Qr (g:Geo) (t:List Ent) (had:List (List UInt8)) (ats:List Int) (bs:List (List UInt8)) (stamp:Int) (hg:Bt g=true) (ht:F7 g t=true) (hh:(had.length:Int)=g.d+1) (h8:∀ b∈had,b.length=0\/b.length=8) (hA:AtsOk g ats) (hn:ats.length=bs.length) (hb:∀ b∈bs,b.length=8) (hs:0<=stamp/\stamp<=4294967295) :
  Fn Tryz.prog 177 [.ag (Ba g), .ag [BN t],Gk had,iA ats,Gk bs,iv stamp] fun r=>r = .tp [.ag [BN (B8 g t had ats bs stamp)],bA (EQ g t had ats bs g.d.toNat),iv 0]:=by
 obtain⟨g1,g2,g3,g4,g5⟩:=As.1 hg;have htl:=GM ht;have hal:=hA.len;have hz:=Uf g t had hg ht hh h8;have hr:=Ka g ats hA;have hw:=J2 bs (by omega) hb;have htw:=Sz t (by omega);have l1:(Js g t had had.length).length=had.length:=by simp [Js]
 have l2:(Jr g t had had.length).length=had.length:=by simp [Jr]
 refine zT Tryz.func177 rfl ?_;conv=>whnf
 refine z_ hz ?_;conv=>whnf
 refine z_ hr ?_;conv=>whnf
 rw [show decide (stamp<0)=false from decide_eq_false (by omega)];conv=>whnf
 rw [show decide (stamp > 4294967295)=false from decide_eq_false (by omega)];conv=>whnf
 rw [show (((bs.length:Nat):Int) != ((ats.length:Nat):Int))=false from bne_eq_false_iff_eq.2 (by rw [hn])];conv=>whnf
 refine z_ hw ?_;conv=>whnf
 refine zW htw rfl ?_;rintro _ _ ⟨rfl,rfl⟩;conv=>whnf
 refine zU Nat (fun i=>([(3,iA ats),(4,Gk bs),(5,iv stamp),(6, .bp 0 0),(12, .bp 2 0),(15,Gk (Js g t had had.length)),(16,Z3 (Jr g t had had.length)),(17, .ow 4 (DR g t had ats bs i).length),(62,iv g.d),(63,iv (i:Nat))], [.box 23 (Ba g), .box 70 [BN t], .box 70 [.ow 3 t.length], .row 97 3 ((E_ g t had ats bs stamp i).map CY), .row 47 1 ((DR g t had ats bs i).map Ii)])) (fun i=>i<=g.d.toNat) (fun i=>g.d.toNat - i) 0 (Aj _)
  ⟨_,_,zB _ _, [(17,47,1)],tA, [0,1,2,3,4],tA,tA,rfl,rfl,rfl,rfl,rfl⟩ ?_
 intro i hi;obtain⟨hsl,hs8⟩:=WV (g:=g) (t:=t) (had:=had) (ats:=ats) (bs:=bs) h8 hb (by omega) i;by_cases hin:i<g.d.toNat
 ·have hit:i<t.length:=by omega
  have hih:i<had.length:=by omega
  have hix:=WZ ats (i:Nat) (by omega);have hlo2:=Pn g t had ats bs stamp (Nat.le_of_lt hit);have hst:=La (g:=g) (t:=t) (had:=had) (ats:=ats) (bs:=bs) i;conv=>whnf
  rw [show decide ((i:Int)<g.d)=true from decide_eq_true (by omega)];conv=>whnf
  repeat' (refine zZ ?_;conv=>whnf)
  refine zM hix rfl ?_;rintro _ ⟨n,rfl,⟨rfl,hno⟩ | ⟨k,hk,rfl,hk2⟩⟩
  ·have hp:=Pg (bs:=bs) ats.length hno;have hN:FY g t had ats bs i=BJ g t had i:=by unfold FY;rw [hp]
   have hE:Ja g t had ats bs stamp i=if (BJ g t had i).length=0 then { t.getD i ez with lost:=true } else t.getD i ez:=by unfold Ja;rw [hN,hp]
   rw [hN] at hst;conv=>whnf
   repeat' (refine zZ ?_;conv=>whnf)
   refine Af ⟨by omega,by rw [l2];omega⟩ ?_;conv=>whnf
   rw [show (Jr g t had had.length).getD ((i:Nat):Int).toNat false=decide (0<(BJ g t had i).length) by rw [Ab,Jr,Aa,AW,Bi (by omega)];try rfl];by_cases hq:0<(BJ g t had i).length
   ·rw [decide_eq_true hq];rw [if_neg (by omega)] at hE hst;conv=>whnf
    repeat' (refine zZ ?_;conv=>whnf)
    refine Af ⟨by omega,by rw [l1];omega⟩ ?_;conv=>whnf
    rw [show (Js g t had had.length).getD ((i:Nat):Int).toNat []=BJ g t had i by rw [Ab,Js,Aa,AW,Bi (by omega)];try rfl];refine⟨rfl,?_⟩;refine⟨⟨by rw [Ac],by omega⟩,?_⟩;conv=>whnf
    exact⟨i+1,by omega,by omega,zR (s:= [0,1,2,3,4]) ⟨⟨rfl,rfl,rfl,rfl,rfl,rfl,rfl,congrArg (AV.ow 4) (show (DR g t had ats bs i).length+1=(DR g t had ats bs (i+1)).length by rw [hst,Ai];try rfl),rfl,AR (by omega),tv⟩,⟨rfl,rfl,rfl,congrArg (fun z=>some (AB.row 97 3 z)) (show (E_ g t had ats bs stamp i).map CY=(E_ g t had ats bs stamp (i+1)).map CY by rw [<-JE g t had ats bs stamp hit,hE,Y6 g t had ats bs stamp hit]),congrArg (fun z=>some (AB.row 47 1 z)) (show (DR g t had ats bs i).map Ii ++ [Ii (BJ g t had i)]=(DR g t had ats bs (i+1)).map Ii by rw [hst,A0];try rfl),tv⟩,rfl,rfl,rfl,rfl,rfl⟩⟩
   ·rw [decide_eq_false hq];rw [if_pos (by omega)] at hE hst;conv=>whnf
    repeat' (refine zZ ?_;conv=>whnf)
    refine⟨⟨by omega,by omega⟩,?_⟩;refine⟨⟨rfl,by rw [Ac,hlo2],by omega⟩,?_⟩;rw [Ab,show ((E_ g t had ats bs stamp i).map CY).getD i []=CY ((E_ g t had ats bs stamp i).getD i ez) from Bd (by omega),show (E_ g t had ats bs stamp i).getD i ez=t.getD i ez by rw [E_,Aa,A8 (by simp),Ac,Ca,CL,BC,C5,<-Aa]];conv=>whnf
    repeat' (refine zZ ?_;conv=>whnf)
    exact⟨i+1,by omega,by omega,zR (s:= [0,1,2,3,4]) ⟨⟨rfl,rfl,rfl,rfl,rfl,rfl,rfl,congrArg (AV.ow 4) (show (DR g t had ats bs i).length=(DR g t had ats bs (i+1)).length by rw [hst,AM]),rfl,AR (by omega),tv⟩,⟨rfl,rfl,rfl,congrArg (fun z=>some (AB.row 97 3 z)) (show ((E_ g t had ats bs stamp i).map CY).set i (CY { t.getD i ez with lost:=true })=(E_ g t had ats bs stamp (i+1)).map CY by rw [<-C6,<-hE,JE g t had ats bs stamp hit]),congrArg (fun z=>some (AB.row 47 1 (List.map Ii z))) (show DR g t had ats bs i=DR g t had ats bs (i+1) by rw [hst,AM]),tv⟩,rfl,rfl,rfl,rfl,rfl⟩⟩
  ·have hp:=Ph hA (bs:=bs) hk hk2 ats.length hk (Ag _);have hN:FY g t had ats bs i=bs.getD k []:=by unfold FY;rw [hp]
   have hb8:=hb _ (A5 (d:=([]:List UInt8)) (show k<bs.length by omega));have hE:Ja g t had ats bs stamp i=⟨stamp,(CJ (bs.getD k []):Nat),false⟩:=by unfold Ja;rw [hN,hp,if_neg (by omega)]
   have em:=PI stamp (bs.getD k []) hs hb8;have ixA:(0:Int)<=(k:Nat)/\((k:Nat):Int)<(bs.length:Nat):=by omega
   rw [hN,if_neg (by omega)] at hst;conv=>whnf
   repeat' (refine zZ ?_;conv=>whnf)
   rw [show decide (((k:Nat):Int)>=0)=true from decide_eq_true (by omega)];conv=>whnf
   apply zV (0) tys_ok mixed (.o [0,1,2,3,4,5,6,7,8,9,10,11,12,13] .fin) (by kernel_rfl);conv=>whnf
   try (refine tI ?_;conv=>whnf)
   (rw [Ab];refine z_ em ?_)
   conv=>whnf
   try (refine tI ?_;conv=>whnf)
   try (refine tS ?_;conv=>whnf)
   all_goals rw [show ((E_ g t had ats bs stamp i).map CY).getD (((i:Nat):Int)).toNat []=CY ((E_ g t had ats bs stamp i).getD i ez) by rw [Ab];exact Bd (by omega)]
   all_goals
    conv=>whnf
    repeat' (refine zZ ?_;conv=>whnf)
    refine⟨ixA,?_⟩;conv=>whnf
    rw [Ab k];refine⟨rfl,?_⟩;refine⟨⟨by rw [Ac],by omega⟩,?_⟩;conv=>whnf
    exact⟨i+1,by omega,by omega,zR (s:= [0,1,2,3,4]) ⟨⟨rfl,rfl,rfl,rfl,rfl,rfl,rfl,congrArg (AV.ow 4) (show (DR g t had ats bs i).length+1=(DR g t had ats bs (i+1)).length by rw [hst,Ai];try rfl),rfl,AR (by omega),tv⟩,⟨rfl,rfl,rfl,congrArg (fun z=>some (AB.row 97 3 z)) (show ((E_ g t had ats bs stamp i).map CY).set (((i:Nat):Int)).toNat (CY ⟨stamp,(CJ (bs.getD k []):Nat),false⟩)=(E_ g t had ats bs stamp (i+1)).map CY by rw [Ab,<-C6,<-hE,JE g t had ats bs stamp hit]),congrArg (fun z=>some (AB.row 47 1 z)) (show (DR g t had ats bs i).map Ii ++ [Ii (bs.getD k [])]=(DR g t had ats bs (i+1)).map Ii by rw [hst,A0];try rfl),tv⟩,rfl,rfl,rfl,rfl,rfl⟩⟩
 ·have ei:i=g.d.toNat:=by omega
  subst ei;have hxa:=N5 (DR g t had ats bs g.d.toNat) (by omega) hs8;rw [stayG_xor] at hxa;have hp8:(EQ g t had ats bs g.d.toNat).length=8:=Gx h8 hb (by omega) _;have he:=PI stamp (EQ g t had ats bs g.d.toNat) hs hp8;conv=>whnf
  rw [show decide (((g.d.toNat:Nat):Int)<g.d)=false from decide_eq_false (by omega)];conv=>whnf
  repeat' (refine zZ ?_;conv=>whnf)
  refine Fn.shut (args':= [.sl 1 (DR g t had ats bs g.d.toNat).length fun i=>((DR g t had ats bs g.d.toNat).map Ii).getD i [],iv 8]) (hxa.subA ⟨EM rfl rfl,fun _ _ h=>h,tv⟩) ⟨by rw [Ac],rfl,?_⟩;rintro _ rfl;conv=>whnf
  apply zV (0) tys_ok mixed (.o [0,1,2,3,4,5,6,7,8,9,10,11] .fin) (by kernel_rfl);conv=>whnf
  refine z_ he ?_;conv=>whnf
  try (refine tI ?_;conv=>whnf)
  try (refine tS ?_;conv=>whnf)
  have hdl:g.d.toNat<t.length:=by omega
  have hlo2:=Pn g t had ats bs stamp (Nat.le_of_lt hdl);have eW:(E_ g t had ats bs stamp g.d.toNat).set g.d.toNat ⟨stamp,(CJ (EQ g t had ats bs g.d.toNat):Nat),false⟩=B8 g t had ats bs stamp:=by
   rw [Lu g t had ats bs stamp hdl,B8,AI (by omega)]
  have hgl:((E_ g t had ats bs stamp g.d.toNat).map CY).getD g.d.toNat []=CY ((E_ g t had ats bs stamp g.d.toNat).getD g.d.toNat ez):=Bd (by omega);have eR:((E_ g t had ats bs stamp g.d.toNat).map CY).set g.d.toNat (CY ⟨stamp,(CJ (EQ g t had ats bs g.d.toNat):Nat),false⟩)=(B8 g t had ats bs stamp).map CY:=by rw [<-C6,eW]
  have eN:(B8 g t had ats bs stamp).length=t.length:=by simp [B8];omega
  all_goals
   refine⟨⟨rfl,by rw [Ac,hlo2],hdl⟩,?_⟩;rw [hgl];refine⟨(by rw [AX,Ac,hlo2]),?_⟩;exact⟨.tp [.ag [BN (B8 g t had ats bs stamp)],bA (EQ g t had ats bs g.d.toNat),iv 0],BS ⟨Bm ⟨B3 (f:=CY) (B8 g t had ats bs stamp) eN.symm eR,tv⟩,ri,ri,tv⟩,rfl⟩
theorem OI (g:Geo) (z:Int) (t:List Ent) (par:List UInt8) (ats:List Int) (bs:List (List UInt8)) (hg:Bt g=true) (hz:0<=z/\z<g.z) (ht:F7 g t=true) (hp:par.length=8) (hA:AtsOk g ats) (hn:ats.length=bs.length) (hb:∀ b∈bs,b.length=8) :
  Fn Tryz.prog 178 [.ag (Ba g),iv z, .ag [BN t],bA par,iA ats,Gk bs] fun r=>r = .tp [En (Ch z t par ats bs),iv 0]:=by
 obtain⟨g1,g2,g3,g4,g5⟩:=As.1 hg;have htl:=GM ht;have hal:=hA.len;have h1:=BM par (by omega);have h3:=M8 g t (by omega);rw [ht,if_pos rfl] at h3;have hr:=Ka g ats hA;have hw:=J2 bs (by omega) hb;have hwp:=J2 [par] (show 1<=1000000 by decide) (fun x hx=>by rw [AF] at hx;rw [hx];exact hp);obtain⟨I,hI⟩:∃ I:List Img,I=(List.range ats.length).map fun i=>⟨z,ats.getD i 0,bs.getD i []⟩:=⟨_,rfl⟩
 have hIl:I.length=ats.length:=by rw [hI,Ac,Ca]
 refine zT Tryz.func178 rfl ?_;conv=>whnf
 refine z_ h3 ?_;conv=>whnf
 rw [show decide (z<0)=false from decide_eq_false (by omega)];conv=>whnf
 rw [show decide (z>=g.z)=false from decide_eq_false (by omega)];conv=>whnf
 refine z_ hr ?_;conv=>whnf
 rw [show (((bs.length:Nat):Int) != ((ats.length:Nat):Int))=false from bne_eq_false_iff_eq.2 (by rw [hn])];conv=>whnf
 refine z_ hw ?_;conv=>whnf
 refine zj (args':= [.sl 1 1 fun i=>([Ii par]:List (List AV)).getD i []]) (hwp.subA ⟨EM (L:= [par]) rfl rfl,tv⟩) tA ?_;rintro _ rfl;refine⟨rfl,?_⟩;conv=>whnf
 refine zU Nat (fun k=>([(1,iv z),(3,bA par),(5,Gk bs),(14,bA (CF t)),(16, .ow 2 k),(61,iA ats),(62,iv (ats.length:Nat)),(63,iv (k:Nat))], [.box 23 (Ba g), .box 70 [BN t], .row 166 3 ((I.take k).map Dz)])) (fun k=>k<=ats.length) (fun k=>ats.length - k) 0 (Aj _)
  ⟨_,_,zB _ _, [(16,166,3)],tA, [0,1,3],tA,tA,rfl,rfl,rfl,rfl,rfl⟩ ?_
 intro k hk;by_cases hk1:k<ats.length
 ·have h2:=BM (bs.getD k []) (by have:=hb _ (A5 (d:=([]:List UInt8)) (show k<bs.length by omega));omega);have e1:(I.take k).map Dz ++ [Dz ⟨z,ats.getD k 0,bs.getD k []⟩]=(I.take (k+1)).map Dz:=by
   have e:I[k]? = some ⟨z,ats.getD k 0,bs.getD k []⟩:=by rw [hI,AW,Bi hk1];try rfl
   rw [Bk,e,A0];try rfl
  conv=>whnf
  rw [show decide (((k:Nat):Int)<((ats.length:Nat):Int))=true from decide_eq_true (by omega)];conv=>whnf
  repeat' (refine zZ ?_;conv=>whnf)
  refine⟨⟨by omega,by omega⟩,?_⟩;conv=>whnf
  repeat' (refine zZ ?_;conv=>whnf)
  refine⟨⟨by omega,by omega⟩,?_⟩;conv=>whnf
  rw [Ab];refine z_ h2 ?_;refine⟨rfl,?_⟩;conv=>whnf
  refine Af ⟨by rw [Ac,At,hIl];omega,by omega⟩ ?_;exact⟨k+1,by omega,by omega,zR (s:= [0,1,2]) ⟨⟨rfl,rfl,rfl,rfl,rfl,rfl,rfl,AR (by omega),tv⟩,⟨rfl,rfl,congrArg (fun es=>some (AB.row 166 3 es)) e1,tv⟩,rfl,rfl,rfl,rfl,rfl⟩⟩
 ·have ek:k=ats.length:=by omega
  subst ek;conv=>whnf
  rw [show decide (((ats.length:Nat):Int)<((ats.length:Nat):Int))=false from decide_eq_false (by omega)];conv=>whnf
  repeat' (refine zZ ?_;conv=>whnf)
  rw [show I.take ats.length=I by rw [<-hIl,Ay]];refine z_ h1 ?_;refine⟨rfl,?_⟩;refine⟨⟨by rw [Ac,hIl],by omega⟩,?_⟩;conv=>whnf
  refine Af (by rw [Ai,Ac,hIl];try rfl) ?_;conv=>whnf
  exact⟨.tp [En (Ch z t par ats bs),iv 0],BS ⟨B3 (f:=Dz) (Ch z t par ats bs) (Fy z t par ats bs).symm (by unfold Ch;rw [<-hI,A0];try rfl),ri,tv⟩,rfl⟩
theorem Wo (g:Geo) (s:Stt) (d:Dk) (x:Rc) (Q:Int) (hg:Bt g=true) (hx:DX g x=true) (hxl:x.img.bytes.length<=100000) (hQ:0<=Q/\Q<g.sl) (h:DkOk d) (hn:(d.cells.length:Int)=A3 g) (h1:(d.write (Bj g 0 Q) (BW g x 0 Q)).2≠8) (h2:((d.write (Bj g 0 Q) (BW g x 0 Q)).1.write (Bj g 1 Q) (BW g x 1 Q)).2≠8) :
  ACalls Tryz.prog false 111 [.bp 0 0, .ag (FX x),iv Q] (F5 g s d) fun r H=>r = .tp [.v (.bool (decide ((d.write (Bj g 0 Q) (BW g x 0 Q)).2=0) || decide (((d.write (Bj g 0 Q) (BW g x 0 Q)).1.write (Bj g 1 Q) (BW g x 1 Q)).2=0))),iv 0]/\H=F5 g s ((d.write (Bj g 0 Q) (BW g x 0 Q)).1.write (Bj g 1 Q) (BW g x 1 Q)).1:=by
 have q0:=QP (g:=g) (.inl rfl) hQ (c:=0);have q1:=QP (g:=g) (.inr rfl) hQ (c:=1);have l0:=QU g 0 Q;have l1:=QU g 1 Q;have r0:=Pa g x 0 Q hxl;have r1:=Pa g x 1 Q hxl;rw [hg,q0] at l0;rw [hg,q1] at l1;rw [hx,q0] at r0;rw [hx,q1] at r1;have b0:=FJ hg hn (.inl rfl) hQ (c:=0);have b1:=FJ hg hn (.inr rfl) hQ (c:=1);have c0:=PV g s d (Bj g 0 Q) (BW g x 0 Q) h (by omega) (D4 hx 0 Q);have hok:=h.write (a:=Bj g 0 Q) (b:=BW g x 0 Q) (by omega) (D4 hx 0 Q);have hlen:(d.write (Bj g 0 Q) (BW g x 0 Q)).1.cells.length=d.cells.length:=K4 d _ _;have c1:=PV g s (d.write (Bj g 0 Q) (BW g x 0 Q)).1 (Bj g 1 Q) (BW g x 1 Q) hok (by omega) (D4 hx 1 Q);rw [if_neg h1] at c0;rw [if_neg h2] at c1;generalize (d.write (Bj g 0 Q) (BW g x 0 Q)).1.write (Bj g 1 Q) (BW g x 1 Q)=W2 at c1 |-
 generalize d.write (Bj g 0 Q) (BW g x 0 Q)=W1 at c0 c1 |-
 generalize decide (W1.2=0)=p1 at c0 |-
 generalize decide (W2.2=0)=p2 at c1 |-
 simp only [Bool.and_self,if_true,if_pos] at l0 l1 r0 r1;cases p1 with
 | true=>
  refine zS tys_ok Tryz.func111 rfl rfl (Ah rfl) ?_;conv=>whnf
  refine zv 3 ?_;conv=>whnf
  repeat' (refine zZ ?_;conv=>whnf)
  refine z_ l0 ?_;conv=>whnf
  repeat' (refine zZ ?_;conv=>whnf)
  apply zV (0) tys_ok mixed (.o [0,1,2,3,4,5,6,7,8,9,10,11,12] .fin) (by kernel_rfl);conv=>whnf
  refine z_ r0 ?_;conv=>whnf
  repeat' (refine zZ ?_;conv=>whnf)
  refine zh [0,1,2,3,4] c0 ?_;rintro _ _ ⟨rfl,rfl⟩;conv=>whnf
  repeat' (refine zZ ?_;conv=>whnf)
  refine z_ l1 ?_;conv=>whnf
  repeat' (refine zZ ?_;conv=>whnf)
  apply zV (0) tys_ok mixed (.o [0,1,2,3,4,5,6,7,8,9,10,11,12] .fin) (by kernel_rfl);conv=>whnf
  refine z_ r1 ?_;conv=>whnf
  repeat' (refine zZ ?_;conv=>whnf)
  refine zh [0,1,2,3,4] c1 ?_;rintro _ _ ⟨rfl,rfl⟩;conv=>whnf
  repeat' (refine zZ ?_;conv=>whnf)
  exact⟨_, .tp [.v (.bool true),iv 0],F5 g s W2.1,fun _ _ h=>h,zR (s:= [0,1,2,3,4]) tA,rfl,rfl⟩
 | false=>
  refine zS tys_ok Tryz.func111 rfl rfl (Ah rfl) ?_;conv=>whnf
  refine zv 3 ?_;conv=>whnf
  repeat' (refine zZ ?_;conv=>whnf)
  refine z_ l0 ?_;conv=>whnf
  repeat' (refine zZ ?_;conv=>whnf)
  apply zV (0) tys_ok mixed (.o [0,1,2,3,4,5,6,7,8,9,10,11,12] .fin) (by kernel_rfl);conv=>whnf
  refine z_ r0 ?_;conv=>whnf
  repeat' (refine zZ ?_;conv=>whnf)
  refine zh [0,1,2,3,4] c0 ?_;rintro _ _ ⟨rfl,rfl⟩;conv=>whnf
  repeat' (refine zZ ?_;conv=>whnf)
  refine z_ l1 ?_;conv=>whnf
  repeat' (refine zZ ?_;conv=>whnf)
  apply zV (0) tys_ok mixed (.o [0,1,2,3,4,5,6,7,8,9,10,11,12] .fin) (by kernel_rfl);conv=>whnf
  refine z_ r1 ?_;conv=>whnf
  repeat' (refine zZ ?_;conv=>whnf)
  refine zh [0,1,2,3,4] c1 ?_;rintro _ _ ⟨rfl,rfl⟩;conv=>whnf
  repeat' (refine zZ ?_;conv=>whnf)
  exact⟨_, .tp [.v (.bool p2),iv 0],F5 g s W2.1,fun _ _ h=>h,zR (s:= [0,1,2,3,4]) tA,rfl,rfl⟩
theorem XS (g:Geo) (s:Stt) (d:Dk) (lba:Int) (b:List UInt8) (hg:Bt g=true) (hl:s.txns.length<=1000) (hlba:0<=lba/\lba<g.z*g.d) (hb:b.length=8) :
  ACalls Tryz.prog false 107 [.bp 0 0,iA [lba],Gk [b]] (F5 g s d) fun r H=>r = iv (if s.only then 15 else if 4 > g.sl - Df s.txns then 21 else 0)/\H=F5 g s d:=by
 obtain⟨g1,g2,g3,g4,g5⟩:=As.1 hg;have hun:=FA s.txns s.txns.length;have hn:=SG g lba hg hlba;have hu:=MK s.txns (by omega);have tsub:SubL [.sl 4 s.txns.length fun i=>(s.txns.map Ei).getD i []] [Ep s.txns]:=⟨B3 (f:=Ei) s.txns rfl rfl,tv⟩;refine zS tys_ok Tryz.func107 rfl rfl (Ah rfl) ?_;conv=>whnf
 refine zv 2 ?_;conv=>whnf
 repeat' (refine zZ ?_;conv=>whnf)
 refine⟨in01,?_⟩;conv=>whnf
 repeat' (refine zZ ?_;conv=>whnf)
 refine zA tys_ok mixed [0,1,2,3,4,5,6,7,8,9,10,11,12,13,14,15,16,17,18] (by kernel_rfl) ?_;conv=>whnf
 rw [show ((([b].getD (Int.toNat 0) []).length:Int) != 8)=false from bne_eq_false_iff_eq.2 (by show ((b.length:Nat):Int)=8;omega)];conv=>whnf
 repeat' (refine zZ ?_;conv=>whnf)
 refine z_ hn ?_;conv=>whnf
 cases ho:s.only with
 | true=>
  exact⟨_,iv 15,F5 g s d,fun _ _ h=>h,zR (s:= [0,1,2,3,4]) tA,rfl,rfl⟩
 | false=>
  conv=>whnf
  apply zL tys_ok mixed (.o [0,1,2,3,4,5,6,7,8,9,10,11,12,13,14] .fin) [72,73,74,75,76,77,78,79,80,81,82,83,84,85,86] (by kernel_rfl)
  ·conv=>whnf
   (refine zj (args':= [.sl 4 s.txns.length fun i=>(s.txns.map Ei).getD i []]) (hu.subA tsub) ⟨(Ac _).symm,rfl⟩ ?_;rintro _ rfl;refine⟨rfl,?_⟩)
   exact tA
  conv=>whnf
  rw [wi (show -9223372036854775808<=g.sl - Df s.txns/\g.sl - Df s.txns<=9223372036854775807 by unfold Df;omega)];by_cases hfull:(4:Int) > g.sl - Df s.txns
  ·rw [decide_eq_true hfull,if_pos hfull];exact⟨_,iv 21,F5 g s d,fun _ _ h=>h,zR (s:= [0,1,2,3,4]) tA,rfl,rfl⟩
  ·rw [decide_eq_false hfull,if_neg hfull];exact⟨_,iv 0,F5 g s d,fun _ _ h=>h,zR (s:= [0,1,2,3,4]) tA,rfl,rfl⟩
theorem YZ {g:Geo} {A:Int} (h:0<=A/\A<g.d):AtsOk g [A]:=⟨Nat.zero_lt_one,(by show 1<=1000;decide),fun i hi=>by
 obtain rfl:i=0:=Nat.lt_one_iff.1 hi;exact h,fun i hi=>absurd hi (by show ¬i+1<1;omega)⟩
def Er (g:Geo) (s:Stt) (G:Gr) (seq lba:Int) (b:List UInt8):List Img:=match EV g s G (lba.tdiv g.d) with
 | some t=>Ch (lba.tdiv g.d) (B8 g t (E9 g s G t (lba.tdiv g.d)) [lba.tmod g.d] [b] seq) (EQ g t (E9 g s G t (lba.tdiv g.d)) [lba.tmod g.d] [b] g.d.toNat) [lba.tmod g.d] [b]
 | none=> []
theorem PT (g:Geo) (s:Stt) (d:Dk) (G:Gr) (lba S:Int) (b:List UInt8) (hg:Bt g=true) (hl:LogB s.txns) (ha:Bv g s.a=true) (h:Gs (A3 g) d G) (himg:∀ t∈s.txns,∀ x∈t.images,By g x=true) (hF:∀ a,(G a).bytes.length<=100000) (h8:∀ a,(G a).err≠8) (hlba:0<=lba/\lba<g.z*g.d) (hb:b.length=8) (hS:0<=S/\S<=4294967295) (hB:∀ p,CC s.txns (lba.tdiv g.d) 255=some p->p.1.bytes.length<=100000/\(BX g p.1.bytes).isSome=true) (t:List Ent) (ht:EV g s G (lba.tdiv g.d)=some t) :
  ACalls Tryz.prog false 109 [.bp 0 0,iA [lba],Gk [b],iv S] (F5 g s d) fun r H=>r = .tp [En (Er g s G S lba b),iv 0]/\∃ d',Gs (A3 g) d' G/\H=F5 g s d':=by
 obtain⟨g1,g2,g3,g4,g5⟩:=As.1 hg;obtain⟨Z,hZ⟩:∃ Z,Z=lba.tdiv g.d:=⟨_,rfl⟩;obtain⟨A,hA⟩:∃ A,A=lba.tmod g.d:=⟨_,rfl⟩;have hZ2:0<=Z/\Z<g.z:=by
  rw [hZ,AU hlba.1];exact⟨Dw hlba.1 (by omega),Dq (by omega) hlba.2⟩
 have hA2:0<=A/\A<g.d:=by
  rw [hA];exact⟨Bf _ hlba.1,AL _ (by omega)⟩
 have hdiv:IntKind.i64.wrap (([lba].getD (Int.toNat 0) 0).tdiv g.d)=Z:=by
  rw [hZ];exact wi (by have:=hZ2;rw [hZ] at this;show -9223372036854775808<=lba.tdiv g.d/\lba.tdiv g.d<=9223372036854775807;omega)
 have hL:Er g s G S lba b=Ch Z (B8 g t (E9 g s G t Z) [A] [b] S) (EQ g t (E9 g s G t Z) [A] [b] g.d.toNat) [A] [b]:=by
  rw [Er,<-hZ,<-hA];rw [<-hZ] at ht;rw [ht]
 rw [hL];rw [<-hZ] at ht hB;obtain⟨L,hL⟩:∃ L,L=Ch Z (B8 g t (E9 g s G t Z) [A] [b] S) (EQ g t (E9 g s G t Z) [A] [b] g.d.toNat) [A] [b]:=⟨_,rfl⟩;rw [<-hL];have hL3:L.length=3:=by rw [hL,Fy];try rfl
 have htok:=K8 ht;have h01:∀ x∈ [b],x.length=8:=fun x hx=>by rw [AF] at hx;rw [hx];exact hb
 obtain⟨k1,k2⟩:=LF hg (s:=s) (G:=G) (t:=t) (z:=Z) himg;have hAt:AtsOk g [A]:=YZ hA2;have hpl:(EQ g t (E9 g s G t Z) [A] [b] g.d.toNat).length=8:=Gx k2 h01 (show [A].length<= [b].length from Ag 1) _;have hwr:=Qr g t (E9 g s G t Z) [A] [b] S hg htok k1 k2 hAt rfl h01 hS;have him:=OI g Z (B8 g t (E9 g s G t Z) [A] [b] S) (EQ g t (E9 g s G t Z) [A] [b] g.d.toNat) [A] [b] hg hZ2 (Fs hg htok hS) hpl hAt rfl h01;rw [<-hL] at him;refine zS tys_ok Tryz.func109 rfl rfl (Ah rfl) ?_;conv=>whnf
 refine zU (Nat × Dk × Bool) (fun x=>([(0, .bp 0 0),(1,iA [lba]),(2,Gk [b]),(3,iv S),(10,Zu L x.2.2),(27,iv g.z),(28,iv (x.1:Nat))],F5 g s x.2.1)) (fun x=>(x.1:Int)<=g.z/\Gs (A3 g) x.2.1 G/\(x.2.2=true↔Z<(x.1:Int))) (fun x=>g.z.toNat - x.1) (0,d,false) ⟨by show ((0:Nat):Int)<=g.z;omega,h,⟨fun q=>(by cases q),fun q=>absurd q (by show ¬Z<((0:Nat):Int);omega)⟩⟩
  (zR (s:= [0,1,2,3,4]) tA) ?_
 rintro⟨k,d1,p⟩ ⟨hk,hd1,hpz⟩;simp only at hk hd1 hpz;by_cases hkz:(k:Int)<g.z;rotate_left 1
 ·obtain rfl:p=true:=hpz.2 (by omega);conv=>whnf
  rw [decide_eq_false hkz];conv=>whnf
  repeat' (refine zZ ?_;conv=>whnf)
  exact⟨_, .tp [En L,iv 0],F5 g s d1,fun _ _ h=>h,zR (s:= [0,1,2,3,4]) tA,rfl,d1,hd1,rfl⟩
 by_cases he:(k:Int)=Z;rotate_left 1
 ·conv=>whnf
  rw [decide_eq_true hkz];conv=>whnf
  repeat' (refine zZ ?_;conv=>whnf)
  refine zv 2 ?_;conv=>whnf
  repeat' (refine zZ ?_;conv=>whnf)
  refine⟨in01,?_⟩;conv=>whnf
  repeat' (refine zZ ?_;conv=>whnf)
  refine⟨by omega,?_⟩;conv=>whnf
  rw [hdiv,show (Z == (k:Int))=false from beq_eq_false_iff_ne.2 fun q=>he q.symm];conv=>whnf
  repeat' (refine zZ ?_;conv=>whnf)
  cases p
  ·exact⟨(k+1,d1,false),⟨by show ((k+1:Nat):Int)<=g.z;omega,hd1,⟨fun q=>by have:=hpz.1 q;show Z<((k+1:Nat):Int);omega,fun q=>hpz.2 (by have:Z<((k+1:Nat):Int):=q;omega)⟩⟩,by show g.z.toNat - (k+1)<g.z.toNat - k;omega,zR (s:= [0,1,2,3,4]) ⟨⟨rfl,rfl,rfl,rfl,rfl,rfl,AR (by omega),tv⟩,tA,rfl,rfl,rfl,rfl,rfl⟩⟩
  ·exact⟨(k+1,d1,true),⟨by show ((k+1:Nat):Int)<=g.z;omega,hd1,⟨fun q=>by have:=hpz.1 q;show Z<((k+1:Nat):Int);omega,fun q=>hpz.2 (by have:Z<((k+1:Nat):Int):=q;omega)⟩⟩,by show g.z.toNat - (k+1)<g.z.toNat - k;omega,zR (s:= [0,1,2,3,4]) ⟨⟨rfl,rfl,rfl,rfl,rfl,rfl,AR (by omega),tv⟩,tA,rfl,rfl,rfl,rfl,rfl⟩⟩
 ·obtain rfl:p=false:=by
   cases p with
   | false=>rfl
   | true=>exact absurd (hpz.1 rfl) (by omega)
  have hgat:=Ks g s d1 G Z hg hl ha hd1 hF h8 hZ2 hB t ht;conv=>whnf
  rw [decide_eq_true hkz];conv=>whnf
  repeat' (refine zZ ?_;conv=>whnf)
  refine zU (Nat × Bool) (fun i=>([(0, .bp 0 0),(1,iA [lba]),(2,Gk [b]),(3,iv S),(10, .v (.slice none 0 0)),(11,iv (k:Nat)),(12,ZM A i.2),(13,ah b i.2),(27,iv g.z),(28,iv (k:Nat)),(31,iA [lba]),(32,iv 1),(33,iv (i.1:Nat))],F5 g s d1)) (fun i=>i.1<=1/\(i.2=true↔i.1=1)) (fun i=>1 - i.1) (0,false) ⟨by show 0<=1;omega,by decide⟩
   (zR (s:= [0,1,2,3,4]) tA) ?_
  rintro⟨i,q⟩ ⟨hi,hq⟩;simp only at hi hq;by_cases hi1:i=1;rotate_left 1
  ·obtain rfl:i=0:=by omega
   obtain rfl:q=false:=by
    cases q with
    | false=>rfl
    | true=>exact absurd (hq.1 rfl) (by decide)
   have ixA:(0:Int)<=0/\(0:Int)<(([b]:List (List UInt8)).length:Nat):=in01;conv=>whnf
   repeat' (refine zZ ?_;conv=>whnf)
   refine⟨in01,?_⟩;conv=>whnf
   repeat' (refine zZ ?_;conv=>whnf)
   refine⟨by omega,?_⟩;conv=>whnf
   rw [show IntKind.i64.wrap (([lba].getD (((0:Nat):Int)).toNat 0).tdiv g.d)=Z from hdiv,show (Z == (k:Int))=true from beq_iff_eq.2 he.symm];conv=>whnf
   repeat' (refine zZ ?_;conv=>whnf)
   apply zV (16384) tys_ok mixed (.o [0,1,2,3,4,5,6,7,10,11,12,13] (.two 8 (.two 9 (.o [14,15,16,17,18] .fin) 14 (.two 9 (.o [15,16,17,18] .fin) 15 (.o [9,16,17,18] .fin))) 14 (.two 8 (.two 9 (.o [15,16,17,18] .fin) 15 (.o [9,16,17,18] .fin)) 15 (.o [8,9,16,17,18] .fin)))) (by kernel_rfl);conv=>whnf
   try (refine tI ?_;conv=>whnf)
   try (refine tI ?_;conv=>whnf)
   refine Af ?_ ?_;refine Af ?_ ?_;conv=>whnf
   try (refine tJ ?_;conv=>whnf)
   try (refine tK ?_;conv=>whnf)
   try (refine tJ ?_;conv=>whnf)
   try (refine tK ?_;conv=>whnf)
   rotate_left 1;refine Af ?_ ?_;conv=>whnf
   try (refine tJ ?_;conv=>whnf)
   try (refine tK ?_;conv=>whnf)
   try (refine tJ ?_;conv=>whnf)
   try (refine tK ?_;conv=>whnf)
   rotate_left 1;conv=>whnf
   try (refine tJ ?_;conv=>whnf)
   try (refine tK ?_;conv=>whnf)
   try (refine tJ ?_;conv=>whnf)
   try (refine tK ?_;conv=>whnf)
   rotate_left 1;refine Af ?_ ?_;refine Af ?_ ?_;conv=>whnf
   try (refine tJ ?_;conv=>whnf)
   try (refine tK ?_;conv=>whnf)
   try (refine tJ ?_;conv=>whnf)
   try (refine tK ?_;conv=>whnf)
   rotate_left 1;conv=>whnf
   try (refine tJ ?_;conv=>whnf)
   try (refine tK ?_;conv=>whnf)
   try (refine tJ ?_;conv=>whnf)
   try (refine tK ?_;conv=>whnf)
   rotate_left 1;conv=>whnf
   try (refine tJ ?_;conv=>whnf)
   try (refine tK ?_;conv=>whnf)
   try (refine tJ ?_;conv=>whnf)
   try (refine tK ?_;conv=>whnf)
   rotate_left 1;all_goals
    conv=>whnf
    first
    | exact⟨(1,true),⟨by show 1<=1;omega,by decide⟩,by show 1 - 1<1 - 0;omega,z7 (zO (zG 12 6 rfl rfl) (zO (zC 12 rfl (Fx (L:= [A]) rfl (by rw [hA];rfl))) (zO (zG 13 7 rfl rfl) (zC 13 rfl (EM (L:= [b]) rfl rfl))))) (s:= [0,1,2,3,4]) tA⟩
    | exact⟨(1,true),⟨by show 1<=1;omega,by decide⟩,by show 1 - 1<1 - 0;omega,z7 (zO (zG 12 6 rfl rfl) (zO (zC 12 rfl (Fx (L:= [A]) rfl (by rw [hA];rfl))) (zO (zG 13 8 rfl rfl) (zC 13 rfl (EM (L:= [b]) rfl rfl))))) (s:= [0,1,2,3,4]) tA⟩
    | exact⟨(1,true),⟨by show 1<=1;omega,by decide⟩,by show 1 - 1<1 - 0;omega,z7 (zO (zG 12 7 rfl rfl) (zO (zC 12 rfl (Fx (L:= [A]) rfl (by rw [hA];rfl))) (zO (zG 13 6 rfl rfl) (zC 13 rfl (EM (L:= [b]) rfl rfl))))) (s:= [0,1,2,3,4]) tA⟩
    | exact⟨(1,true),⟨by show 1<=1;omega,by decide⟩,by show 1 - 1<1 - 0;omega,z7 (zO (zG 12 7 rfl rfl) (zO (zC 12 rfl (Fx (L:= [A]) rfl (by rw [hA];rfl))) (zO (zG 13 8 rfl rfl) (zC 13 rfl (EM (L:= [b]) rfl rfl))))) (s:= [0,1,2,3,4]) tA⟩
    | exact⟨(1,true),⟨by show 1<=1;omega,by decide⟩,by show 1 - 1<1 - 0;omega,z7 (zO (zG 12 8 rfl rfl) (zO (zC 12 rfl (Fx (L:= [A]) rfl (by rw [hA];rfl))) (zO (zG 13 6 rfl rfl) (zC 13 rfl (EM (L:= [b]) rfl rfl))))) (s:= [0,1,2,3,4]) tA⟩
    | exact⟨(1,true),⟨by show 1<=1;omega,by decide⟩,by show 1 - 1<1 - 0;omega,z7 (zO (zG 12 8 rfl rfl) (zO (zC 12 rfl (Fx (L:= [A]) rfl (by rw [hA];rfl))) (zO (zG 13 7 rfl rfl) (zC 13 rfl (EM (L:= [b]) rfl rfl))))) (s:= [0,1,2,3,4]) tA⟩
    | fail
  subst hi1;obtain rfl:q=true:=hq.2 rfl;conv=>whnf
  repeat' (refine zZ ?_;conv=>whnf)
  rw [he];refine zh [0,1,2,3,4] hgat ?_;rintro _ _ ⟨rfl,d2,hd2,rfl⟩;conv=>whnf
  repeat' (refine zZ ?_;conv=>whnf)
  apply zV (0) tys_ok mixed (.o [0,1,2,3,4,5,6,7,8] (.two 9 (.o [10,11,12,13,14,15,16,17] .fin) 14 (.o [9,10,11,12,13,15,16,17] .fin))) (by kernel_rfl);refine Af ?_ ?_;conv=>whnf
  refine z_ hwr ?_;conv=>whnf
  try (refine tS ?_;conv=>whnf)
  rotate_left 1;conv=>whnf
  refine z_ hwr ?_;conv=>whnf
  try (refine tS ?_;conv=>whnf)
  rotate_left 1;all_goals
   conv=>whnf
   repeat' (refine zZ ?_;conv=>whnf)
   apply zV (0) tys_ok mixed (.o [0,1,2,3,4,5,6,7,8,9,10,11,12,13,14] .fin) (by kernel_rfl);conv=>whnf
   refine z_ him ?_;conv=>whnf
   all_goals
    conv=>whnf
    repeat' (refine zZ ?_;conv=>whnf)
    refine⟨by omega,?_⟩;conv=>whnf
    exact⟨(k+1,d2,true),⟨by show ((k+1:Nat):Int)<=g.z;omega,hd2,⟨fun _=>by show Z<((k+1:Nat):Int);omega,fun _=>rfl⟩⟩,by show g.z.toNat - (k+1)<g.z.toNat - k;omega,z7 (zO (zG 10 7 (congrArg (AV.ow 7) (by rw [Ac,Ca])) rfl) (zC 10 rfl (Xd rfl (by rw [Ac,Ca])))) (s:= [0,1,2,3,4]) ⟨⟨rfl,rfl,rfl,rfl,rfl,rfl,by rw [<-he];exact AR (by omega),tv⟩,tA,rfl,rfl,rfl,rfl,rfl⟩⟩
theorem VolV.far {g:Geo} (hg:Bt g=true) {a:An} (ha:Bv g a=true) {l:List Tx} {F F':Int->List UInt8} {V:Int->Int->List UInt8} (h:VolV g a l F V) (e:∀ q,g.an+2*g.sl<=q->F' q=F q):VolV g a l F' V:=by
 obtain⟨g1,g2,g3,g4,g5⟩:=As.1 hg;intro z h0 h1;obtain⟨t,hz⟩:=h z h0 h1;refine⟨t,⟨?_,hz.len,hz.ent,fun w hw hw2=>?_,hz.par⟩⟩
 ·have:=hz.tab;unfold Gp at this |-
  rw [e (Bx g z 0) (by unfold Bx;omega),e (Bx g z 1) (by unfold Bx;omega)];exact this
 ·have:=hz.val w hw hw2;obtain⟨sl,e1,e2⟩:=Mk hg ha ⟨h0,h1⟩ (w:=w) ⟨hw,hw2⟩;have hsl:=GC hg ⟨h0,h1⟩ e2;rw [e (C3 g a z w) (by omega)];exact this
theorem XT {g:Geo} (hg:Bt g=true) {a:An} {l:List Tx} {F:Int->List UInt8} {lba:Int} {b:List UInt8} (himg:∀ t∈l,∀ x∈t.images,By g x=true) (hs:0<=a.seq+(l.length:Int)/\a.seq+(l.length:Int)<=4294967295) (hlba:0<=lba/\lba<g.z*g.d) (hb:b.length=8) (ht:(Gp g (Bl a l) F (lba.tdiv g.d)).isSome=true):(IB g a l F lba b).images.length=3/\(∀ x∈(IB g a l F lba b).images,By g x=true)/\OneTab (IB g a l F lba b).images:=by
 obtain⟨g1,g2,g3,g4,g5⟩:=As.1 hg;obtain⟨t,ht⟩:=Cr.1 ht;have ei:(IB g a l F lba b).images=Ch (lba.tdiv g.d) (B8 g t (EJ g (Bl a l) F t (lba.tdiv g.d)) [lba.tmod g.d] [b] (a.seq+(l.length:Int))) (EQ g t (EJ g (Bl a l) F t (lba.tdiv g.d)) [lba.tmod g.d] [b] g.d.toNat) [lba.tmod g.d] [b]:=by
  show Jg g (Bl a l) F _ lba b=_;unfold Jg;rw [ht]
 have htok:=RE ht;obtain⟨Z,hZ⟩:∃ Z,Z=lba.tdiv g.d:=⟨_,rfl⟩;obtain⟨A,hA⟩:∃ A,A=lba.tmod g.d:=⟨_,rfl⟩;have hZ2:0<=Z/\Z<g.z:=by
  rw [hZ,AU hlba.1];exact⟨Dw hlba.1 (by omega),Dq (by omega) hlba.2⟩
 have hA2:0<=A/\A<g.d:=by
  rw [hA];exact⟨Bf _ hlba.1,AL _ (by omega)⟩
 rw [<-hZ,<-hA] at ei;have hadlen:∀ x∈EJ g (Bl a l) F t Z,x.length=0\/x.length=8:=fun x hx=>by
  have himg:∀ t∈(Bl a l).txns,∀ x∈t.images,By g x=true:=himg;rcases A4.1 hx with q | q
  ·obtain⟨i,hi,rfl⟩:=AK.1 q;exact I_ himg (by have:=AO.1 hi;omega)
  ·rw [AF] at q;rw [q];exact I_ himg (by decide)
 have h01:∀ x∈ [b],x.length=8:=fun x hx=>by rw [AF] at hx;rw [hx];exact hb
 have hA3:∀ x∈ [A],0<=x/\x<g.d:=fun x hx=>by rw [AF] at hx;rw [hx];exact hA2
 rw [ei];refine⟨by rw [Fy];try rfl,fun x hx=>?_,?_⟩
 ·exact(LD hg hZ2 (Fs hg htok (by omega)) (Gx hadlen h01 (show [A].length<= [b].length from Ag 1) _) hA3 h01 (Ag 1) x hx).1
 ·exact Kl (l:= []) hg List.Pairwise.nil (fun x hx=>by cases hx) hA3
def ZE (g:Geo) (M:Md):Prop:=(M.m.length:Int)=g.z*g.d/\∃ V,VolV g M.a M.l M.F V/\∀ z w,0<=z->z<g.z->0<=w->w<g.d->M.m.getD (z*g.d+w).toNat []=V z w
theorem ZQ {g:Geo} (hg:Bt g=true) {z w:Int} (h0:0<=z) (h1:z<g.z) (h2:0<=w) (h3:w<g.d):0<=z*g.d+w/\z*g.d+w<g.z*g.d:=by
 obtain⟨g1,g2,g3,g4,g5⟩:=As.1 hg;have e1:0<=z*g.d:=CQ h0 (by omega);have e2:(z+1)*g.d<=g.z*g.d:=Cj (by omega) (by omega);rw [Int.add_mul,Int.one_mul] at e2;omega
theorem YE {g:Geo} (hg:Bt g=true):ZE g (Dg g):=by
 obtain⟨g1,g2,g3,g4,g5⟩:=As.1 hg;have hn:0<=g.z*g.d:=CQ (by omega) (by omega);refine⟨?_,_,Pw hg,fun z w h0 h1 h2 h3=>?_⟩
 ·show (((List.replicate (g.z*g.d).toNat zero8).length:Nat):Int)=_;rw [BD];omega
 ·have:=ZQ hg h0 h1 h2 h3;show (List.replicate (g.z*g.d).toNat zero8).getD _ []=zero8;rw [Aa,CV,if_pos (by omega)];try rfl
theorem Z1 {g:Geo} (hg:Bt g=true) {K:Int} (hK:K<=4294967294) {D:Dk} {M M':Md} {lba:Int} {b:List UInt8} (hlba:0<=lba/\lba<g.z*g.d) (hb:b.length=8) (hv:Vol g K D (Bl M.a M.l)) (h:ZE g M) (hc:aj g M lba b M'):ZE g M'/\Vol g (K+1) D (Bl M'.a M'.l):=by
 obtain⟨g1,g2,g3,g4,g5⟩:=As.1 hg;rcases hc with ⟨hu,ht,W,hW,rfl⟩ | ⟨-,rfl⟩
 rotate_left 1
 ·exact⟨h,⟨hv.gd,hv.an,hv.ring,hv.rest,by have:=hv.gen;omega,by have:=hv.seq;omega,hv.one⟩⟩
 obtain⟨a,l,F,m⟩:=M;obtain⟨hm,V,hV,hr⟩:=h;simp only at hu ht hW hm hV hr;have ha:Bv g a=true:=hv.an;obtain⟨a1,a2,a3,a4⟩:=FQ ha;have hseq:a.seq+l.length<=K:=hv.seq;have himg:∀ t∈l,∀ x∈t.images,By g x=true:=fun t ht=>Au.1 (DP hv.ring t ht).1
 obtain⟨c1,c2,c3⟩:=XT hg (F:=F) himg (by omega) hlba hb ht;refine⟨⟨?_,St V (IB g a l F lba b),?_,fun z w h0 h1 h2 h3=>?_⟩,?_⟩
 ·show (((m.set lba.toNat b).length:Nat):Int)=_;rw [AX];exact hm
 ·have q:=WG hg (x:=IB g a l F lba b) (by show 0<=a.seq+(l.length:Int)/\a.seq+(l.length:Int)<=4294967295;omega) himg hV (YS hg hlba hb ht);exact q.far hg ha fun p hp=>OA (by omega) _ _ rfl fun w hw e=>by have:=(hW w hw).1;omega
 ·rw [YR hg hlba ht V ⟨h2,h3⟩];show (m.set lba.toNat b).getD (z*g.d+w).toNat []=_;have hz:=ZQ hg h0 h1 h2 h3;have hdm:g.d*lba.tdiv g.d+lba.tmod g.d=lba:=Int.mul_tdiv_add_tmod lba g.d;rw [Aa,List.getElem?_set];by_cases e:z=lba.tdiv g.d/\w=lba.tmod g.d
  ·rw [if_pos e,if_pos (by rw [e.1,e.2,Int.mul_comm,hdm]),if_pos (by omega)];try rfl
  ·rw [if_neg e,if_neg fun q=>e ?_,<-Aa]
   ·exact hr z w h0 h1 h2 h3
   ·have q2:lba=z*g.d+w:=by omega
    have e1:lba.tdiv g.d=lba / g.d:=AU hlba.1;have e2:lba / g.d=z:=by
     rw [q2,Int.add_comm,Int.add_mul_ediv_right _ _ (by omega),Int.ediv_eq_zero_of_lt h2 h3,Int.zero_add]
    refine⟨by rw [e1,e2],?_⟩;rw [e1,e2,Int.mul_comm] at hdm;omega
 ·exact hv.add hg hK (d':=D) hv.gd (x:=IB g a l F lba b) rfl rfl (by show (2:Int)<=4;omega) (by show (4:Int)<=g.sl - Df l;omega) (by show (4:Int)=_;rw [c1];try rfl) c2 c3

theorem WO (g:Geo) (seq epoch:Int) (l:List Img) (hl:l.length<=100000) (hb:∀ x∈l,x.bytes.length<=100000):Fn Tryz.prog 110 [.ag (Ba g),iv seq,iv epoch,En l] fun r=>r = .tp [RQ (if Ky g seq epoch l=0 then CH seq epoch l else []),iv (Ky g seq epoch l)]:=by
 have nilr:∀ c v n,n≠0->Ky g seq epoch l=n->Rd (.tp [.v (.slice none 0 0),iv n]) c v->Rd (.tp [RQ (if Ky g seq epoch l=0 then CH seq epoch l else []),iv (Ky g seq epoch l)]) c v:=by
  intro c v n hn he h;rw [if_neg (by rw [he];exact hn),he];simp only [Rd,RdL] at h |-
  obtain⟨xs,rfl,a,_,rfl,h1,h2⟩:=h;exact⟨_,rfl,a,_,rfl,Bp _ _ _ _ (by simpa [Rd] using h1),h2⟩
 obtain⟨z,d,sp,sl,an⟩:=g;refine zT Tryz.func110 rfl ?_;conv=>whnf
 repeat' (first | (refine Am (fun h=>?_) (fun h=>?_) <;> (try simp at h) <;> conv=>whnf) | (refine z_ (DK z d sp sl an) ?_;conv=>whnf) | (refine z_ (It _ _ _) ?_;conv=>whnf))
 iterate 3 (exact⟨_,fun c v h=>nilr c v 1 (by decide) (by simp [Ky, *]) h,rfl⟩)
 rename_i h1 h2;have ht0:(Bt ⟨z,d,sp,sl,an⟩&&(C0 seq 0 4294967295&&C0 epoch 0 4294967295))=true:=by simp [*]
 clear h h1 h2;refine zP Nat (fun k=>([(1,iv seq),(2,iv epoch),(3,En l),(4, .bp 0 0),(29,En l),(30,iv l.length),(31,iv k)], [.box 23 (Ba ⟨z,d,sp,sl,an⟩)])) (fun k=>k<=l.length/\∀ i,i<k->By ⟨z,d,sp,sl,an⟩ (l.getD i ⟨0,0, []⟩)=true) (fun k=>l.length - k) 0 ⟨Aj _,by simp⟩ ⟨[],tv,tA,tA,rfl,rfl,rfl⟩ ?_;rintro k ⟨hk,hI⟩;conv=>whnf
 refine Am (fun h2=>?_) (fun h2=>?_) <;> simp at h2 <;> conv=>whnf
 ·refine⟨by first | omega | (refine⟨rfl,?_,?_⟩ <;> first | omega | (simp only [Ac];done) | (simp only [Ac];omega)) | (simp only [Ac];omega),?_⟩;conv=>whnf
  refine zM (JN ⟨z,d,sp,sl,an⟩ (l.getD k ⟨0,0, []⟩) (hb _ (A5 h2))) rfl ?_;rintro _ rfl;conv=>whnf
  refine Am (fun h3=>?_) (fun h3=>?_) <;> conv=>whnf
  ·refine⟨_,fun c v h=>nilr c v 1 (by decide) ?_ h,rfl⟩;have:l.all (By ⟨z,d,sp,sl,an⟩)=false:=by
    rw [<-BH];intro hh;have:=Au.1 hh _ (A5 (d:=⟨0,0, []⟩) h2);rw [this] at h3;simp at h3
   simp [Ky,ht0,this]
  ·refine⟨k+1,⟨by omega,fun i hi=>?_⟩,by omega, [],tv,⟨rfl,rfl,rfl,rfl,rfl,rfl,AR (by omega),tv⟩,tA,rfl,rfl,rfl⟩;rcases BV i k with h | h
   ·exact hI i h
   ·obtain rfl:i=k:=by omega
    cases hq:By ⟨z,d,sp,sl,an⟩ (l.getD i ⟨0,0, []⟩) with
    | true=>rfl
    | false=>rw [hq] at h3;simp at h3
 ·have ht1:l.all (By ⟨z,d,sp,sl,an⟩)=true:=by
   rw [Au];intro x hx;obtain⟨i,hi,rfl⟩:=List.getElem_of_mem hx;have:=hI i (by omega);rwa [Aa,Ae hi] at this
  clear hI;refine z_ (It _ _ _) ?_;conv=>whnf
  refine Am (fun h3=>?_) (fun h3=>?_) <;> simp at h3 <;> conv=>whnf
  ·exact⟨_,fun c v h=>nilr c v 2 (by decide) (by simp [Ky,ht0,ht1,h3]) h,rfl⟩
  have ht2:Ky ⟨z,d,sp,sl,an⟩ seq epoch l=0:=by simp [Ky,ht0,ht1,h3]
  clear nilr;rw [wi (by omega)];refine zP Nat (fun k=>([(1,iv seq),(2,iv epoch),(13,iv (l.length+1)),(12, .ow 1 k),(47,En l),(48,iv l.length),(49,iv k)], [.dead, .row 168 8 ((I5 seq epoch (l.length+1) k l).map FX)])) (fun k=>k<=l.length) (fun k=>l.length - k) 0 (Aj _) ⟨[(12,168,8)],tA,tA,tA,rfl,rfl,rfl⟩ ?_;rintro k hk;have hlk:=Jh seq epoch (l.length+1) k l;conv=>whnf
  refine Am (fun h2=>?_) (fun h2=>?_) <;> simp at h2 <;> conv=>whnf
  ·refine⟨by first | omega | (refine⟨rfl,?_,?_⟩ <;> first | omega | (simp only [Ac];done) | (simp only [Ac];omega)) | (simp only [Ac];omega),?_⟩;conv=>whnf
   refine zM (BM (l.getD k ⟨0,0, []⟩).bytes (by have:=hb _ (A5 (d:=⟨0,0, []⟩) h2);omega)) rfl ?_;rintro _ rfl;refine⟨rfl,?_⟩;conv=>whnf
   refine⟨⟨by rw [Ac,hlk];omega,by omega⟩,?_⟩;refine⟨k+1,by omega,by omega, [],tv,⟨rfl,rfl,rfl,rfl,rfl,rfl,AR (by omega),tv⟩,⟨Zm ?_,tv⟩,rfl,rfl,rfl⟩;rw [QX _ _ _ h2];try rfl
  ·obtain rfl:k=l.length:=by omega
   rw [wi (by omega),show (l.length:Int)+1 - 1=l.length by omega];refine⟨rfl,?_⟩;conv=>whnf
   refine⟨⟨by rw [Ac,hlk];omega,by omega⟩,?_⟩;conv=>whnf
   refine⟨by rw [Ai,Ac,hlk];simp,?_⟩;refine⟨_,fun c v h=>?_,rfl⟩;rw [ht2,if_pos rfl];simp only [Rd,RdL] at h |-
   obtain⟨xs,rfl,a,_,rfl,h1,h2⟩:=h;exact⟨_,rfl,a,_,rfl,Rd.sub (sz:=8) (Lq seq epoch l).symm (UU seq epoch l) (by simp only [Rd];exact h1),h2⟩
@[reducible] def delX (lba:Int):AV:= .fn 114 [.rp [iA [lba]]]
theorem X9 (lba:Int):Fn Tryz.prog 185 [iA [],delX lba] fun r=>r = iv (-1):=by
 refine zT Tryz.func185 rfl ?_;conv=>whnf
 refine zv 1 ?_;conv=>whnf
 repeat' (refine zZ ?_;conv=>whnf)
 exact⟨_,ri,rfl⟩
theorem VV (lba:Int):Fn Tryz.prog 113 [iA [],delX lba] fun r=>r=iA []:=by
 have h1:=X9 lba;refine zT Tryz.func113 rfl ?_;conv=>whnf
 refine z_ h1 ?_;exact⟨_,ri,rfl⟩
theorem Ys {g:Geo} {seq epoch:Int} {l:List Img} (hg:Bt g=true) (h1:C0 seq 0 4294967295=true) (h2:C0 epoch 0 4294967295=true) (h3:l.all (By g)=true) (h4:C0 l.length 1 29=true):Ky g seq epoch l=0:=by
 simp [Ky,hg,h1,h2,h3,h4]
theorem Uw {H:List AB} {t:TypeId} {g:Geo} {s:Stt} {T:List Tx} {es:List (List AV)} {n:Nat} (hj:H[0]? = some (.box t (Yi g (.bp 1 0) (.ow 4 n) (iA s.lost) s))) (hk:H[4]? = some (.row 112 4 es)) (hn:n=T.length) (he:es=T.map Ei):ConvH H ((H.set 4 .dead).set 0 (.box t (YU g (.bp 1 0) { s with txns:=T }))):=by
 subst hn he;have h4:4<H.length:=(Ar.1 hk).1;have e:=zo (H:=H) 0 4 (cs2:=Yi g (.bp 1 0) (.sl 4 (T.map Ei).length fun i=>(T.map Ei).getD i []) (iA s.lost) s) hj hk (by simp only [AA,BP,RH (Ac _).symm];rfl);have q:=ConvH.subBox (H:=(H.set 4 .dead).set 0 (.box t (Yi g (.bp 1 0) (.sl 4 (T.map Ei).length fun i=>(T.map Ei).getD i []) (iA s.lost) s))) 0 (t:=t) (cs':=YU g (.bp 1 0) { s with txns:=T }) (AH (by rw [AX];omega)) ⟨ri,ri,ri,ri,ri,ri,ri,ri,ri,ri,ri,ri,ri,B3 (f:=Ei) T (Ac _) rfl,ri,ri,ri,ri,ri,ri,tv⟩;rw [List.set_set] at q;exact e.trans q
@[reducible] def ZB (g:Geo) (s:Stt) (d:Dk):List AB:= [.box 116 (YU g (.bp 1 0) s), .box 185 (HG (.ow 2 d.cells.length) (.ow 5 d.cache.length) d.reqs d.left), .row 128 3 (d.cells.map B4), .dead, .dead, .row 134 2 (d.cache.map DZ)]
@[reducible] def conH (g:Geo) (s:Stt) (d:Dk) (lba:Int):List AB:=F5 g s d ++ [.box 35 [iA [lba]]]
theorem F9 {d:Dk} (h:d.left = -1) (a:Int) (b:List UInt8):(d.write a b).2≠8/\(d.write a b).1.left = -1:=by
 have e:d.req.left = -1:=by unfold Dk.req;rw [h];try rfl
 unfold Dk.write;rw [if_neg (by rw [h];decide)];split
 ·exact⟨by show (7:Int)≠8;decide,e⟩
 ·exact⟨by show (0:Int)≠8;decide,e⟩
def QI (g:Geo) (d:Dk) (x:Rc) (Q:Int):Dk:=((d.write (Bj g 0 Q) (BW g x 0 Q)).1.write (Bj g 1 Q) (BW g x 1 Q)).1
def Zc (g:Geo) (d:Dk) (x:Rc) (Q:Int):Bool:=decide ((d.write (Bj g 0 Q) (BW g x 0 Q)).2=0) || decide (((d.write (Bj g 0 Q) (BW g x 0 Q)).1.write (Bj g 1 Q) (BW g x 1 Q)).2=0)
def dW (g:Geo) (P:Int) (R:List Rc) (d:Dk):Nat->Dk
 | 0=>d
 | i+1=>QI g (dW g P R d i) (R.getD i rc0) (Cc g P (i:Nat))
def tW (g:Geo) (P:Int) (R:List Rc) (d:Dk) (i:Nat):Bool:=Zc g (dW g P R d i) (R.getD i rc0) (Cc g P (i:Nat))
theorem Y5 {g:Geo} (hg:Bt g=true) {d:Dk} {x:Rc} {Q:Int} (hx:DX g x=true) (hQ:0<=Q/\Q<g.sl) (h:DkOk d) (hl:d.left = -1) (hn:(d.cells.length:Int)=A3 g):DkOk (QI g d x Q)/\(QI g d x Q).left = -1/\((QI g d x Q).cells.length:Int)=A3 g:=by
 have b0:=FJ hg hn (.inl rfl) hQ (c:=0);have b1:=FJ hg hn (.inr rfl) hQ (c:=1);have h1:=h.write (a:=Bj g 0 Q) (b:=BW g x 0 Q) (by omega) (D4 hx 0 Q);have l1:=(F9 hl (Bj g 0 Q) (BW g x 0 Q)).2;have n1:=K4 d (Bj g 0 Q) (BW g x 0 Q);have h2:=h1.write (a:=Bj g 1 Q) (b:=BW g x 1 Q) (by omega) (D4 hx 1 Q);have l2:=(F9 l1 (Bj g 1 Q) (BW g x 1 Q)).2;have n2:=K4 (d.write (Bj g 0 Q) (BW g x 0 Q)).1 (Bj g 1 Q) (BW g x 1 Q);exact⟨h2,l2,by show ((((d.write _ _).1.write _ _).1.cells.length:Nat):Int)=_;omega⟩
theorem Nw {g:Geo} (hg:Bt g=true) {P:Int} {R:List Rc} {n:Nat} (hR:∀ i:Nat,i<n->DX g (R.getD i rc0)=true) (hP:∀ i:Nat,i<n->0<=Cc g P (i:Nat)/\Cc g P (i:Nat)<g.sl) {d:Dk} (h:DkOk d) (hl:d.left = -1) (hn:(d.cells.length:Int)=A3 g):∀ i,i<=n->DkOk (dW g P R d i)/\(dW g P R d i).left = -1/\((dW g P R d i).cells.length:Int)=A3 g
 | 0,_=>⟨h,hl,hn⟩
 | i+1,hi=>by
  obtain⟨q1,q2,q3⟩:=Nw hg hR hP h hl hn i (by omega);exact Y5 hg (hR i (by omega)) (hP i (by omega)) q1 q2 q3
theorem TS (g:Geo) (s:Stt) (d:Dk) (x:Rc) (Q:Int) (hg:Bt g=true) (hx:DX g x=true) (hxl:x.img.bytes.length<=100000) (hQ:0<=Q/\Q<g.sl) (h:DkOk d) (hl:d.left = -1) (hn:(d.cells.length:Int)=A3 g) :
  ACalls Tryz.prog false 111 [.bp 0 0, .ag (FX x),iv Q] (F5 g s d) fun r H=>r = .tp [.v (.bool (Zc g d x Q)),iv 0]/\H=F5 g s (QI g d x Q):=
 Wo g s d x Q hg hx hxl hQ h hn (F9 hl _ _).1 (F9 (F9 hl _ _).2 _ _).1
theorem XR (g:Geo) (a:An) (l:List Tx) (d:Dk) (G:Gr) (lba:Int) (b:List UInt8) (t:List Ent) (hg:Bt g=true) (ha:Bv g a=true) (hring:CG g l a.seq a.pos g.sl=true) (hsm:StSm (Bl a l)) (hseq:a.seq+(l.length:Int)<=4294967295) (h:Gs (A3 g) d G) (hF:∀ a,(G a).bytes.length<=100000) (h8:∀ a,(G a).err≠8) (hlba:0<=lba/\lba<g.z*g.d) (hb:b.length=8) (hroom:4<=g.sl - Df l) (hB:∀ p,CC l (lba.tdiv g.d) 255=some p->p.1.bytes.length<=100000/\(BX g p.1.bytes).isSome=true) (htab:EV g (Bl a l) G (lba.tdiv g.d)=some t) (S P:Int) (L:List Img) (hS:S=a.seq+(l.length:Int)) (hP:P=(a.pos+Df l).tmod g.sl) (hL:L=Er g (Bl a l) G S lba b) (hL3:L.length=3) (hLok:∀ x∈L,By g x=true) :
  ACalls Tryz.prog false 46 [.bp 0 0,iA [lba],Gk [b]] (F5 g (Bl a l) d) fun r H=>∃ d1,Gs (A3 g) d1 G/\(((∀ j:Nat,j<4->tW g P (CH S a.epoch L) d1 j=true)/\r = iv 0/\H=ZB g (Bl a (l ++ [⟨S,P,4,L⟩])) (dW g P (CH S a.epoch L) d1 4).flush)\/∃ k:Nat,k<4/\(∀ j:Nat,j<k->tW g P (CH S a.epoch L) d1 j=true)/\tW g P (CH S a.epoch L) d1 k=false/\r = iv 14/\H=ZB g { Bl a l with only:=true } (dW g P (CH S a.epoch L) d1 (k+1))):=by
 obtain⟨g1,g2,g3,g4,g5⟩:=As.1 hg;have hl30:l.length<=30:=hsm.t.1;have hlb:LogB (Bl a l).txns:=⟨by have:=hsm.t.1;omega,fun t ht=>⟨by have:=(hsm.t.2 t ht).1;omega,fun x hx=>by have:=(hsm.t.2 t ht).2 x hx;omega⟩⟩;have hun:=FA l l.length;obtain⟨a1,a2,a3,a4⟩:=FQ ha;have tsub:SubL [.ag (Ba g), .ag (EO a), .sl 4 l.length fun i=>(l.map Ei).getD i []] [.ag (Ba g), .ag (EO a),Ep l]:=⟨ri,ri,B3 (f:=Ei) l rfl rfl,tv⟩;have hmay:=XS g (Bl a l) d lba b hg (by show l.length<=1000;omega) hlba hb;rw [show (Bl a l).only=false from rfl,if_neg (by decide),show (Bl a l).txns=l from rfl,if_neg (by omega)] at hmay;have hnext:=SK g a l hg ha hring (by omega) (fun t ht=>⟨by have:=(hsm.t.2 t ht).1;omega,fun x hx=>by have:=(hsm.t.2 t ht).2 x hx;omega⟩) (by have:=(Me hg ha).1;omega) (by have:=(Me hg ha).2.1;omega) (by omega);have himg:=PT g (Bl a l) d G lba S b hg hlb ha h (fun t ht=>Au.1 (DP hring t ht).1) hF h8 hlba hb (by omega) hB t htab;rw [<-hS,<-hP] at hnext;rw [<-hL] at himg;have hep:0<=a.epoch/\a.epoch<=4294967295:=by
  have:=ha;simp only [Bv,AY,BE,B5,Ad,decide_eq_true_eq,AD] at this;omega
 have hLb:∀ x∈L,x.bytes.length<=45:=fun x hx=>G3 hg (hLok x hx)
 have hrec:=WO g S a.epoch L (by omega) fun x hx=>by have:=hLb x hx;omega
 have hS1:C0 S 0 4294967295=true:=AD.2 (by omega);rw [Ys hg hS1 (AD.2 hep) (Au.2 hLok) (by rw [hL3];decide),if_pos rfl] at hrec;obtain⟨R,hR⟩:∃ R,R=CH S a.epoch L:=⟨_,rfl⟩;have hRl:R.length=4:=by rw [hR,Lq,hL3]
 have hRok:∀ k:Nat,k<4->DX g (R.getD k rc0)=true/\(R.getD k rc0).img.bytes.length<=100000:=fun k hk=>by
  rw [hR,J8 _ _ _ (by omega)];split
  ·rename_i q;exact⟨NQ hg hS1 (AD.2 hep) (hLok _ (A5 (d:=⟨0,0, []⟩) q)) q hL3,by have:=hLb _ (A5 (d:=(⟨0,0, []⟩:Img)) q);show (L.getD k _).bytes.length<=_;omega⟩
  ·rw [show k=L.length by omega];exact⟨NP hg hS1 (AD.2 hep) hL3,Aj _⟩
 have hPb:∀ i:Nat,i<4->0<=Cc g P (i:Nat)/\Cc g P (i:Nat)<g.sl:=fun i hi=>Hs hg (pos:=P) (at_:=(i:Nat)) (by rw [hP];exact⟨Bf _ (by unfold Df;omega),AL _ (by omega)⟩) (by omega)
 rw [<-hR] at hrec |-
 refine zS tys_ok Tryz.func46 rfl rfl (Ah rfl) ?_;conv=>whnf
 refine zh [0,1,2,3,4] hmay ?_;rintro _ _ ⟨rfl,rfl⟩;conv=>whnf
 apply zV (0) tys_ok mixed (.o [0,1,2,3,4,5,6,7,8,9,10,11,12,13,14,15,16,17,18,19,20,21] .fin) (by kernel_rfl);conv=>whnf
 (refine zj (args':= [.ag (Ba g), .ag (EO a), .sl 4 l.length fun i=>(l.map Ei).getD i []]) (hnext.subA tsub) ⟨(Ac _).symm,rfl⟩ ?_;rintro _ rfl;refine⟨rfl,?_⟩)
 conv=>whnf
 refine zh [0,1,2,3,4] himg ?_;rintro _ _ ⟨rfl,d1,hd1,rfl⟩;have hok:=Nw hg (P:=P) (R:=R) (fun i hi=>(hRok i hi).1) hPb hd1.ok hd1.left hd1.len;conv=>whnf
 repeat' (refine zZ ?_;conv=>whnf)
 apply zV (0) tys_ok mixed (.o [0,1,2,3,4,5,6,7,8,9,10,11,12,13,14,15,16,17] .fin) (by kernel_rfl);conv=>whnf
 refine z_ hrec ?_;conv=>whnf
 refine zU Nat (fun i=>([(0, .bp 0 0),(4, .bp 5 0),(8,iv P),(9,iv S),(10,En L),(11,RQ R),(73,RQ R),(74,iv R.length),(75,iv (i:Nat))],conH g (Bl a l) (dW g P R d1 i) lba)) (fun i=>i<=4/\∀ j:Nat,j<i->tW g P R d1 j=true) (fun i=>4 - i) 0 ⟨by show 0<=4;omega,fun j hj=>absurd hj (Ao j)⟩
  (zR (s:= [0,1,2,3,4,5]) tA) ?_
 rintro i ⟨hi,hT⟩;by_cases hi4:i<4
 ·obtain⟨q1,q2,q3⟩:=hok i (by omega);have hbo:=TS g (Bl a l) (dW g P R d1 i) (R.getD i rc0) (Cc g P (i:Nat)) hg (hRok i hi4).1 (hRok i hi4).2 (hPb i hi4) q1 q2 q3;cases ht:tW g P R d1 i with
  | true=>
   rw [show Zc g (dW g P R d1 i) (R.getD i rc0) (Cc g P (i:Nat))=true from ht] at hbo;conv=>whnf
   rw [show decide ((i:Int)<(R.length:Nat))=true from decide_eq_true (by omega)];conv=>whnf
   repeat' (refine zZ ?_;conv=>whnf)
   refine⟨⟨by omega,by omega⟩,?_⟩;conv=>whnf
   rw [Ab];repeat' (refine zZ ?_;conv=>whnf)
   apply zV (2 ^ 139) tys_ok mixed (.o [0,1,2,3,4,5,6,7,8,9,10,11,12,13,14,15,16] .fin) (by kernel_rfl);conv=>whnf
   try (refine tI ?_;conv=>whnf)
   (refine zh [0,1,2,3,4] hbo ?_;rintro _ _ ⟨rfl,rfl⟩)
   conv=>whnf
   conv=>whnf
   repeat' (refine zZ ?_;conv=>whnf)
   exact⟨i+1,⟨by omega,fun j hj=>by by_cases e:j=i;exact e ▸ ht;exact hT j (by omega)⟩,by omega,zR (s:= [0,1,2,3,4,5]) ⟨⟨rfl,rfl,rfl,rfl,rfl,rfl,rfl,rfl,AR (by omega),tv⟩,tA,rfl,rfl,rfl,rfl,rfl⟩⟩
  | false=>
   rw [show Zc g (dW g P R d1 i) (R.getD i rc0) (Cc g P (i:Nat))=false from ht] at hbo;conv=>whnf
   rw [show decide ((i:Int)<(R.length:Nat))=true from decide_eq_true (by omega)];conv=>whnf
   repeat' (refine zZ ?_;conv=>whnf)
   refine⟨⟨by omega,by omega⟩,?_⟩;conv=>whnf
   rw [Ab];repeat' (refine zZ ?_;conv=>whnf)
   apply zV (2 ^ 139) tys_ok mixed (.o [0,1,2,3,4,5,6,7,8,9,10,11,12,13,14,15,16] .fin) (by kernel_rfl);conv=>whnf
   try (refine tI ?_;conv=>whnf)
   (refine zh [0,1,2,3,4] hbo ?_;rintro _ _ ⟨rfl,rfl⟩)
   conv=>whnf
   conv=>whnf
   repeat' (refine zZ ?_;conv=>whnf)
   exact⟨_,iv 14,ZB g { Bl a l with only:=true } (dW g P R d1 (i+1)),fun _ _ h=>h,z7 (zI (ConvH.trans (Uw (s:={ Bl a l with only:=true }) (T:=l) rfl rfl rfl rfl) (zu 1 3 (by decide) rfl rfl))) (s:= [0,1,2,3,4,7]) tA,d1,hd1, .inr ⟨i,hi4,hT,ht,rfl,rfl⟩⟩
 ·have ei:i=4:=by omega
  subst ei;obtain⟨q1,q2,q3⟩:=hok 4 (Ag _);have hfl:=Rm (dW g P R d1 4) q1.l q1.m fun w hw=>(q1.w w hw).1
  rw [if_neg (by rw [q2];decide),if_neg (by rw [q2];decide)] at hfl;have hdel:=VV lba;conv=>whnf
  rw [show decide (((4:Nat):Int)<(R.length:Nat))=false from decide_eq_false (by omega)];conv=>whnf
  repeat' (refine zZ ?_;conv=>whnf)
  refine zh [1,2,3] hfl ?_;rintro _ _ ⟨rfl,rfl⟩;conv=>whnf
  repeat' (refine zZ ?_;conv=>whnf)
  refine⟨rfl,?_⟩;conv=>whnf
  refine Af ⟨by rw [Ac],by show l.length+1<=1000000000;omega⟩ ?_;conv=>whnf
  repeat' (refine zZ ?_;conv=>whnf)
  refine z_ hdel ?_;conv=>whnf
  have e4:((R.length:Nat):Int)=4:=by omega
  rw [e4];exact⟨_,iv 0,ZB g (Bl a (l ++ [⟨S,P,4,L⟩])) (dW g P R d1 4).flush,fun _ _ h=>h,z7 (zI (Uw (T:=l ++ [⟨S,P,4,L⟩]) rfl rfl (by rw [Ai];try rfl) (by rw [A0];try rfl))) (s:= [0,1,2,3,4,6]) tA,d1,hd1, .inl ⟨hT,rfl,rfl⟩⟩

theorem PW (g:Geo) (a:An) (l:List Tx) (d:Dk) (G:Gr) (lba:Int) (b:List UInt8) (t:List Ent) (hg:Bt g=true) (ha:Bv g a=true) (hring:CG g l a.seq a.pos g.sl=true) (hst:Lb g d (Bl a l)=true) (hsm:StSm (Bl a l)) (hseq:a.seq+(l.length:Int)<=4294967295) (h:Gs (A3 g) d G) (hF:∀ a,(G a).bytes.length<=100000) (h8:∀ a,(G a).err≠8) (hlba:0<=lba/\lba<g.z*g.d) (hb:b.length=8) (hroom:4<=g.sl - Df l) (hB:∀ p,CC l (lba.tdiv g.d) 255=some p->p.1.bytes.length<=100000/\(BX g p.1.bytes).isSome=true) (htab:EV g (Bl a l) G (lba.tdiv g.d)=some t) (S P:Int) (L:List Img) (hS:S=a.seq+(l.length:Int)) (hP:P=(a.pos+Df l).tmod g.sl) (hL:L=Er g (Bl a l) G S lba b) (hL3:L.length=3) (hLok:∀ x∈L,By g x=true) (hsm2:StSm (Bl a (l ++ [⟨S,P,4,L⟩]))) :
  Fn Tryz.prog 16 [.ag (Ba g), .ag (Ey d), .ag (ER (Bl a l)),iA [lba],Gk [b]] fun r=>∃ d1,Gs (A3 g) d1 G/\(((∀ j:Nat,j<4->tW g P (CH S a.epoch L) d1 j=true)/\r = .tp [.ag (ER (Bl a (l ++ [⟨S,P,4,L⟩]))), .ag (Ey (dW g P (CH S a.epoch L) d1 4).flush),iv 0])\/∃ k:Nat,k<4/\(∀ j:Nat,j<k->tW g P (CH S a.epoch L) d1 j=true)/\tW g P (CH S a.epoch L) d1 k=false/\r = .tp [.ag (ER { Bl a l with only:=true }), .ag (Ey (dW g P (CH S a.epoch L) d1 (k+1))),iv 14]):=by
 have c1:=Ot g d (Bl a l) h.ok hst hsm;have c2:=XR g a l d G lba b t hg ha hring hsm hseq h hF h8 hlba hb hroom hB htab S P L hS hP hL hL3 hLok;have hsm3:StSm { Bl a l with only:=true }:=⟨hsm.h,hsm.l,hsm.t,hsm.o⟩;obtain⟨g1,g2,g3,g4,g5⟩:=As.1 hg;have hun:=FA l l.length;have hep:0<=a.epoch/\a.epoch<=4294967295:=by
  have:=ha;simp only [Bv,AY,BE,B5,Ad,decide_eq_true_eq,AD] at this;omega
 obtain⟨a1,a2,a3,a4⟩:=FQ ha;have hS1:C0 S 0 4294967295=true:=AD.2 (by omega);have hRok:∀ k:Nat,k<4->DX g ((CH S a.epoch L).getD k rc0)=true:=fun k hk=>by
  rw [J8 _ _ _ (by omega)];split
  ·rename_i q;exact NQ hg hS1 (AD.2 hep) (hLok _ (A5 (d:=⟨0,0, []⟩) q)) q hL3
  ·rw [show k=L.length by omega];exact NP hg hS1 (AD.2 hep) hL3
 have hPb:∀ i:Nat,i<4->0<=Cc g P (i:Nat)/\Cc g P (i:Nat)<g.sl:=fun i hi=>Hs hg (pos:=P) (at_:=(i:Nat)) (by rw [hP];exact⟨Bf _ (by unfold Df;omega),AL _ (by omega)⟩) (by omega)
 refine zT Tryz.func16 rfl ?_;conv=>whnf
 refine zW c1 rfl ?_;rintro _ _ ⟨rfl,rfl⟩;conv=>whnf
 refine zh [5,6,7,8,9] c2 ?_;rintro _ _ ⟨d1,hd1,⟨hT,rfl,rfl⟩ | ⟨k,hk,hT,hTk,rfl,rfl⟩⟩
 ·have hok:=Nw hg hRok hPb hd1.ok hd1.left hd1.len 4 (Ag _);have c3:=PZ _ hsm2;have c4:=Qa g (Bl a (l ++ [⟨S,P,4,L⟩])) (dW g P (CH S a.epoch L) d1 4).flush hok.1.flush;conv=>whnf
  repeat' (refine zZ ?_;conv=>whnf)
  refine z_ c3 ?_;conv=>whnf
  refine zh [5,6,7,8,10] c4 ?_;rintro _ _ ⟨rfl,rfl⟩;exact⟨_,ri,d1,hd1, .inl ⟨hT,rfl⟩⟩
 ·have hok:=Nw hg hRok hPb hd1.ok hd1.left hd1.len (k+1) (by omega);have c3:=PZ _ hsm3;have c4:=Qa g { Bl a l with only:=true } (dW g P (CH S a.epoch L) d1 (k+1)) hok.1;conv=>whnf
  repeat' (refine zZ ?_;conv=>whnf)
  refine z_ c3 ?_;conv=>whnf
  refine zh [5,6,7,8,10] c4 ?_;rintro _ _ ⟨rfl,rfl⟩;exact⟨_,ri,d1,hd1, .inr ⟨k,hk,hT,hTk,rfl⟩⟩
theorem Mz (d:Dk) (a:Int) (b:List UInt8):(d.write a b).1.cells=d.cells/\∃ W,(d.write a b).1.cache=d.cache ++ W/\∀ w∈W,w.addr=a:=by
 unfold Dk.write;split
 ·exact⟨rfl, [],(AM _).symm,fun w hw=>by cases hw⟩
 ·split
  ·exact⟨rfl, [],(AM _).symm,fun w hw=>by cases hw⟩
  ·exact⟨rfl, [⟨a,b⟩],rfl,fun w hw=>by rw [AF] at hw;rw [hw]⟩
theorem Xm {g:Geo} (d:Dk) (x:Rc) {Q:Int} (hQ:0<=Q/\Q<g.sl):(QI g d x Q).cells=d.cells/\∃ W,(QI g d x Q).cache=d.cache ++ W/\∀ w∈W,g.an<=w.addr/\w.addr<g.an+2*g.sl:=by
 obtain⟨e1,W1,c1,h1⟩:=Mz d (Bj g 0 Q) (BW g x 0 Q);obtain⟨e2,W2,c2,h2⟩:=Mz (d.write (Bj g 0 Q) (BW g x 0 Q)).1 (Bj g 1 Q) (BW g x 1 Q);refine⟨e2.trans e1,W1 ++ W2,by unfold QI;rw [c2,c1,A9],fun w hw=>?_⟩;rcases A4.1 hw with q | q
 ·rw [h1 w q];exact L8 (.inl rfl) hQ
 ·rw [h2 w q];exact L8 (.inr rfl) hQ
theorem Ro {g:Geo} {P:Int} {R:List Rc} {n:Nat} (hP:∀ i:Nat,i<n->0<=Cc g P (i:Nat)/\Cc g P (i:Nat)<g.sl) (d:Dk):∀ i,i<=n->(dW g P R d i).cells=d.cells/\∃ W,(dW g P R d i).cache=d.cache ++ W/\∀ w∈W,g.an<=w.addr/\w.addr<g.an+2*g.sl
 | 0,_=>⟨rfl, [],(AM _).symm,fun w hw=>by cases hw⟩
 | i+1,hi=>by
  obtain⟨e1,W1,c1,h1⟩:=Ro (R:=R) hP d i (by omega);obtain⟨e2,W2,c2,h2⟩:=Xm (dW g P R d i) (R.getD i rc0) (hP i (by omega));refine⟨e2.trans e1,W1 ++ W2,by show (QI g _ _ _).cache=_;rw [c2,c1,A9],fun w hw=>?_⟩;rcases A4.1 hw with q | q
  ·exact h1 w q
  ·exact h2 w q
theorem Tw {d d':Dk} (h:d'.cells=d.cells) (h1:d'.cache=d.cache) (a:Int):d'.got a=d.got a:=by
 unfold Dk.got;rw [h,h1]
theorem T1 {d:Dk} {q:Int} (hq:0<=q/\q<d.cells.length) (h:∀ w∈d.cache,0<=w.addr/\w.addr≠q):d.flush.got q=if (d.cells.getD q.toNat cz).state=0 then ((d.cells.getD q.toNat cz).bytes,0) else ([],6):=by
 have e:d.flush.cells=CK d.cells d.cache:=by
  unfold Dk.flush;rw [allFin_cells];try rfl
 unfold Dk.got;rw [e,show d.flush.cache=[] from rfl];show (if ((CK d.cells d.cache).getD q.toNat cz).state=0 then (((CK d.cells d.cache).getD q.toNat cz).bytes,(0:Int)) else ([],6))=_;rw [finL_miss _ _ _ (by omega) fun w hw=>by have:=h w hw;omega]
theorem Gs.after {g:Geo} (hg:Bt g=true) {P:Int} {R:List Rc} {n:Nat} (hR:∀ i:Nat,i<n->DX g (R.getD i rc0)=true) (hP:∀ i:Nat,i<n->0<=Cc g P (i:Nat)/\Cc g P (i:Nat)<g.sl) {d:Dk} {G:Gr} (h:Gs (A3 g) d G) (hc:d.cache=[]):Gs (A3 g) (dW g P R d n).flush (DW (dW g P R d n).flush)/\(∀ q,g.an+2*g.sl<=q->q<A3 g->DW (dW g P R d n).flush q=G q)/\(dW g P R d n).flush.cache=[]:=by
 obtain⟨g1,g2,g3,g4,g5⟩:=As.1 hg;obtain⟨h1,h2,h3⟩:=Nw hg hR hP h.ok h.left h.len n (Ag _);obtain⟨e1,W,c1,hW⟩:=Ro (R:=R) hP d n (Ag _);rw [hc,Bu] at c1;generalize dW g P R d n=D at *
 have hl:=h.len;refine⟨Gs.of h1.flush ?_ ?_,fun q q1 q2=>?_,rfl⟩
 ·unfold Dk.flush;rw [allFin_cells];show D.req.left = -1;unfold Dk.req;rw [h2];try rfl
 ·unfold Dk.flush;rw [allFin_cells];show ((CK D.cells D.cache).length:Int)=_;rw [finL_len];exact h3
 ·have hq:=h.got q (by omega) q2;have hf:=T1 (d:=D) (q:=q) ⟨by omega,by omega⟩ (by rw [c1];intro w hw;have:=hW w hw;omega);unfold DW;simp only;have hd:d.got q=D.flush.got q:=by
   rw [hf,e1];unfold Dk.got;rw [hc];try rfl
  rw [<-hd,hq]
theorem Gd.gs {n:Int} {d:Dk} {F:Int->List UInt8} (h:Gd n d F):Gs n d (DW d)/\∀ q,0<=q->q<n->DW d q=⟨0,F q⟩:=
 ⟨Gs.of h.ok h.left h.len,fun q h0 h1=>by show (⟨_,_⟩:Gt)=_;rw [h.got h0 h1]⟩
theorem NA {g:Geo} (hg:Bt g=true) {s:Stt} {G:Gr} {F:Int->List UInt8} {z:Int} (hz:0<=z/\z<g.z) (h:∀ q,g.an+2*g.sl<=q->q<A3 g->G q=⟨0,F q⟩):EV g s G z=Gp g s F z:=by
 obtain⟨g1,g2,g3,g4,g5⟩:=As.1 hg;have h0:=J1 (k:=0) hg hz (by decide);have h1:=J1 (k:=1) hg hz (by decide);unfold EV Gp;rw [h _ h0.1 h0.2.2,h _ h1.1 h1.2.2];try rfl
theorem TF (d:Dk) (h1:d.cells.length<=1000000000) (h2:d.cache.length<=1000000000) (hb:∀ c∈d.cells,c.bytes.length<=1000000000/\c.old.length<=1000000000) (hw:∀ w∈d.cache,w.bytes.length<=1000000000):ACalls Tryz.prog false 94 [.ag (Ey d)] [] fun r H=>r = .ag (HG (.ow 0 d.cells.length) (.ow 1 d.cache.length) d.reqs d.left)/\H=[.row 128 3 (d.cells.map B4), .row 134 2 (d.cache.map DZ)]:=by
 have c1:=IC d.cells h1;have c2:=Jy d.cache h2;refine zS tys_ok Tryz.func94 rfl rfl (Ah rfl) ?_;conv=>whnf
 apply zV (0) tys_ok mixed (.o [0,1,3,4,2,6,5,7,8,9] .fin) (by kernel_rfl);conv=>whnf
 (refine zW c1 rfl ?_;rintro _ _ ⟨rfl,rfl⟩)
 conv=>whnf
 (refine zW c2 rfl ?_;rintro _ _ ⟨rfl,rfl⟩)
 conv=>whnf
 try (refine tS ?_;conv=>whnf)
 try (refine tS ?_;conv=>whnf)
 refine zU Nat (fun k=>([(1, .bp 0 0),(2, .bp 1 0),(16, .ow 2 d.cells.length),(17,iv d.cells.length),(18,iv k)], [.box 43 (HG (.ow 2 d.cells.length) (.ow 3 d.cache.length) d.reqs d.left), .box 43 [.v (.slice none 0 0), .v (.slice none 0 0),iv 0,iv 0], .row 128 3 (d.cells.map B4), .row 134 2 (d.cache.map DZ)])) (fun k=>k<=d.cells.length) (fun k=>d.cells.length - k) 0 (Aj _)
  (zR (s:= [0,1,2,3]) tA) ?_
 intro k hk;conv=>whnf
 refine A6 (fun h6=>?_) (fun h6=>?_) <;> (repeat rw [Ab] at h6) <;> conv=>whnf
 ·have hk':k<d.cells.length:=by omega
  have hm:=hb _ (A5 (d:=(⟨0, [], []⟩:Cel)) hk');have b1:=BM (d.cells.getD k ⟨0, [], []⟩).bytes hm.1;have b2:=BM (d.cells.getD k ⟨0, [], []⟩).old hm.2;have hE:(d.cells.map B4).getD (k:Int).toNat []=B4 (d.cells.getD k ⟨0, [], []⟩):=by rw [Ab];exact Bd hk'
  refine⟨⟨by omega,by omega⟩,?_⟩;conv=>whnf
  refine Af ⟨rfl,(Ac _).symm,by rw [Ab];exact hk'⟩ ?_;conv=>whnf
  rw [hE];conv=>whnf
  apply zV (16) tys_ok mixed (.o [0,1,2,3,5,6,7,9,10] (.two 4 (.o [8,11,12,13,14,15,16,17] .fin) 8 (.two 4 (.o [11,12,13,14,15,16,17] .fin) 11 (.o [12,13] (.two 4 (.o [14,15,16,17] .fin) 14 (.o [4,15,16,17] .fin)))))) (by kernel_rfl);refine Af ?_ ?_;conv=>whnf
  refine z_ b1 ?_;conv=>whnf
  refine z_ b2 ?_;conv=>whnf
  try (refine tI ?_;conv=>whnf)
  try (refine tS ?_;conv=>whnf)
  (first | rw [hE] | rw [Bo (by rw [Ab,Ac];exact hk')] | skip)
  conv=>whnf
  try (refine tI ?_;conv=>whnf)
  try (refine tS ?_;conv=>whnf)
  (first | rw [hE] | rw [Bo (by rw [Ab,Ac];exact hk')] | skip)
  conv=>whnf
  rotate_left 1;conv=>whnf
  refine z_ b1 ?_;refine Af ?_ ?_;conv=>whnf
  refine z_ b2 ?_;conv=>whnf
  try (refine tI ?_;conv=>whnf)
  try (refine tS ?_;conv=>whnf)
  (first | rw [hE] | rw [Bo (by rw [Ab,Ac];exact hk')] | skip)
  conv=>whnf
  try (refine tI ?_;conv=>whnf)
  try (refine tS ?_;conv=>whnf)
  (first | rw [hE] | rw [Bo (by rw [Ab,Ac];exact hk')] | skip)
  conv=>whnf
  rotate_left 1;conv=>whnf
  refine z_ b2 ?_;conv=>whnf
  try (refine tI ?_;conv=>whnf)
  refine Af ?_ ?_;conv=>whnf
  try (refine tS ?_;conv=>whnf)
  (first | rw [hE] | rw [Bo (by rw [Ab,Ac];exact hk')] | skip)
  conv=>whnf
  try (refine tI ?_;conv=>whnf)
  try (refine tS ?_;conv=>whnf)
  (first | rw [hE] | rw [Bo (by rw [Ab,Ac];exact hk')] | skip)
  conv=>whnf
  rotate_left 1;conv=>whnf
  try (refine tS ?_;conv=>whnf)
  (first | rw [hE] | rw [Bo (by rw [Ab,Ac];exact hk')] | skip)
  conv=>whnf
  try (refine tI ?_;conv=>whnf)
  try (refine tS ?_;conv=>whnf)
  (first | rw [hE] | rw [Bo (by rw [Ab,Ac];exact hk')] | skip)
  conv=>whnf
  rotate_left 1;all_goals refine⟨k+1,hk',by omega,z7 (zI (z8 (k:=2) rfl (es':=d.cells.map B4) (by simp) ?_)) (s:= [0,1,2,3]) ⟨⟨rfl,rfl,rfl,rfl,AR (by omega),tv⟩,tA,rfl,rfl,rfl,rfl,rfl⟩⟩
  all_goals
   intro i;rw [List.set_set,Ab];refine Fu (f:=B4) (d:=(⟨0, [], []⟩:Cel)) hk' ?_ i;exact⟨fun _ _ h=>h,fun _ _ h=>h,fun _ _ h=>h,tv⟩
 ·refine zU Nat (fun k=>([(1, .bp 0 0),(2, .bp 1 0),(41, .ow 3 d.cache.length),(42,iv d.cache.length),(43,iv k)], [.box 43 (HG (.ow 2 d.cells.length) (.ow 3 d.cache.length) d.reqs d.left), .box 43 [.v (.slice none 0 0), .v (.slice none 0 0),iv 0,iv 0], .row 128 3 (d.cells.map B4), .row 134 2 (d.cache.map DZ)])) (fun k=>k<=d.cache.length) (fun k=>d.cache.length - k) 0 (Aj _)
   (zR (s:= [0,1,2,3]) tA) ?_
  intro k hk;conv=>whnf
  refine A6 (fun h7=>?_) (fun h7=>?_) <;> (repeat rw [Ab] at h7) <;> conv=>whnf
  ·have hk':k<d.cache.length:=by omega
   have hm:=hw _ (A5 (d:=(⟨0, []⟩:Wr)) hk');have b1:=BM (d.cache.getD k ⟨0, []⟩).bytes hm;have hE:(d.cache.map DZ).getD (k:Int).toNat []=DZ (d.cache.getD k ⟨0, []⟩):=by rw [Ab];exact Bd hk'
   refine⟨⟨by omega,by omega⟩,?_⟩;conv=>whnf
   refine Af ⟨rfl,(Ac _).symm,by rw [Ab];exact hk'⟩ ?_;conv=>whnf
   rw [hE];conv=>whnf
   apply zV (0) tys_ok mixed (.o [0,1,2,3,4,5,6,7,8] .fin) (by kernel_rfl);conv=>whnf
   refine z_ b1 ?_;conv=>whnf
   try (refine tI ?_;conv=>whnf)
   try (refine tS ?_;conv=>whnf)
   (first | rw [hE] | skip)
   conv=>whnf
   all_goals refine⟨k+1,hk',by omega,z7 (zI (z8 (k:=3) rfl (es':=d.cache.map DZ) (by simp) ?_)) (s:= [0,1,2,3]) ⟨⟨rfl,rfl,rfl,rfl,AR (by omega),tv⟩,tA,rfl,rfl,rfl,rfl,rfl⟩⟩
   all_goals
    intro i;rw [Ab];refine Fu (f:=DZ) (d:=(⟨0, []⟩:Wr)) hk' ?_ i;exact⟨fun _ _ h=>h,fun _ _ h=>h,tv⟩
  ·exact⟨_, .ag (HG (.ow 0 d.cells.length) (.ow 1 d.cache.length) d.reqs d.left), [.row 128 3 (d.cells.map B4), .row 134 2 (d.cache.map DZ)],fun _ _ h=>h,zR (s:= [2,3]) tA,rfl,rfl⟩
def Dk.faultX (d:Dk) (kind a frm bit bits:Int):Dk:=if (d.fault kind a frm bit bits).2=0 then (d.fault kind a frm bit bits).1 else dk0
theorem TL {d:Dk} (h:DkOk d):Fn Tryz.prog 92 [.ag (Ey d)] fun r=>r = iv 0:=by
 have:=Nv d (by have:=h.n;omega) (by have:=h.m;omega);rwa [Lz.2 h] at this
theorem TK (hfl:∀ (b:List UInt8) (bit bs:Int),b.length<=200->Fn Tryz.prog 95 [bA b,iv bit,iv bs] fun r=>r=bA (Nm b bit bs)) (d:Dk) (kind a frm bit bits:Int) (h:DkOk d):Fn Tryz.prog 35 [.ag (Ey d),iv kind,iv a,iv frm,iv bit,iv bits] fun r=>r = .tp [.ag (Ey (d.faultX kind a frm bit bits)), .v (.int .i64 (d.fault kind a frm bit bits).2)]:=by
 have hn:=h.n;have hm:=h.m;have w1:IntKind.i64.wrap ((d.cells.length:Int) - 1)=d.cells.length - 1:=wi (by omega);have i1:=Ma a 0 ((d.cells.length:Int) - 1);have i2:=Ma frm 0 ((d.cells.length:Int) - 1);have hck:=TL h;have htw:=TF d (by omega) (by omega) (fun c hc=>by have:=(h.c c hc).2;omega) (fun w hw=>by have:=(h.w w hw).2;omega);have bad:∀ e:Int,e≠0->(d.fault kind a frm bit bits).2=e->∃ r',(∀ (c:Ctx) (v:Value),Rd (.tp [.ag [nilV,nilV,ze 0,ze 0],iv e]) c v->Rd r' c v)/\r' = .tp [.ag (Ey (d.faultX kind a frm bit bits)), .v (.int .i64 (d.fault kind a frm bit bits).2)]:=fun e he hq=>by
  refine⟨_,?_,rfl⟩;rw [Dk.faultX,hq,if_neg he];exact BS ⟨Bm dk0_sub,ri,tv⟩
 refine zT Tryz.func35 rfl ?_;conv=>whnf
 refine z_ hck ?_;conv=>whnf
 rw [w1];refine z_ i1 ?_;cases hA:C0 a 0 ((d.cells.length:Int) - 1) with
 | false=>
  conv=>whnf
  exact bad 1 (by decide) (by rw [Dk.fault,if_pos hA])
 | true=>
  have ha:0<=a/\a<d.cells.length:=by rw [AD] at hA;omega
  have hmem:a.toNat<d.cells.length:=by omega
  have hgc:=Wm ha;have hA':¬C0 a 0 ((d.cells.length:Int) - 1)=false:=by rw [hA];simp
  conv=>whnf
  repeat' (refine zZ ?_;conv=>whnf)
  by_cases hc:0<d.cache.length
  ·rw [show decide ((d.cache.length:Int) > 0)=true from decide_eq_true (by omega)];conv=>whnf
   exact bad 9 (by decide) (by rw [Dk.fault,if_neg hA',if_pos hc])
  ·rw [show decide ((d.cache.length:Int) > 0)=false from decide_eq_false (by omega)];have hcn:d.cache=[]:=by cases hq:d.cache with | nil=>rfl | cons x y=>rw [hq] at hc;simp at hc
   conv=>whnf
   have hget:d.fault kind a frm bit bits=d.fault kind a frm bit bits:=rfl;conv at hget=>rhs;rw [Dk.fault,if_neg hA',if_neg hc]
   simp only at hget;refine zW htw rfl ?_;rintro _ _ ⟨rfl,rfl⟩;refine⟨ha,?_⟩;conv=>whnf
   have hb:(d.cells.getD a.toNat cz).bytes.length<=200:=(h.c _ (A5 (d:=cz) hmem)).2.1;have ho:(d.cells.getD a.toNat cz).old.length<=200:=(h.c _ (A5 (d:=cz) hmem)).2.2;have c1:=hfl (d.cells.getD a.toNat cz).bytes bit bits hb;have c2:=BM (d.cells.getD a.toNat cz).old (by omega);generalize hq:d.cells.getD a.toNat cz=c at hget hgc hb ho c1 c2;have LDB:(d.cells.map B4).length=d.cells.length:=Ac _;have LSET:∀ e:List AV,d.cells.length=((d.cells.map B4).set a.toNat e).length:=fun e=>by rw [AX,Ac]
   have OK:∀ c':Cel,d.fault kind a frm bit bits=(FP d a c',0)->∀ es:List (List AV),es=(d.cells.map B4).set a.toNat (B4 c')->∃ r',(∀ (x:Ctx) (v:Value),Rd (.tp [.ag [.sl 3 d.cells.length fun i=>es.getD i [], .sl 2 d.cache.length fun i=>(d.cache.map DZ).getD i [],iv d.reqs,iv d.left],iv 0]) x v->Rd r' x v)/\r' = .tp [.ag (Ey (d.faultX kind a frm bit bits)), .v (.int .i64 (d.fault kind a frm bit bits).2)]:=fun c' hf es he=>by
    refine⟨_,?_,rfl⟩;rw [Dk.faultX,hf,if_pos rfl];exact BS ⟨Bm ⟨B3 (f:=B4) (FP d a c').cells (by simp [FP]) (by rw [he];simp [FP,C6]),B3 (f:=DZ) d.cache rfl rfl,ri,ri,tv⟩,ri,tv⟩
   repeat' (refine zZ ?_;conv=>whnf)
   refine A6 (fun k1=>?_) (fun k1=>?_) <;> (repeat rw [Ab] at k1) <;> conv=>whnf
   ·rw [if_pos k1] at hget;refine⟨⟨rfl,LDB.symm,hmem⟩,?_⟩;conv=>whnf
    rw [hgc];conv=>whnf
    refine A6 (fun k2=>?_) (fun k2=>?_) <;> (repeat rw [Ab] at k2) <;> conv=>whnf
    ·rw [if_pos k2] at hget;refine⟨⟨rfl,LDB.symm,hmem⟩,?_⟩;conv=>whnf
     rw [hgc];conv=>whnf
     repeat' (refine zZ ?_;conv=>whnf)
     refine⟨(LSET _),?_⟩;refine Af (Ac _).symm ?_;conv=>whnf
     exact OK _ hget _ rfl
    ·rw [if_neg k2] at hget;repeat' (refine zZ ?_;conv=>whnf)
     refine⟨LDB.symm,?_⟩;refine Af (Ac _).symm ?_;conv=>whnf
     exact OK c hget _ (by have e:=congrArg (fun x=>x.cells.map B4) (Wl ha);simp only [FP,C6] at e;rw [hq] at e;exact e.symm)
   ·rw [if_neg k1] at hget;refine A6 (fun k2=>?_) (fun k2=>?_) <;> (repeat rw [Ab] at k2) <;> conv=>whnf
    ·rw [if_pos k2] at hget;refine⟨⟨rfl,LDB.symm,hmem⟩,?_⟩;conv=>whnf
     rw [hgc];conv=>whnf
     repeat' (refine zZ ?_;conv=>whnf)
     refine⟨(LSET _),?_⟩;refine Af (Ac _).symm ?_;conv=>whnf
     exact OK _ hget _ rfl
    ·rw [if_neg k2] at hget;refine A6 (fun k3=>?_) (fun k3=>?_) <;> (repeat rw [Ab] at k3) <;> conv=>whnf
     ·rw [if_pos k3] at hget;refine A6 (fun k4=>?_) (fun k4=>?_) <;> (repeat rw [Ab] at k4) <;> conv=>whnf
      ·rw [if_pos (.inl k4)] at hget;exact bad 1 (by decide) (by rw [hget])
      ·refine A6 (fun k5=>?_) (fun k5=>?_) <;> (repeat rw [Ab] at k5) <;> conv=>whnf
       ·rw [if_pos (.inr k5)] at hget;exact bad 1 (by decide) (by rw [hget])
       ·rw [if_neg (by omega)] at hget;refine⟨⟨rfl,LDB.symm,hmem⟩,?_⟩;conv=>whnf
        rw [hgc];conv=>whnf
        refine z_ c1 ?_;refine⟨⟨rfl,LDB.symm,hmem⟩,?_⟩;conv=>whnf
        rw [hgc];conv=>whnf
        repeat' (refine zZ ?_;conv=>whnf)
        refine⟨(LSET _),?_⟩;refine Af (Ac _).symm ?_;conv=>whnf
        exact OK _ hget _ rfl
     ·rw [if_neg k3] at hget;refine A6 (fun k4=>?_) (fun k4=>?_) <;> (repeat rw [Ab] at k4) <;> conv=>whnf
      ·rw [if_pos k4] at hget;refine⟨⟨rfl,LDB.symm,hmem⟩,?_⟩;conv=>whnf
       rw [hgc];conv=>whnf
       refine z_ c2 ?_;refine⟨⟨rfl,LDB.symm,hmem⟩,?_⟩;conv=>whnf
       rw [hgc];conv=>whnf
       repeat' (refine zZ ?_;conv=>whnf)
       refine⟨(LSET _),?_⟩;refine Af (Ac _).symm ?_;conv=>whnf
       exact OK _ hget _ rfl
      ·rw [if_neg k4] at hget;refine A6 (fun k5=>?_) (fun k5=>?_) <;> (repeat rw [Ab] at k5) <;> conv=>whnf
       ·rw [if_pos k5] at hget;rw [w1];refine z_ i2 ?_;cases hF:C0 frm 0 ((d.cells.length:Int) - 1) with
        | false=>
         rw [if_pos hF] at hget;conv=>whnf
         exact bad 1 (by decide) (by rw [hget])
        | true=>
         rw [if_neg (by rw [hF];simp)] at hget;have hf:0<=frm/\frm<d.cells.length:=by rw [AD] at hF;omega
         have c3:=BM (d.cells.getD frm.toNat cz).bytes (by have:=(h.c _ (A5 (d:=cz) (show frm.toNat<d.cells.length by omega))).2.1;omega);refine⟨hf,?_⟩;refine⟨⟨rfl,LDB.symm,show frm.toNat<d.cells.length by omega⟩,?_⟩;conv=>whnf
         rw [Wm hf];conv=>whnf
         refine z_ c3 ?_;refine⟨⟨rfl,LDB.symm,hmem⟩,?_⟩;conv=>whnf
         rw [hgc];conv=>whnf
         repeat' (refine zZ ?_;conv=>whnf)
         refine⟨(LSET _),?_⟩;refine Af (Ac _).symm ?_;conv=>whnf
         exact OK _ hget _ rfl
       ·rw [if_neg k5] at hget;exact bad 1 (by decide) (by rw [hget])
section
variable {g:Geo} {s:ByteArray} {b:An} {fill:UInt8} {sizes:List Int} {d:Dk} {bad0 bad1:Int->Bool}
end
theorem XA {g:Geo} {x:Img} (h:By g x=true) (hw:x.what=255):(BX g x.bytes).isSome=true:=by
 simp only [By,Ad] at h;have h2:=h.2.2;rwa [if_pos hw] at h2
theorem NB {g:Geo} (hg:Bt g=true) {l:List Tx} (h:∀ t∈l,∀ x∈t.images,By g x=true) {z:Int}:∀ p,CC l z 255=some p->p.1.bytes.length<=100000/\(BX g p.1.bytes).isSome=true:=fun p hp=>by
 obtain⟨x,s⟩:=p;obtain⟨t,ht, -,hx, -,hw⟩:=G5 (Ag _) hp;have hi:=h t ht x hx;exact⟨by have:=G3 hg hi;show x.bytes.length<=_;omega,XA hi hw⟩
theorem Na {g:Geo} (hg:Bt g=true) {s:Stt} {G:Gr} {lba S:Int} {b:List UInt8} (himg:∀ t∈s.txns,∀ x∈t.images,By g x=true) (hs:0<=S/\S<=4294967295) (hlba:0<=lba/\lba<g.z*g.d) (hb:b.length=8) {t:List Ent} (ht:EV g s G (lba.tdiv g.d)=some t):(Er g s G S lba b).length=3/\(∀ x∈Er g s G S lba b,By g x=true)/\OneTab (Er g s G S lba b):=by
 obtain⟨g1,g2,g3,g4,g5⟩:=As.1 hg;have hZ2:0<=lba.tdiv g.d/\lba.tdiv g.d<g.z:=by
  rw [AU hlba.1];exact⟨Dw hlba.1 (by omega),Dq (by omega) hlba.2⟩
 have hA2:0<=lba.tmod g.d/\lba.tmod g.d<g.d:=⟨Bf _ hlba.1,AL _ (by omega)⟩;have htok:=K8 ht;have h01:∀ x∈ [b],x.length=8:=fun x hx=>by rw [AF] at hx;rw [hx];exact hb
 have hA3:∀ x∈ [lba.tmod g.d],0<=x/\x<g.d:=fun x hx=>by rw [AF] at hx;rw [hx];exact hA2
 unfold Er;rw [ht];simp only;refine⟨by rw [Fy];try rfl,fun x hx=>?_,?_⟩
 ·exact(LD hg hZ2 (Fs hg htok hs) (Gx (LF hg himg).2 h01 (show [lba.tmod g.d].length<= [b].length from Ag 1) _) hA3 h01 (Ag 1) x hx).1
 ·exact Kl (l:= []) hg List.Pairwise.nil (fun x hx=>by cases hx) hA3
theorem XM {g:Geo} (hg:Bt g=true) {l:List Tx} {x:Tx} {Z A:Int} {t:List Ent} {par b:List UInt8} (hA:0<=A/\A<g.d) (hx:x.images=Ch Z t par [A] [b]) (w:Int) (hw:w=255\/(-1<=w/\w<255)):CC (l ++ [x]) Z w=if w=255 then some (⟨Z,255,CF t⟩,x.seq) else if w = -1 then some (⟨Z, -1,par⟩,x.seq) else if w=A then some (⟨Z,A,b⟩,x.seq) else CC l Z w:=by
 obtain⟨g1,g2,g3,g4,g5⟩:=As.1 hg;have hf:=GY Z t par [A] [b] (fun a ha=>by rw [AF] at ha;omega) w hw;rw [GX,hx,hf];by_cases h1:w=255
 ·rw [if_pos h1,if_pos h1]
 rw [if_neg h1,if_neg h1];by_cases h2:w = -1
 ·rw [if_pos h2,if_pos h2]
 rw [if_neg h2,if_neg h2];have hp:Ec [A] [b] w.toNat 1=if w=A then some b else none:=by
  show (if A=(w.toNat:Int) then some b else none)=_;by_cases h3:w=A
  ·rw [if_pos h3,if_pos (by omega)]
  ·rw [if_neg h3,if_neg (by omega)]
 unfold Tn;rw [show [A].length=1 from rfl,hp];by_cases h3:w=A
 ·rw [if_pos h3,if_pos h3,h3];try rfl
 ·rw [if_neg h3,if_neg h3];try rfl
structure Sk (k n:Int) (d:Dk) (F:Int->List UInt8) (A:Int->Prop):Prop where
 ok:DkOk d
 left:d.left = -1
 len:(d.cells.length:Int)=n
 cache:d.cache=[]
 cell:∀ a:Int,0<=a->a<n->(d.cells.getD a.toNat cz).bytes=F a/\((d.cells.getD a.toNat cz).state=0/\¬A a\/(d.cells.getD a.toNat cz).state=k/\A a)
theorem Gd.sk {k n:Int} {d:Dk} {F:Int->List UInt8} (h:Gd n d F):Sk k n d F fun _=>False:=⟨h.ok,h.left,h.len,h.cache,fun a h0 h1=>⟨(h.cell a h0 h1).2, .inl ⟨(h.cell a h0 h1).1,id⟩⟩⟩
theorem Sk.fault {k j n:Int} {d:Dk} {F:Int->List UInt8} {A:Int->Prop} (hk:k=1/\j=11\/k=2/\j=12) (h:Sk k n d F A) {q:Int} (hq:0<=q/\q<n):(d.fault j q 0 0 0).2=0/\Sk k n (d.faultX j q 0 0 0) F fun a=>A a\/a=q:=by
 have hl:=h.len;have e:d.fault j q 0 0 0=(FP d q { d.cells.getD q.toNat cz with state:=k },0):=by
  have hc:=h.cell q hq.1 hq.2;unfold Dk.fault;rw [if_neg (by rw [Bool.not_eq_false,AD];omega),if_neg (by rw [h.cache];decide)];rcases hk with ⟨rfl,rfl⟩ | ⟨rfl,rfl⟩
  ·rw [if_pos rfl];rcases hc.2 with h | h
   ·simp only [if_pos h.1]
   ·simp only [h.1];rfl
  ·rw [if_neg (by decide),if_pos rfl]
 have ho:=h.ok.fault j q 0 0 0;unfold Dk.faultX;rw [e] at ho |-
 rw [if_pos rfl];refine⟨rfl,ho.1,h.left,by rw [<-hl];exact congrArg Nat.cast ho.2.1,h.cache,fun a h0 h1=>?_⟩;have hc:=h.cell a h0 h1;show ((d.cells.set q.toNat _).getD a.toNat cz).bytes=_/\_;rw [show (FP d q { d.cells.getD q.toNat cz with state:=k }).cells=d.cells.set q.toNat { d.cells.getD q.toNat cz with state:=k } from rfl,GR _ _ _ _ (by omega)];by_cases hqa:q.toNat=a.toNat
 ·have:a=q:=by omega
  subst this;rw [if_pos rfl];exact⟨hc.1, .inr ⟨rfl, .inr rfl⟩⟩
 ·rw [if_neg hqa];refine⟨hc.1,hc.2.imp (fun x=>⟨x.1,fun y=>y.elim x.2 fun z=>hqa (by rw [z])⟩) fun x=>⟨x.1, .inl x.2⟩⟩
theorem Sk.gs {k n:Int} {d:Dk} {F:Int->List UInt8} {A:Int->Prop} (hk:k=1\/k=2) (h:Sk k n d F A) {q:Int} (h0:0<=q) (h1:q<n):(¬A q->DW d q=⟨0,F q⟩)/\(A q->(DW d q).err≠0):=by
 have hc:=h.cell q h0 h1;have e:DW d q=⟨(if (d.cells.getD q.toNat cz).state=0 then ((d.cells.getD q.toNat cz).bytes,(0:Int)) else ([],6)).2,(if (d.cells.getD q.toNat cz).state=0 then ((d.cells.getD q.toNat cz).bytes,(0:Int)) else ([],6)).1⟩:=by
  show (⟨(d.got q).2,(d.got q).1⟩:Gt)=_;unfold Dk.got;rw [h.cache];try rfl
 rw [e];refine⟨fun hA=>?_,fun hA=>?_⟩
 ·rw [if_pos (hc.2.resolve_right fun x=>hA x.2).1,hc.1]
 ·rw [if_neg (by have:=(hc.2.resolve_left fun x=>x.2 hA).1;omega)];decide
theorem Sk.stuck {n:Int} {d:Dk} {F:Int->List UInt8} {A:Int->Prop} (h:Sk 2 n d F A) {q:Int} (h0:0<=q) (h1:q<n):(A q->decide ((d.cells.getD q.toNat cz).state=2)=true)/\(¬A q->decide ((d.cells.getD q.toNat cz).state=2)=false):=by
 have hc:=h.cell q h0 h1;exact⟨fun hA=>decide_eq_true (hc.2.resolve_left fun x=>x.2 hA).1,fun hA=>decide_eq_false (by have:=(hc.2.resolve_right fun x=>hA x.2).1;omega)⟩
theorem H_ {d:Dk} (h:DkOk d) (a:Int):(DW d a).bytes.length<=100000/\(DW d a).err≠8:=by
 show (d.got a).1.length<=100000/\(d.got a).2≠8;unfold Dk.got;split
 ·rename_i w hw;have:=(h.w w (MY _ _ _ rfl hw)).2;exact⟨by show w.bytes.length<=_;omega,by show (0:Int)≠8;decide⟩
 ·split
  ·refine⟨?_,by show (0:Int)≠8;decide⟩;show (d.cells.getD a.toNat ⟨0, [], []⟩).bytes.length<=_;by_cases hi:a.toNat<d.cells.length
   ·have:=(h.c _ (A5 (d:=(⟨0, [], []⟩:Cel)) hi)).2.1;omega
   ·rw [Aa,AE (by omega)];exact Aj _
  ·exact⟨Aj _,by show (6:Int)≠8;decide⟩
theorem My {d:Dk} (hl:d.left = -1) (hc:d.cache.length<2000) (a:Int) (b:List UInt8):(d.write a b).2=(if (d.cells.getD a.toNat cz).state=2 then 7 else 0)/\(d.write a b).1.cells=d.cells/\(d.write a b).1.left = -1/\(d.write a b).1.cache.length<=d.cache.length+1:=by
 have hr:d.req.left = -1:=by unfold Dk.req;rw [hl];try rfl
 unfold Dk.write;rw [if_neg (by rw [hl];decide)];by_cases h:(d.cells.getD a.toNat cz).state=2
 ·rw [if_pos (.inl h),if_pos h];exact⟨rfl,rfl,hr,by show d.cache.length<=_;omega⟩
 ·rw [if_neg (by rintro(q | q);exact h q;omega),if_neg h];exact⟨rfl,rfl,hr,by show (d.cache ++ [_]).length<=_;rw [Ai];exact Ag _⟩
def stuck (d:Dk) (a:Int):Bool:=decide ((d.cells.getD a.toNat cz).state=2)
theorem RT {g:Geo} {d:Dk} (hl:d.left = -1) (hc:d.cache.length<1999) (x:Rc) (Q:Int):Zc g d x Q=(!(stuck d (Bj g 0 Q)&&stuck d (Bj g 1 Q)))/\(QI g d x Q).cells=d.cells/\(QI g d x Q).left = -1/\(QI g d x Q).cache.length<=d.cache.length+2:=by
 obtain⟨e1,c1,l1,n1⟩:=My hl (by omega) (Bj g 0 Q) (BW g x 0 Q);obtain⟨e2,c2,l2,n2⟩:=My l1 (by omega) (Bj g 1 Q) (BW g x 1 Q);refine⟨?_,by unfold QI;rw [c2,c1],l2,by unfold QI;omega⟩;unfold Zc stuck;rw [e2,e1,c1];by_cases h1:(d.cells.getD (Bj g 0 Q).toNat cz).state=2 <;> by_cases h2:(d.cells.getD (Bj g 1 Q).toNat cz).state=2 <;> simp_all
theorem VY {g:Geo} {P:Int} {R:List Rc} {d:Dk} (hl:d.left = -1) (hc:d.cache=[]):∀ i:Nat,i<=100->(dW g P R d i).cells=d.cells/\(dW g P R d i).left = -1/\(dW g P R d i).cache.length<=2*i
 | 0,_=>⟨rfl,hl,by show d.cache.length<=_;rw [hc];exact Aj _⟩
 | i+1,hi=>by
  obtain⟨e1,l1,n1⟩:=VY (R:=R) (P:=P) hl hc i (by omega);obtain⟨-,e2,l2,n2⟩:=RT (g:=g) l1 (by omega) (R.getD i rc0) (Cc g P (i:Nat));exact⟨e2.trans e1,l2,by show (QI g _ _ _).cache.length<=_;omega⟩
theorem Yu {g:Geo} {P:Int} {R:List Rc} {d:Dk} (hl:d.left = -1) (hc:d.cache=[]) (i:Nat) (hi:i<=100):tW g P R d i = !(stuck d (Bj g 0 (Cc g P (i:Nat)))&&stuck d (Bj g 1 (Cc g P (i:Nat)))):=by
 obtain⟨e1,l1,n1⟩:=VY (g:=g) (R:=R) (P:=P) hl hc i hi;obtain⟨e2, -⟩:=RT (g:=g) l1 (by omega) (R.getD i rc0) (Cc g P (i:Nat));unfold tW;rw [e2];unfold stuck;rw [e1]
@[reducible] def bwZ (g:Geo) (s:Stt) (d:Dk):List AB:= [.box 116 (Yi g (.bp 1 0) (.ow 4 s.txns.length) (iA s.lost) s), .box 185 (HG (.ow 2 d.cells.length) (.ow 3 d.cache.length) d.reqs d.left), .dead, .dead, .row 112 4 (s.txns.map Ei)]
theorem JV (g:Geo) (s:Stt) (d:Dk) (h:DkOk d):ACalls Tryz.prog false 44 [.bp 0 0] (F5 g s d) fun r H=>r = .ag (Ey d)/\H=bwZ g s d:=by
 have ht:=PM d (by have:=h.n;omega) (by have:=h.m;omega) (fun c hc=>by have:=(h.c c hc).2;omega) (fun w hw=>by have:=(h.w w hw).2;omega);refine zS tys_ok Tryz.func44 rfl rfl (Ah rfl) ?_;conv=>whnf
 refine zQ ht.go ?_;refine Af (Ac _).symm ?_;refine Af (Ac _).symm ?_;conv=>whnf
 refine zY [.ag (Ey d)] ⟨Bm ⟨B3 (f:=B4) d.cells rfl rfl,B3 (f:=DZ) d.cache rfl rfl,ri,ri,tv⟩,tv⟩ ?_;refine z_ ht ?_;exact⟨_, .ag (Ey d),bwZ g s d,fun _ _ h=>h,zR (s:= [0,1,2,3,4]) tA,rfl,rfl⟩
def Z2 (o:Option (List UInt8)) (d:Dk):AV:=match o with
 | some b=> .tp [bA b, .ag (Ey d),iv 0]
 | none=> .tp [bA [], .ag (Ey d),iv 13]
theorem Ru (g:Geo) (s:Stt) (d:Dk) (G:Gr) (lba:Int) (hg:Bt g=true) (hst:Lb g d s=true) (hsm:StSm s) (himg:∀ t∈s.txns,∀ x∈t.images,By g x=true) (ha:Bv g s.a=true) (h:Gs (A3 g) d G) (hF:∀ a,(G a).bytes.length<=100000) (h8:∀ a,(G a).err≠8) (hb:0<=lba/\lba<g.z*g.d) (hB:∀ p,CC s.txns (lba.tdiv g.d) 255=some p->p.1.bytes.length<=100000/\(BX g p.1.bytes).isSome=true) :
  Fn Tryz.prog 12 [.ag (Ba g), .ag (Ey d), .ag (ER s),iv lba] fun r=>∃ d',Gs (A3 g) d' G/\r=Z2 (Mu g s G (lba.tdiv g.d) (lba.tmod g.d)) d':=by
 have c1:=Ot g d s h.ok hst hsm;have hlb:LogB s.txns:=⟨by have:=hsm.t.1;omega,fun t ht=>⟨by have:=(hsm.t.2 t ht).1;omega,fun x hx=>by have:=(hsm.t.2 t ht).2 x hx;omega⟩⟩;have c2:=Oo g s d G lba hg hlb himg ha h hF h8 hb hB;cases hO:Mu g s G (lba.tdiv g.d) (lba.tmod g.d) with
 | some b=>
  rw [hO] at c2;refine zT Tryz.func12 rfl ?_;conv=>whnf
  refine zW c1 rfl ?_;rintro _ _ ⟨rfl,rfl⟩;conv=>whnf
  refine zh [4,5,6,7,8] c2 ?_;rintro _ _ ⟨rfl,d2,hd2,rfl⟩;have c4:=JV g s d2 hd2.ok;conv=>whnf
  refine zh [4,5,6,7,8] c4 ?_;rintro _ _ ⟨rfl,rfl⟩;exact⟨_,ri,d2,hd2,rfl⟩
 | none=>
  rw [hO] at c2;refine zT Tryz.func12 rfl ?_;conv=>whnf
  refine zW c1 rfl ?_;rintro _ _ ⟨rfl,rfl⟩;conv=>whnf
  refine zh [4,5,6,7,8] c2 ?_;rintro _ _ ⟨rfl,d2,hd2,rfl⟩;have c4:=JV g s d2 hd2.ok;conv=>whnf
  refine zh [4,5,6,7,8] c4 ?_;rintro _ _ ⟨rfl,rfl⟩;exact⟨_,ri,d2,hd2,rfl⟩
theorem Vol.st2 {g:Geo} {K:Int} {d0 d:Dk} {s:Stt} (hg:Bt g=true) (h:Vol g K d0 s) (hd:DkOk d) (hn:(d.cells.length:Int)=A3 g) (o:Bool):Lb g d { s with only:=o }=true:=by
 obtain⟨r1,r2,r3,r4,r5,r6⟩:=h.rest;have hu:=KS hg;have hh:Ef g { s with only:=o }=true:=by
  unfold Ef;rw [show ({ s with only:=o }:Stt).found=0 from r3,show ({ s with only:=o }:Stt).fixed=0 from r4,show ({ s with only:=o }:Stt).moved=0 from r5,show ({ s with only:=o }:Stt).lost=[] from r6];try rfl
 unfold Lb;rw [hh,hg,Lz.2 hd,decide_eq_true hn,show ({ s with only:=o }:Stt).a=s.a from rfl,show ({ s with only:=o }:Stt).txns=s.txns from rfl,show ({ s with only:=o }:Stt).cursor=0 from r2,h.an,h.ring,decide_eq_true (show (0:Int)<Gh g by omega)];try rfl
structure Un (g:Geo) (d:Dk):Prop where
 ok:DkOk d
 left:d.left = -1
 len:(d.cells.length:Int)=A3 g
 cache:d.cache=[]
def Mt (g:Geo) (a:An) (l:List Tx) (G:Gr) (lba:Int) (b:List UInt8):Tx:=⟨a.seq+(l.length:Int),(a.pos+Df l).tmod g.sl,4,Er g (Bl a l) G (a.seq+(l.length:Int)) lba b⟩
def Kt (g:Geo) (d:Dk) (P:Int) (j:Nat):Bool:=stuck d (Bj g 0 (Cc g P (j:Nat)))&&stuck d (Bj g 1 (Cc g P (j:Nat)))
theorem VZ {g:Geo} {K:Int} {d0:Dk} {a:An} {l:List Tx} {G:Gr} {lba:Int} {b:List UInt8} {t:List Ent} (hg:Bt g=true) (hv:Vol g K d0 (Bl a l)) (hK:K<=4294967294) (hlba:0<=lba/\lba<g.z*g.d) (hb:b.length=8) (hroom:4<=g.sl - Df l) (ht:EV g (Bl a l) G (lba.tdiv g.d)=some t):Vol g (K+1) d0 (Bl a (l ++ [Mt g a l G lba b]))/\(Mt g a l G lba b).images.length=3:=by
 have ha:=(FQ hv.an).2.1;have hq:a.seq+(l.length:Int)<=K:=hv.seq;have ha1:1<=a.seq:=ha.1;have himg:∀ t∈l,∀ x∈t.images,By g x=true:=fun t ht=>Au.1 (DP hv.ring t ht).1
 obtain⟨c1,c2,c3⟩:=Na hg (s:=Bl a l) (G:=G) (S:=a.seq+(l.length:Int)) himg (by omega) hlba hb ht;exact⟨hv.add hg hK hv.gd (x:=Mt g a l G lba b) rfl rfl (by show (2:Int)<=4;omega) (by show (4:Int)<=g.sl - Df l;omega) (by show (4:Int)=((Er g (Bl a l) G (a.seq+(l.length:Int)) lba b).length:Int)+1;omega) c2 c3,c1⟩
theorem PD {d:Dk} {q:Int} (h:stuck d.flush q=true):stuck d q=true:=by
 have e:d.flush.cells=CK d.cells d.cache:=by
  unfold Dk.flush;rw [allFin_cells];try rfl
 unfold stuck at h |-
 rw [decide_eq_true_eq,e] at h;rw [decide_eq_true_eq];by_cases hi:q.toNat<d.cells.length
 ·rcases finL_any d.cache d.cells q.toNat hi with e | ⟨-,e, -⟩
  ·rwa [e] at h
  ·rw [e] at h;cases h
 ·rw [Aa,AE (by rw [finL_len];omega)] at h;cases h
theorem Wn {g:Geo} {K:Int} {d0 d:Dk} {a:An} {l:List Tx} {lba:Int} {b:List UInt8} {t:List Ent} (hg:Bt g=true) (hv:Vol g K d0 (Bl a l)) (hK:K<=4294967294) (hd:Un g d) (hlba:0<=lba/\lba<g.z*g.d) (hb:b.length=8) (hroom:4<=g.sl - Df l) (ht:EV g (Bl a l) (DW d) (lba.tdiv g.d)=some t) (P:Int) (hP:P=(a.pos+Df l).tmod g.sl) :
  Fn Tryz.prog 16 [.ag (Ba g), .ag (Ey d), .ag (ER (Bl a l)),iA [lba],Gk [b]] fun r=>((∀ j:Nat,j<4->Kt g d P j=false)/\∃ d',Un g d'/\(∀ q,g.an+2*g.sl<=q->q<A3 g->DW d' q=DW d q)/\(∀ q,stuck d' q=true->stuck d q=true)/\r = .tp [.ag (ER (Bl a (l ++ [Mt g a l (DW d) lba b]))), .ag (Ey d'),iv 0])\/((∃ j:Nat,j<4/\Kt g d P j=true)/\∃ d',(DkOk d'/\(d'.cells.length:Int)=A3 g)/\r = .tp [.ag (ER { Bl a l with only:=true }), .ag (Ey d'),iv 14]):=by
 have hsm:=hv.sm hg;have ha:Bv g a=true:=hv.an;have hring:CG g l a.seq a.pos g.sl=true:=hv.ring;have himg:∀ t∈l,∀ x∈t.images,By g x=true:=fun t ht=>Au.1 (DP hring t ht).1
 obtain⟨a1,a2,a3,a4⟩:=FQ ha;have hseq:a.seq+(l.length:Int)<=K:=hv.seq;obtain⟨g1,g2,g3,g4,g5⟩:=As.1 hg;obtain⟨hv2,hL3⟩:=VZ hg hv hK hlba hb hroom ht;have hG:=Gs.of hd.ok hd.left hd.len;obtain⟨-,hLok, -⟩:=Na hg (s:=Bl a l) (G:=DW d) (S:=a.seq+(l.length:Int)) himg (by omega) hlba hb ht;obtain⟨L,hL⟩:∃ L,L=Er g (Bl a l) (DW d) (a.seq+(l.length:Int)) lba b:=⟨_,rfl⟩;have hcm:Mt g a l (DW d) lba b=⟨a.seq+(l.length:Int),P,4,L⟩:=by rw [hL,hP];try rfl
 rw [hcm] at hL3 hv2 |-
 rw [<-hL] at hLok;have hst:=hv.st2 hg hd.ok hd.len false;have hc:=PW g a l d (DW d) lba b t hg ha hring hst hsm (by omega) hG (fun a=>(H_ hd.ok a).1) (fun a=>(H_ hd.ok a).2) hlba hb hroom (NB hg himg) ht (a.seq+(l.length:Int)) P L rfl hP hL hL3 hLok (hv2.sm hg);have hep:0<=a.epoch/\a.epoch<=4294967295:=by
  have:=ha;simp only [Bv,AY,BE,B5,Ad,decide_eq_true_eq,AD] at this;omega
 have hS1:C0 (a.seq+(l.length:Int)) 0 4294967295=true:=AD.2 (by omega);have hLb:∀ x∈L,x.bytes.length<=45:=fun x hx=>G3 hg (hLok x hx)
 have hLen:L.length=3:=hL3;have hRok:∀ k:Nat,k<4->DX g ((CH (a.seq+(l.length:Int)) a.epoch L).getD k rc0)=true:=fun k hk=>by
  rw [J8 _ _ _ (by omega)];split
  ·rename_i q;exact NQ hg hS1 (AD.2 hep) (hLok _ (A5 (d:=⟨0,0, []⟩) q)) q hLen
  ·rw [show k=L.length by omega];exact NP hg hS1 (AD.2 hep) hLen
 have hPb:∀ i:Nat,i<4->0<=Cc g P (i:Nat)/\Cc g P (i:Nat)<g.sl:=fun i hi=>Hs hg (pos:=P) (at_:=(i:Nat)) (by rw [hP];have:=FA l l.length;exact⟨Bf _ (by unfold Df;omega),AL _ (by omega)⟩) (by omega)
 refine hc.mono fun r hr=>?_
 obtain⟨d1,hd1,hr⟩:=hr;have ec:d1.cells=d.cells:=hd1.cells;have ek:d1.cache=[]:=hd1.cache.trans hd.cache;have hT:∀ j:Nat,j<4->tW g P (CH (a.seq+(l.length:Int)) a.epoch L) d1 j = !Kt g d P j:=fun j hj=>by
  rw [Yu hd1.left ek j (by omega)];unfold Kt stuck;rw [ec]
 rcases hr with ⟨ht,rfl⟩ | ⟨k,hk, -,htk,rfl⟩
 ·obtain⟨n1,n2,n3⟩:=Gs.after hg hRok hPb hd1 ek;refine .inl ⟨fun j hj=>by have:=ht j hj;rw [hT j hj] at this;simpa using this,_,⟨n1.ok,n1.left,n1.len,n3⟩,n2,fun q hq=>?_,rfl⟩;have hq:=PD hq;unfold stuck at hq |-
  rwa [(Ro hPb d1 4 (Ag _)).1,ec] at hq
 ·obtain⟨m1,m2,m3⟩:=Nw hg hRok hPb hd1.ok hd1.left hd1.len (k+1) (by omega);exact .inr ⟨⟨k,hk,by rw [hT k hk] at htk;simpa using htk⟩,_,⟨m1,m3⟩,rfl⟩
theorem Wp {g:Geo} {K:Int} {d0 d:Dk} {a:An} {l:List Tx} {lba:Int} (hg:Bt g=true) (hv:Vol g K d0 (Bl a l)) (hd:Un g d) (hlba:0<=lba/\lba<g.z*g.d) :
  Fn Tryz.prog 12 [.ag (Ba g), .ag (Ey d), .ag (ER (Bl a l)),iv lba] fun r=>∃ d',Gs (A3 g) d' (DW d)/\r=Z2 (Mu g (Bl a l) (DW d) (lba.tdiv g.d) (lba.tmod g.d)) d':=by
 have himg:∀ t∈l,∀ x∈t.images,By g x=true:=fun t ht=>Au.1 (DP hv.ring t ht).1
 exact Ru g (Bl a l) d (DW d) lba hg (hv.st2 hg hd.ok hd.len false) (hv.sm hg) himg hv.an (Gs.of hd.ok hd.left hd.len) (fun a=>(H_ hd.ok a).1) (fun a=>(H_ hd.ok a).2) hlba (NB hg himg)
def Fg (g:Geo) (G:Gr) (F:Int->List UInt8):Prop:=∀ q,g.an+2*g.sl<=q->q<A3 g->G q=⟨0,F q⟩
theorem NX {g:Geo} (hg:Bt g=true) {s:Stt} (ha:Bv g s.a=true) {G:Gr} {F:Int->List UInt8} {t:List Ent} {z w:Int} (hz:0<=z/\z<g.z) (hw : -1<=w/\w<g.d) (h:Fg g G F):DB g s G t z w=Mp g s F t z w:=by
 obtain⟨g1,g2,g3,g4,g5⟩:=As.1 hg;obtain⟨i,e,hi⟩:=Mk hg ha hz hw;have:=GC hg hz hi;unfold DB Mp;rw [h _ (by omega) (by omega)];try rfl
theorem XE {g:Geo} (hg:Bt g=true) {s:Stt} (ha:Bv g s.a=true) {G:Gr} {F:Int->List UInt8} {t:List Ent} {z:Int} (hz:0<=z/\z<g.z) (h:Fg g G F):E9 g s G t z=EJ g s F t z:=by
 obtain⟨g1,g2,g3,g4,g5⟩:=As.1 hg;unfold E9 EJ XF;rw [Bh,A0,List.map_singleton];congr 1
 ·refine Co fun i hi=>?_
  have:=AO.1 hi;rw [show O0 g i=(i:Int) by unfold O0;rw [if_neg (by omega)]];exact NX hg ha hz (by omega) h
 ·rw [show O0 g g.d.toNat = -1 by unfold O0;rw [if_pos (by omega)]];rw [NX hg ha hz (by omega) h]
theorem Tm {g:Geo} (hg:Bt g=true) {s:Stt} (ha:Bv g s.a=true) {G:Gr} {F:Int->List UInt8} {S lba:Int} {b:List UInt8} (hz:0<=lba.tdiv g.d/\lba.tdiv g.d<g.z) (h:Fg g G F):Er g s G S lba b=Jg g s F S lba b:=by
 unfold Er Jg;rw [NA hg hz h];cases Gp g s F (lba.tdiv g.d) with
 | some t=>
  simp only;rw [XE hg ha hz h]
 | none=>rfl
theorem TW {g:Geo} (hg:Bt g=true) {a:An} (ha:Bv g a=true) {l:List Tx} {G:Gr} {F:Int->List UInt8} {V:Int->Int->List UInt8} (hV:VolV g a l F V) (h:Fg g G F) {z w:Int} (hz:0<=z/\z<g.z) (hw:0<=w/\w<g.d):Mu g (Bl a l) G z w=some (V z w)/\(V z w).length=8:=by
 obtain⟨t,ht⟩:=hV z hz.1 hz.2;have e1:=ht.ent w (by omega) hw.2;have e2:=ht.len w (by omega) hw.2;have e3:=ht.one (w:=w) ⟨by omega,hw.2⟩;rw [show (Ej g w).toNat=w.toNat by unfold Ej;rw [if_neg (by omega)]] at e1;unfold Mu;rw [NA hg hz h,ht.tab];simp only;rw [if_neg (by rw [e1.1];decide),NX hg ha hz ⟨by omega,hw.2⟩ h,e3,if_pos (by rw [e2];decide)];exact⟨rfl,e2⟩
theorem N4 {g:Geo} (hg:Bt g=true) {lba:Int} (hlba:0<=lba/\lba<g.z*g.d):(0<=lba.tdiv g.d/\lba.tdiv g.d<g.z)/\0<=lba.tmod g.d/\lba.tmod g.d<g.d:=by
 obtain⟨g1,g2,g3,g4,g5⟩:=As.1 hg;rw [AU hlba.1];exact⟨⟨Dw hlba.1 (by omega),Dq (by omega) hlba.2⟩,Bf _ hlba.1,AL _ (by omega)⟩
structure Clv (g:Geo) (K:Int) (d:Dk) (M:Md):Prop where
 un:Un g d
 fg:Fg g (DW d) M.F
 gd:∃ d0,Gd (A3 g) d0 M.F
 vo:Vo g K M
 rd:ZE g M
theorem Clv.on {g:Geo} (hg:Bt g=true) {d:Dk} (hd:Gd (A3 g) d (Dg g).F):Clv g 2 d (Dg g):=by
 obtain⟨g1,g2,g3,g4,g5⟩:=As.1 hg;obtain⟨-, -, -, -, -,hvo⟩:=Vj hg;exact⟨⟨hd.ok,hd.left,hd.len,hd.cache⟩,fun q h0 h1=>hd.gs.2 q (by omega) h1,⟨d,hd⟩,hvo,YE hg⟩
def X5 (g:Geo) (M:Md) (lba:Int) (b:List UInt8):Md:=⟨M.a,M.l ++ [IB g M.a M.l M.F lba b],M.F,M.m.set lba.toNat b⟩
theorem Clv.add {g:Geo} (hg:Bt g=true) {K:Int} {d d':Dk} {M:Md} (h:Clv g K d M) (hK:K<=4294967294) {lba:Int} {b:List UInt8} (hlba:0<=lba/\lba<g.z*g.d) (hb:b.length=8) (hroom:4<=g.sl - Df M.l) (hu:Un g d') (hf:∀ q,g.an+2*g.sl<=q->q<A3 g->DW d' q=DW d q):Clv g (K+1) d' (X5 g M lba b):=by
 obtain⟨d0,h0⟩:=h.gd;have hz:=(N4 hg hlba).1;have ht:(Gp g (Bl M.a M.l) M.F (lba.tdiv g.d)).isSome=true:=by
  obtain⟨-,V,hV, -⟩:=h.rd;obtain⟨t,hz⟩:=hV _ hz.1 hz.2;rw [hz.tab];try rfl
 have hvol:=h.vo.vol h0;obtain⟨r,v⟩:=Z1 hg hK hlba hb hvol h.rd (M':=X5 g M lba b) (.inl ⟨by omega,ht, [],(fun w hw=>by cases hw),rfl⟩);exact⟨hu,fun q q1 q2=>(hf q q1 q2).trans (h.fg q q1 q2),⟨d0,h0⟩,Vo.of v h.vo.fb (by show ((M.m.set lba.toNat b).length:Int)=_;rw [AX];exact h.vo.m),r⟩
theorem YT {g:Geo} {K:Int} {d:Dk} {M:Md} {lba:Int} {b:List UInt8} (hg:Bt g=true) (h:Clv g K d M) (hK:K<=4294967294) (hlba:0<=lba/\lba<g.z*g.d) (hb:b.length=8) (hroom:4<=g.sl - Df M.l) (P:Int) (hP:P=(M.a.pos+Df M.l).tmod g.sl) :
  Fn Tryz.prog 16 [.ag (Ba g), .ag (Ey d), .ag (ER (Bl M.a M.l)),iA [lba],Gk [b]] fun r=>((∀ j:Nat,j<4->Kt g d P j=false)/\∃ d',Clv g (K+1) d' (X5 g M lba b)/\(∀ q,stuck d' q=true->stuck d q=true)/\r = .tp [.ag (ER (Bl (X5 g M lba b).a (X5 g M lba b).l)), .ag (Ey d'),iv 0])\/((∃ j:Nat,j<4/\Kt g d P j=true)/\∃ d',(DkOk d'/\(d'.cells.length:Int)=A3 g)/\r = .tp [.ag (ER { Bl M.a M.l with only:=true }), .ag (Ey d'),iv 14]):=by
 obtain⟨d0,h0⟩:=h.gd;have hz:=(N4 hg hlba).1;obtain⟨-,V,hV, -⟩:=h.rd;obtain⟨t,ht⟩:=hV _ hz.1 hz.2;have hvol:=h.vo.vol h0;have htab:EV g (Bl M.a M.l) (DW d) (lba.tdiv g.d)=some t:=by rw [NA hg hz h.fg];exact ht.tab
 have hc:=Wn hg hvol hK h.un hlba hb hroom htab P hP;refine hc.mono fun r hr=>?_
 rcases hr with ⟨h1,d',h2,h3,h4,rfl⟩ | h1
 ·refine .inl ⟨h1,d',h.add hg hK hlba hb hroom h2 h3,h4,?_⟩;have e:Mt g M.a M.l (DW d) lba b=IB g M.a M.l M.F lba b:=by
   unfold Mt IB;rw [Tm hg h.vo.an hz h.fg]
  rw [e];try rfl
 ·exact .inr h1
theorem U_ {g:Geo} {K:Int} {d:Dk} {M:Md} (hg:Bt g=true) (h:Clv g K d M) (k:Nat) (hk:(k:Int)<g.z*g.d):(M.m.getD k []).length=8/\
  Fn Tryz.prog 12 [.ag (Ba g), .ag (Ey d), .ag (ER (Bl M.a M.l)),iv (k:Nat)] fun r=>∃ d',r = .tp [bA (M.m.getD k []), .ag (Ey d'),iv 0]:=by
 obtain⟨d0,h0⟩:=h.gd;have hb:(0:Int)<=(k:Nat)/\((k:Nat):Int)<g.z*g.d:=by omega
 obtain⟨hz,hA⟩:=N4 hg hb;obtain⟨hm,V,hV,hE⟩:=h.rd;have hc:=Wp hg (h.vo.vol h0) h.un hb;obtain⟨e1,e2⟩:=TW hg h.vo.an hV h.fg hz hA;have e:=hE _ _ hz.1 hz.2 hA.1 hA.2;rw [Int.mul_comm,Int.mul_tdiv_add_tmod,Ab] at e;rw [e1,<-e] at hc;rw [<-e] at e2;exact⟨e2,hc.mono fun r ⟨d',_,hr⟩=>⟨d',hr⟩⟩
theorem YF {m:Nat} (h:Nat.ble 8 m=true):∀ z∈ [4,5,6,7],z<m:=fun z hz=>by
 have:=Ah h;simp at hz;omega
theorem Q6 (g:Geo) (d:Dk) (hg:Bt g=true) (h:DkOk d) (hn:(d.cells.length:Int)=A3 g):Fn Tryz.prog 56 [.ag (Ba g), .ag (Ey d)] fun r=>r = .tp [.ag (ER (Db g d).2.2), .ag (Ey (Db g d).1), .v (.int .i64 (Db g d).2.1)]:=by
 have hb:=SU g d st0 h st0_sm;have hm:=SH g st0 d hg h hn;have herr:=QR (g:=g) (d:=d);generalize Db g d=M at hm herr |-
 obtain⟨D,e,S⟩:=M;simp only at herr hm;refine zT Tryz.func56 rfl ?_;conv=>whnf
 refine zY [.ag (Ba g), .ag (Ey d), .ag (ER st0)] ⟨ri,ri,Bm st0_sub,tv⟩ ?_;refine zW hb rfl ?_;rintro _ _ ⟨rfl,rfl⟩;conv=>whnf
 refine zh [4,5,6,7] hm ?_;rintro _ _ ⟨⟨S',rfl,hS⟩,rfl⟩;by_cases he:e=0
 ·subst he;have:=hS rfl;subst this;conv=>whnf
  apply aDraw.dag (144) tys_ok mixed [([],11,(.o [0,1,2,3] (.alt 4 (.o [5,6] (.alt 7 (.o [8,9,10] .fin) (.alt 8 (.o [7,9,10] .fin) .non))) (.alt 8 (.o [4,5,6,7,9,10] .fin) .non))))] [6,32,33,34,35,36,37,38,39] [] (by kernel_rfl)
  ·refine Af ?_ ?_
   ·refine Af ?_ (Af ?_ (trivial))
    ·refine Af ?_ (Af ?_ (trivial))
     ·conv=>whnf
      try (refine tS ?_;conv=>whnf)
      try (refine tS ?_;conv=>whnf)
      exact tA
     ·conv=>whnf
      try (refine tS ?_;conv=>whnf)
      try (refine tS ?_;conv=>whnf)
      exact tA
    ·conv=>whnf
     try (refine tS ?_;conv=>whnf)
     try (refine tS ?_;conv=>whnf)
     exact tA
   conv=>whnf
   exact trivial
  refine Af (Ac _).symm ?_;refine Af (Ac _).symm ?_;exact⟨.tp [.ag (ER S'), .ag (Ey D),iv 0],BS ⟨ri,Bm ⟨B3 (f:=B4) D.cells rfl rfl,B3 (f:=DZ) D.cache rfl rfl,ri,ri,tv⟩,ri,tv⟩,rfl⟩
 ·have hbe:(e != 0)=true:=bne_iff_ne.2 he;have:=herr he;subst this;conv=>whnf
  rw [hbe];conv=>whnf
  apply aDraw.dag (2192) tys_ok mixed [([],15,(.o [0,1,2,3,8,9,10] (.alt 4 (.o [5,6] (.alt 7 (.alt 11 (.jump 2) (.alt 12 (.jump 3) .non)) (.alt 11 (.alt 7 (.jump 2) (.alt 12 (.jump 4) .non)) (.alt 12 (.alt 7 (.jump 3) (.alt 11 (.jump 4) .non)) .non)))) (.alt 11 (.alt 4 (.o [5,6] (.alt 7 (.jump 2) (.alt 12 (.jump 4) .non))) (.alt 12 (.jump 1) .non)) (.alt 12 (.alt 4 (.o [5,6] (.alt 7 (.jump 3) (.alt 11 (.jump 4) .non))) (.alt 11 (.jump 1) .non)) .non))))),([0,1,2,3,8,9,10,11,12],6,(.o [4,5,6,7,13,14] .fin)),([0,1,2,3,4,5,6,7,8,9,10,11],3,(.o [12,13,14] .fin)),([0,1,2,3,4,5,6,7,8,9,10,12],3,(.alt 11 (.o [13,14] .fin) (.alt 13 (.o [11,14] .fin) .non))),([0,1,2,3,4,5,6,8,9,10,11,12],3,(.o [7,13,14] .fin))] [6,20,21,22,23,24,25,26,27,28,29,30,31] [(_,_),(_,_),(_,_),(_,_)] (by kernel_rfl)
  ·refine Af ?_ ?_
   ·refine Af ?_ (Af ?_ (Af ?_ (trivial)))
    ·refine Af ?_ (Af ?_ (Af ?_ (trivial)))
     ·refine Af ?_ (Af ?_ (trivial))
      ·exact tA
      ·conv=>whnf
       try (refine tS ?_;conv=>whnf)
       exact tA
     ·refine Af ?_ (Af ?_ (trivial))
      ·exact tA
      ·conv=>whnf
       try (refine tS ?_;conv=>whnf)
       exact tA
     ·conv=>whnf
      try (refine tS ?_;conv=>whnf)
      refine Af ?_ (Af ?_ (trivial))
      ·exact tA
      ·exact tA
    ·refine Af ?_ (Af ?_ (trivial))
     ·refine Af ?_ (Af ?_ (trivial))
      ·exact tA
      ·conv=>whnf
       try (refine tS ?_;conv=>whnf)
       exact tA
     ·conv=>whnf
      try (refine tS ?_;conv=>whnf)
      exact tA
    ·conv=>whnf
     try (refine tS ?_;conv=>whnf)
     refine Af ?_ (Af ?_ (trivial))
     ·refine Af ?_ (Af ?_ (trivial))
      ·exact tA
      ·exact tA
     ·exact tA
   refine Af ?_ ?_
   ·conv=>whnf
    try (refine tS ?_;conv=>whnf)
    exact tA
   refine Af ?_ ?_
   ·conv=>whnf
    try (refine tS ?_;conv=>whnf)
    try (refine tS ?_;conv=>whnf)
    exact tA
   refine Af ?_ ?_
   ·refine Af ?_ (Af ?_ (trivial))
    ·conv=>whnf
     try (refine tS ?_;conv=>whnf)
     exact tA
    ·conv=>whnf
     try (refine tS ?_;conv=>whnf)
     exact tA
   refine Af ?_ ?_
   ·conv=>whnf
    try (refine tS ?_;conv=>whnf)
    exact tA
   conv=>whnf
   exact trivial
  refine Af (Ac _).symm ?_;refine Af (Ac _).symm ?_;exact⟨.tp [.ag (ER st0), .ag (Ey D),iv e],BS ⟨Bm st0_sub,Bm ⟨B3 (f:=B4) D.cells rfl rfl,B3 (f:=DZ) D.cache rfl rfl,ri,ri,tv⟩,ri,tv⟩,rfl⟩
theorem UK (g:Geo) (hg:Bt g=true):Fn Tryz.prog 20 [.ag (Ba g)] fun r=>∃ D,r = .tp [.ag (ER (Bl (Dg g).a (Dg g).l)), .ag (Ey D)]/\Gd (A3 g) D (Dg g).F:=by
 obtain⟨D,h1,h2,h3,h4,h5⟩:=Vj hg;have hfm:=Q8 g ⟨#[]⟩ hg (by exact lab_nil);have hmn:=Q6 g (GU g ⟨#[]⟩) hg h2 h3;rw [h1] at hmn;refine zT Tryz.func20 rfl ?_;conv=>whnf
 apply zV (0) tys_ok mixed (.o [0,1] (.three 2 (.three 3 (.o [4,5,6,7] (.two 8 (.o [9,10,11,12] .fin) 9 (.o [8,10,11,12] .fin))) 8 (.two 3 (.o [4,5,6,7,9,10,11,12] .fin) 9 (.o [3,4,5,6,7,10,11,12] .fin)) 9 (.two 3 (.o [4,5,6,7,8,10,11,12] .fin) 8 (.o [3,4,5,6,7,10,11,12] .fin))) 8 (.two 2 (.two 3 (.o [4,5,6,7,9,10,11,12] .fin) 9 (.o [3,4,5,6,7,10,11,12] .fin)) 9 (.o [2,3,4,5,6,7,10,11,12] .fin)) 9 (.two 2 (.two 3 (.o [4,5,6,7,8,10,11,12] .fin) 8 (.o [3,4,5,6,7,10,11,12] .fin)) 8 (.o [2,3,4,5,6,7,10,11,12] .fin)))) (by kernel_rfl);refine Af ?_ (Af ?_ ?_);conv=>whnf
 refine z_ hfm ?_;refine Af ?_ (Af ?_ ?_);conv=>whnf
 refine z_ hmn ?_;refine Af ?_ ?_;conv=>whnf
 try (refine tS ?_;conv=>whnf)
 try (refine tS ?_;conv=>whnf)
 rotate_left 1;conv=>whnf
 try (refine tS ?_;conv=>whnf)
 try (refine tS ?_;conv=>whnf)
 rotate_left 1;refine Af ?_ ?_;conv=>whnf
 refine z_ hmn ?_;conv=>whnf
 try (refine tS ?_;conv=>whnf)
 try (refine tS ?_;conv=>whnf)
 rotate_left 1;conv=>whnf
 refine z_ hmn ?_;conv=>whnf
 try (refine tS ?_;conv=>whnf)
 try (refine tS ?_;conv=>whnf)
 rotate_left 1;refine Af ?_ ?_;conv=>whnf
 refine z_ hmn ?_;conv=>whnf
 try (refine tS ?_;conv=>whnf)
 try (refine tS ?_;conv=>whnf)
 rotate_left 1;conv=>whnf
 refine z_ hmn ?_;conv=>whnf
 try (refine tS ?_;conv=>whnf)
 try (refine tS ?_;conv=>whnf)
 rotate_left 1;refine Af ?_ ?_;conv=>whnf
 refine z_ hfm ?_;refine Af ?_ ?_;conv=>whnf
 refine z_ hmn ?_;conv=>whnf
 try (refine tS ?_;conv=>whnf)
 try (refine tS ?_;conv=>whnf)
 rotate_left 1;conv=>whnf
 refine z_ hmn ?_;conv=>whnf
 try (refine tS ?_;conv=>whnf)
 try (refine tS ?_;conv=>whnf)
 rotate_left 1;conv=>whnf
 refine z_ hfm ?_;conv=>whnf
 refine z_ hmn ?_;conv=>whnf
 try (refine tS ?_;conv=>whnf)
 try (refine tS ?_;conv=>whnf)
 rotate_left 1;refine Af ?_ ?_;conv=>whnf
 refine z_ hfm ?_;refine Af ?_ ?_;conv=>whnf
 refine z_ hmn ?_;conv=>whnf
 try (refine tS ?_;conv=>whnf)
 try (refine tS ?_;conv=>whnf)
 rotate_left 1;conv=>whnf
 refine z_ hmn ?_;conv=>whnf
 try (refine tS ?_;conv=>whnf)
 try (refine tS ?_;conv=>whnf)
 rotate_left 1;conv=>whnf
 refine z_ hfm ?_;conv=>whnf
 refine z_ hmn ?_;conv=>whnf
 try (refine tS ?_;conv=>whnf)
 try (refine tS ?_;conv=>whnf)
 rotate_left 1;all_goals
  apply zV (2) tys_ok mixed (.one 0 (.two 1 (.o [2,3] .fin) 2 (.o [1,3] .fin))) (by kernel_rfl);refine Af ?_ ?_;conv=>whnf
  try (refine tS ?_;conv=>whnf)
  try (refine tS ?_;conv=>whnf)
  rotate_left 1;conv=>whnf
  try (refine tS ?_;conv=>whnf)
  try (refine tS ?_;conv=>whnf)
  rotate_left 1;all_goals
   exact⟨_,ri,D,rfl,h4⟩
theorem aDraw.conv {P:Program} {T:Tys} {n d0 id:Nat} {ops:Array Oper} {K:Fr->List AB->Prop} {fr:Fr} {H:List AB} (h:aDraw P T n d0 id ops (fun fr H=>∃ fr2 H2,ConvF fr H fr2 H2/\K fr2 H2) fr H):aDraw P T n d0 id ops K fr H:=
 ⟨fun w0 M0 ce c a hs hf he hd Q hq=>h.wp w0 M0 ce c a hs hf he hd Q fun c' fr' H' a' ⟨fr2,H2,hc,hk⟩ hs' hf' he'=>by
  obtain⟨c2,e,s2,f2,x2⟩:=hc _ _ _ _ _ hs' hf';have:=hq c2 fr2 H2 a' hk s2 f2 (he'.trans x2);rwa [e] at this⟩

theorem RdL.seal1 {c c1:Ctx} (x1:Ext c c1) {x y:AV} (r1:∀ v,Rd x c v->Rd y c1 v):∀ {l:List AV} {us:List Value} {i:Nat},RdL l c us->l[i]? = some x->RdL (l.set i y) c1 us
 | [],us,i,h,hi=>by simp at hi
 | a::l,us,0,h,hi=>by
  simp only [CW,Option.some.injEq] at hi;subst hi;simp only [List.set_cons_zero,RdL] at h |-
  obtain⟨u,vs,rfl,h1,h2⟩:=h;exact⟨u,vs,rfl,r1 u h1,RdL.ext _ x1 h2⟩
 | a::l,us,i+1,h,hi=>by
  simp only [List.getElem?_cons_succ] at hi;simp only [List.set_cons_succ,RdL] at h |-
  obtain⟨u,vs,rfl,h1,h2⟩:=h;exact⟨u,vs,rfl,Rd.ext _ x1 h1,RdL.seal1 x1 r1 h2 hi⟩
theorem ACalls.sealArg {P:Program} {q:Bool} {f:FuncId} {args:List AV} {H:List AB} {K:AV->List AB->Prop} (i k:Nat) {t:TypeId} {sz:Nat} {es:List (List AV)} (hx:args[i]? = some (.ow k es.length)) (hk:H[k]? = some (.row t sz es))
  (hc:ACalls P q f (args.set i (.sl sz es.length fun j=>es.getD j [])) (H.set k .dead) K):ACalls P q f args H K:=by
 refine⟨hc.go,fun w0 M0 c us hs hr=>?_⟩;obtain⟨c1,e1,s1,x1,r1⟩:=hs.freeze hk;have:=hc.calls w0 M0 c1 us s1 (RdL.seal1 x1 r1 hr hx);rw [e1] at this;refine this.mono ?_;rintro e w' ⟨v,c',r,H2,rfl,rfl,q1,q2,q3,q4,q5⟩;exact⟨v,c',r,H2,rfl,rfl,q1,q2,x1.trans q3,q4,q5⟩

theorem Vo.mono {g:Geo} {K K':Int} {M:Md} (h:Vo g K M) (hk:K<=K'):Vo g K' M:=⟨h.an,h.ring,Int.le_trans h.gen hk,Int.le_trans h.seq hk,h.one,h.fb,h.m⟩
@[reducible] def stZ:List AV:= [iv 0,iv 0,iv 0,iv 0,iv 0, .v (.string ⟨#[]⟩), .v (.slice none 0 0), .v (.slice none 0 0), .v (.bool false),iv 0,iv 0,iv 0,iv 0, .v (.slice none 0 0)]
@[reducible] def dkZ:List AV:= [.v (.slice none 0 0), .v (.slice none 0 0),iv 0,iv 0]
@[reducible] def plH (g:Geo) (M:Md) (d:Dk):List AB:= [.box 23 (Ba g), .box 39 stZ, .box 43 dkZ, .box 39 (ER (Bl M.a M.l)), .box 43 (Ey d), .row 47 1 (M.m.map Ii)]
def bl8:List UInt8:= [1,2,3,4,5,6,7,8]
theorem Gd.free {n:Int} {d:Dk} {F:Int->List UInt8} (h:Gd n d F) (q:Int):stuck d q=false:=by
 unfold stuck;refine decide_eq_false fun e=>?_
 by_cases hi:q.toNat<d.cells.length
 ·have:=(h.cell (q.toNat:Nat) (by omega) (by rw [<-h.len];omega)).1;rw [Ab,e] at this;cases this
 ·rw [Aa,AE (by omega)] at e;cases e
theorem Nh {g:Geo} {d:Dk} (h:∀ q,stuck d q=false) {P:Int}:¬∃ j:Nat,j<4/\Kt g d P j=true:=by
 rintro⟨j, -,hj⟩;unfold Kt at hj;rw [h] at hj;cases hj
theorem wakes23_fn:Fn Tryz.prog 13 [] fun r=>r = .v (.bool true):=by
 have h1:=RG 0 1 0 0 1;have hg:=OG 0 1 0 0 1;have hzd:(Hr 0 1 0 0 1).z*(Hr 0 1 0 0 1).d=2:=by decide
 have hsl:(Hr 0 1 0 0 1).sl=14:=by decide
 generalize Hr 0 1 0 0 1=g at h1 hg hzd hsl;have hon:=UK g hg;refine zT Tryz.func13 rfl ?_;conv=>whnf
 refine z_ h1 ?_;conv=>whnf
 refine zM hon rfl ?_;rintro _ ⟨d0,rfl,hd0⟩;have hc0:=Clv.on hg hd0;have hc:=YT (lba:=1) (b:=bl8) hg hc0 (by decide) ⟨by decide,by omega⟩ rfl (by show 4<=g.sl - 0;omega) 0 (by show (0:Int)=((0:Int)+0).tmod g.sl;simp);conv=>whnf
 refine aSeq.cutR Unit (fun _=>([(1, .bp 0 0),(2, .bp 1 0),(3, .bp 2 0),(4,bA bl8)], [.box 23 (Ba g), .box 39 (ER (Bl (Dg g).a (Dg g).l)), .box 43 (Ey d0)])) (fun _=>True) ?_ ?_
 ·exact⟨(),tv,z7 (zO (zG 4 3 rfl rfl) (zC 4 rfl (HN (L:=bl8) rfl rfl))) (s:= [0,1,2]) tA⟩
 intro _ _;conv=>whnf
 refine zQ hc.go ?_;refine⟨rfl,?_⟩;refine⟨rfl,?_⟩;conv=>whnf
 refine zY [.ag (Ba g), .ag (Ey d0), .ag (ER (Bl (Dg g).a (Dg g).l)),iA [1],Gk [bl8]] ⟨ri,ri,ri,Fx (L:= [1]) rfl rfl,EM (L:= [bl8]) rfl rfl,tv⟩ ?_;refine zM hc rfl ?_;rintro _ (⟨-,d1,hc1, -,rfl⟩ | ⟨hx, -⟩);rotate_left 1
 ·exact absurd hx (Nh hd0.free)
 have hm0:(X5 g (Dg g) 1 bl8).m=[zero8,bl8]:=by show (List.replicate (g.z*g.d).toNat zero8).set (1:Int).toNat bl8=_;rw [hzd];try rfl
 have hx1:((X5 g (Dg g) 1 bl8).l.getD (Int.toNat 0) ⟨0,0,0, []⟩).n=4:=rfl;have hl1:(((X5 g (Dg g) 1 bl8).l.length:Nat):Int)=1:=rfl;have r1:=(U_ hg hc1 1 (by omega)).2;have r0:=(U_ hg hc1 0 (by omega)).2;rw [hm0] at r1 r0;obtain⟨M,hM⟩:∃ M,M=X5 g (Dg g) 1 bl8:=⟨_,rfl⟩;rw [<-hM] at r1 r0 hx1 hl1 |-
 clear hc hc1 hm0 hM;have hb1:=Hb bl8 (by decide);have hb0:=Hb zero8 (by decide);conv=>whnf
 refine zM r1 rfl ?_;rintro _ ⟨d2,rfl⟩;conv=>whnf
 refine zM r0 rfl ?_;rintro _ ⟨d3,rfl⟩;conv=>whnf
 rw [show (((Bl M.a M.l).txns.length:Int) == 1)=true from beq_iff_eq.2 hl1];conv=>whnf
 refine Af ⟨by decide,by show (0:Int)<(M.l.length:Nat);omega⟩ ?_;conv=>whnf
 rw [show (((Bl M.a M.l).txns.getD (Int.toNat 0) ⟨0,0,0, []⟩).n == 4)=true from beq_iff_eq.2 hx1];conv=>whnf
 refine z_ hb1 ?_;refine⟨by decide,?_⟩;conv=>whnf
 refine zQ hb0.go ?_;refine⟨by decide,?_⟩;conv=>whnf
 refine zY [bA zero8,bA zero8] ⟨ri,HN rfl rfl,tv⟩ ?_;refine z_ hb0 ?_;exact⟨_,ri,rfl⟩
theorem Qb (b:List UInt8) (hb:b.length<=1000000000):ACalls Tryz.prog false 96 [bA b] [] fun r H=>r = .ow 0 b.length/\H=[.row 5 1 (bR b)]:=by
 refine zz tys_ok Tryz.func96 rfl rfl (Ah rfl) ?_;refine Af (fun h=>?_) ?_
 ·conv=>whnf
  have h0:=AQ.1 h;subst h0;exact⟨_, .ow 0 0, [.row 5 1 []],fun _ _ h=>h,zJ ⟨[(0,5,1)],tA,tA,tA,rfl,rfl,rfl⟩,rfl,rfl⟩
 ·refine⟨⟨rfl,by omega⟩,?_⟩;exact⟨.ow 0 b.length, .ow 0 b.length, [.row 5 1 (bR b)],fun _ _ h=>by rwa [Az] at h,zJ ⟨[],tv,tA,⟨(congrArg (AB.row _ _) (W6 b)).symm,tv⟩,rfl,rfl,rfl⟩,rfl,rfl⟩
theorem VU {bit:Int} {n:Int} (hn:0<n) (hn2:n<=1000000):(IntKind.i64.wrap (bit.tmod n+n)).tmod n=bit % n:=by
 have a1:=AL bit hn;have a2:=Int.lt_tmod_of_pos bit hn;have e:=S1 (a:=bit) hn;rw [wi (by omega)];by_cases h:bit.tmod n<0
 ·rw [if_pos h] at e;rw [e,AG (Int.emod_nonneg _ (by omega)),Int.emod_emod]
 ·rw [if_neg h] at e;rw [AG (by omega),<-e,Int.add_emod_right,Int.emod_eq_of_lt (by omega) (by omega)]
theorem Y7 (m:Nat):m ||| 1=2*(m / 2)+1:=by
 apply Nat.eq_of_testBit_eq;intro i;rw [Nat.testBit_or];cases i with
 | zero=>simp [Nat.testBit_zero]
 | succ i=>
  rw [Nat.testBit_succ,Nat.testBit_succ,Nat.testBit_succ,show (2*(m / 2)+1) / 2=m / 2 by omega,show 1 / 2=0 from rfl,Nat.zero_testBit,Bool.or_false]
theorem PN (bs:Int):IntKind.u32.wrap ((BitVec.ofInt IntKind.u32.bits (IntKind.u32.wrap bs) ||| BitVec.ofInt IntKind.u32.bits 1).toNat:Nat)=(fX bs:Nat):=by
 have hl:=Yg bs;have e:(BitVec.ofInt IntKind.u32.bits (IntKind.u32.wrap bs) ||| BitVec.ofInt IntKind.u32.bits 1).toNat=fX bs:=by
  rw [BitVec.toNat_or];have h1:(BitVec.ofInt IntKind.u32.bits (IntKind.u32.wrap bs)).toNat=(bs % 4294967296).toNat:=by
   rw [BitVec.toNat_ofInt,IntKind.wrap_u32];show (bs % 4294967296 % (4294967296:Nat)).toNat=_;omega
  have h2:(BitVec.ofInt IntKind.u32.bits 1).toNat=1:=rfl;rw [h1,h2,Y7];unfold fX;split <;> omega
 rw [e,IntKind.wrap_u32];omega
theorem TJ {X k:Nat} (hX:X<4294967296) (hk:k<32):IntKind.u32.wrap ((BitVec.ofInt IntKind.u32.bits ((X:Int).fdiv (2 ^ min ((k:Nat):Int).toNat IntKind.u32.bits))&&&BitVec.ofInt IntKind.u32.bits 1).toNat:Nat)=((X / 2 ^ k % 2:Nat):Int):=by
 have e0:min ((k:Nat):Int).toNat IntKind.u32.bits=k:=by rw [Ab];show min k 32=k;omega
 have e1:(X:Int).fdiv (2 ^ k)=((X / 2 ^ k:Nat):Int):=by
  rw [Int.fdiv_eq_ediv_of_nonneg _ (Int.le_of_lt (Int.pow_pos (by decide)))]
  push_cast
  rfl
 have hd:=Nat.div_le_self X (2 ^ k);have e2:(BitVec.ofInt IntKind.u32.bits ((X / 2 ^ k:Nat):Int)).toNat=X / 2 ^ k:=by
  rw [BitVec.toNat_ofInt];show (((X / 2 ^ k:Nat):Int) % (4294967296:Nat)).toNat=_;generalize X / 2 ^ k=Z at hd |-
  omega
 rw [e0,e1,BitVec.toNat_and,e2];clear e0 e1 e2;generalize X / 2 ^ k=Z at hd |-
 rw [show (BitVec.ofInt IntKind.u32.bits 1).toNat=1 from rfl,Nat.and_one_is_mod,IntKind.wrap_u32];omega
theorem VT (b:List UInt8) (bit bs:Int) (hb:b.length<=200):Fn Tryz.prog 95 [bA b,iv bit,iv bs] fun r=>r=bA (Nm b bit bs):=by
 have hc:=Qb b (by omega);have w8:IntKind.i64.wrap (8*(b.length:Int))=8*b.length:=wi (by omega);by_cases h0:b.length=0
 ·have e:b=[]:=Bc h0;subst e;refine zT Tryz.func95 rfl ?_;conv=>whnf
  refine zW hc rfl ?_;rintro _ _ ⟨rfl,rfl⟩;refine⟨rfl,?_⟩;exact⟨_,fun c u h=>W5 [] c u h,by rw [T2]⟩
 ·have hat:=VU (bit:=bit) (n:=8*(b.length:Int)) (by omega) (by omega);have a1:=Int.emod_lt_of_pos bit (show (0:Int)<8*b.length by omega);have a2:=Int.emod_nonneg bit (show (8*(b.length:Int))≠0 by omega);refine zT Tryz.func95 rfl ?_;conv=>whnf
  refine zW hc rfl ?_;rintro _ _ ⟨rfl,rfl⟩;conv=>whnf
  rw [w8];refine A6 (fun c=>absurd c (by omega)) (fun _=>?_);refine⟨by omega,?_⟩;refine⟨by omega,?_⟩;conv=>whnf
  rw [hat,PN bs];obtain⟨A,eA⟩:∃ A:Nat,(A:Int)=bit % (8*b.length):=⟨(bit % (8*(b.length:Int))).toNat,by omega⟩;rw [<-eA];have hXl:=Yg bs;have hR:Ge (fun i=>decide (fX bs / 2 ^ i % 2=1)) (bit % (8*(b.length:Int))).toNat b 32=Nm b bit bs:=rfl;rw [<-eA,Ab] at hR;obtain⟨X,eX⟩:∃ X,X=fX bs:=⟨_,rfl⟩;rw [<-eX] at hR hXl;rw [<-eX];refine zU Nat (fun k=>([(7, .ow 0 b.length),(8,iv (8*(b.length:Int))),(9, .v (.int .u32 (X:Nat))),(10,iv (A:Nat)),(31,iv k)], [.row 5 1 (bR (Ge (fun i=>decide (X / 2 ^ i % 2=1)) A b k))])) (fun k=>k<=32) (fun k=>32 - k) 0 (Aj _)
   (zR (s:= [0]) tA) ?_
  intro k hk;have hfl:=Jm (fun i=>decide (X / 2 ^ i % 2=1)) A b k;conv=>whnf
  refine A6 (fun h1=>?_) (fun h1=>?_) <;> (repeat rw [Ab] at h1) <;> conv=>whnf
  ·repeat' (refine zZ ?_;conv=>whnf)
   rw [show IntKind.i64.wrap ((A:Int)+k)=((A+k:Nat):Int) by rw [wi (by omega)];omega];refine⟨by omega,?_⟩;conv=>whnf
   rw [TJ hXl (show k<32 by omega)];have skip:¬(X / 2 ^ k % 2=1/\A+k<8*b.length)->Ge (fun i=>decide (X / 2 ^ i % 2=1)) A b (k+1)=Ge (fun i=>decide (X / 2 ^ i % 2=1)) A b k:=fun h=>by
    rw [Ge,if_neg];simpa using h
   by_cases hp:X / 2 ^ k % 2=1
   ·rw [show (((X / 2 ^ k % 2:Nat):Int) == 1)=true by rw [hp];try rfl];conv=>whnf
    by_cases h2:A+k<8*b.length
    ·rw [show decide (((A+k:Nat):Int)<8*(b.length:Int))=true from decide_eq_true (by omega)];conv=>whnf
     have hN:Ge (fun i=>decide (X / 2 ^ i % 2=1)) A b (k+1)=PE (Ge (fun i=>decide (X / 2 ^ i % 2=1)) A b k) (A+k):=by
      rw [Ge,if_pos];simp [hp,h2]
     rw [T3 _ _ (by rw [hfl];omega)] at hN;generalize Ge (fun i=>decide (X / 2 ^ i % 2=1)) A b k=F at hN hfl skip |-
     have hq:(A+k) / 8<b.length:=by omega
     have hz:(2:Nat) ^ ((A+k) % 8)<256:=by
      have:=Nat.pow_lt_pow_right (a:=2) (by omega) (show (A+k) % 8<8 by omega);omega
     have eq:IntKind.i64.wrap (((A+k:Nat):Int).tdiv 8)=(((A+k) / 8:Nat):Int):=by
      rw [AU (by omega),wi (by omega)];omega
     have er:((A+k:Nat):Int).tmod 8=(((A+k) % 8:Nat):Int):=by
      rw [AG (by omega)];omega
     have es:IntKind.u8.wrap (1*2 ^ min ((((A+k) % 8:Nat):Int).toNat) IntKind.u8.bits)=((2 ^ ((A+k) % 8):Nat):Int):=by
      rw [Ab,show min ((A+k) % 8) IntKind.u8.bits=(A+k) % 8 from Dv (by show _<=8;omega),Int.one_mul,IntKind.wrap_u8];have:((2 ^ ((A+k) % 8):Nat):Int)=(2:Int) ^ ((A+k) % 8):=by simp
      rw [<-this];generalize 2 ^ ((A+k) % 8)=z at hz |-
      omega
     refine zA tys_ok mixed [0,1,2,3,4,5,6,7,8,9,10] (by kernel_rfl) ?_;refine⟨by decide,?_⟩;conv=>whnf
     rw [eq];refine⟨⟨by omega,by omega⟩,?_⟩;refine⟨⟨rfl,by simp [bR,hfl],by omega⟩,?_⟩;conv=>whnf
     rw [Ab,W7 (by rw [hfl];omega)];refine⟨by decide,?_⟩;conv=>whnf
     rw [er];refine⟨by omega,?_⟩;refine⟨⟨by omega,by omega⟩,?_⟩;conv=>whnf
     rw [es];refine⟨⟨rfl,by simp [bR,hfl],by omega⟩,?_⟩;conv=>whnf
     rw [Ab,W7 (by rw [hfl];omega)];conv=>whnf
     have ex:=Ur (F.getD ((A+k) / 8) 0) (2 ^ ((A+k) % 8)) hz;rw [ex,YY];repeat' (refine zZ ?_;conv=>whnf)
     refine⟨k+1,by omega,by omega,?_⟩;rw [hN];exact zR (s:= [0]) ⟨⟨rfl,rfl,rfl,rfl,AR (by omega),tv⟩,tA,rfl,rfl,rfl,rfl,rfl⟩
    ·rw [show decide (((A+k:Nat):Int)<8*(b.length:Int))=false from decide_eq_false (by omega)];conv=>whnf
     repeat' (refine zZ ?_;conv=>whnf)
     refine⟨k+1,by omega,by omega,?_⟩;rw [skip (fun h=>h2 h.2)];exact zR (s:= [0]) ⟨⟨rfl,rfl,rfl,rfl,AR (by omega),tv⟩,tA,rfl,rfl,rfl,rfl,rfl⟩
   ·rw [show (((X / 2 ^ k % 2:Nat):Int) == 1)=false by rw [show X / 2 ^ k % 2=0 by omega];try rfl];conv=>whnf
    repeat' (refine zZ ?_;conv=>whnf)
    refine⟨k+1,by omega,by omega,?_⟩;rw [skip (fun h=>hp h.1)];exact zR (s:= [0]) ⟨⟨rfl,rfl,rfl,rfl,AR (by omega),tv⟩,tA,rfl,rfl,rfl,rfl,rfl⟩
  ·have ek:k=32:=by omega
   subst ek;rw [hR];rw [hR] at hfl;refine⟨(by simp [bR,hfl]),?_⟩;exact⟨_,fun c u h=>XY (GW b bit bs).symm c u h,rfl⟩
theorem Sk.congr {k n:Int} {d:Dk} {F:Int->List UInt8} {A A':Int->Prop} (h:Sk k n d F A) (e:∀ a,A a↔A' a):Sk k n d F A':=⟨h.ok,h.left,h.len,h.cache,fun a h0 h1=>⟨(h.cell a h0 h1).1,(h.cell a h0 h1).2.imp (fun x=>⟨x.1,fun y=>x.2 ((e a).2 y)⟩) fun x=>⟨x.1,(e a).1 x.2⟩⟩⟩
theorem Sk.fn {k j n:Int} {d:Dk} {F:Int->List UInt8} {A:Int->Prop} (hk:k=1/\j=11\/k=2/\j=12) (h:Sk k n d F A) {q:Int} (hq:0<=q/\q<n):Fn Tryz.prog 35 [.ag (Ey d),iv j,iv q,iv 0,iv 0,iv 0] fun r=>r = .tp [.ag (Ey (d.faultX j q 0 0 0)),iv 0]:=by
 have hx:=TK (fun b bit bs hb=>VT b bit bs hb) d j q 0 0 0 h.ok;rwa [(h.fault hk hq).1] at hx
theorem Sk.un {g:Geo} {k:Int} {d:Dk} {F:Int->List UInt8} {A:Int->Prop} (h:Sk k (A3 g) d F A):Un g d:=⟨h.ok,h.left,h.len,h.cache⟩
theorem Clv.sk {g:Geo} (hg:Bt g=true) {d d0:Dk} {A:Int->Prop} (hd0:Gd (A3 g) d0 (Dg g).F) (h:Sk 2 (A3 g) d (Dg g).F A) (hA:∀ a,A a->a<g.an+2*g.sl):Clv g 2 d (Dg g):=by
 obtain⟨g1,g2,g3,g4,g5⟩:=As.1 hg;have hc:=Clv.on hg hd0;exact⟨h.un,fun q h0 h1=>(h.gs (.inr rfl) (by omega) h1).1 fun x=>by have:=hA q x;omega,⟨d0,hd0⟩,hc.vo,hc.rd⟩
@[reducible] def cxH (g:Geo) (d:Dk):List AB:= [.box 23 (Ba g), .box 39 (ER (Bl (Dg g).a (Dg g).l)), .box 43 (Ey d)]
theorem Jc {g:Geo} (hg:Bt g=true) {w:Int} (hw : -1<=w/\w<g.d):C3 g (Dg g).a 0 w=BF g 0 (Ej g w):=by
 obtain⟨g1,g2,g3,g4,g5⟩:=As.1 hg;have hzh:((Dg g).a.homes.getD 0 ⟨[],0,0⟩)=⟨(List.range (g.d+1).toNat).map Int.ofNat,g.d+1,0⟩:=by
  show (List.replicate g.z.toNat _).getD 0 _=_;rw [Aa,CV,if_pos (by omega)];try rfl
 have ha:0<=Ej g w/\Ej g w<=g.d:=by unfold Ej;split <;> omega
 unfold C3;rw [show (0:Int).toNat=0 from rfl,hzh];congr 1;rw [Bd (d:=0) (by simp;omega),Aa,Bi (by omega)];show (((Ej g w).toNat:Nat):Int)=_;omega
def G0 (lba:Int) (k:Nat):Bool:=decide (k<2)&&!decide ((k:Int)=lba)
theorem Zv {P:Nat->Prop} (h0:P 0) (h1:P 1) (h2:P 2) (h3:P 3) {k:Nat} (hk:k<4):P k:=by
 rcases(show k=0\/k=1\/k=2\/k=3 by omega) with rfl | rfl | rfl | rfl
 ·exact h0
 ·exact h1
 ·exact h2
 ·exact h3
theorem Vs {g:Geo} (hg:Bt g=true) (hz:g.z=1) (hd:g.d=4) {G:Gr} (h0:(G (BF g 0 0)).err≠0) (h1:(G (BF g 0 1)).err≠0) (hF:∀ q,g.an+2*g.sl<=q->q<A3 g->q≠BF g 0 0->q≠BF g 0 1->G q=⟨0,(Dg g).F q⟩) :
  ∃ t,EV g (Bl (Dg g).a []) G 0=some t/\∀ (lba:Int) (b:List UInt8),0<=lba->lba<4->b.length=8->∃ t',(t'.length=5/\∀ k:Nat,k<4->(t'.getD k ez).lost=G0 lba k)/\∀ G':Gr,(∀ q,g.an+2*g.sl<=q->q<A3 g->G' q=G q)->EV g (Bl (Dg g).a [Mt g (Dg g).a [] G lba b]) G' 0=some t'/\∀ k:Nat,k<4->Mu g (Bl (Dg g).a [Mt g (Dg g).a [] G lba b]) G' 0 (k:Nat)=if G0 lba k then none else if (k:Int)=lba then some b else some zero8:=by
 obtain⟨g1,g2,g3,g4,g5⟩:=As.1 hg;obtain⟨-, -, -, -, -,hvo⟩:=Vj hg;have ha:Bv g (Dg g).a=true:=hvo.an;obtain⟨t,ht⟩:=Pw hg 0 (by omega) (by omega);have t0:=J1 hg (z:=0) (k:=0) ⟨by omega,by omega⟩ ⟨by omega,by omega⟩;have t1:=J1 hg (z:=0) (k:=1) ⟨by omega,by omega⟩ ⟨by omega,by omega⟩;have hs:∀ i:Int,0<=i->i<5->g.an+2*g.sl+2*g.z<=BF g 0 i/\BF g 0 i<A3 g:=fun i hi hi2=>GC hg (s:=i) ⟨by omega,by omega⟩ (by unfold C9;omega)
 have hs0:=hs 0 (by omega) (by omega);have hs1:=hs 1 (by omega) (by omega);have htab:EV g (Bl (Dg g).a []) G 0=some t:=by
  have e:=ht.tab;unfold Gp at e;unfold EV;rw [hF _ t0.1 t0.2.2 (by omega) (by omega),hF _ t1.1 t1.2.2 (by omega) (by omega)];exact e
 have hbad:∀ w:Int,(w=0\/w=1)->DB g (Bl (Dg g).a []) G t 0 w=[]:=fun w hw=>by
  have e:(G (C3 g (Dg g).a 0 w)).err≠0:=by
   rw [Jc hg (by omega),show Ej g w=w by unfold Ej;rw [if_neg (by omega)]];rcases hw with rfl | rfl
   ·exact h0
   ·exact h1
  show ((Di (G (C3 g (Dg g).a 0 w)) (C3 g (Dg g).a 0 w) _).getD []:List UInt8)=[];unfold Di BO;rw [if_neg (fun q=>e q.1)];try rfl
 have hgood:∀ w:Int,(w = -1\/w=2\/w=3)->DB g (Bl (Dg g).a []) G t 0 w=zero8:=fun w hw=>by
  have hat:Ej g w=if w = -1 then 4 else w:=by unfold Ej;rw [hd]
  have e:G (C3 g (Dg g).a 0 w)=⟨0,(Dg g).F (C3 g (Dg g).a 0 w)⟩:=by
   rw [Jc hg (by omega),hat];have hq:=hs (if w = -1 then 4 else w) (by split <;> omega) (by split <;> omega);refine hF _ (by omega) hq.2 (fun q=>?_) fun q=>?_
   ·unfold BF at q;split at q <;> omega
   ·unfold BF at q;split at q <;> omega
  have:=ht.one (w:=w) ⟨by omega,by omega⟩;show ((Di (G (C3 g (Dg g).a 0 w)) (C3 g (Dg g).a 0 w) _).getD []:List UInt8)=zero8;rw [e];exact this
 have hhad:E9 g (Bl (Dg g).a []) G t 0=[[], [],zero8,zero8,zero8]:=by
  have e:∀ i:Nat,i<5->O0 g i=if i=4 then -1 else (i:Int):=fun i hi=>by
   unfold O0;rw [hd];by_cases h:i=4
   ·rw [if_pos (by omega),if_pos h]
   ·rw [if_neg (by omega),if_neg h]
  unfold E9;rw [hd];show [DB g _ G t 0 (O0 g 0),DB g _ G t 0 (O0 g 1),DB g _ G t 0 (O0 g 2),DB g _ G t 0 (O0 g 3),DB g _ G t 0 (O0 g 4)]=_;rw [e 0 (by decide),e 1 (by decide),e 2 (by decide),e 3 (by decide),e 4 (by decide)];show [DB g _ G t 0 0,DB g _ G t 0 1,DB g _ G t 0 2,DB g _ G t 0 3,DB g _ G t 0 (-1)]=_;rw [hbad 0 (by omega),hbad 1 (by omega),hgood 2 (by omega),hgood 3 (by omega),hgood (-1) (by omega)]
 have hlo:∀ i:Nat,i<5->(t.getD i ez).lost=false:=fun i hi=>by
  by_cases h:i=4
  ·have:=(ht.ent (-1) (by omega) (by omega)).1;rwa [show (Ej g (-1)).toNat=i by unfold Ej;rw [if_pos rfl,hd,h];try rfl] at this
  ·have:=(ht.ent (i:Nat) (by omega) (by omega)).1;rwa [show (Ej g (i:Nat)).toNat=i by unfold Ej;rw [if_neg (by omega)];omega] at this
 have k0:=hlo 0 (by decide);have k1:=hlo 1 (by decide);have k2:=hlo 2 (by decide);have k3:=hlo 3 (by decide);have k4:=hlo 4 (by decide);have hkn:∀ i:Nat,i<4->BJ g t [[], [],zero8,zero8,zero8] i=if i<2 then [] else zero8:=fun i hi=>by
  have ho0:DC t [[], [],zero8,zero8,zero8] 0 5=none:=by simp only [DC,k1];rfl
  have ho1:DC t [[], [],zero8,zero8,zero8] 1 5=none:=by simp only [DC,k0];rfl
  unfold BJ;rw [hlo i (by omega),if_neg (by decide),hd];refine Zv (P:=fun i=>(if 0<(([[], [],zero8,zero8,zero8]:List (List UInt8)).getD i []).length then ([[], [],zero8,zero8,zero8]:List (List UInt8)).getD i [] else match DC t [[], [],zero8,zero8,zero8] i ((4:Int).toNat+1) with | none=> [] | some b=>if ((CJ b:Nat):Int)=(t.getD i ez).sum then b else [])=if i<2 then [] else zero8) ?_ ?_ rfl rfl hi
  ·show (match DC t [[], [],zero8,zero8,zero8] 0 5 with | none=> [] | some b=>_:List UInt8)=[];rw [ho0]
  ·show (match DC t [[], [],zero8,zero8,zero8] 1 5 with | none=> [] | some b=>_:List UInt8)=[];rw [ho1]
 refine⟨t,htab,fun lba b l0 l1 hb=>?_⟩;have hdiv:lba.tdiv g.d=0/\lba.tmod g.d=lba:=by
  rw [hd,AU l0,AG l0];omega
 obtain⟨t',ht'⟩:∃ t',t'=B8 g t [[], [],zero8,zero8,zero8] [lba] [b] ((Dg g).a.seq+(([]:List Tx).length:Int)):=⟨_,rfl⟩;have hx:(Mt g (Dg g).a [] G lba b).images=Ch 0 t' (EQ g t [[], [],zero8,zero8,zero8] [lba] [b] g.d.toNat) [lba] [b]:=by
  show Er g (Bl (Dg g).a []) G _ lba b=_;unfold Er;rw [hdiv.1,hdiv.2,htab,ht'];simp only;rw [hhad]
 have hpick:∀ k:Nat,Ec [lba] [b] k 1=if lba=(k:Int) then some b else none:=fun k=>rfl
 have hnew:∀ k:Nat,k<4->FY g t [[], [],zero8,zero8,zero8] [lba] [b] k=if lba=(k:Int) then b else if k<2 then [] else zero8:=fun k hk=>by
  unfold FY;rw [show [lba].length=1 from rfl,hpick];split
  ·rename_i c h;split at h
   ·rw [if_pos ‹_›];exact(Option.some.inj h).symm
   ·cases h
  ·rename_i h;split at h
   ·cases h
   ·rw [if_neg ‹_›];exact hkn k hk
 have hent:∀ k:Nat,k<4->t'.getD k ez=if lba=(k:Int) then ⟨(Dg g).a.seq+(([]:List Tx).length:Int),(CJ b:Nat),false⟩ else if k<2 then { t.getD k ez with lost:=true } else t.getD k ez:=fun k hk=>by
  rw [ht',B8,hd,Aa,A7 (by simp;omega),AW,Bi (by show k<4;exact hk)];show Ja g t _ [lba] [b] _ k=_;unfold Ja;rw [hnew k hk,show [lba].length=1 from rfl,hpick];by_cases h1:lba=(k:Int)
  ·simp only [if_pos h1];rw [if_neg (by omega)]
  ·simp only [if_neg h1];by_cases h2:k<2
   ·rw [if_pos h2,if_pos h2];try rfl
   ·rw [if_neg h2,if_neg h2];try rfl
 have hlost:∀ k:Nat,k<4->(t'.getD k ez).lost=G0 lba k:=fun k hk=>by
  rw [hent k hk];unfold G0;by_cases h1:lba=(k:Int)
  ·rw [if_pos h1,show decide ((k:Int)=lba)=true from decide_eq_true h1.symm];cases decide (k<2) <;> rfl
  ·rw [if_neg h1,show decide ((k:Int)=lba)=false from decide_eq_false fun h=>h1 h.symm];by_cases h2:k<2
   ·rw [if_pos h2,show decide (k<2)=true from decide_eq_true h2];try rfl
   ·rw [if_neg h2,show decide (k<2)=false from decide_eq_false h2,hlo k (by omega)];try rfl
 have htok:F7 g t'=true:=by
  have q:=K8 htab;rw [ht'];exact Fs hg q (by show 0<=(1:Int)+0/\(1:Int)+0<=4294967295;omega)
 refine⟨t',⟨by rw [ht',B8,hd];try rfl,hlost⟩,fun G' hG'=>?_⟩;have hfind:∀ w,w=255\/(-1<=w/\w<255)->CC [Mt g (Dg g).a [] G lba b] 0 w=if w=255 then some (⟨0,255,CF t'⟩,(Mt g (Dg g).a [] G lba b).seq) else if w = -1 then some (⟨0, -1,_⟩,_) else if w=lba then some (⟨0,lba,b⟩,(Mt g (Dg g).a [] G lba b).seq) else CC [] 0 w:=fun w hw=>XM (l:= []) hg ⟨l0,by omega⟩ hx w hw
 have htab2:EV g (Bl (Dg g).a [Mt g (Dg g).a [] G lba b]) G' 0=some t':=by
  unfold EV;rw [show (Bl (Dg g).a [Mt g (Dg g).a [] G lba b]).txns=[Mt g (Dg g).a [] G lba b] from rfl,hfind 255 (.inl rfl),if_pos rfl];exact GH htok
 refine⟨htab2,fun k hk=>?_⟩;unfold Mu;rw [htab2];simp only;rw [Ab,hlost k hk];cases hq:G0 lba k with
 | true=>rfl
 | false=>
  have hone:DB g (Bl (Dg g).a [Mt g (Dg g).a [] G lba b]) G' t' 0 (k:Nat)=if (k:Int)=lba then b else zero8:=by
   unfold DB;rw [show (Bl (Dg g).a [Mt g (Dg g).a [] G lba b]).txns=[Mt g (Dg g).a [] G lba b] from rfl,hfind (k:Nat) (by omega),if_neg (by omega),if_neg (by omega)];by_cases h1:(k:Int)=lba
   ·rw [if_pos h1,if_pos h1]
   ·rw [if_neg h1,if_neg h1];show ((Di (G' (C3 g (Dg g).a 0 (k:Nat))) (C3 g (Dg g).a 0 (k:Nat)) (t'.getD (Ej g (k:Nat)).toNat ez)).getD []:List UInt8)=zero8;have hk2:¬k<2:=fun h=>by
     unfold G0 at hq;rw [show decide (k<2)=true from decide_eq_true h,show decide ((k:Int)=lba)=false from decide_eq_false h1] at hq;cases hq
    have hat:(Ej g (k:Nat)).toNat=k:=by unfold Ej;rw [if_neg (by omega)];omega
    have hq2:=hs (k:Nat) (by omega) (by omega);have:=hgood (k:Nat) (by omega);have e:DB g (Bl (Dg g).a []) G t 0 (k:Nat)=((Di (G (C3 g (Dg g).a 0 (k:Nat))) (C3 g (Dg g).a 0 (k:Nat)) (t.getD (Ej g (k:Nat)).toNat ez)).getD []:List UInt8):=rfl;rw [hat,hent k hk,if_neg (fun h=>h1 h.symm),if_neg hk2,hG' _ (by rw [Jc hg (by omega)];unfold Ej;rw [if_neg (by omega)];omega) (by rw [Jc hg (by omega)];unfold Ej;rw [if_neg (by omega)];omega)];rw [e,hat] at this;exact this
  rw [if_neg (by decide),hone];by_cases h1:(k:Int)=lba
  ·rw [if_pos h1,if_pos h1,if_pos (by omega)];try rfl
  ·rw [if_neg h1,if_neg h1,if_pos (by decide)];try rfl
theorem Rq (g:Geo) (s:Stt) (d:Dk) (G:Gr) (z:Int) (t:List Ent) (hg:Bt g=true) (hst:Lb g d s=true) (hsm:StSm s) (ha:Bv g s.a=true) (h:Gs (A3 g) d G) (hF:∀ a,(G a).bytes.length<=100000) (h8:∀ a,(G a).err≠8) (hz:0<=z/\z<g.z) (hB:∀ p,CC s.txns z 255=some p->p.1.bytes.length<=100000/\(BX g p.1.bytes).isSome=true) (ht:EV g s G z=some t) :
  Fn Tryz.prog 25 [.ag (Ba g), .ag (Ey d), .ag (ER s),iv z] fun r=>∃ d',Gs (A3 g) d' G/\r = .tp [.ag [BN t], .ag (Ey d'),iv 0]:=by
 have c1:=Ot g d s h.ok hst hsm;have hlb:LogB s.txns:=⟨by have:=hsm.t.1;omega,fun t ht=>⟨by have:=(hsm.t.2 t ht).1;omega,fun x hx=>by have:=(hsm.t.2 t ht).2 x hx;omega⟩⟩;have c2:=Mc g s d G z hg hlb ha h hF h8 hz hB;rw [ht] at c2;refine zT Tryz.func25 rfl ?_;conv=>whnf
 refine zW c1 rfl ?_;rintro _ _ ⟨rfl,rfl⟩;conv=>whnf
 rw [show decide (z<0)=false from decide_eq_false (by omega)];conv=>whnf
 rw [show decide (z>=g.z)=false from decide_eq_false (by omega)];conv=>whnf
 refine zh [5,6,7,8,9] c2 ?_;rintro _ _ ⟨rfl,d2,hd2,rfl⟩;have c4:=JV g s d2 hd2.ok;conv=>whnf
 apply zV (1+2 ^ 130) tys_ok mixed (.o [1,3] (.two 0 (.o [2,4,5,6] .fin) 2 (.o [0,4,5,6] .fin))) (by kernel_rfl);refine Af ?_ ?_;conv=>whnf
 (refine zh [5,6,7,8,9] c4 ?_;rintro _ _ ⟨rfl,rfl⟩)
 conv=>whnf
 try (refine tS ?_;conv=>whnf)
 try (refine tS ?_;conv=>whnf)
 rotate_left 1;conv=>whnf
 (refine zh [5,6,7,8,9] c4 ?_;rintro _ _ ⟨rfl,rfl⟩)
 conv=>whnf
 try (refine tS ?_;conv=>whnf)
 try (refine tS ?_;conv=>whnf)
 rotate_left 1;all_goals
  exact⟨_,ri,d2,hd2,rfl⟩
theorem Gs.un {g:Geo} {d d':Dk} (h:Gs (A3 g) d' (DW d)) (hu:Un g d):Un g d'/\DW d'=DW d:=by
 have e1:d'.cells=d.cells:=h.cells;have e2:d'.cache=d.cache:=h.cache;refine⟨⟨h.ok,h.left,h.len,e2.trans hu.cache⟩,?_⟩;unfold DW;rw [show d'.got=d.got from funext fun q=>Tw e1 e2 q,e1,e2]
theorem WY {n:Int} {d:Dk} {F:Int->List UInt8} {A:Int->Prop} (h:Sk 1 n d F A) (q:Int):stuck d q=false:=by
 unfold stuck;refine decide_eq_false fun e=>?_
 by_cases hi:q.toNat<d.cells.length
 ·have:=(h.cell (q.toNat:Nat) (by omega) (by rw [<-h.len];omega)).2;rw [Ab] at this;omega
 ·rw [Aa,AE (by omega)] at e;cases e
theorem Wj (lba0:Int) (b:List UInt8):Fn Tryz.prog 8 [iv lba0,bA b] fun r=>r = .v (.bool true):=by
 by_cases hb:b.length=8;rotate_left 1
 ·refine zT Tryz.func8 rfl ?_;conv=>whnf
  rw [show ((b.length:Int) != 8)=true from bne_iff_ne.2 (by omega)];exact⟨_,ri,rfl⟩
 have h1:=RG 0 3 0 8 1;have hg:=OG 0 3 0 8 1;have hz:(Hr 0 3 0 8 1).z=1:=by decide
 have hd:(Hr 0 3 0 8 1).d=4:=by decide
 generalize Hr 0 3 0 8 1=g at h1 hg hz hd;have hw:=wakes23_fn;have hon:=UK g hg;obtain⟨g1,g2,g3,g4,g5⟩:=As.1 hg;have hN:0<=IntKind.i64.wrap ((IntKind.u64.wrap lba0).tmod 4)/\IntKind.i64.wrap ((IntKind.u64.wrap lba0).tmod 4)<4:=Fq (x:=lba0) (by decide) (by decide);obtain⟨lba,hlba⟩:∃ lba,lba=IntKind.i64.wrap ((IntKind.u64.wrap lba0).tmod 4):=⟨_,rfl⟩;refine zT Tryz.func8 rfl ?_;conv=>whnf
 rw [show ((b.length:Int) != 8)=false from bne_eq_false_iff_eq.2 (by omega)];conv=>whnf
 refine z_ h1 ?_;conv=>whnf
 have hn5:g.d+1=5:=by omega
 have hper:4<=C9 g:=by unfold C9;omega
 have q0:=GC hg (z:=0) (s:=0) ⟨by omega,by omega⟩ ⟨by omega,by omega⟩;have q1:=GC hg (z:=0) (s:=1) ⟨by omega,by omega⟩ ⟨by omega,by omega⟩;have s0:=Lk g 0 0 hg ⟨by omega,by omega⟩ ⟨by omega,by omega⟩;have s1:=Lk g 0 1 hg ⟨by omega,by omega⟩ ⟨by omega,by omega⟩;refine⟨by decide,?_⟩;conv=>whnf
 rw [show IntKind.i64.wrap ((IntKind.u64.wrap lba0).tmod 4)=lba from hlba.symm];rw [<-hlba] at hN;refine zM hon rfl ?_;rintro _ ⟨d0,rfl,hd0⟩;have k0:=hd0.sk (k:=1);have f0:=k0.fn (.inl tA) (q:=BF g 0 0) ⟨by omega,by omega⟩;have k1:=(k0.fault (.inl tA) (q:=BF g 0 0) ⟨by omega,by omega⟩).2;obtain⟨d1,hd1⟩:∃ d1,d1=d0.faultX 11 (BF g 0 0) 0 0 0:=⟨_,rfl⟩;rw [<-hd1] at f0 k1;have f1:=k1.fn (.inl tA) (q:=BF g 0 1) ⟨by omega,by omega⟩;have k2:=(k1.fault (.inl tA) (q:=BF g 0 1) ⟨by omega,by omega⟩).2;obtain⟨d2,hd2⟩:∃ d2,d2=d1.faultX 11 (BF g 0 1) 0 0 0:=⟨_,rfl⟩;rw [<-hd2] at f1 k2;conv=>whnf
 apply zE (0) tys_ok mixed (.o [0,1] (.two 2 (.two 3 (.o [4,5,6,7,8,9] .fin) 7 (.o [3,4,5,6,8,9] .fin)) 7 (.o [2,3,4,5,6,8,9] .fin))) [8,9,36,37,38,39,40,41,42] (by kernel_rfl)
 ·refine Af ?_ ?_
  ·conv=>whnf
   refine z_ s0 ?_;refine Af ?_ ?_
   ·conv=>whnf
    refine z_ f0 ?_;conv=>whnf
    try (refine tS ?_;conv=>whnf)
    exact tA
   ·conv=>whnf
    refine z_ f0 ?_;conv=>whnf
    try (refine tS ?_;conv=>whnf)
    exact tA
  ·conv=>whnf
   refine z_ s0 ?_;conv=>whnf
   refine z_ f0 ?_;conv=>whnf
   try (refine tS ?_;conv=>whnf)
   exact tA
 conv=>whnf
 apply zE (0) tys_ok mixed (.o [0,1] (.two 2 (.two 3 (.o [4,5,6,7,8,9] .fin) 7 (.o [3,4,5,6,8,9] .fin)) 7 (.o [2,3,4,5,6,8,9] .fin))) [10,11,43,44,45,46,47,48,49] (by kernel_rfl)
 ·refine Af ?_ ?_
  ·conv=>whnf
   refine z_ s1 ?_;refine Af ?_ ?_
   ·conv=>whnf
    refine z_ f1 ?_;conv=>whnf
    try (refine tS ?_;conv=>whnf)
    exact tA
   ·conv=>whnf
    refine z_ f1 ?_;conv=>whnf
    try (refine tS ?_;conv=>whnf)
    exact tA
  ·conv=>whnf
   refine z_ s1 ?_;conv=>whnf
   refine z_ f1 ?_;conv=>whnf
   try (refine tS ?_;conv=>whnf)
   exact tA
 conv=>whnf
 have hdz:lba.tdiv g.d=0:=by rw [AU hN.1,hd];omega
 have gs:=fun {q:Int} (h0:0<=q) (h1:q<A3 g)=>k2.gs (.inl rfl) h0 h1
 obtain⟨t,ht,hlaw⟩:=Vs hg hz hd (G:=DW d2) ((gs (by omega) q0.2).2 (.inl (.inr rfl))) ((gs (by omega) q1.2).2 (.inr rfl)) fun q h0 h1 n0 n1=>(gs (by omega) h1).1 fun h=>by
  rcases h with (h | h) | h
  ·exact h
  ·exact n0 h
  ·exact n1 h
 obtain⟨t',⟨hl5,hlost⟩,hG'⟩:=hlaw lba b hN.1 hN.2 hb;have hv:=(Clv.on hg hd0).vo.vol hd0;have hun2:Un g d2:=⟨k2.ok,k2.left,k2.len,k2.cache⟩;have hcc:=Wn (a:=(Dg g).a) (l:= []) (lba:=lba) (b:=b) hg hv (by decide) hun2 ⟨hN.1,by rw [hz,hd];omega⟩ hb (by show 4<=g.sl - 0;omega) (by rw [hdz];exact ht) 0 (by show (0:Int)=((0:Int)+0).tmod g.sl;simp);have hv2:=(VZ (a:=(Dg g).a) (l:= []) (b:=b) hg hv (by decide) ⟨hN.1,by rw [hz,hd];omega⟩ hb (by show 4<=g.sl - 0;omega) (G:=DW d2) (t:=t) (by rw [hdz];exact ht)).1;conv=>whnf
 refine zQ hcc.go ?_;refine⟨rfl,?_⟩;refine⟨rfl,?_⟩;conv=>whnf
 refine zY [.ag (Ba g), .ag (Ey d2), .ag (ER (Bl (Dg g).a [])),iA [lba],Gk [b]] ⟨ri,ri,ri,Fx (L:= [lba]) rfl rfl,EM (L:= [b]) rfl rfl,tv⟩ ?_;refine zM hcc rfl ?_;rintro _ (⟨-,d3,hun3,hfar, -,rfl⟩ | ⟨hx, -⟩);rotate_left 1
 ·exact absurd hx (Nh (WY k2))
 obtain⟨htab,hblk⟩:=hG' (DW d3) hfar;have hsm:=hv2.sm hg;obtain⟨x,hx⟩:∃ x,x=Mt g (Dg g).a [] (DW d2) lba b:=⟨_,rfl⟩;rw [show ([]:List Tx) ++ [Mt g (Dg g).a [] (DW d2) lba b]=[x] by rw [hx];try rfl] at hv2 hsm |-
 rw [<-hx] at htab hblk;have himg:∀ t∈(Bl (Dg g).a [x]).txns,∀ y∈t.images,By g y=true:=fun t ht=>Au.1 (DP hv2.ring t ht).1
 have hct:=Rq g (Bl (Dg g).a [x]) d3 (DW d3) 0 t' hg (hv2.st2 hg hun3.ok hun3.len false) hsm hv2.an (Gs.of hun3.ok hun3.left hun3.len) (fun a=>(H_ hun3.ok a).1) (fun a=>(H_ hun3.ok a).2) ⟨by omega,by omega⟩ (NB hg himg) htab;conv=>whnf
 refine zM hct rfl ?_;rintro _ ⟨d4,hd4,rfl⟩;obtain⟨hun4,hgr4⟩:=hd4.un hun3;have hst4:=hv2.st2 hg hun4.ok hun4.len false;have cb:=Nz g d4 (Bl (Dg g).a [x]) (by have:=hun4.ok.n;omega) (by have:=hun4.ok.m;omega) hsm.big;rw [show Lb g d4 (Bl (Dg g).a [x])=true from hst4] at cb;conv=>whnf
 rw [show ((t'.length:Int) != 5)=false from bne_eq_false_iff_eq.2 (by omega)];conv=>whnf
 refine z_ cb ?_;conv=>whnf
 refine zU Nat (fun k=>([(0,iv lba),(1,bA b),(5, .bp 0 0),(12, .bp 1 0),(15, .bp 2 0),(16, .bp 3 0),(18,iv (k:Nat))], [.box 23 (Ba g), .box 39 (ER (Bl (Dg g).a [x])), .box 70 [BN t'], .box 43 (Ey d4)])) (fun k=>k<=4) (fun k=>4 - k) 0 (by omega)
  (zR (s:= [0,7,9,10]) tA) ?_
 intro k hk;by_cases hk4:k<4;rotate_left 1
 ·obtain rfl:k=4:=by omega
  conv=>whnf
  repeat' (refine zZ ?_;conv=>whnf)
  refine z_ hw ?_;exact⟨_,ri,rfl⟩
 have hlk:=hlost k hk4;have hbk:=hblk k hk4;have hcb:=Wp (lba:=(k:Nat)) hg hv2 hun4 ⟨by omega,by rw [hz,hd];omega⟩;rw [hgr4,show ((k:Nat):Int).tdiv g.d=0 by rw [AU (by omega),hd];omega,show ((k:Nat):Int).tmod g.d=(k:Nat) by rw [AG (by omega),hd];omega,hbk] at hcb;have ixA:(0:Int)<=(k:Nat)/\((k:Nat):Int)<(t'.length:Nat):=by omega
 have hbs:=Hb b (by omega);have hbz:=Hb zero8 (by decide);conv=>whnf
 rw [show decide ((k:Int)<4)=true from decide_eq_true (by omega)];conv=>whnf
 repeat' (refine zZ ?_;conv=>whnf)
 have hmk:(t'.getD ((k:Nat):Int).toNat ⟨0,0,false⟩).lost=G0 lba k:=by rw [Ab];exact hlk
 by_cases hkl:(k:Int)=lba
 ·have hq:G0 lba k=false:=by unfold G0;rw [decide_eq_true hkl,Bool.not_true,Bool.and_false]
  rw [hq] at hmk hcb;rw [if_neg (by decide),if_pos hkl] at hcb;by_cases hk2:k<2
  ·rw [show decide ((k:Int)<2)=true from decide_eq_true (by omega)];conv=>whnf
   rw [show ((k:Int) != lba)=false from bne_eq_false_iff_eq.2 hkl];conv=>whnf
   repeat' (refine zZ ?_;conv=>whnf)
   refine⟨ixA,?_⟩;conv=>whnf
   rw [hmk];conv=>whnf
   repeat' (refine zZ ?_;conv=>whnf)
   refine zM hcb rfl ?_;rintro _ ⟨d5, -,rfl⟩;conv=>whnf
   repeat' (refine zZ ?_;conv=>whnf)
   rw [show ((k:Int) == lba)=true from beq_iff_eq.2 hkl];conv=>whnf
   repeat' (refine zZ ?_;conv=>whnf)
   refine z_ hbs ?_;conv=>whnf
   repeat' (refine zZ ?_;conv=>whnf)
   exact⟨k+1,by omega,by omega,zR (s:= [0,1,2,3]) ⟨⟨rfl,rfl,rfl,rfl,rfl,rfl,AR (by omega),tv⟩,tA,rfl,rfl,rfl,rfl,rfl⟩⟩
  ·rw [show decide ((k:Int)<2)=false from decide_eq_false (by omega)];conv=>whnf
   repeat' (refine zZ ?_;conv=>whnf)
   refine⟨ixA,?_⟩;conv=>whnf
   rw [hmk];conv=>whnf
   repeat' (refine zZ ?_;conv=>whnf)
   refine zM hcb rfl ?_;rintro _ ⟨d5, -,rfl⟩;conv=>whnf
   repeat' (refine zZ ?_;conv=>whnf)
   rw [show ((k:Int) == lba)=true from beq_iff_eq.2 hkl];conv=>whnf
   repeat' (refine zZ ?_;conv=>whnf)
   refine z_ hbs ?_;conv=>whnf
   repeat' (refine zZ ?_;conv=>whnf)
   exact⟨k+1,by omega,by omega,zR (s:= [0,1,2,3]) ⟨⟨rfl,rfl,rfl,rfl,rfl,rfl,AR (by omega),tv⟩,tA,rfl,rfl,rfl,rfl,rfl⟩⟩
 ·by_cases hk2:k<2
  ·have hq:G0 lba k=true:=by unfold G0;rw [decide_eq_false hkl,decide_eq_true hk2];try rfl
   rw [hq] at hmk hcb;rw [if_pos rfl] at hcb;rw [show decide ((k:Int)<2)=true from decide_eq_true (by omega)];conv=>whnf
   rw [show ((k:Int) != lba)=true from bne_iff_ne.2 hkl];conv=>whnf
   repeat' (refine zZ ?_;conv=>whnf)
   refine⟨ixA,?_⟩;conv=>whnf
   rw [hmk];conv=>whnf
   repeat' (refine zZ ?_;conv=>whnf)
   refine zM hcb rfl ?_;rintro _ ⟨d5, -,rfl⟩;conv=>whnf
   repeat' (refine zZ ?_;conv=>whnf)
   exact⟨k+1,by omega,by omega,zR (s:= [0,1,2,3]) ⟨⟨rfl,rfl,rfl,rfl,rfl,rfl,AR (by omega),tv⟩,tA,rfl,rfl,rfl,rfl,rfl⟩⟩
  ·have hq:G0 lba k=false:=by unfold G0;rw [decide_eq_false hk2];try rfl
   rw [hq] at hmk hcb;rw [if_neg (by decide),if_neg hkl] at hcb;rw [show decide ((k:Int)<2)=false from decide_eq_false (by omega)];conv=>whnf
   repeat' (refine zZ ?_;conv=>whnf)
   refine⟨ixA,?_⟩;conv=>whnf
   rw [hmk];conv=>whnf
   repeat' (refine zZ ?_;conv=>whnf)
   refine zM hcb rfl ?_;rintro _ ⟨d5, -,rfl⟩;conv=>whnf
   repeat' (refine zZ ?_;conv=>whnf)
   rw [show ((k:Int) == lba)=false from beq_eq_false_iff_ne.2 hkl];conv=>whnf
   repeat' (refine zZ ?_;conv=>whnf)
   refine⟨by decide,?_⟩;conv=>whnf
   refine zQ hbz.go ?_;refine⟨by decide,?_⟩;conv=>whnf
   refine zY [bA zero8,bA zero8] ⟨ri,HN rfl rfl,tv⟩ ?_;refine z_ hbz ?_;conv=>whnf
   repeat' (refine zZ ?_;conv=>whnf)
   exact⟨k+1,by omega,by omega,zR (s:= [0,1,2,3]) ⟨⟨rfl,rfl,rfl,rfl,rfl,rfl,AR (by omega),tv⟩,tA,rfl,rfl,rfl,rfl,rfl⟩⟩
end
end Go.Proofs.YtepdhdfoipephaaGreatDoor.A
namespace Go.Proofs.YtepdhdfoipephaaGreatDoor
section
open Go.ChangeShapes Go.WideShapes Go.ChangeAt Go.RowKit
theorem own_none:ownKnob Tryz.prog.godebug=none:=by kernel_rfl
theorem laidOut:laidOutB Tryz.prog=true:=by kernel_rfl

section
variable {H:Type} {enc:TypeId × Value->H}
theorem Vu {f:Func} {s:ChangeSpec} {apart fresh handsOn again:Bool} {W W':World} {args:Array Value} {ds:List (DataW H)} {before:List MemPlace}
  (hW:DataW.Whole enc Tryz.prog f.params.toList s.vars apart W args.toList ds [] before) (hv:s.vars=[]) (hvs:(s.fn H (ds ++ [])).vars=[])
  (hr:f.resultTypes = #[4]) (hfr:(s.fn H (ds ++ [])).results=[.lit (.bool true)]) (hfa:(s.fn H (ds ++ [])).args=ds)
  (hrow:∀ t∈f.params.toList,Tryz.prog.readableRec t=true/\t<Tryz.prog.types.size) (hb:Below W.heap.size W W') :
  s.post enc Tryz.prog f apart fresh handsOn again W args (.bool true) W':=by
 have hlt:∀ p∈before,p.block<W.heap.size:=fun p hp=>hW.lt p hp
 obtain⟨p,q,hA,hV,hpq,hz,hn⟩:=id hW;rw [hv] at hV;obtain⟨-,rfl⟩:=trodVars_none hV;rw [AM] at hpq;subst hpq;have stay:∀ sp:Nat->Bool,(∀ x∈before,sp x.block=true)->DataW.TrodAll enc Tryz.prog W' 0 sp true f.params.toList args.toList ds before:=by
  intro sp hsp;have go:∀ (ts:List TypeId) (vs:List Value) (es:List (DataW H)) (ps:List MemPlace),(∀ t∈ts,Tryz.prog.readableRec t=true/\t<Tryz.prog.types.size)->(∀ x∈ps,x∈before)->
    DataW.TrodAll enc Tryz.prog W 0 (fun _=>true) true ts vs es ps->DataW.TrodAll enc Tryz.prog W' 0 sp true ts vs es ps:=by
   intro ts;induction ts with
   | nil=>
    intro vs es ps _ _ h;cases vs <;> cases es <;> exact h
   | cons t ts ih=>
    intro vs es ps ht hin h;cases vs with
    | nil=>cases es <;> exact h.elim
    | cons v vs=>
     cases es with
     | nil=>exact h.elim
     | cons e es=>
      obtain⟨p1,p2,h1,h2,rfl⟩:=h;exact⟨p1,p2,WideElems.Trod_stays laidOut (ht t (by simp)).1 (ht t (by simp)).2 h1 (fun x hx=>hb.same (hlt x (hin x (by simp [hx])))) (fun x hx=>hsp x (hin x (by simp [hx]))),
       ih vs es p2 (fun t' ht'=>ht t' (by simp [ht'])) (fun x hx=>hin x (by simp [hx])) h2,rfl⟩
  exact go _ _ _ _ hrow (fun x hx=>hx) hA
 have hres:∀ (b:Nat) (sp:Nat->Bool) (hd:Bool),DataW.TrodAll enc Tryz.prog W' b sp hd f.resultTypes.toList ((Value.bool true).resultList f.resultTypes.size) (s.fn H (ds ++ [])).results []:=by
  intro b sp hd;rw [hr,hfr];exact trodAll_mk1 ⟨1,by simp [DataW.trod,Value.cells,Tryz.underlying4]⟩
 have hold:∀ p∈before,(fun b=>decide (b<W.heap.size)) p.block=true:=fun p hp=>by simpa using hlt p hp
 have hvars:∀ sp:Nat->Bool,DataW.TrodVars enc Tryz.prog W' sp s.vars (s.fn H (ds ++ [])).vars []:=by
  intro sp;rw [hv,hvs];exact rfl
 refine⟨ds, [],before, [],before, [],hW,hres _ _ _,by rw [hfa];exact stay _ hold,hvars _,World.keptBut_mono (fun p hp=>⟨hp,?_⟩) (hb.frame (·∈before)),fun _=>?_⟩
 ·exact Or.inr (by simpa using hp)
 ·refine⟨ok_one hr rfl (by simp [Value.okWide,Tryz.underlying4,Cell.okWide,Cell.ok]),_,_,([] ++ before) ++ [],⟨[] ++ before, [],trodAll_append (stay _ (fun _ _=>rfl)) (hres _ _ _),hvars _,rfl,?_,?_⟩,?_⟩
  ·intro b off hp;have hin:MemPlace.cell b off∈before:=by simpa using hp
   rw [hb.frozen (hlt _ hin)];exact hz b off hin
  ·intro ha;have:=hn ha;simpa using this
  ·intro p hp _;simpa using hp
end
abbrev Vx : List (String × DataW Unit) := [("unicode/utf8.acceptRanges", Rows.laid_unicode_utf8_acceptRanges), ("unicode/utf8.first", Rows.laid_unicode_utf8_first)]
noncomputable def JL (os:Os):World:=
 let w0:=World.holding Tryz.prog os ⟨#[], #[], []⟩;let put (h:Array Obj) (g:Nat) (cs:Array Value):Array Obj:=h.modify g fun
  | .cells _ t frozen=> .cells cs t frozen
  | o=>o
 let h1:=put w0.heap 0 (Lib.firstTab.map fun z=>Value.int .u8 z).toArray;let h2:=put h1 1 ((List.range 16).flatMap fun i=> [Value.int .u8 (Lib.accLo i),Value.int .u8 (Lib.accHi i)]).toArray
 { w0 with heap:=h2 }
theorem Vw (os:Os) (args:Array Value):laidMetH Tryz.prog Vx ((JL os).forCall (fun _ _=>0) ⟨#[],args, []⟩).memory:=by
 rw [MakeChecks.laidMetH_plain _ _ _ (by kernel_rfl)];exact(LaidIn.of_run (l:=Vx) [1,0] 8 (by kernel_rfl) (by kernel_rfl) (by kernel_rfl) (by kernel_rfl)).met
theorem first_data:Rows.laid_unicode_utf8_first=Lib.firstData:=by kernel_rfl
theorem accept_data:(Rows.laid_unicode_utf8_acceptRanges:DataW Unit)=Lib.acceptData:=by kernel_rfl
theorem Tf {W:World} (h:laidMetH Tryz.prog Vx W):A.globOk W:=by
 rw [MakeChecks.laidMetH_plain _ _ _ (by kernel_rfl)] at h;have h1:=Lib.laidMet.reads h (.head _);have h2:=Lib.laidMet.reads h (.tail _ (.head _));rw [accept_data] at h1;rw [first_data] at h2;exact utf8Tabs_of_readsT (U8Types.of196 Tryz.laysValid) ⟨by kernel_rfl,by kernel_rfl,by kernel_rfl,by kernel_rfl,by kernel_rfl,by kernel_rfl,by kernel_rfl⟩ h2 h1
end
end Go.Proofs.YtepdhdfoipephaaGreatDoor
