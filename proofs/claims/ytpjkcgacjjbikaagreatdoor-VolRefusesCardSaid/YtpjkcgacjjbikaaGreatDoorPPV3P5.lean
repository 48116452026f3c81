/-
Several texts in one.
-/
import Derived.Test.YtpjkcgacjjbikaaGreatDoorPPV3P4
import Derived.Test.YtpjkcgacjjbikaaGreatDoorPPV3P3
import Derived.Test.YtpjkcgacjjbikaaGreatDoorPPV3P2
import Derived.Test.YtpjkcgacjjbikaaGreatDoorPPV3P1
import Derived.Test.YtpjkcgacjjbikaaGreatDoorRows
import Derived.Below
import Derived.ChangeSame
import Derived.Carry
import Derived.Lib.LaidIn
import Derived.Lib.LaidU8T
import Derived.LaidHandle
import Derived.MakeChecks
import Derived.Handed
set_option maxRecDepth 100000
set_option maxHeartbeats 8000000
set_option linter.unusedSimpArgs false
set_option linter.unusedVariables false
set_option linter.deprecated false
namespace Go.Proofs.YtpjkcgacjjbikaaGreatDoor.A
section
open Go.RowKit
theorem RW {g:Geo} {b:List UInt8} {t:List Ent} (h:CU g b=some t):t.length=(g.d+1).toNat:=by
 unfold CU at h;split at h
 ·rw [<-Option.some.inj h,entsOf_len]
 ·cases h
theorem OW {g:Geo} {x:Gt} {q r:Int} {t:List Ent} (h:Cw g x q r=some t):t.length=(g.d+1).toNat:=by
 rw [Lf] at h;split at h
 ·exact RW h
 ·cases h
theorem Uy {g:Geo} (hg:Bt g=true) {s:Stt} {F:Int->List UInt8} {z:Int} {t:List Ent} (h:Fj g s F z=some t):(t.length:Int)=g.d+1:=by
 have g5:=Ay.1 hg;have:t.length=(g.d+1).toNat:=by
  unfold Fj at h;split at h
  ·exact RW h
  ·split at h
   ·rename_i q;rw [<-Option.some.inj h];exact OW q
   ·exact OW h
 omega
theorem VW (g:Geo) (s:Stt) (d:Dk) (F:Int->List UInt8) (z w:Int) (t:List Ent) (hg:Bt g=true) (ha:B7 g s.a=true) (h:Gd (A7 g) d F) (hF:∀ a,(F a).length<=100000) (hz:0<=z/\z<g.z) (hw : -1<=w/\w<g.d) (ht:(t.length:Int)=g.d+1) :
  ACalls Tryz.prog false 91 [.bp 0 0,iv z,iv w, .ag [BX t]] (GF g s d) fun r H=>r = .tp [bA ((DI ⟨0,F (D3 g s.a z w)⟩ (D3 g s.a z w) (t.getD (Ex g w).toNat ez)).getD []),iv 0]/\∃ d',Gd (A7 g) d' F/\H=GF g s d':=by
 have hadr:=Pw g s.a z w hg ha hz hw;obtain⟨sl,e1,e2⟩:=M4 hg ha hz (w:=w) hw;have hsl:=KN hg hz e2;have hat:0<=Ex g w/\Ex g w<=g.d:=by have:=Ay.1 hg;unfold Ex;split <;> omega
 have hci:=NA g w;obtain⟨X,hX⟩:∃ X,X=D3 g s.a z w:=⟨_,rfl⟩;rw [<-hX] at hadr e1 |-
 have hcb:=H7 hg;have hrd:=Sq g s d F X h (by have:=Ay.1 hg;omega);have heb:=N7 ⟨0,F X⟩ X (t.getD (Ex g w).toNat ez) (hF _);have ixA:0<=Ex g w/\Ex g w<(t.length:Nat):=by omega
 refine zV tys_ok Tryz.func91 rfl rfl (Ad rfl) ?_;conv=>whnf
 apply zH tys_ok mixed (.o [0,1,2,3,4,5,6,7,8,9,10,11,12,13,14,15,16] .fin) [10,11,15,16,17,18,19,20,21,22,23,24,25,26,27,28,29] (by kernel_rfl)
 ·conv=>whnf
  refine zY hadr ?_;exact tA
 conv=>whnf
 refine ze9 [0,1,2,3] hrd ?_;rintro _ _ ⟨rfl,d2,hd2,rfl⟩;conv=>whnf
 repeat' (refine zZ ?_;conv=>whnf)
 apply zH tys_ok mixed (.o [0,1,2,3,4,5,6,7,8,9,10,11,12,13,14,15,16,17] .fin) [13,14,36,37,38,39,40,41,42,43,44,45,46,47,48,49,50,51] (by kernel_rfl)
 ·conv=>whnf
  refine zY hci ?_;conv=>whnf
  try (refine Ai (by first | omega | exact ixA | exact ixB | (simp;done)) ?_;conv=>whnf)
  refine zY heb ?_;exact tA
 conv=>whnf
 obtain⟨B,hBe⟩:∃ B,B=(DI ⟨0,F X⟩ X (t.getD (Ex g w).toNat ez)).getD []:=⟨_,rfl⟩;rw [<-hBe];exact⟨.tp [bA B,iv 0], .tp [bA B,iv 0],GF g s d2,fun _ _ h=>h,zR (s:= [0,1,2,3]) tA,rfl,d2,hd2,rfl⟩
theorem Qi (g:Geo) (a:An) (l:List Tx) (d:Dk) (F:Int->List UInt8) (lba:Int) (t:List Ent) (v:Int->List UInt8) (hg:Bt g=true) (hl:LogB l) (ha:B7 g a=true) (h:Gd (A7 g) d F) (hF:∀ a,(F a).length<=100000) (hb:0<=lba/\lba<g.z*g.d) (hB:∀ p,CI l (lba.tdiv g.d) 255=some p->p.1.bytes.length<=100000) (hv:ZoneV g a l F (lba.tdiv g.d) t v) :
  ACalls Tryz.prog false 40 [.bp 0 0,iv lba] (GF g (AI a l) d) fun r H=>r = .tp [bA (v (lba.tmod g.d)),iv 0]/\∃ d',Gd (A7 g) d' F/\H=GF g (AI a l) d':=by
 have g5:=Ay.1 hg;have h1:=If g lba hg hb;have hz:0<=lba.tdiv g.d/\lba.tdiv g.d<g.z:=by
  rw [Bw hb.1];exact⟨Dh hb.1 (by omega),De (by omega) hb.2⟩
 have hA:0<=lba.tmod g.d/\lba.tmod g.d<g.d:=⟨BH _ hb.1,B3 _ (by omega)⟩;obtain⟨Z,hZ⟩:∃ Z,Z=lba.tdiv g.d:=⟨_,rfl⟩;obtain⟨A,hAe⟩:∃ A,A=lba.tmod g.d:=⟨_,rfl⟩;rw [<-hZ] at h1 hz hB hv;rw [<-hAe] at h1 hA |-
 have ht:=Uy hg hv.tab;have h2:=XE g (AI a l) d F Z hg hl ha h hF hz hB t hv.tab;have h3:=Nk l Z A hl.n hl.i;have hat:Ex g A=A:=by unfold Ex;rw [if_neg (by omega)]
 have hE:=hv.ent A (by omega) hA.2;have hV:=hv.val A (by omega) hA.2;have hLn:=hv.len A (by omega) hA.2;rw [hat] at hE hV;have ixA:0<=A/\A<(t.length:Nat):=by omega
 cases hL:CI l Z A with
 | some p=>
  rw [hL] at h3 hV;simp only at h3 hV;rw [hV.1] at h3;refine zV tys_ok Tryz.func40 rfl rfl (Ad rfl) ?_;conv=>whnf
  refine zY h1 ?_;conv=>whnf
  refine ze9 [0,1,2,3] h2 ?_;rintro _ _ ⟨rfl,d2,hd2,rfl⟩;conv=>whnf
  repeat' (refine zZ ?_;conv=>whnf)
  refine⟨ixA,?_⟩;conv=>whnf
  rw [show (t.getD A.toNat ⟨0,0,false⟩).lost=false from hE.1];conv=>whnf
  refine zY h3 ?_;exact⟨.tp [bA (v A),iv 0], .tp [bA (v A),iv 0],GF g (AI a l) d2,fun _ _ h=>h,zR (s:= [0,1,2,3]) tA,rfl,d2,hd2,rfl⟩
 | none=>
  rw [hL] at h3 hV;simp only at h3 hV;refine zV tys_ok Tryz.func40 rfl rfl (Ad rfl) ?_;conv=>whnf
  refine zY h1 ?_;conv=>whnf
  refine ze9 [0,1,2,3] h2 ?_;rintro _ _ ⟨rfl,d2,hd2,rfl⟩;have h4:=VW g (AI a l) d2 F Z A t hg ha hd2 hF hz (by omega) ht;rw [hat] at h4;change ACalls Tryz.prog false 91 [.bp 0 0,iv Z,iv A, .ag [BX t]] (GF g (AI a l) d2) (fun r H=>r = .tp [bA ((DI ⟨0,F (D3 g a Z A)⟩ (D3 g a Z A) (t.getD A.toNat ez)).getD []),iv 0]/\∃ d',Gd (A7 g) d' F/\H=GF g (AI a l) d') at h4;rw [hV] at h4;replace h4:ACalls Tryz.prog false 91 [.bp 0 0,iv Z,iv A, .ag [BX t]] (GF g (AI a l) d2) (fun r H=>r = .tp [bA (v A),iv 0]/\∃ d',Gd (A7 g) d' F/\H=GF g (AI a l) d'):=h4;conv=>whnf
  repeat' (refine zZ ?_;conv=>whnf)
  refine⟨ixA,?_⟩;conv=>whnf
  rw [show (t.getD A.toNat ⟨0,0,false⟩).lost=false from hE.1];conv=>whnf
  refine zY h3 ?_;conv=>whnf
  refine ze9 [0,1,2,3] h4 ?_;rintro _ _ ⟨rfl,d3,hd3,rfl⟩;conv=>whnf
  rw [show decide (((v A).length:Int) > 0)=true from decide_eq_true (by omega)];exact⟨.tp [bA (v A),iv 0], .tp [bA (v A),iv 0],GF g (AI a l) d3,fun _ _ h=>h,zR (s:= [0,1,2,3]) tA,rfl,d3,hd3,rfl⟩
def Yd (g:Geo) (i:Nat):Int:=if (i:Int)=g.d then -1 else (i:Nat)
def TJ (g:Geo) (s:Stt) (F:Int->List UInt8) (t:List Ent) (z:Int) (k:Nat):List (List UInt8):=(List.range k).map fun i=>G3 g s F t z (Yd g i)
theorem X8 {g:Geo} (hg:Bt g=true) (s:Stt) (F:Int->List UInt8) (t:List Ent) (z:Int):TJ g s F t z (g.d.toNat+1)=CX g s F t z:=by
 obtain⟨g1,g2,g3,g4,g5⟩:=Ay.1 hg;unfold TJ CX TE;rw [B9,A0,A6,By,show Yd g g.d.toNat = -1 by unfold Yd;rw [if_pos (by omega)]];congr 1;refine Dv fun i hi=>?_
 have:=AL.1 hi;unfold Yd;rw [if_neg (by omega)]
theorem X7 (g:Geo) (s:Stt) (d:Dk) (a:Int) (h:DkOk d) (ha:0<=a/\a<d.cells.length) :
  ACalls Tryz.prog false 162 [.bp 0 0,iv a] (GO g s d) fun r H=>r = .ag (Ec ⟨(d.read a).2.2,(d.read a).2.1⟩)/\H=GO g s (d.read a).1:=by
 have hr:=P_ BG d a h.l ha h.m (fun c hc=>by have:=(h.c c hc).2.1;omega) (fun w hw=>by have:=(h.w w hw).2;omega);refine zV tys_ok Tryz.func162 rfl rfl (Ad rfl) ?_;conv=>whnf
 refine ze9 [1,2,3] hr ?_;rintro _ _ ⟨rfl,rfl⟩;exact⟨_, .ag (Ec ⟨(d.read a).2.2,(d.read a).2.1⟩),GO g s (d.read a).1,fun _ _ h=>h,zR (s:= [0,1,2,3,4]) tA,rfl,rfl⟩
theorem Qh (g:Geo) (s:Stt) (d:Dk) (a:Int) (b:List UInt8) (h:DkOk d) (ha:0<=a/\a<d.cells.length) (hb:b.length<=200) :
  ACalls Tryz.prog false 149 [.bp 0 0,iv a,bA b] (GO g s d) fun r H=>r = .tp [.v (.bool (decide ((d.write a b).2=0))),iv (if (d.write a b).2=8 then 8 else 0)]/\H=GO g s (d.write a b).1:=by
 have hr:=N8 BG d a b h.l ha h.m (by omega);have he:(d.write a b).2=8\/(d.write a b).2=7\/(d.write a b).2=0:=by
  unfold Dk.write;split
  ·exact .inl rfl
  ·split
   ·exact .inr (.inl rfl)
   ·exact .inr (.inr rfl)
 generalize d.write a b=q at hr he |-
 obtain⟨d',e⟩:=q;simp only at hr he |-
 refine zV tys_ok Tryz.func149 rfl rfl (Ad rfl) ?_;conv=>whnf
 refine ze9 [1,2,3] hr ?_;rintro _ _ ⟨rfl,rfl⟩;rcases he with rfl | rfl | rfl
 all_goals
  exact⟨_,_,GO g s d',fun _ _ h=>h,zR (s:= [0,1,2,3,4]) tA,rfl,rfl⟩
theorem PN (g:Geo) (s:Stt) (d:Dk) (F:Int->List UInt8) (a:Int) (h:Gd (A7 g) d F) (ha:0<=a/\a<A7 g) :
  ACalls Tryz.prog false 162 [.bp 0 0,iv a] (GO g s d) fun r H=>r = .ag (Ec ⟨0,F a⟩)/\∃ d',Gd (A7 g) d' F/\H=GO g s d':=by
 have hr:=X7 g s d a h.ok (by rw [h.len];exact ha);rw [h.read ha.1 ha.2] at hr;exact hr.mono fun r H hh=>⟨hh.1,d.req,h.req,hh.2⟩
theorem VV (g:Geo) (s:Stt) (d:Dk) (F:Int->List UInt8) (z:Int) (hg:Bt g=true) (hl:LogB s.txns) (ha:B7 g s.a=true) (h:Gd (A7 g) d F) (hF:∀ a,(F a).length<=100000) (hz:0<=z/\z<g.z) (hB:∀ p,CI s.txns z 255=some p->p.1.bytes.length<=100000) (t:List Ent) (ht:Fj g s F z=some t) :
    ACalls Tryz.prog false 89 [.bp 0 0,iv z] (GO g s d) fun r H=>r = .tp [.ag [BX t],iv 0]/\∃ d',Gd (A7 g) d' F/\H=GO g s d':=by
  have hf:=JN s.txns z 255 hl.n hl.i;unfold Fj at ht;cases hL:CI s.txns z 255 with
  | some p=>
    obtain⟨x,q⟩:=p;rw [hL] at hf ht;simp only at hf ht;have hr:=IZ g x.bytes (hB _ hL);rw [hg,if_pos rfl,ht] at hr;refine zV tys_ok Tryz.func89 rfl rfl (Ad rfl) ?_;conv=>whnf
    refine ze9 [4] hf ?_;rintro _ _ ⟨rfl,rfl⟩;conv=>whnf
    refine zY hr ?_;exact⟨.tp [.ag [BX t],iv 0], .tp [.ag [BX t],iv 0],GO g s d,fun _ _ h=>h,zR (s:= [0,1,2,3,4]) tA,rfl,d,h,rfl⟩
  | none=>
    rw [hL] at hf ht;simp only at hf ht;have hR:=Pz s.a s.txns z (by have:=(Sm ha hz).1;omega) hl.n (fun t ht=>(hl.i t ht).1);refine zV tys_ok Tryz.func89 rfl rfl (Ad rfl) ?_;conv=>whnf
    refine ze9 [4] hf ?_;rintro _ _ ⟨rfl,rfl⟩;conv=>whnf
    apply zH tys_ok mixed (.o [0,1,2,3,4,5,6,7,8,9,10,11,12,13,14,15,16] .fin) [11,12,41,42,43,44,45,46,47,48,49,50,51,52,53,54,55] (by kernel_rfl)
    · conv=>whnf
      (refine zj (args':= [.ag (Fi s.a), .sl 4 s.txns.length fun i=>(s.txns.map Ir).getD i [],iv z]) (hR.subA ⟨fun _ _ h=>h,Cd (f:=Ir) s.txns rfl rfl,fun _ _ h=>h,tv⟩) ⟨(Aa _).symm,rfl⟩ ?_;rintro _ rfl;refine⟨rfl,?_⟩)
      exact tA
    conv=>whnf
    have htab:∀ k:Nat,k<2->g.an+2*g.sl<=Bg g z (k:Nat)/\Bg g z (k:Nat)<A7 g:=fun k hk=>by have:=QB hg hz (k:=(k:Nat)) (by omega);omega
    refine zS (Nat × Dk) (fun x=>([(0, .bp 0 0),(1,iv z),(4, .bp 5 0),(11,iv (Dw s.a s.txns z)),(56,iv (x.1:Nat))],GO g s x.2 ++ ([.box 145 [.v (.slice none 0 0)]]:List AB))) (fun x=>x.1<=2/\Gd (A7 g) x.2 F/\∀ j:Nat,j<x.1->Cw g ⟨0,F (Bg g z (j:Nat))⟩ (Bg g z (j:Nat)) (Dw s.a s.txns z)=none) (fun x=>2 - x.1) (0,d) ⟨Aj _,h,fun j hj=>absurd hj (Ap j)⟩
      (zR (s:= [0,1,2,3,4,5]) tA) ?_
    rintro⟨k,d1⟩ ⟨hk,hd1,hno⟩;simp only at hk hd1 hno;conv=>whnf
    refine AP (fun h6=>?_) (fun h6=>?_) <;> (repeat rw [Ac] at h6) <;> conv=>whnf
    · have hk2:k<2:=by omega
      have hta:=JW g z (k:Nat) hg hz (by omega);obtain⟨q1,q2⟩:=htab k hk2;have hz2:=Ay.1 hg;have hrd:=PN g s d1 F (Bg g z (k:Nat)) hd1 (by omega);have hto:=N5 g ⟨0,F (Bg g z (k:Nat))⟩ (Bg g z (k:Nat)) (Dw s.a s.txns z) hg (hF _);repeat' (refine zZ ?_;conv=>whnf)
      refine zY hta ?_;conv=>whnf
      repeat' (refine zZ ?_;conv=>whnf)
      refine ze9 [0,1,2,3,4] hrd ?_;rintro _ _ ⟨rfl,d2,hd2,rfl⟩;conv=>whnf
      repeat' (refine zZ ?_;conv=>whnf)
      have hGk:∀ u,Cw g ⟨0,F (Bg g z (k:Nat))⟩ (Bg g z (k:Nat)) (Dw s.a s.txns z)=some u->u=t:=fun u hu=>by
        match k,hk2 with
        | 0,_=>
          have hu:Cw g ⟨0,F (Bg g z 0)⟩ (Bg g z 0) (Dw s.a s.txns z)=some u:=hu;rw [hu] at ht;exact Option.some.inj ht
        | 1,_=>
          have h0:Cw g ⟨0,F (Bg g z 0)⟩ (Bg g z 0) (Dw s.a s.txns z)=none:=hno 0 (by decide);have hu:Cw g ⟨0,F (Bg g z 1)⟩ (Bg g z 1) (Dw s.a s.txns z)=some u:=hu;rw [h0] at ht;simp only at ht;exact Option.some.inj (hu.symm.trans ht)
      apply zX (0) tys_ok mixed (.o [0,1,2,3,4,5,6] (.two 7 (.o [8,9,10,11,12,13] .fin) 11 (.o [7,8,9,10,12,13] .fin))) (by kernel_rfl);refine Ai ?_ ?_;conv=>whnf
      refine zY hto ?_;conv=>whnf
      try (refine tS ?_;conv=>whnf)
      rotate_left 1;conv=>whnf
      refine zY hto ?_;conv=>whnf
      try (refine tS ?_;conv=>whnf)
      rotate_left 1;all_goals
        cases hT:Cw g ⟨0,F (Bg g z (k:Nat))⟩ (Bg g z (k:Nat)) (Dw s.a s.txns z)
      all_goals
        conv=>whnf
        first
        | exact⟨(k+1,d2),⟨by show k+1<=2;omega,hd2,fun j hj=>by by_cases e:j=k;exact e ▸ hT;exact hno j (by have:j<k+1:=hj;omega)⟩,by show 2 - (k+1)<2 - k;omega,zR (s:= [0,1,2,3,4,5]) ⟨⟨rfl,rfl,rfl,rfl,AQ (by omega),tv⟩,tA,rfl,rfl,rfl,rfl,rfl⟩⟩
        | (rename_i u
           have e:=hGk _ hT;subst e;exact⟨.tp [.ag [BX u],iv 0], .tp [.ag [BX u],iv 0],GO g s d2,fun _ _ h=>h,zR (s:= [0,1,2,3,4]) tA,rfl,d2,hd2,rfl⟩)
    · have ek:k=2:=by omega
      subst ek;have h0:Cw g ⟨0,F (Bg g z 0)⟩ (Bg g z 0) (Dw s.a s.txns z)=none:=hno 0 (by decide);have h1:Cw g ⟨0,F (Bg g z 1)⟩ (Bg g z 1) (Dw s.a s.txns z)=none:=hno 1 (by decide);rw [h0] at ht;simp only at ht;rw [h1] at ht;cases ht
theorem NB (g:Geo) (s:Stt) (d:Dk) (F:Int->List UInt8) (z w:Int) (t:List Ent) (hg:Bt g=true) (ha:B7 g s.a=true) (h:Gd (A7 g) d F) (hF:∀ a,(F a).length<=100000) (hz:0<=z/\z<g.z) (hw : -1<=w/\w<g.d) (ht:(t.length:Int)=g.d+1) :
  ACalls Tryz.prog false 91 [.bp 0 0,iv z,iv w, .ag [BX t]] (GO g s d) fun r H=>r = .tp [bA ((DI ⟨0,F (D3 g s.a z w)⟩ (D3 g s.a z w) (t.getD (Ex g w).toNat ez)).getD []),iv 0]/\∃ d',Gd (A7 g) d' F/\H=GO g s d':=by
 have hadr:=Pw g s.a z w hg ha hz hw;obtain⟨sl,e1,e2⟩:=M4 hg ha hz (w:=w) hw;have hsl:=KN hg hz e2;have hat:0<=Ex g w/\Ex g w<=g.d:=by have:=Ay.1 hg;unfold Ex;split <;> omega
 have hci:=NA g w;obtain⟨X,hX⟩:∃ X,X=D3 g s.a z w:=⟨_,rfl⟩;rw [<-hX] at hadr e1 |-
 have hcb:=H7 hg;have hrd:=PN g s d F X h (by have:=Ay.1 hg;omega);have heb:=N7 ⟨0,F X⟩ X (t.getD (Ex g w).toNat ez) (hF _);have ixA:0<=Ex g w/\Ex g w<(t.length:Nat):=by omega
 refine zV tys_ok Tryz.func91 rfl rfl (Ad rfl) ?_;conv=>whnf
 apply zH tys_ok mixed (.o [0,1,2,3,4,5,6,7,8,9,10,11,12,13,14,15,16] .fin) [10,11,15,16,17,18,19,20,21,22,23,24,25,26,27,28,29] (by kernel_rfl)
 ·conv=>whnf
  refine zY hadr ?_;exact tA
 conv=>whnf
 refine ze9 [0,1,2,3,4] hrd ?_;rintro _ _ ⟨rfl,d2,hd2,rfl⟩;conv=>whnf
 repeat' (refine zZ ?_;conv=>whnf)
 apply zH tys_ok mixed (.o [0,1,2,3,4,5,6,7,8,9,10,11,12,13,14,15,16,17] .fin) [13,14,36,37,38,39,40,41,42,43,44,45,46,47,48,49,50,51] (by kernel_rfl)
 ·conv=>whnf
  refine zY hci ?_;conv=>whnf
  try (refine Ai (by first | omega | exact ixA | exact ixB | (simp;done)) ?_;conv=>whnf)
  refine zY heb ?_;exact tA
 conv=>whnf
 obtain⟨B,hBe⟩:∃ B,B=(DI ⟨0,F X⟩ X (t.getD (Ex g w).toNat ez)).getD []:=⟨_,rfl⟩;rw [<-hBe];exact⟨.tp [bA B,iv 0], .tp [bA B,iv 0],GO g s d2,fun _ _ h=>h,zR (s:= [0,1,2,3,4]) tA,rfl,d2,hd2,rfl⟩
theorem Qe (g:Geo) (s:Stt) (d:Dk) (F:Int->List UInt8) (z:Int) (hg:Bt g=true) (hl:LogB s.txns) (ha:B7 g s.a=true) (h:Gd (A7 g) d F) (hF:∀ a,(F a).length<=100000) (hz:0<=z/\z<g.z) (hB:∀ p,CI s.txns z 255=some p->p.1.bytes.length<=100000) (t:List Ent) (ht:Fj g s F z=some t) :
  ACalls Tryz.prog false 92 [.bp 0 0,iv z] (GO g s d) fun r H=>r = .tp [.ag [BX t],GW (CX g s F t z),iv 0]/\∃ d',Gd (A7 g) d' F/\H=GO g s d':=by
 obtain⟨g1,g2,g3,g4,g5⟩:=Ay.1 hg;have hT:=VV g s d F z hg hl ha h hF hz hB t ht;have htn:=Uy hg ht;have hd1:IntKind.i64.wrap (g.d+1)=g.d+1:=wi (by omega);refine zV tys_ok Tryz.func92 rfl rfl (Ad rfl) ?_;conv=>whnf
 refine ze9 [0,1,2,3,4] hT ?_;rintro _ _ ⟨rfl,d2,hd2,rfl⟩;conv=>whnf
 rw [hd1];refine zS (Nat × Dk) (fun x=>([(0, .bp 0 0),(1,iv z),(4, .bp 5 0),(5, .ow 6 x.1),(27,iv (g.d+1)),(28,iv (x.1:Nat))],GO g s x.2 ++ ([.box 145 [BX t], .row 22 1 ((TJ g s F t z x.1).map M8)]:List AB))) (fun x=>(x.1:Int)<=g.d+1/\Gd (A7 g) x.2 F) (fun x=>g.d.toNat+1 - x.1) (0,d2) ⟨by show ((0:Nat):Int)<=g.d+1;omega,hd2⟩
  ⟨_,_,zo _ _, [(5,22,1)],tA, [0,1,2,3,4,5,6],tA,tA,rfl,rfl,rfl,rfl,rfl⟩ ?_
 rintro⟨k,d1⟩ ⟨hk,hd1⟩;simp only at hk hd1;by_cases hkn:(k:Int)<g.d+1;rotate_left 1
 ·have ek:k=g.d.toNat+1:=by omega
  conv=>whnf
  rw [show decide ((k:Int)<g.d+1)=false from decide_eq_false hkn];conv=>whnf
  repeat' (refine zZ ?_;conv=>whnf)
  have hlen:(CX g s F t z).length=g.d.toNat+1:=by simp [CX,TE]
  subst ek;exact⟨.tp [.ag [BX t], .ow 6 (CX g s F t z).length,iv 0], .tp [.ag [BX t],GW (CX g s F t z),iv 0],GO g s d1,BT (m:= [.ag [BX t], .ow 6 (CX g s F t z).length,iv 0]) ⟨ri,by rw [hlen];exact fun _ _ h=>h,ri,tv⟩,zL (zN (ConvF.sealTp 0 6 (es:=(CX g s F t z).map M8) (by rw [Aa];try rfl) (congrArg (fun L=>some (AB.row 22 1 (List.map M8 L))) (X8 hg s F t z))) (zB 0 rfl (BT (m:= [.ag [BX t],GW (CX g s F t z),iv 0]) ⟨ri,FU (Aa _) rfl,ri,tv⟩))) (s:= [0,1,2,3,4]) tA,rfl,d1,hd1,rfl⟩
 ·conv=>whnf
  rw [show decide ((k:Int)<g.d+1)=true from decide_eq_true hkn];conv=>whnf
  repeat' (refine zZ ?_;conv=>whnf)
  by_cases hkd:(k:Int)=g.d
  ·rw [show (((k:Nat):Int) == g.d)=true by rw [hkd];simp];have e1:Yd g k=(-1):=by unfold Yd;first | rw [if_pos hkd] | rw [if_neg hkd]
   have e2:(TJ g s F t z k).map M8 ++ [M8 (G3 g s F t z (-1))]=(TJ g s F t z (k+1)).map M8:=by rw [<-e1];simp [TJ,B9]
   have hf:=JN s.txns z (-1) hl.n hl.i;have hlk:(TJ g s F t z k).length=k:=by simp [TJ]
   cases hL:CI s.txns z (-1) with
   | some p=>
    rw [hL] at hf;simp only at hf;have e3:G3 g s F t z (-1)=p.1.bytes:=by unfold G3;rw [hL]
    rw [e3] at e2;conv=>whnf
    repeat' (refine zZ ?_;conv=>whnf)
    refine ze9 [4] hf ?_;rintro _ _ ⟨rfl,rfl⟩;conv=>whnf
    repeat' (refine zZ ?_;conv=>whnf)
    refine⟨rfl,?_⟩;refine⟨⟨by rw [Aa,hlk],by omega⟩,?_⟩;conv=>whnf
    exact⟨(k+1,d1),⟨by show ((k+1:Nat):Int)<=g.d+1;omega,hd1⟩,by show g.d.toNat+1 - (k+1)<g.d.toNat+1 - k;omega,zR (s:= [0,1,2,3,4,5,6]) ⟨⟨rfl,rfl,rfl,rfl,rfl,AQ (by omega),tv⟩,⟨rfl,rfl,rfl,rfl,rfl,rfl,congrArg (fun es=>some (AB.row 22 1 es)) e2,tv⟩,rfl,rfl,rfl,rfl,rfl⟩⟩
   | none=>
    rw [hL] at hf;simp only at hf;have e3:G3 g s F t z (-1)=(DI ⟨0,F (D3 g s.a z (-1))⟩ (D3 g s.a z (-1)) (t.getD (Ex g (-1)).toNat ez)).getD []:=by unfold G3;rw [hL]
    have hh:=NB g s d1 F z (-1) t hg ha hd1 hF hz (by omega) htn;rw [<-e3] at hh;conv=>whnf
    repeat' (refine zZ ?_;conv=>whnf)
    refine ze9 [4] hf ?_;rintro _ _ ⟨rfl,rfl⟩;conv=>whnf
    repeat' (refine zZ ?_;conv=>whnf)
    refine ze9 [0,1,2,3,4] hh ?_;rintro _ _ ⟨rfl,d3,hd3,rfl⟩;conv=>whnf
    repeat' (refine zZ ?_;conv=>whnf)
    refine⟨rfl,?_⟩;refine⟨⟨by rw [Aa,hlk],by omega⟩,?_⟩;conv=>whnf
    exact⟨(k+1,d3),⟨by show ((k+1:Nat):Int)<=g.d+1;omega,hd3⟩,by show g.d.toNat+1 - (k+1)<g.d.toNat+1 - k;omega,zR (s:= [0,1,2,3,4,5,6]) ⟨⟨rfl,rfl,rfl,rfl,rfl,AQ (by omega),tv⟩,⟨rfl,rfl,rfl,rfl,rfl,rfl,congrArg (fun es=>some (AB.row 22 1 es)) e2,tv⟩,rfl,rfl,rfl,rfl,rfl⟩⟩
  ·rw [show (((k:Nat):Int) == g.d)=false from beq_eq_false_iff_ne.2 hkd];have e1:Yd g k=((k:Nat):Int):=by unfold Yd;first | rw [if_pos hkd] | rw [if_neg hkd]
   have e2:(TJ g s F t z k).map M8 ++ [M8 (G3 g s F t z ((k:Nat):Int))]=(TJ g s F t z (k+1)).map M8:=by rw [<-e1];simp [TJ,B9]
   have hf:=JN s.txns z ((k:Nat):Int) hl.n hl.i;have hlk:(TJ g s F t z k).length=k:=by simp [TJ]
   cases hL:CI s.txns z ((k:Nat):Int) with
   | some p=>
    rw [hL] at hf;simp only at hf;have e3:G3 g s F t z ((k:Nat):Int)=p.1.bytes:=by unfold G3;rw [hL]
    rw [e3] at e2;conv=>whnf
    repeat' (refine zZ ?_;conv=>whnf)
    refine ze9 [4] hf ?_;rintro _ _ ⟨rfl,rfl⟩;conv=>whnf
    repeat' (refine zZ ?_;conv=>whnf)
    refine⟨rfl,?_⟩;refine⟨⟨by rw [Aa,hlk],by omega⟩,?_⟩;conv=>whnf
    exact⟨(k+1,d1),⟨by show ((k+1:Nat):Int)<=g.d+1;omega,hd1⟩,by show g.d.toNat+1 - (k+1)<g.d.toNat+1 - k;omega,zR (s:= [0,1,2,3,4,5,6]) ⟨⟨rfl,rfl,rfl,rfl,rfl,AQ (by omega),tv⟩,⟨rfl,rfl,rfl,rfl,rfl,rfl,congrArg (fun es=>some (AB.row 22 1 es)) e2,tv⟩,rfl,rfl,rfl,rfl,rfl⟩⟩
   | none=>
    rw [hL] at hf;simp only at hf;have e3:G3 g s F t z ((k:Nat):Int)=(DI ⟨0,F (D3 g s.a z ((k:Nat):Int))⟩ (D3 g s.a z ((k:Nat):Int)) (t.getD (Ex g ((k:Nat):Int)).toNat ez)).getD []:=by unfold G3;rw [hL]
    have hh:=NB g s d1 F z ((k:Nat):Int) t hg ha hd1 hF hz (by omega) htn;rw [<-e3] at hh;conv=>whnf
    repeat' (refine zZ ?_;conv=>whnf)
    refine ze9 [4] hf ?_;rintro _ _ ⟨rfl,rfl⟩;conv=>whnf
    repeat' (refine zZ ?_;conv=>whnf)
    refine ze9 [0,1,2,3,4] hh ?_;rintro _ _ ⟨rfl,d3,hd3,rfl⟩;conv=>whnf
    repeat' (refine zZ ?_;conv=>whnf)
    refine⟨rfl,?_⟩;refine⟨⟨by rw [Aa,hlk],by omega⟩,?_⟩;conv=>whnf
    exact⟨(k+1,d3),⟨by show ((k+1:Nat):Int)<=g.d+1;omega,hd3⟩,by show g.d.toNat+1 - (k+1)<g.d.toNat+1 - k;omega,zR (s:= [0,1,2,3,4,5,6]) ⟨⟨rfl,rfl,rfl,rfl,rfl,AQ (by omega),tv⟩,⟨rfl,rfl,rfl,rfl,rfl,rfl,congrArg (fun es=>some (AB.row 22 1 es)) e2,tv⟩,rfl,rfl,rfl,rfl,rfl⟩⟩
theorem VY (g:Geo) (s:Stt) (d:Dk) (x:Rc) (Q:Int) (hg:Bt g=true) (hx:EH g x=true) (hxl:x.img.bytes.length<=100000) (hQ:0<=Q/\Q<g.sl) (h:DkOk d) (hn:(d.cells.length:Int)=A7 g) (h1:(d.write (Bc g 0 Q) (B6 g x 0 Q)).2≠8) (h2:((d.write (Bc g 0 Q) (B6 g x 0 Q)).1.write (Bc g 1 Q) (B6 g x 1 Q)).2≠8) :
  ACalls Tryz.prog false 76 [.bp 0 0, .ag (Ho x),iv Q] (GO g s d) fun r H=>r = .tp [.v (.bool (decide ((d.write (Bc g 0 Q) (B6 g x 0 Q)).2=0) || decide (((d.write (Bc g 0 Q) (B6 g x 0 Q)).1.write (Bc g 1 Q) (B6 g x 1 Q)).2=0))),iv 0]/\H=GO g s ((d.write (Bc g 0 Q) (B6 g x 0 Q)).1.write (Bc g 1 Q) (B6 g x 1 Q)).1:=by
 have q0:=Lz (g:=g) (.inl rfl) hQ (c:=0);have q1:=Lz (g:=g) (.inr rfl) hQ (c:=1);have l0:=LC g 0 Q;have l1:=LC g 1 Q;have r0:=Ls g x 0 Q hxl;have r1:=Ls g x 1 Q hxl;rw [hg,q0] at l0;rw [hg,q1] at l1;rw [hx,q0] at r0;rw [hx,q1] at r1;have b0:=E3 hg hn (.inl rfl) hQ (c:=0);have b1:=E3 hg hn (.inr rfl) hQ (c:=1);have c0:=Qh g s d (Bc g 0 Q) (B6 g x 0 Q) h (by omega) (Ce hx 0 Q);have hok:=h.write (a:=Bc g 0 Q) (b:=B6 g x 0 Q) (by omega) (Ce hx 0 Q);have hlen:(d.write (Bc g 0 Q) (B6 g x 0 Q)).1.cells.length=d.cells.length:=KH d _ _;have c1:=Qh g s (d.write (Bc g 0 Q) (B6 g x 0 Q)).1 (Bc g 1 Q) (B6 g x 1 Q) hok (by omega) (Ce hx 1 Q);rw [if_neg h1] at c0;rw [if_neg h2] at c1;generalize (d.write (Bc g 0 Q) (B6 g x 0 Q)).1.write (Bc g 1 Q) (B6 g x 1 Q)=W2 at c1 |-
 generalize d.write (Bc g 0 Q) (B6 g x 0 Q)=W1 at c0 c1 |-
 generalize decide (W1.2=0)=p1 at c0 |-
 generalize decide (W2.2=0)=p2 at c1 |-
 simp only [Bool.and_self,if_true,if_pos] at l0 l1 r0 r1;cases p1 with
 | true=>
  refine zV tys_ok Tryz.func76 rfl rfl (Ad rfl) ?_;conv=>whnf
  refine zA 3 ?_;conv=>whnf
  repeat' (refine zZ ?_;conv=>whnf)
  refine zY l0 ?_;conv=>whnf
  repeat' (refine zZ ?_;conv=>whnf)
  apply zX (0) tys_ok mixed (.o [0,1,2,3,4,5,6,7,8,9,10,11,12] .fin) (by kernel_rfl);conv=>whnf
  refine zY r0 ?_;conv=>whnf
  repeat' (refine zZ ?_;conv=>whnf)
  refine ze9 [0,1,2,3,4] c0 ?_;rintro _ _ ⟨rfl,rfl⟩;conv=>whnf
  repeat' (refine zZ ?_;conv=>whnf)
  refine zY l1 ?_;conv=>whnf
  repeat' (refine zZ ?_;conv=>whnf)
  apply zX (0) tys_ok mixed (.o [0,1,2,3,4,5,6,7,8,9,10,11,12] .fin) (by kernel_rfl);conv=>whnf
  refine zY r1 ?_;conv=>whnf
  repeat' (refine zZ ?_;conv=>whnf)
  refine ze9 [0,1,2,3,4] c1 ?_;rintro _ _ ⟨rfl,rfl⟩;conv=>whnf
  repeat' (refine zZ ?_;conv=>whnf)
  exact⟨_, .tp [.v (.bool true),iv 0],GO g s W2.1,fun _ _ h=>h,zR (s:= [0,1,2,3,4]) tA,rfl,rfl⟩
 | false=>
  refine zV tys_ok Tryz.func76 rfl rfl (Ad rfl) ?_;conv=>whnf
  refine zA 3 ?_;conv=>whnf
  repeat' (refine zZ ?_;conv=>whnf)
  refine zY l0 ?_;conv=>whnf
  repeat' (refine zZ ?_;conv=>whnf)
  apply zX (0) tys_ok mixed (.o [0,1,2,3,4,5,6,7,8,9,10,11,12] .fin) (by kernel_rfl);conv=>whnf
  refine zY r0 ?_;conv=>whnf
  repeat' (refine zZ ?_;conv=>whnf)
  refine ze9 [0,1,2,3,4] c0 ?_;rintro _ _ ⟨rfl,rfl⟩;conv=>whnf
  repeat' (refine zZ ?_;conv=>whnf)
  refine zY l1 ?_;conv=>whnf
  repeat' (refine zZ ?_;conv=>whnf)
  apply zX (0) tys_ok mixed (.o [0,1,2,3,4,5,6,7,8,9,10,11,12] .fin) (by kernel_rfl);conv=>whnf
  refine zY r1 ?_;conv=>whnf
  repeat' (refine zZ ?_;conv=>whnf)
  refine ze9 [0,1,2,3,4] c1 ?_;rintro _ _ ⟨rfl,rfl⟩;conv=>whnf
  repeat' (refine zZ ?_;conv=>whnf)
  exact⟨_, .tp [.v (.bool p2),iv 0],GO g s W2.1,fun _ _ h=>h,zR (s:= [0,1,2,3,4]) tA,rfl,rfl⟩
theorem XG (g:Geo) (s:Stt) (d:Dk) (lba:Int) (b:List UInt8) (hg:Bt g=true) (hl:s.txns.length<=1000) (hlba:0<=lba/\lba<g.z*g.d) (hb:b.length=8) :
  ACalls Tryz.prog false 72 [.bp 0 0,iA [lba],GW [b]] (GO g s d) fun r H=>r = iv (if s.only then 15 else if 4 > g.sl - Ed s.txns then 21 else 0)/\H=GO g s d:=by
 obtain⟨g1,g2,g3,g4,g5⟩:=Ay.1 hg;have hun:=G_ s.txns s.txns.length;have hn:=Tb g lba hg hlba;have hu:=Nd s.txns (by omega);have tsub:SubL [.sl 4 s.txns.length fun i=>(s.txns.map Ir).getD i []] [Dt s.txns]:=⟨Cd (f:=Ir) s.txns rfl rfl,tv⟩;refine zV tys_ok Tryz.func72 rfl rfl (Ad rfl) ?_;conv=>whnf
 refine zA 2 ?_;conv=>whnf
 repeat' (refine zZ ?_;conv=>whnf)
 refine⟨in01,?_⟩;conv=>whnf
 repeat' (refine zZ ?_;conv=>whnf)
 refine zx tys_ok mixed [0,1,2,3,4,5,6,7,8,9,10,11,12,13,14,15,16,17,18] (by kernel_rfl) ?_;conv=>whnf
 rw [show ((([b].getD (Int.toNat 0) []).length:Int) != 8)=false from bne_eq_false_iff_eq.2 (by show ((b.length:Nat):Int)=8;omega)];conv=>whnf
 repeat' (refine zZ ?_;conv=>whnf)
 refine zY hn ?_;conv=>whnf
 cases ho:s.only with
 | true=>
  exact⟨_,iv 15,GO g s d,fun _ _ h=>h,zR (s:= [0,1,2,3,4]) tA,rfl,rfl⟩
 | false=>
  conv=>whnf
  apply zH tys_ok mixed (.o [0,1,2,3,4,5,6,7,8,9,10,11,12,13,14] .fin) [72,73,74,75,76,77,78,79,80,81,82,83,84,85,86] (by kernel_rfl)
  ·conv=>whnf
   (refine zj (args':= [.sl 4 s.txns.length fun i=>(s.txns.map Ir).getD i []]) (hu.subA tsub) ⟨(Aa _).symm,rfl⟩ ?_;rintro _ rfl;refine⟨rfl,?_⟩)
   exact tA
  conv=>whnf
  rw [wi (show -9223372036854775808<=g.sl - Ed s.txns/\g.sl - Ed s.txns<=9223372036854775807 by unfold Ed;omega)];by_cases hfull:(4:Int) > g.sl - Ed s.txns
  ·rw [decide_eq_true hfull,if_pos hfull];exact⟨_,iv 21,GO g s d,fun _ _ h=>h,zR (s:= [0,1,2,3,4]) tA,rfl,rfl⟩
  ·rw [decide_eq_false hfull,if_neg hfull];exact⟨_,iv 0,GO g s d,fun _ _ h=>h,zR (s:= [0,1,2,3,4]) tA,rfl,rfl⟩
theorem R5 (g:Geo) (s:Stt) (d:Dk) (F:Int->List UInt8) (lba S:Int) (b:List UInt8) (hg:Bt g=true) (hl:LogB s.txns) (ha:B7 g s.a=true) (h:Gd (A7 g) d F) (hF:∀ a,(F a).length<=100000) (hlba:0<=lba/\lba<g.z*g.d) (hb:b.length=8) (hS:0<=S/\S<=4294967295) (hB:∀ p,CI s.txns (lba.tdiv g.d) 255=some p->p.1.bytes.length<=100000) (t:List Ent) (ht:Fj g s F (lba.tdiv g.d)=some t) (h8:∀ x∈CX g s F t (lba.tdiv g.d),x.length=8) (hlo:∀ i,i<t.length->(t.getD i ez).lost=false) :
  ACalls Tryz.prog false 74 [.bp 0 0,iA [lba],GW [b],iv S] (GO g s d) fun r H=>r = .tp [EW (Hy g s F S lba b),iv 0]/\∃ d',Gd (A7 g) d' F/\H=GO g s d':=by
 obtain⟨g1,g2,g3,g4,g5⟩:=Ay.1 hg;obtain⟨Z,hZ⟩:∃ Z,Z=lba.tdiv g.d:=⟨_,rfl⟩;obtain⟨A,hA⟩:∃ A,A=lba.tmod g.d:=⟨_,rfl⟩;have hZ2:0<=Z/\Z<g.z:=by
  rw [hZ,Bw hlba.1];exact⟨Dh hlba.1 (by omega),De (by omega) hlba.2⟩
 have hA2:0<=A/\A<g.d:=by
  rw [hA];exact⟨BH _ hlba.1,B3 _ (by omega)⟩
 have hdiv:IntKind.i64.wrap (([lba].getD (Int.toNat 0) 0).tdiv g.d)=Z:=by
  rw [hZ];exact wi (by have:=hZ2;rw [hZ] at this;show -9223372036854775808<=lba.tdiv g.d/\lba.tdiv g.d<=9223372036854775807;omega)
 have hL:Hy g s F S lba b=C0 Z (BK g t (CX g s F t Z) [A] [b] S) (EV g t (CX g s F t Z) [A] [b] g.d.toNat) [A] [b]:=by
  rw [Hy,<-hZ,<-hA];rw [<-hZ] at ht;rw [ht]
 rw [hL];rw [<-hZ] at ht h8 hB;obtain⟨L,hL⟩:∃ L,L=C0 Z (BK g t (CX g s F t Z) [A] [b] S) (EV g t (CX g s F t Z) [A] [b] g.d.toNat) [A] [b]:=⟨_,rfl⟩;rw [<-hL];have hL3:L.length=3:=by rw [hL,H0];try rfl
 have htok:=KM ht;have h01:∀ x∈ [b],x.length=8:=fun x hx=>by rw [A4] at hx;rw [hx];exact hb
 have hpl:(EV g t (CX g s F t Z) [A] [b] g.d.toNat).length=8:=Hr (fun x hx=> .inr (h8 x hx)) h01 (show [A].length<= [b].length from Ag 1) _;have hwr:=QD g t (CX g s F t Z) A b S hg htok (by simp [CX,TE];omega) h8 hlo hA2 hb hS;have him:=Pb g Z (BK g t (CX g s F t Z) [A] [b] S) (EV g t (CX g s F t Z) [A] [b] g.d.toNat) A b hg hZ2 (GX hg htok hS) hpl hA2 hb;rw [<-hL] at him;refine zV tys_ok Tryz.func74 rfl rfl (Ad rfl) ?_;conv=>whnf
 refine zS (Nat × Dk × Bool) (fun x=>([(0, .bp 0 0),(1,iA [lba]),(2,GW [b]),(3,iv S),(10,Z6 L x.2.2),(27,iv g.z),(28,iv (x.1:Nat))],GO g s x.2.1)) (fun x=>(x.1:Int)<=g.z/\Gd (A7 g) x.2.1 F/\(x.2.2=true↔Z<(x.1:Int))) (fun x=>g.z.toNat - x.1) (0,d,false) ⟨by show ((0:Nat):Int)<=g.z;omega,h,⟨fun q=>(by cases q),fun q=>absurd q (by show ¬Z<((0:Nat):Int);omega)⟩⟩
  (zR (s:= [0,1,2,3,4]) tA) ?_
 rintro⟨k,d1,p⟩ ⟨hk,hd1,hpz⟩;simp only at hk hd1 hpz;by_cases hkz:(k:Int)<g.z;rotate_left 1
 ·obtain rfl:p=true:=hpz.2 (by omega);conv=>whnf
  rw [decide_eq_false hkz];conv=>whnf
  repeat' (refine zZ ?_;conv=>whnf)
  exact⟨_, .tp [EW L,iv 0],GO g s d1,fun _ _ h=>h,zR (s:= [0,1,2,3,4]) tA,rfl,d1,hd1,rfl⟩
 by_cases he:(k:Int)=Z;rotate_left 1
 ·conv=>whnf
  rw [decide_eq_true hkz];conv=>whnf
  repeat' (refine zZ ?_;conv=>whnf)
  refine zA 2 ?_;conv=>whnf
  repeat' (refine zZ ?_;conv=>whnf)
  refine⟨in01,?_⟩;conv=>whnf
  repeat' (refine zZ ?_;conv=>whnf)
  refine⟨by omega,?_⟩;conv=>whnf
  rw [hdiv,show (Z == (k:Int))=false from beq_eq_false_iff_ne.2 fun q=>he q.symm];conv=>whnf
  repeat' (refine zZ ?_;conv=>whnf)
  cases p
  ·exact⟨(k+1,d1,false),⟨by show ((k+1:Nat):Int)<=g.z;omega,hd1,⟨fun q=>by have:=hpz.1 q;show Z<((k+1:Nat):Int);omega,fun q=>hpz.2 (by have:Z<((k+1:Nat):Int):=q;omega)⟩⟩,by show g.z.toNat - (k+1)<g.z.toNat - k;omega,zR (s:= [0,1,2,3,4]) ⟨⟨rfl,rfl,rfl,rfl,rfl,rfl,AQ (by omega),tv⟩,tA,rfl,rfl,rfl,rfl,rfl⟩⟩
  ·exact⟨(k+1,d1,true),⟨by show ((k+1:Nat):Int)<=g.z;omega,hd1,⟨fun q=>by have:=hpz.1 q;show Z<((k+1:Nat):Int);omega,fun q=>hpz.2 (by have:Z<((k+1:Nat):Int):=q;omega)⟩⟩,by show g.z.toNat - (k+1)<g.z.toNat - k;omega,zR (s:= [0,1,2,3,4]) ⟨⟨rfl,rfl,rfl,rfl,rfl,rfl,AQ (by omega),tv⟩,tA,rfl,rfl,rfl,rfl,rfl⟩⟩
 ·obtain rfl:p=false:=by
   cases p with
   | false=>rfl
   | true=>exact absurd (hpz.1 rfl) (by omega)
  have hgat:=Qe g s d1 F Z hg hl ha hd1 hF hZ2 hB t ht;conv=>whnf
  rw [decide_eq_true hkz];conv=>whnf
  repeat' (refine zZ ?_;conv=>whnf)
  refine zS (Nat × Bool) (fun i=>([(0, .bp 0 0),(1,iA [lba]),(2,GW [b]),(3,iv S),(10, .v (.slice none 0 0)),(11,iv (k:Nat)),(12,ah A i.2),(13,aH b i.2),(27,iv g.z),(28,iv (k:Nat)),(31,iA [lba]),(32,iv 1),(33,iv (i.1:Nat))],GO g s d1)) (fun i=>i.1<=1/\(i.2=true↔i.1=1)) (fun i=>1 - i.1) (0,false) ⟨by show 0<=1;omega,by decide⟩
   (zR (s:= [0,1,2,3,4]) tA) ?_
  rintro⟨i,q⟩ ⟨hi,hq⟩;simp only at hi hq;by_cases hi1:i=1;rotate_left 1
  ·obtain rfl:i=0:=by omega
   obtain rfl:q=false:=by
    cases q with
    | false=>rfl
    | true=>exact absurd (hq.1 rfl) (by decide)
   have ixA:(0:Int)<=0/\(0:Int)<(([b]:List (List UInt8)).length:Nat):=in01;conv=>whnf
   repeat' (refine zZ ?_;conv=>whnf)
   refine⟨in01,?_⟩;conv=>whnf
   repeat' (refine zZ ?_;conv=>whnf)
   refine⟨by omega,?_⟩;conv=>whnf
   rw [show IntKind.i64.wrap (([lba].getD (((0:Nat):Int)).toNat 0).tdiv g.d)=Z from hdiv,show (Z == (k:Int))=true from beq_iff_eq.2 he.symm];conv=>whnf
   repeat' (refine zZ ?_;conv=>whnf)
   apply zX (16384) tys_ok mixed (.o [0,1,2,3,4,5,6,7,10,11,12,13] (.two 8 (.two 9 (.o [14,15,16,17,18] .fin) 14 (.two 9 (.o [15,16,17,18] .fin) 15 (.o [9,16,17,18] .fin))) 14 (.two 8 (.two 9 (.o [15,16,17,18] .fin) 15 (.o [9,16,17,18] .fin)) 15 (.o [8,9,16,17,18] .fin)))) (by kernel_rfl);conv=>whnf
   try (refine tI ?_;conv=>whnf)
   try (refine tI ?_;conv=>whnf)
   refine Ai ?_ ?_;refine Ai ?_ ?_;conv=>whnf
   try (refine tJ ?_;conv=>whnf)
   try (refine tK ?_;conv=>whnf)
   try (refine tJ ?_;conv=>whnf)
   try (refine tK ?_;conv=>whnf)
   rotate_left 1;refine Ai ?_ ?_;conv=>whnf
   try (refine tJ ?_;conv=>whnf)
   try (refine tK ?_;conv=>whnf)
   try (refine tJ ?_;conv=>whnf)
   try (refine tK ?_;conv=>whnf)
   rotate_left 1;conv=>whnf
   try (refine tJ ?_;conv=>whnf)
   try (refine tK ?_;conv=>whnf)
   try (refine tJ ?_;conv=>whnf)
   try (refine tK ?_;conv=>whnf)
   rotate_left 1;refine Ai ?_ ?_;refine Ai ?_ ?_;conv=>whnf
   try (refine tJ ?_;conv=>whnf)
   try (refine tK ?_;conv=>whnf)
   try (refine tJ ?_;conv=>whnf)
   try (refine tK ?_;conv=>whnf)
   rotate_left 1;conv=>whnf
   try (refine tJ ?_;conv=>whnf)
   try (refine tK ?_;conv=>whnf)
   try (refine tJ ?_;conv=>whnf)
   try (refine tK ?_;conv=>whnf)
   rotate_left 1;conv=>whnf
   try (refine tJ ?_;conv=>whnf)
   try (refine tK ?_;conv=>whnf)
   try (refine tJ ?_;conv=>whnf)
   try (refine tK ?_;conv=>whnf)
   rotate_left 1;all_goals
    conv=>whnf
    first
    | exact⟨(1,true),⟨by show 1<=1;omega,by decide⟩,by show 1 - 1<1 - 0;omega,zL (zN (zF 12 6 rfl rfl) (zN (zB 12 rfl (Gg (L:= [A]) rfl (by rw [hA];rfl))) (zN (zF 13 7 rfl rfl) (zB 13 rfl (FU (L:= [b]) rfl rfl))))) (s:= [0,1,2,3,4]) tA⟩
    | exact⟨(1,true),⟨by show 1<=1;omega,by decide⟩,by show 1 - 1<1 - 0;omega,zL (zN (zF 12 6 rfl rfl) (zN (zB 12 rfl (Gg (L:= [A]) rfl (by rw [hA];rfl))) (zN (zF 13 8 rfl rfl) (zB 13 rfl (FU (L:= [b]) rfl rfl))))) (s:= [0,1,2,3,4]) tA⟩
    | exact⟨(1,true),⟨by show 1<=1;omega,by decide⟩,by show 1 - 1<1 - 0;omega,zL (zN (zF 12 7 rfl rfl) (zN (zB 12 rfl (Gg (L:= [A]) rfl (by rw [hA];rfl))) (zN (zF 13 6 rfl rfl) (zB 13 rfl (FU (L:= [b]) rfl rfl))))) (s:= [0,1,2,3,4]) tA⟩
    | exact⟨(1,true),⟨by show 1<=1;omega,by decide⟩,by show 1 - 1<1 - 0;omega,zL (zN (zF 12 7 rfl rfl) (zN (zB 12 rfl (Gg (L:= [A]) rfl (by rw [hA];rfl))) (zN (zF 13 8 rfl rfl) (zB 13 rfl (FU (L:= [b]) rfl rfl))))) (s:= [0,1,2,3,4]) tA⟩
    | exact⟨(1,true),⟨by show 1<=1;omega,by decide⟩,by show 1 - 1<1 - 0;omega,zL (zN (zF 12 8 rfl rfl) (zN (zB 12 rfl (Gg (L:= [A]) rfl (by rw [hA];rfl))) (zN (zF 13 6 rfl rfl) (zB 13 rfl (FU (L:= [b]) rfl rfl))))) (s:= [0,1,2,3,4]) tA⟩
    | exact⟨(1,true),⟨by show 1<=1;omega,by decide⟩,by show 1 - 1<1 - 0;omega,zL (zN (zF 12 8 rfl rfl) (zN (zB 12 rfl (Gg (L:= [A]) rfl (by rw [hA];rfl))) (zN (zF 13 7 rfl rfl) (zB 13 rfl (FU (L:= [b]) rfl rfl))))) (s:= [0,1,2,3,4]) tA⟩
    | fail
  subst hi1;obtain rfl:q=true:=hq.2 rfl;conv=>whnf
  repeat' (refine zZ ?_;conv=>whnf)
  rw [he];refine ze9 [0,1,2,3,4] hgat ?_;rintro _ _ ⟨rfl,d2,hd2,rfl⟩;conv=>whnf
  repeat' (refine zZ ?_;conv=>whnf)
  apply zX (0) tys_ok mixed (.o [0,1,2,3,4,5,6,7,8] (.two 9 (.o [10,11,12,13,14,15,16,17] .fin) 14 (.o [9,10,11,12,13,15,16,17] .fin))) (by kernel_rfl);refine Ai ?_ ?_;conv=>whnf
  refine zY hwr ?_;conv=>whnf
  try (refine tS ?_;conv=>whnf)
  rotate_left 1;conv=>whnf
  refine zY hwr ?_;conv=>whnf
  try (refine tS ?_;conv=>whnf)
  rotate_left 1;all_goals
   conv=>whnf
   repeat' (refine zZ ?_;conv=>whnf)
   apply zX (0) tys_ok mixed (.o [0,1,2,3,4,5,6,7,8,9,10,11,12,13,14] .fin) (by kernel_rfl);conv=>whnf
   refine zY him ?_;conv=>whnf
   all_goals
    conv=>whnf
    repeat' (refine zZ ?_;conv=>whnf)
    refine⟨by omega,?_⟩;conv=>whnf
    exact⟨(k+1,d2,true),⟨by show ((k+1:Nat):Int)<=g.z;omega,hd2,⟨fun _=>by show Z<((k+1:Nat):Int);omega,fun _=>rfl⟩⟩,by show g.z.toNat - (k+1)<g.z.toNat - k;omega,zL (zN (zF 10 7 (congrArg (AV.ow 7) (by rw [Aa,CJ])) rfl) (zB 10 rfl (WM rfl (by rw [Aa,CJ])))) (s:= [0,1,2,3,4]) ⟨⟨rfl,rfl,rfl,rfl,rfl,rfl,by rw [<-he];exact AQ (by omega),tv⟩,tA,rfl,rfl,rfl,rfl,rfl⟩⟩
theorem VolV.far {g:Geo} (hg:Bt g=true) {a:An} (ha:B7 g a=true) {l:List Tx} {F F':Int->List UInt8} {V:Int->Int->List UInt8} (h:VolV g a l F V) (e:∀ q,g.an+2*g.sl<=q->F' q=F q):VolV g a l F' V:=by
 obtain⟨g1,g2,g3,g4,g5⟩:=Ay.1 hg;intro z h0 h1;obtain⟨t,hz⟩:=h z h0 h1;refine⟨t,⟨?_,hz.len,hz.ent,fun w hw hw2=>?_,hz.par⟩⟩
 ·have:=hz.tab;unfold Fj at this |-
  rw [e (Bg g z 0) (by unfold Bg;omega),e (Bg g z 1) (by unfold Bg;omega)];omega
 ·have:=hz.val w hw hw2;obtain⟨sl,e1,e2⟩:=M4 hg ha ⟨h0,h1⟩ (w:=w) ⟨hw,hw2⟩;have hsl:=KN hg ⟨h0,h1⟩ e2
  grind
theorem S0 {g:Geo} (hg:Bt g=true) {a:An} {l:List Tx} {F:Int->List UInt8} {lba:Int} {b:List UInt8} (himg:∀ t∈l,∀ x∈t.images,BW g x=true) (hs:0<=a.seq+(l.length:Int)/\a.seq+(l.length:Int)<=4294967295) (hlba:0<=lba/\lba<g.z*g.d) (hb:b.length=8) (ht:(Fj g (AI a l) F (lba.tdiv g.d)).isSome=true):(FT g a l F lba b).images.length=3/\(∀ x∈(FT g a l F lba b).images,BW g x=true)/\OneTab (FT g a l F lba b).images:=by
 obtain⟨g1,g2,g3,g4,g5⟩:=Ay.1 hg;obtain⟨t,ht⟩:=CC.1 ht;have ei:(FT g a l F lba b).images=C0 (lba.tdiv g.d) (BK g t (CX g (AI a l) F t (lba.tdiv g.d)) [lba.tmod g.d] [b] (a.seq+(l.length:Int))) (EV g t (CX g (AI a l) F t (lba.tdiv g.d)) [lba.tmod g.d] [b] g.d.toNat) [lba.tmod g.d] [b]:=by
  show Hy g (AI a l) F _ lba b=_;unfold Hy;rw [ht]
 have htok:=KM ht;obtain⟨Z,hZ⟩:∃ Z,Z=lba.tdiv g.d:=⟨_,rfl⟩;obtain⟨A,hA⟩:∃ A,A=lba.tmod g.d:=⟨_,rfl⟩;have hZ2:0<=Z/\Z<g.z:=by
  rw [hZ,Bw hlba.1];exact⟨Dh hlba.1 (by omega),De (by omega) hlba.2⟩
 have hA2:0<=A/\A<g.d:=by
  rw [hA];exact⟨BH _ hlba.1,B3 _ (by omega)⟩
 rw [<-hZ,<-hA] at ei;have hadlen:∀ x∈CX g (AI a l) F t Z,x.length=0\/x.length=8:=fun x hx=>by
  have himg:∀ t∈(AI a l).txns,∀ x∈t.images,BW g x=true:=himg;rcases Az.1 hx with q | q
  ·obtain⟨i,hi,rfl⟩:=AK.1 q;exact Jl himg (by have:=AL.1 hi;omega)
  ·rw [A4] at q;rw [q];exact Jl himg (by decide)
 have h01:∀ x∈ [b],x.length=8:=fun x hx=>by rw [A4] at hx;rw [hx];exact hb
 have hA3:∀ x∈ [A],0<=x/\x<g.d:=fun x hx=>by rw [A4] at hx;rw [hx];exact hA2
 rw [ei];refine⟨by rw [H0];try rfl,fun x hx=>?_,?_⟩
 ·exact(Rj hg hZ2 (GX hg htok (by omega)) (Hr hadlen h01 (show [A].length<= [b].length from Ag 1) _) hA3 h01 (Ag 1) x hx).1
 ·exact PE (l:= []) hg List.Pairwise.nil (fun x hx=>by cases hx) hA3
def ZR (g:Geo) (M:Md):Prop:=(M.m.length:Int)=g.z*g.d/\∃ V,VolV g M.a M.l M.F V/\∀ z w,0<=z->z<g.z->0<=w->w<g.d->M.m.getD (z*g.d+w).toNat []=V z w
theorem aq {g:Geo} (hg:Bt g=true) {z w:Int} (h0:0<=z) (h1:z<g.z) (h2:0<=w) (h3:w<g.d):0<=z*g.d+w/\z*g.d+w<g.z*g.d:=by
 obtain⟨g1,g2,g3,g4,g5⟩:=Ay.1 hg;have e1:0<=z*g.d:=C4 h0 (by omega);have e2:(z+1)*g.d<=g.z*g.d:=Bl (by omega) (by omega)
 grind
theorem ZC {g:Geo} (hg:Bt g=true) {K:Int} (hK:K<=4294967294) {D:Dk} {M M':Md} {lba:Int} {b:List UInt8} (hlba:0<=lba/\lba<g.z*g.d) (hb:b.length=8) (hv:Vol g K D (AI M.a M.l)) (h:ZR g M) (hc:aJ g M lba b M'):ZR g M'/\Vol g (K+1) D (AI M'.a M'.l):=by
 obtain⟨g1,g2,g3,g4,g5⟩:=Ay.1 hg;rcases hc with ⟨hu,ht,W,hW,rfl⟩ | ⟨-,rfl⟩
 rotate_left 1
 ·exact⟨h,⟨hv.gd,hv.an,hv.ring,hv.rest,by have:=hv.gen;omega,by have:=hv.seq;omega,hv.one⟩⟩
 obtain⟨a,l,F,m⟩:=M;obtain⟨hm,V,hV,hr⟩:=h;simp only at hu ht hW hm hV hr;have ha:B7 g a=true:=hv.an;obtain⟨a1,a2,a3,a4⟩:=J2 ha;have hseq:a.seq+l.length<=K:=hv.seq;have himg:∀ t∈l,∀ x∈t.images,BW g x=true:=fun t ht=>Au.1 (Fu hv.ring t ht).1
 obtain⟨c1,c2,c3⟩:=S0 hg (F:=F) himg (by omega) hlba hb ht;refine⟨⟨?_,SK V (FT g a l F lba b),?_,fun z w h0 h1 h2 h3=>?_⟩,?_⟩
 ·grind
 ·have q:=Wv hg (x:=FT g a l F lba b) (by show 0<=a.seq+(l.length:Int)/\a.seq+(l.length:Int)<=4294967295;omega) himg hV (YY hg hlba hb ht);exact q.far hg ha fun p hp=>OS (by omega) _ _ rfl fun w hw e=>by have:=(hW w hw).1;omega
 ·rw [YX hg hlba ht V ⟨h2,h3⟩];show (m.set lba.toNat b).getD (z*g.d+w).toNat []=_;have hz:=aq hg h0 h1 h2 h3;have hdm:g.d*lba.tdiv g.d+lba.tmod g.d=lba:=Int.mul_tdiv_add_tmod lba g.d;rw [Ab,List.getElem?_set];by_cases e:z=lba.tdiv g.d/\w=lba.tmod g.d
  ·rw [if_pos e,if_pos (by rw [e.1,e.2,Int.mul_comm,hdm]),if_pos (by omega)];try rfl
  ·rw [if_neg e,if_neg fun q=>e ?_,<-Ab]
   ·grind
   ·have q2:lba=z*g.d+w:=by omega
    have e1:lba.tdiv g.d=lba / g.d:=Bw hlba.1;have e2:lba / g.d=z:=by
     rw [q2,Int.add_comm,Int.add_mul_ediv_right _ _ (by omega),Int.ediv_eq_zero_of_lt h2 h3,Int.zero_add]
    grind
 ·exact hv.add hg hK (d':=D) hv.gd (x:=FT g a l F lba b) rfl rfl (by show (2:Int)<=4;omega) (by show (4:Int)<=g.sl - Ed l;omega) (by show (4:Int)=_;rw [c1];try rfl) c2 c3
theorem PU {l:List Tx} {z w:Int} {p:Img × Int} (h:CI l z w=some p):∃ t∈l,p.1∈t.images:=by
 have e:CI l z w=_:=Jy l z w l.length;rw [e] at h;cases hA:FL l z w l.length with
 | none=>rw [hA] at h;cases h
 | some q=>
  obtain⟨k,i⟩:=q;obtain⟨h1,h2⟩:=H4 hA;rw [hA] at h;obtain rfl:=Option.some.inj h;exact⟨_,AC h1,AC h2⟩
theorem W9 (g:Geo) (seq epoch:Int) (l:List Img) (hl:l.length<=100000) (hb:∀ x∈l,x.bytes.length<=100000):Fn Tryz.prog 75 [.ag (Bh g),iv seq,iv epoch,EW l] fun r=>r = .tp [RV (if KC g seq epoch l=0 then Fe seq epoch l else []),iv (KC g seq epoch l)]:=by
 have nilr:∀ c v n,n≠0->KC g seq epoch l=n->Rd (.tp [.v (.slice none 0 0),iv n]) c v->Rd (.tp [RV (if KC g seq epoch l=0 then Fe seq epoch l else []),iv (KC g seq epoch l)]) c v:=by
  intro c v n hn he h;rw [if_neg (by rw [he];exact hn),he];simp only [Rd,RdL] at h |-
  obtain⟨xs,rfl,a,_,rfl,h1,h2⟩:=h;exact⟨_,rfl,a,_,rfl,AZ _ _ _ _ (by simpa [Rd] using h1),h2⟩
 obtain⟨z,d,sp,sl,an⟩:=g;refine zT Tryz.func75 rfl ?_;conv=>whnf
 repeat' (first | (refine Ak (fun h=>?_) (fun h=>?_) <;> (try simp at h) <;> conv=>whnf) | (refine zY (Ci z d sp sl an) ?_;conv=>whnf) | (refine zY (I5 _ _ _) ?_;conv=>whnf))
 iterate 3 (exact⟨_,fun c v h=>nilr c v 1 (by decide) (by simp [KC, *]) h,rfl⟩)
 rename_i h1 h2;have ht0:(Bt ⟨z,d,sp,sl,an⟩&&(Do seq 0 4294967295&&Do epoch 0 4294967295))=true:=by simp [*]
 clear h h1 h2;refine zO Nat (fun k=>([(1,iv seq),(2,iv epoch),(3,EW l),(4, .bp 0 0),(29,EW l),(30,iv l.length),(31,iv k)], [.box 24 (Bh ⟨z,d,sp,sl,an⟩)])) (fun k=>k<=l.length/\∀ i,i<k->BW ⟨z,d,sp,sl,an⟩ (l.getD i ⟨0,0, []⟩)=true) (fun k=>l.length - k) 0 ⟨Aj _,by simp⟩ ⟨[],tv,tA,tA,rfl,rfl,rfl⟩ ?_;rintro k ⟨hk,hI⟩;conv=>whnf
 refine Ak (fun h2=>?_) (fun h2=>?_) <;> simp at h2 <;> conv=>whnf
 ·refine⟨by first | omega | (refine⟨rfl,?_,?_⟩ <;> first | omega | (simp only [Aa];done) | (simp only [Aa];omega)) | (simp only [Aa];omega),?_⟩;conv=>whnf
  refine zy (JT ⟨z,d,sp,sl,an⟩ (l.getD k ⟨0,0, []⟩) (hb _ (AC h2))) rfl ?_;rintro _ rfl;conv=>whnf
  refine Ak (fun h3=>?_) (fun h3=>?_) <;> conv=>whnf
  ·refine⟨_,fun c v h=>nilr c v 1 (by decide) ?_ h,rfl⟩;have:l.all (BW ⟨z,d,sp,sl,an⟩)=false:=by
    rw [<-C9];intro hh;have:=Au.1 hh _ (AC (d:=⟨0,0, []⟩) h2);rw [this] at h3;simp at h3
   simp [KC,ht0,this]
  ·refine⟨k+1,⟨by omega,fun i hi=>?_⟩,by omega, [],tv,⟨rfl,rfl,rfl,rfl,rfl,rfl,AQ (by omega),tv⟩,tA,rfl,rfl,rfl⟩;rcases BU i k with h | h
   ·exact hI i h
   ·obtain rfl:i=k:=by omega
    cases hq:BW ⟨z,d,sp,sl,an⟩ (l.getD i ⟨0,0, []⟩) with
    | true=>rfl
    | false=>rw [hq] at h3;simp at h3
 ·have ht1:l.all (BW ⟨z,d,sp,sl,an⟩)=true:=by
   rw [Au];intro x hx;obtain⟨i,hi,rfl⟩:=List.getElem_of_mem hx;have:=hI i (by omega);rwa [Ab,Af hi] at this
  clear hI;refine zY (I5 _ _ _) ?_;conv=>whnf
  refine Ak (fun h3=>?_) (fun h3=>?_) <;> simp at h3 <;> conv=>whnf
  ·exact⟨_,fun c v h=>nilr c v 2 (by decide) (by simp [KC,ht0,ht1,h3]) h,rfl⟩
  have ht2:KC ⟨z,d,sp,sl,an⟩ seq epoch l=0:=by simp [KC,ht0,ht1,h3]
  clear nilr;rw [wi (by omega)];refine zO Nat (fun k=>([(1,iv seq),(2,iv epoch),(13,iv (l.length+1)),(12, .ow 1 k),(47,EW l),(48,iv l.length),(49,iv k)], [.dead, .row 141 8 ((IF seq epoch (l.length+1) k l).map Ho)])) (fun k=>k<=l.length) (fun k=>l.length - k) 0 (Aj _) ⟨[(12,141,8)],tA,tA,tA,rfl,rfl,rfl⟩ ?_;rintro k hk;have hlk:=Jp seq epoch (l.length+1) k l;conv=>whnf
  refine Ak (fun h2=>?_) (fun h2=>?_) <;> simp at h2 <;> conv=>whnf
  ·refine⟨by first | omega | (refine⟨rfl,?_,?_⟩ <;> first | omega | (simp only [Aa];done) | (simp only [Aa];omega)) | (simp only [Aa];omega),?_⟩;conv=>whnf
   refine zy (BG (l.getD k ⟨0,0, []⟩).bytes (by have:=hb _ (AC (d:=⟨0,0, []⟩) h2);omega)) rfl ?_;rintro _ rfl;refine⟨rfl,?_⟩;conv=>whnf
   refine⟨⟨by rw [Aa,hlk];omega,by omega⟩,?_⟩;refine⟨k+1,by omega,by omega, [],tv,⟨rfl,rfl,rfl,rfl,rfl,rfl,AQ (by omega),tv⟩,⟨Zt ?_,tv⟩,rfl,rfl,rfl⟩;rw [Rh _ _ _ h2];try rfl
  ·obtain rfl:k=l.length:=by omega
   rw [wi (by omega),show (l.length:Int)+1 - 1=l.length by omega];refine⟨rfl,?_⟩;conv=>whnf
   refine⟨⟨by rw [Aa,hlk];omega,by omega⟩,?_⟩;conv=>whnf
   refine⟨by rw [Ah,Aa,hlk];simp,?_⟩;refine⟨_,fun c v h=>?_,rfl⟩;rw [ht2,if_pos rfl];simp only [Rd,RdL] at h |-
   obtain⟨xs,rfl,a,_,rfl,h1,h2⟩:=h;exact⟨_,rfl,a,_,rfl,Rd.sub (sz:=8) (Lr seq epoch l).symm (UF seq epoch l) (by simp only [Rd];exact h1),h2⟩
@[reducible] def delX (lba:Int):AV:= .fn 79 [.rp [iA [lba]]]
theorem Xw (lba:Int):Fn Tryz.prog 152 [iA [],delX lba] fun r=>r = iv (-1):=by
 refine zT Tryz.func152 rfl ?_;conv=>whnf
 refine zA 1 ?_;conv=>whnf
 repeat' (refine zZ ?_;conv=>whnf)
 exact⟨_,ri,rfl⟩
theorem VS (lba:Int):Fn Tryz.prog 78 [iA [],delX lba] fun r=>r=iA []:=by
 have h1:=Xw lba;refine zT Tryz.func78 rfl ?_;conv=>whnf
 refine zY h1 ?_;exact⟨_,ri,rfl⟩
theorem Yz {g:Geo} {seq epoch:Int} {l:List Img} (hg:Bt g=true) (h1:Do seq 0 4294967295=true) (h2:Do epoch 0 4294967295=true) (h3:l.all (BW g)=true) (h4:Do l.length 1 29=true):KC g seq epoch l=0:=by
 simp [KC,hg,h1,h2,h3,h4]
theorem T_ (g:Geo) (s:Stt) (d:Dk) (F:Int->List UInt8) (W:List Wr) (x:Rc) (Q:Int) (hg:Bt g=true) (hx:EH g x=true) (hxl:x.img.bytes.length<=100000) (hQ:0<=Q/\Q<g.sl) (h:Gw (A7 g) d F W) (hW:W.length<1900) :
  ACalls Tryz.prog false 76 [.bp 0 0, .ag (Ho x),iv Q] (GO g s d) fun r H=>r = .tp [.v (.bool true),iv 0]/\∃ d',Gw (A7 g) d' F ((W ++ [⟨Bc g 0 Q,B6 g x 0 Q⟩]) ++ [⟨Bc g 1 Q,B6 g x 1 Q⟩])/\H=GO g s d':=by
 have b0:=E3 hg h.len (.inl rfl) hQ (c:=0);have b1:=E3 hg h.len (.inr rfl) hQ (c:=1);have hl:=h.len;obtain⟨e0,w0⟩:=h.write (a:=Bc g 0 Q) (b:=B6 g x 0 Q) (by omega) b0.1 (by omega) (Ce hx 0 Q);obtain⟨e1,w1⟩:=w0.write (a:=Bc g 1 Q) (b:=B6 g x 1 Q) (by simp;omega) b1.1 (by omega) (Ce hx 1 Q);have hc:=VY g s d x Q hg hx hxl hQ h.ok h.len (by rw [e0];decide) (by rw [e1];decide);rw [e0] at hc;exact hc.mono fun r H ⟨h1,h2⟩=>⟨h1,_,w1,h2⟩
theorem Y0 {H:List AB} {t:TypeId} {g:Geo} {s:Stt} {T:List Tx} {es:List (List AV)} {n:Nat} (hj:H[0]? = some (.box t (XK g (.bp 1 0) (.ow 4 n) (iA s.lost) s))) (hk:H[4]? = some (.row 170 4 es)) (hn:n=T.length) (he:es=T.map Ir):ConvH H ((H.set 4 .dead).set 0 (.box t (Y_ g (.bp 1 0) { s with txns:=T }))):=by
 subst hn he;have h4:4<H.length:=(Ar.1 hk).1;have e:=zp (H:=H) 0 4 (cs2:=XK g (.bp 1 0) (.sl 4 (T.map Ir).length fun i=>(T.map Ir).getD i []) (iA s.lost) s) hj hk (by simp only [A6,By,NQ (Aa _).symm];rfl);have q:=zJ (H:=(H.set 4 .dead).set 0 (.box t (XK g (.bp 1 0) (.sl 4 (T.map Ir).length fun i=>(T.map Ir).getD i []) (iA s.lost) s))) 0 (t:=t) (cs':=Y_ g (.bp 1 0) { s with txns:=T }) (A2 (by rw [Bm];omega)) ⟨ri,ri,ri,ri,ri,ri,ri,ri,ri,ri,ri,ri,ri,Cd (f:=Ir) T (Aa _) rfl,ri,ri,ri,ri,ri,ri,tv⟩;rw [List.set_set] at q;exact e.trans q
@[reducible] def a8 (g:Geo) (s:Stt) (d:Dk):List AB:= [.box 99 (Y_ g (.bp 1 0) s), .box 119 (K4 (.ow 2 d.cells.length) (.ow 5 d.cache.length) d.reqs d.left), .row 68 3 (d.cells.map Cc), .dead, .dead, .row 152 2 (d.cache.map FB)]
@[reducible] def conH (g:Geo) (s:Stt) (d:Dk) (lba:Int):List AB:=GO g s d ++ [.box 30 [iA [lba]]]
theorem YW (g:Geo) (a:An) (l:List Tx) (d:Dk) (F:Int->List UInt8) (K lba:Int) (b:List UInt8) (V:Int->Int->List UInt8) (hg:Bt g=true) (hv:Vol g K d (AI a l)) (hK:K<=4294967294) (h:Gd (A7 g) d F) (hF:∀ a,(F a).length<=100000) (hV:VolV g a l F V) (hlba:0<=lba/\lba<g.z*g.d) (hb:b.length=8) (hroom:4<=g.sl - Ed l) :
  ACalls Tryz.prog false 36 [.bp 0 0,iA [lba],GW [b]] (GO g (AI a l) d) fun r H=>r = iv 0/\∃ d' W,Gd (A7 g) d' (MX F W)/\(∀ w∈W,(g.an<=w.addr/\w.addr<g.an+2*g.sl/\B_ w.bytes=w.addr)/\w.bytes.length<=200)/\Vol g (K+1) d' (AI a (l ++ [FT g a l F lba b]))/\H=a8 g (AI a (l ++ [FT g a l F lba b])) d':=by
 obtain⟨g1,g2,g3,g4,g5⟩:=Ay.1 hg;have hsm:=hv.sm hg;have ha:B7 g a=true:=hv.an;have hring:CO g l a.seq a.pos g.sl=true:=hv.ring;have hl30:l.length<=30:=hsm.t.1;have hlb:LogB (AI a l).txns:=⟨by have:=hsm.t.1;omega,fun t ht=>⟨by have:=(hsm.t.2 t ht).1;omega,fun x hx=>by have:=(hsm.t.2 t ht).2 x hx;omega⟩⟩;have hun:=G_ l l.length;obtain⟨a1,a2,a3,a4⟩:=J2 ha;have hseq:a.seq+l.length<=K:=hv.seq;have hZ2:0<=lba.tdiv g.d/\lba.tdiv g.d<g.z:=by
  rw [Bw hlba.1];exact⟨Dh hlba.1 (by omega),De (by omega) hlba.2⟩
 obtain⟨t,hz⟩:=hV _ hZ2.1 hZ2.2;have htab:Fj g (AI a l) F (lba.tdiv g.d)=some t:=hz.tab;have hB:∀ p,CI (AI a l).txns (lba.tdiv g.d) 255=some p->p.1.bytes.length<=100000:=fun p hp=>by
  obtain⟨t,ht,hx⟩:=PU hp;have:=(hsm.t.2 t ht).2 _ hx;omega
 have h8:∀ x∈CX g (AI a l) F t (lba.tdiv g.d),x.length=8:=fun x hx=>by
  rcases Az.1 hx with q | q
  ·obtain⟨i,hi,rfl⟩:=AK.1 q;have:=AL.1 hi;rw [hz.one ⟨by omega,by omega⟩];exact hz.len _ (by omega) (by omega)
  ·rw [A4] at q;rw [q,hz.one ⟨by omega,by omega⟩];exact hz.len _ (by omega) (by omega)
 have htok:=KM htab;have htl:=Jm htok;have hlo:∀ i,i<t.length->(t.getD i ez).lost=false:=fun i hi=>by
  by_cases hd:(i:Int)<g.d
  ·have:=(hz.ent (i:Nat) (by omega) hd).1;rwa [show (Ex g (i:Nat)).toNat=i by unfold Ex;rw [if_neg (by omega)];omega] at this
  ·have:=(hz.ent (-1) (by omega) (by omega)).1;rwa [show (Ex g (-1)).toNat=i by unfold Ex;rw [if_pos rfl];omega] at this
 have tsub:SubL [.ag (Bh g), .ag (Fi a), .sl 4 l.length fun i=>(l.map Ir).getD i []] [.ag (Bh g), .ag (Fi a),Dt l]:=⟨ri,ri,Cd (f:=Ir) l rfl rfl,tv⟩;have hmay:=XG g (AI a l) d lba b hg (by show l.length<=1000;omega) hlba hb;rw [show (AI a l).only=false from rfl,if_neg (by decide),show (AI a l).txns=l from rfl,if_neg (by omega)] at hmay;have hnext:=Td g a l hg ha hring (by omega) (fun t ht=>⟨by have:=(hsm.t.2 t ht).1;omega,fun x hx=>by have:=(hsm.t.2 t ht).2 x hx;omega⟩) (by have:=(Mx hg ha).1;omega) (by have:=(Mx hg ha).2.1;omega) (by omega);obtain⟨S,hS⟩:∃ S,S=a.seq+(l.length:Int):=⟨_,rfl⟩;obtain⟨P,hP⟩:∃ P,P=(a.pos+Ed l).tmod g.sl:=⟨_,rfl⟩;have himg:=R5 g (AI a l) d F lba S b hg hlb ha h hF hlba hb (by omega) hB t htab h8 hlo;rw [<-hS,<-hP] at hnext;obtain⟨L,hL⟩:∃ L,L=Hy g (AI a l) F S lba b:=⟨_,rfl⟩;rw [<-hL] at himg;have hcm:FT g a l F lba b=⟨S,P,4,L⟩:=by rw [hL,hS,hP];try rfl
 obtain⟨hL3,hLok,hL1⟩:=S0 hg (a:=a) (l:=l) (F:=F) (fun t ht=>Au.1 (Fu hring t ht).1) (by omega) hlba hb (by rw [htab];try rfl);rw [hcm] at hL3 hLok hL1 |-
 simp only at hL3 hLok hL1;have hep:0<=a.epoch/\a.epoch<=4294967295:=by
  have:=ha;simp only [B7,Bb,BM,BC,Ae,decide_eq_true_eq,AJ] at this;omega
 have hLb:∀ x∈L,x.bytes.length<=45:=fun x hx=>JS hg (hLok x hx)
 have hrec:=W9 g S a.epoch L (by omega) fun x hx=>by have:=hLb x hx;omega
 have hS1:Do S 0 4294967295=true:=AJ.2 (by omega);rw [Yz hg hS1 (AJ.2 hep) (Au.2 hLok) (by rw [hL3];decide),if_pos rfl] at hrec;obtain⟨R,hR⟩:∃ R,R=Fe S a.epoch L:=⟨_,rfl⟩;have hRl:R.length=4:=by rw [hR,Lr,hL3]
 have hRok:∀ k:Nat,k<4->EH g (R.getD k rc0)=true/\(R.getD k rc0).img.bytes.length<=100000:=fun k hk=>by
  rw [hR,Te _ _ _ (by omega)];split
  ·rename_i q;exact⟨WR hg hS1 (AJ.2 hep) (hLok _ (AC (d:=⟨0,0, []⟩) q)) q hL3,by have:=hLb _ (AC (d:=(⟨0,0, []⟩:Img)) q);show (L.getD k _).bytes.length<=_;omega⟩
  ·rw [show k=L.length by omega];exact⟨WQ hg hS1 (AJ.2 hep) hL3,Aj _⟩
 rw [<-hR] at hrec;refine zV tys_ok Tryz.func36 rfl rfl (Ad rfl) ?_;conv=>whnf
 refine ze9 [0,1,2,3,4] hmay ?_;rintro _ _ ⟨rfl,rfl⟩;conv=>whnf
 apply zX (0) tys_ok mixed (.o [0,1,2,3,4,5,6,7,8,9,10,11,12,13,14,15,16,17,18,19,20,21] .fin) (by kernel_rfl);conv=>whnf
 (refine zj (args':= [.ag (Bh g), .ag (Fi a), .sl 4 l.length fun i=>(l.map Ir).getD i []]) (hnext.subA tsub) ⟨(Aa _).symm,rfl⟩ ?_;rintro _ rfl;refine⟨rfl,?_⟩)
 conv=>whnf
 refine ze9 [0,1,2,3,4] himg ?_;rintro _ _ ⟨rfl,d1,hd1,rfl⟩;conv=>whnf
 repeat' (refine zZ ?_;conv=>whnf)
 apply zX (0) tys_ok mixed (.o [0,1,2,3,4,5,6,7,8,9,10,11,12,13,14,15,16,17] .fin) (by kernel_rfl);conv=>whnf
 refine zY hrec ?_;conv=>whnf
 refine zS (Nat × Dk × List Wr) (fun x=>([(0, .bp 0 0),(4, .bp 5 0),(8,iv P),(9,iv S),(10,EW L),(11,RV R),(73,RV R),(74,iv R.length),(75,iv (x.1:Nat))],conH g (AI a l) x.2.1 lba)) (fun x=>x.1<=4/\Gw (A7 g) x.2.1 F x.2.2/\x.2.2.length=2*x.1/\∀ w∈x.2.2,(g.an<=w.addr/\w.addr<g.an+2*g.sl/\B_ w.bytes=w.addr)/\w.bytes.length<=200) (fun x=>4 - x.1) (0,d1, []) ⟨by show 0<=4;omega,hd1,rfl,fun w hw=>by cases hw⟩
  (zR (s:= [0,1,2,3,4,5]) tA) ?_
 rintro⟨i,d2,W⟩ ⟨hi,hW,hWl,hWb⟩;simp only at hi hW hWl hWb;by_cases hi4:i<4
 ·obtain⟨Q,hQ⟩:∃ Q,Q=E1 g P (i:Nat):=⟨_,rfl⟩;have hQ2:=O_ hg (pos:=P) (at_:=(i:Nat)) (by rw [hP];exact⟨BH _ (by unfold Ed;omega),B3 _ (by omega)⟩) (by omega);rw [<-hQ] at hQ2;obtain⟨X,hX⟩:∃ X,X=R.getD i rc0:=⟨_,rfl⟩;have hXok:=hRok i hi4;rw [<-hX] at hXok;subst hX;have c0:=Hu (g:=g) (.inl rfl) hQ2 (c:=0);have c1:=Hu (g:=g) (.inr rfl) hQ2 (c:=1);have hbo:=T_ g (AI a l) d2 F W (R.getD i rc0) Q hg hXok.1 hXok.2 hQ2 hW (by omega);have hW2:∀ w∈(W ++ [⟨Bc g 0 Q,B6 g (R.getD i rc0) 0 Q⟩]) ++ [⟨Bc g 1 Q,B6 g (R.getD i rc0) 1 Q⟩],(g.an<=w.addr/\w.addr<g.an+2*g.sl/\B_ w.bytes=w.addr)/\w.bytes.length<=200:=fun w hw=>by
   rcases Az.1 hw with q | q
   ·rcases Az.1 q with q | q
    ·exact hWb w q
    ·rw [A4] at q;rw [q];exact⟨⟨c0.1,c0.2,Qg hg hXok.1 (.inl rfl) hQ2⟩,Ce hXok.1 0 Q⟩
   ·rw [A4] at q;rw [q];exact⟨⟨c1.1,c1.2,Qg hg hXok.1 (.inr rfl) hQ2⟩,Ce hXok.1 1 Q⟩
  conv=>whnf
  rw [show decide ((i:Int)<(R.length:Nat))=true from decide_eq_true (by omega)];conv=>whnf
  repeat' (refine zZ ?_;conv=>whnf)
  refine⟨⟨by omega,by omega⟩,?_⟩;conv=>whnf
  rw [Ac];repeat' (refine zZ ?_;conv=>whnf)
  apply zX (2 ^ 139) tys_ok mixed (.o [0,1,2,3,4,5,6,7,8,9,10,11,12,13,14,15,16] .fin) (by kernel_rfl);conv=>whnf
  try (refine tI ?_;conv=>whnf)
  (rw [show (IntKind.i64.wrap (P+(i:Nat))).tmod g.sl=Q from hQ.symm];refine ze9 [0,1,2,3,4] hbo ?_;rintro _ _ ⟨rfl,d3,hd3,rfl⟩)
  conv=>whnf
  conv=>whnf
  repeat' (refine zZ ?_;conv=>whnf)
  exact⟨(i+1,d3,(W ++ [⟨Bc g 0 Q,B6 g (R.getD i rc0) 0 Q⟩]) ++ [⟨Bc g 1 Q,B6 g (R.getD i rc0) 1 Q⟩]),⟨by show i+1<=4;omega,hd3,by show ((W ++ [_]) ++ [_]).length=2*(i+1);simp;omega,hW2⟩,by show 4 - (i+1)<4 - i;omega,zR (s:= [0,1,2,3,4,5]) ⟨⟨rfl,rfl,rfl,rfl,rfl,rfl,rfl,rfl,AQ (by omega),tv⟩,tA,rfl,rfl,rfl,rfl,rfl⟩⟩
 ·have ei:i=4:=by omega
  subst ei;have hok1:=hW.ok;have hfl:=IN d2 hok1.l hok1.m fun w hw=>(hok1.w w hw).1
  rw [if_neg (by rw [hW.left];decide),if_neg (by rw [hW.left];decide)] at hfl;have hdel:=VS lba;conv=>whnf
  rw [show decide (((4:Nat):Int)<(R.length:Nat))=false from decide_eq_false (by omega)];conv=>whnf
  repeat' (refine zZ ?_;conv=>whnf)
  refine ze9 [1,2,3] hfl ?_;rintro _ _ ⟨rfl,rfl⟩;conv=>whnf
  repeat' (refine zZ ?_;conv=>whnf)
  refine⟨rfl,?_⟩;conv=>whnf
  refine Ai ⟨by rw [Aa],by show l.length+1<=1000000000;omega⟩ ?_;conv=>whnf
  repeat' (refine zZ ?_;conv=>whnf)
  refine zY hdel ?_;conv=>whnf
  have hv2:=hv.add hg hK (d':=d2.flush) ⟨_,hW.flush⟩ (x:=⟨S,P,4,L⟩) hS hP (by show (2:Int)<=4;omega) (by show (4:Int)<=g.sl - Ed l;omega) (by show (4:Int)=(L.length:Int)+1;omega) hLok hL1;have e4:((R.length:Nat):Int)=4:=by omega
  rw [e4];exact⟨_,iv 0,a8 g (AI a (l ++ [⟨S,P,4,L⟩])) d2.flush,fun _ _ h=>h,zL (zP (Y0 (T:=l ++ [⟨S,P,4,L⟩]) rfl rfl (by rw [Ah];try rfl) (by rw [A0];try rfl))) (s:= [0,1,2,3,4,6]) tA,rfl,d2.flush,W,hW.flush,hWb,hv2,rfl⟩
theorem Sd {c1:Ctx} {l:List AV} {us:List Value} {j k:Nat} (hx:RdL l c1 us) (hj:l[j]? = some (.v (.slice none 0 0))) (q:Rd (.ow k 0) c1 (.slice none 0 0)):RdL (l.set j (.ow k 0)) c1 us:=by
 obtain⟨v,h5,h6⟩:=hx.get hj;simp only [Rd] at h6;subst h6;have h7:=hx.set (i:=j) q;have e:us.set j (.slice none 0 0)=us:=by
  obtain⟨hlt,h8⟩:=Ar.1 h5;have:=@List.set_getElem_self _ us _ hlt;rw [h8] at this;exact this
 rwa [e] at h7
theorem ConvH.ghost {H:List AB} (k j:Nat) {bt t:TypeId} {sz:Nat} {cs:List AV} (hk:H[k]? = some (.box bt cs)) (hj:cs[j]? = some (.v (.slice none 0 0))) (hz:0<sz):ConvH H (H.set k (.box bt (cs.set j (.ow H.length 0))) ++ [.row t sz []]):=by
 intro w0 M0 c hs;obtain⟨q1,q2,q3⟩:=hs.newrow (Below.refl _ _) (t:=t) (es:= []) (v:= .slice none 0 0) (xs:= []) hz (by simp) (World.ownsRow_nil _ _ _ _) (by simp) (by simp [RdL]);have hkl:=(Ar.1 hk).1;have hk':(H ++ [AB.row t sz []])[k]? = some (.box bt cs):=by rw [AD hkl];exact hk
 have q1':=q1.rebox hk' (cs':=cs.set j (.ow H.length 0)) (fun xs hx=>Sd hx hj q3);rw [List.set_append_left _ _ hkl] at q1';exact⟨c.new c.w (.slice none 0 0) 0,rfl,q1',q2⟩
theorem ACalls.ghost {P:Program} {q:Bool} {f:FuncId} {args:List AV} {H:List AB} {K:AV->List AB->Prop} (j:Nat) {t:TypeId} {sz:Nat} (hj:args[j]? = some (.v (.slice none 0 0))) (hz:0<sz) (h:ACalls P q f (args.set j (.ow H.length 0)) (H ++ [.row t sz []]) K):ACalls P q f args H K:=by
 refine⟨h.go,fun w0 M0 c us hs hr=>?_⟩;obtain⟨q1,q2,q3⟩:=hs.newrow (Below.refl _ _) (t:=t) (es:= []) (v:= .slice none 0 0) (xs:= []) hz (by simp) (World.ownsRow_nil _ _ _ _) (by simp) (by simp [RdL]);have:=h.calls w0 M0 _ us q1 (Sd (RdL.ext _ q2 hr) hj q3);refine this.mono ?_;rintro e w' ⟨v,c',r,H2,rfl,rfl,p1,p2,p3,p4,p5⟩;exact⟨v,c',r,H2,rfl,rfl,p1,p2,q2.trans p3,p4,p5⟩
@[reducible] def txV:Bool->List Tx->AV
 | true,_=> .v (.slice none 0 0)
 | false,l=>Dt l
structure Sp where
 kind:Int
 h:Int
 lba:Int
 bytes:List UInt8
 addr:Int
 frm:Int
 bit:Int
 bits:Int
 cut:Int
 keep:Int
@[reducible] def GV (x:Sp):List AV:= [iv x.kind,iv x.h,iv x.lba,bA x.bytes,iv x.addr,iv x.frm,iv x.bit,iv x.bits,iv x.cut,iv x.keep]
@[reducible] def ON (g:Geo) (d:Dk) (on:Bool) (s:Stt) (tx lk hd:AV):List AV:= [iv g.z,iv g.d,iv g.sp,iv g.sl,iv g.an,Qf d.cells,NJ d.cache,iv d.reqs,iv d.left, .v (.bool on),iv s.a.gen,iv s.a.epoch,iv s.a.pos,iv s.a.seq,iv s.a.last, .v (.string s.a.label),GS s.a.homes,tx, .v (.bool s.only),iv s.cursor,iv s.found,iv s.fixed,iv s.moved,iA s.lost,lk,hd]
@[reducible] def W7 (g:Geo) (d:Dk):List AV:= [iv g.z,iv g.d,iv g.sp,iv g.sl,iv g.an,Qf d.cells,NJ d.cache,iv d.reqs,iv d.left, .v (.bool false),iv 0,iv 0,iv 0,iv 0,iv 0, .v (.string ⟨#[]⟩), .v (.slice none 0 0), .v (.slice none 0 0), .v (.bool false),iv 0,iv 0,iv 0,iv 0, .v (.slice none 0 0), .v (.slice none 0 0), .v (.slice none 0 0)]
@[reducible] def Zf (vol:List AV) (g:Geo) (s:Stt) (tx:AV) (d:Dk) (x:Sp):List AB:= [.box 111 vol, .box 99 (XK g (.bp 2 0) tx (iA s.lost) s), .box 119 (K4 (.ow 3 d.cells.length) (.ow 4 d.cache.length) d.reqs d.left), .row 68 3 (d.cells.map Cc), .row 152 2 (d.cache.map FB), .box 116 (.bp 0 0:: .bp 1 0::GV x)]
@[reducible] def Um (vol:List AV) (g:Geo) (s:Stt) (tx:AV) (d:Dk) (x:Sp):List AB:= [.box 111 vol, .box 99 (XK g (.bp 2 0) tx (iA s.lost) s), .box 119 (K4 (.ow 3 d.cells.length) (.ow 6 d.cache.length) d.reqs d.left), .row 68 3 (d.cells.map Cc), .dead, .box 116 (.bp 0 0:: .bp 1 0::GV x), .row 152 2 (d.cache.map FB)]
@[reducible] def an7 (e n:Int) (b:List UInt8):List AV:= [iv e,iv n,bA b,iv 0,iv 0,iv 0,iA []]
theorem BY (e n:Int):SubL [iv e,iv n, .v (.slice none 0 0),iv 0,iv 0,iv 0, .v (.slice none 0 0)] (an7 e n []):=⟨ri,ri,AZ 1 _,ri,ri,ri,AZ 1 _,tv⟩
theorem ZJ (e n:Int) (b:List UInt8):SubL [iv e,iv n,bA b,iv 0,iv 0,iv 0, .v (.slice none 0 0)] (an7 e n b):=⟨ri,ri,ri,ri,ri,ri,AZ 1 _,tv⟩
theorem RJ (g:Geo) (lb:ByteArray) (hg:Bt g=true) (hs:Er lb.data.toList=0) (hl:lb.size<=1000000):ACalls Tryz.prog false 19 [.ag (Bh g), .v (.string lb)] [] fun r H=>r = .tp [.bp 0 0,iv 0]/\H=[.box 111 (W7 g (DD g lb))]:=by
 have hf:=TL g lb hg hs hl;refine zV tys_ok Tryz.func19 rfl rfl (Ad rfl) ?_;conv=>whnf
 refine zY hf ?_;exact⟨_, .tp [.bp 0 0,iv 0], [.box 111 (W7 g (DD g lb))],fun _ _ h=>h,zR (s:= [2]) tA,rfl,rfl⟩
theorem SD (g:Geo) (hg:Bt g=true):Fn Tryz.prog 47 [.ag (Bh g)] fun r=>r = .tp [iv (4*g.sl+4*g.an+16*g.z*(g.d+g.sp+4)+8),iv 0]:=by
 have hG:Fn Tryz.prog 118 [.ag (Bh g)] fun r=>r = .v (Eg (Bt g)):=Ci g.z g.d g.sp g.sl g.an
 rw [hg] at hG;obtain⟨g1,g2,g3,g4,g5⟩:=Ay.1 hg;have hb:0<=16*g.z*(g.d+g.sp+4)/\16*g.z*(g.d+g.sp+4)<=64*10:=⟨C4 (by omega) (by omega),Int.mul_le_mul (by omega) (by omega) (by omega) (by omega)⟩;refine zT Tryz.func47 rfl ?_;conv=>whnf
 refine zY hG ?_;exact⟨_,ri,by
  rw [wi (n:=4*g.sl) (by omega),wi (n:=4*g.an) (by omega),wi (n:=4*g.sl+4*g.an) (by omega),wi (n:=16*g.z) (by omega),wi (n:=g.d+g.sp) (by omega),wi (n:=g.d+g.sp+4) (by omega),wi (n:=16*g.z*(g.d+g.sp+4)) (by omega),wi (n:=4*g.sl+4*g.an+16*g.z*(g.d+g.sp+4)) (by omega),wi (n:=4*g.sl+4*g.an+16*g.z*(g.d+g.sp+4)+8) (by omega)]⟩
@[reducible] def Ds (g:Geo) (d0 d:Dk) (s0 s:Stt) (b:Bool) (L:List Lck) (l:List Hd) (x:Sp):List AB:=Zf (ON g d0 true s0 (Dt s0.txns) (BR L) (C2 l)) g s (txV b s.txns) d x
@[reducible] def D_ (g:Geo) (d0 d:Dk) (s0 s:Stt) (b:Bool) (L:List Lck) (l:List Hd) (x:Sp):List AB:=Um (ON g d0 true s0 (Dt s0.txns) (BR L) (C2 l)) g s (txV b s.txns) d x
section
variable (g:Geo) (d0 d:Dk) (s0 s:Stt) (b:Bool) (L:List Lck) (l:List Hd) (x:Sp)
theorem Gm (hl:l.length<=1000) (hh:Eb l x.h=true):ACalls Tryz.prog false 204 [.bp 5 0] (Ds g d0 d s0 s b L l x) fun r H=>r = .tp [.ag (D1 (l.getD (E7 l x.h) ⟨0, [], []⟩)),iv 0]/\H=Ds g d0 d s0 s b L l x:=by
 have ha:=LU l x.h (by omega);rw [hh,if_pos rfl] at ha;have hlt:=Kc hh;obtain⟨p,hp⟩:∃ p,p=E7 l x.h:=⟨_,rfl⟩;rw [<-hp] at ha hlt |-
 cases b with
 | true=>
  refine zV tys_ok Tryz.func204 rfl rfl (Ad rfl) ?_;conv=>whnf
  apply zX (0) tys_ok mixed (.o [0,1,2,3,4,5,6,7,8,9,10,11,12,13,14,15,16,17] .fin) (by kernel_rfl);conv=>whnf
  refine zY ha ?_;refine⟨⟨by omega,by omega⟩,?_⟩;conv=>whnf
  rw [Ac];exact⟨_, .tp [.ag (D1 (l.getD p ⟨0, [], []⟩)),iv 0],Ds g d0 d s0 s true L l x,fun _ _ h=>h,zR (s:= [0,1,2,3,4,5]) tA,rfl,rfl⟩
 | false=>
  refine zV tys_ok Tryz.func204 rfl rfl (Ad rfl) ?_;conv=>whnf
  apply zX (0) tys_ok mixed (.o [0,1,2,3,4,5,6,7,8,9,10,11,12,13,14,15,16,17] .fin) (by kernel_rfl);conv=>whnf
  refine zY ha ?_;refine⟨⟨by omega,by omega⟩,?_⟩;conv=>whnf
  rw [Ac];exact⟨_, .tp [.ag (D1 (l.getD p ⟨0, [], []⟩)),iv 0],Ds g d0 d s0 s false L l x,fun _ _ h=>h,zR (s:= [0,1,2,3,4,5]) tA,rfl,rfl⟩
theorem I1 (hl:l.length<=1000) (hh:Eb l x.h=false):ACalls Tryz.prog false 204 [.bp 5 0] (Ds g d0 d s0 s b L l x) fun r H=>r = .tp [.ag (D1 ⟨0, [], []⟩),iv 18]/\H=Ds g d0 d s0 s b L l x:=by
 have ha:=LU l x.h (by omega);rw [hh] at ha;cases b with
 | true=>
  refine zV tys_ok Tryz.func204 rfl rfl (Ad rfl) ?_;conv=>whnf
  apply zX (0) tys_ok mixed (.o [0,1,2,3,4,5,6,7,8,9,10,11,12,13,14,15,16,17] .fin) (by kernel_rfl);conv=>whnf
  refine zY ha ?_;exact⟨_, .tp [.ag (D1 ⟨0, [], []⟩),iv 18],Ds g d0 d s0 s true L l x,BT (m:= [.ag (D1 ⟨0, [], []⟩),iv 18]) ⟨AW ⟨ri,AZ 1 _,AZ 1 _,tv⟩,ri,tv⟩,zR (s:= [0,1,2,3,4,5]) tA,rfl,rfl⟩
 | false=>
  refine zV tys_ok Tryz.func204 rfl rfl (Ad rfl) ?_;conv=>whnf
  apply zX (0) tys_ok mixed (.o [0,1,2,3,4,5,6,7,8,9,10,11,12,13,14,15,16,17] .fin) (by kernel_rfl);conv=>whnf
  refine zY ha ?_;exact⟨_, .tp [.ag (D1 ⟨0, [], []⟩),iv 18],Ds g d0 d s0 s false L l x,BT (m:= [.ag (D1 ⟨0, [], []⟩),iv 18]) ⟨AW ⟨ri,AZ 1 _,AZ 1 _,tv⟩,ri,tv⟩,zR (s:= [0,1,2,3,4,5]) tA,rfl,rfl⟩
theorem J8 (hg:Bt g=true) (hl:l.length<=1000) (hh:Eb l x.h=true) (hlba:0<=x.lba/\x.lba<g.z*g.d):ACalls Tryz.prog false 196 [.bp 5 0] (Ds g d0 d s0 s b L l x) fun r H=>r = .tp [.ag (D1 (l.getD (E7 l x.h) ⟨0, [], []⟩)),iv 0]/\H=Ds g d0 d s0 s b L l x:=by
 have c1:=Gm g d0 d s0 s b L l x hl hh;have c2:=If g x.lba hg hlba;cases b with
 | true=>
  refine zV tys_ok Tryz.func196 rfl rfl (Ad rfl) ?_;conv=>whnf
  refine ze9 [0,1,2,3,4,5] c1 ?_;rintro _ _ ⟨rfl,rfl⟩;conv=>whnf
  apply zX (0) tys_ok mixed (.o [0,1,2,3,4,5,6,7,8,9,10,11,12,13,14,15,16,17,18,19] .fin) (by kernel_rfl);conv=>whnf
  refine zY c2 ?_;conv=>whnf
  repeat' (refine zZ ?_;conv=>whnf)
  exact⟨_, .tp [.ag (D1 (l.getD (E7 l x.h) ⟨0, [], []⟩)),iv 0],Ds g d0 d s0 s true L l x,fun _ _ h=>h,zR (s:= [0,1,2,3,4,5]) tA,rfl,rfl⟩
 | false=>
  refine zV tys_ok Tryz.func196 rfl rfl (Ad rfl) ?_;conv=>whnf
  refine ze9 [0,1,2,3,4,5] c1 ?_;rintro _ _ ⟨rfl,rfl⟩;conv=>whnf
  apply zX (0) tys_ok mixed (.o [0,1,2,3,4,5,6,7,8,9,10,11,12,13,14,15,16,17,18,19] .fin) (by kernel_rfl);conv=>whnf
  refine zY c2 ?_;conv=>whnf
  repeat' (refine zZ ?_;conv=>whnf)
  exact⟨_, .tp [.ag (D1 (l.getD (E7 l x.h) ⟨0, [], []⟩)),iv 0],Ds g d0 d s0 s false L l x,fun _ _ h=>h,zR (s:= [0,1,2,3,4,5]) tA,rfl,rfl⟩
theorem K_ (L':List Lck):ACalls Tryz.prog false 197 [.bp 5 0,BR L',iv 0] (Ds g d0 d s0 s b L l x) fun r H=>r = iv 0/\H=Ds g d0 d s0 s b L' l x:=by
 cases b with
 | true=>
  refine zV tys_ok Tryz.func197 rfl rfl (Ad rfl) ?_;exact⟨_,iv 0,Ds g d0 d s0 s true L' l x,fun _ _ h=>h,zR (s:= [0,1,2,3,4,5]) tA,rfl,rfl⟩
 | false=>
  refine zV tys_ok Tryz.func197 rfl rfl (Ad rfl) ?_;exact⟨_,iv 0,Ds g d0 d s0 s false L' l x,fun _ _ h=>h,zR (s:= [0,1,2,3,4,5]) tA,rfl,rfl⟩
end
theorem Xq (n id:Int):Fn Tryz.prog 353 [iv n, .rp [iv id]] fun r=>r = .v (.bool (n == id)):=by
 refine zT Tryz.func353 rfl ?_;exact⟨_,ri,rfl⟩
theorem Vk (l:List Int) (id:Int) (hl:l.length<=1000000):Fn Tryz.prog 152 [iA l, .fn 353 [.rp [iv id]]] fun r=>r = iv (Nt (fun n=>n == id) l):=by
 refine zT Tryz.func152 rfl ?_;conv=>whnf
 refine zO Nat (fun k=>([(0,iA l),(1, .fn 353 [.rp [iv id]]),(7,iv l.length),(8,iv k)], [])) (fun k=>k<=l.length/\(l.take k).any (fun n=>n == id)=false) (fun k=>l.length - k) 0 ⟨Aj _,by simp⟩ ⟨[],tv,tA,tv,rfl,rfl,rfl⟩ ?_;rintro k ⟨hk,hI⟩;conv=>whnf
 refine Ak (fun h2=>?_) (fun h2=>?_) <;> simp at h2 <;> conv=>whnf
 ·refine⟨by first | omega | (refine⟨rfl,?_,?_⟩ <;> first | omega | (simp only [Aa];done) | (simp only [Aa];omega)) | (simp only [Aa];omega),?_⟩;conv=>whnf
  refine zY (Xq (l.getD k 0) id) ?_;conv=>whnf
  refine Ak (fun h3=>?_) (fun h3=>?_) <;> conv=>whnf
  ·exact⟨_,ri,by rw [Ek (d:=0) h2 hI (by first | exact h3 | (rw [Ac] at h3;exact h3) | simpa using h3)]⟩
  ·refine⟨k+1,⟨by omega,Cm (d:=0) h2 hI (by first | exact h3 | (rw [Ac] at h3;exact h3) | simpa using h3)⟩,by omega, [],tv,⟨rfl,rfl,rfl,AQ (by omega),tv⟩,tv,rfl,rfl,rfl⟩
 ·exact⟨_,ri,by rw [At h2] at hI;rw [Dx hI]⟩
theorem Xr (l:List Int) (id:Int) (hl:l.length<=1000000) (h:l.any (fun n=>n == id)=false):Fn Tryz.prog 78 [iA l, .fn 353 [.rp [iv id]]] fun r=>r=iA l:=by
 have h1:=Vk l id hl;rw [Dx h] at h1;refine zT Tryz.func78 rfl ?_;conv=>whnf
 refine zY h1 ?_;exact⟨_,ri,rfl⟩
def DZ (l:List Lck) (id:Int):List Lck:=(l.map fun x=>if x.writer=id then (⟨x.lba,x.reads, -1⟩:Lck) else x).filter fun x=>decide (0<x.reads.length) || (x.writer != -1)
theorem Ry {l:List Lck} {id:Int} {k:Nat} (hk:k<l.length):DZ (l.take (k+1)) id=DZ (l.take k) id ++ DZ [l.getD k lz] id:=by
 unfold DZ;rw [AN hk,A0,List.filter_append];congr 2;rw [Ab,Af hk];try rfl
theorem TT (l:List Lck) (id:Int):(DZ l id).length<=l.length:=by
 unfold DZ;exact AS (List.length_filter_le _ _) (by rw [Aa];exact Ag _)
theorem LE (l:List Lck) (id:Int) (hok:Hv l=true) (hid:0<=id) (hn:∀ x∈l,x.reads.any (fun n=>n == id)=false):Fn Tryz.prog 287 [BR l,iv id] fun r=>r = .tp [BR (DZ l id),iv 0]:=by
 have c1:=G7 l hok;have hok2:=hok;simp only [Hv,Ae,decide_eq_true_eq] at hok2;have hlen:=hok2.1;have hrd:∀ x∈l,x.reads.length<=8:=fun x hx=>by
  have:=Au.1 hok2.2.2 x hx;simp only [GQ,Ae,decide_eq_true_eq] at this;exact this.1
 have c2:=LA l (by omega) fun x hx=>by have:=hrd x hx;omega
 refine zT Tryz.func287 rfl ?_;conv=>whnf
 refine zY c1 ?_;conv=>whnf
 rw [decide_eq_false (show ¬id<0 by omega)];conv=>whnf
 refine zW c2 rfl ?_;rintro _ _ ⟨rfl,rfl⟩;conv=>whnf
 refine zS Nat (fun k=>([(3, .rp [iv id]),(6, .ow 1 (DZ (l.take k) id).length),(17, .ow 0 l.length),(18,iv l.length),(19,iv k)], [.row 216 3 (l.map Ey), .row 216 3 ((DZ (l.take k) id).map Ey)])) (fun k=>k<=l.length) (fun k=>l.length - k) 0 (Aj _)
  ⟨_,_,zd 3 0 (y:= .rp [iv id]) (H':= [.dead, .row 216 3 (l.map Ey)]) rfl (by (conv=>whnf);exact tA), [(6,216,3)],tA, [1,2],tA⟩ ?_
 rintro k hk;conv=>whnf
 refine AP (fun h2=>?_) (fun h2=>?_) <;> (repeat rw [Ac] at h2) <;> conv=>whnf
 ·have hk':k<l.length:=by omega
  have hE:(l.map Ey).getD (k:Int).toNat []=Ey (l.getD k lz):=by rw [Ac];exact AR hk'
  have hm:=AC (d:=lz) hk';have hdl:=Xr (l.getD k lz).reads id (by have:=hrd _ hm;omega) (hn _ hm);have hds:=Ry (id:=id) hk';have hdn:=TT (l.take k) id;rw [Aq] at hdn;obtain⟨q,hq⟩:∃ q,q=l.getD k lz:=⟨_,rfl⟩;rw [<-hq] at hE hdl hds;obtain⟨qb,qr,qw⟩:=q;repeat' (refine zZ ?_;conv=>whnf)
  refine⟨⟨by omega,by omega⟩,?_⟩;conv=>whnf
  refine Ai ⟨rfl,(Aa _).symm,by rw [Ac];exact hk'⟩ ?_;conv=>whnf
  rw [hE];conv=>whnf
  refine zY hdl ?_;conv=>whnf
  repeat' (refine zZ ?_;conv=>whnf)
  by_cases e1:qw=id
  ·rw [show ((⟨qb,qr,qw⟩:Lck).writer == id)=true from beq_iff_eq.2 e1];conv=>whnf
   by_cases e2:0<qr.length
   ·have o:DZ [⟨qb,qr,qw⟩] id=[⟨qb,qr, -1⟩]:=by simp [DZ,e1,e2]
    rw [show decide (((⟨qb,qr,qw⟩:Lck).reads.length:Int) > 0)=true from decide_eq_true (by show 0<(qr.length:Int);omega)];conv=>whnf
    repeat' (refine zZ ?_;conv=>whnf)
    refine⟨rfl,?_⟩;refine⟨⟨by rw [Aa],by omega⟩,?_⟩;conv=>whnf
    exact⟨k+1,hk',by omega,zR (s:= [0,1]) ⟨⟨rfl,by rw [hds,o,Ah];try rfl,rfl,rfl,AQ (by omega),tv⟩,⟨rfl,by rw [hds,o,A0];try rfl,tv⟩,rfl,rfl,rfl,rfl,rfl⟩⟩
   ·have o:DZ [⟨qb,qr,qw⟩] id=[]:=by simp [DZ,e1,e2]
    rw [show decide (((⟨qb,qr,qw⟩:Lck).reads.length:Int) > 0)=false from decide_eq_false (by show ¬0<(qr.length:Int);omega)];conv=>whnf
    repeat' (refine zZ ?_;conv=>whnf)
    exact⟨k+1,hk',by omega,zR (s:= [0,1]) ⟨⟨rfl,by rw [hds,o,AE];try rfl,rfl,rfl,AQ (by omega),tv⟩,⟨rfl,by rw [hds,o,AE];try rfl,tv⟩,rfl,rfl,rfl,rfl,rfl⟩⟩
  ·rw [show ((⟨qb,qr,qw⟩:Lck).writer == id)=false from beq_eq_false_iff_ne.2 e1];conv=>whnf
   by_cases e2:0<qr.length
   ·have o:DZ [⟨qb,qr,qw⟩] id=[⟨qb,qr,qw⟩]:=by simp [DZ,e1,e2]
    rw [show decide (((⟨qb,qr,qw⟩:Lck).reads.length:Int) > 0)=true from decide_eq_true (by show 0<(qr.length:Int);omega)];conv=>whnf
    repeat' (refine zZ ?_;conv=>whnf)
    refine⟨rfl,?_⟩;refine⟨⟨by rw [Aa],by omega⟩,?_⟩;conv=>whnf
    exact⟨k+1,hk',by omega,zR (s:= [0,1]) ⟨⟨rfl,by rw [hds,o,Ah];try rfl,rfl,rfl,AQ (by omega),tv⟩,⟨rfl,by rw [hds,o,A0];try rfl,tv⟩,rfl,rfl,rfl,rfl,rfl⟩⟩
   ·rw [show decide (((⟨qb,qr,qw⟩:Lck).reads.length:Int) > 0)=false from decide_eq_false (by show ¬0<(qr.length:Int);omega)];conv=>whnf
    by_cases e3:qw = -1
    ·have o:DZ [⟨qb,qr,qw⟩] id=[]:=by simp [DZ,e2,e3]
     rw [show ((⟨qb,qr,qw⟩:Lck).writer != -1)=false from bne_eq_false_iff_eq.2 e3];conv=>whnf
     repeat' (refine zZ ?_;conv=>whnf)
     exact⟨k+1,hk',by omega,zR (s:= [0,1]) ⟨⟨rfl,by rw [hds,o,AE];try rfl,rfl,rfl,AQ (by omega),tv⟩,⟨rfl,by rw [hds,o,AE];try rfl,tv⟩,rfl,rfl,rfl,rfl,rfl⟩⟩
    ·have o:DZ [⟨qb,qr,qw⟩] id=[⟨qb,qr,qw⟩]:=by simp [DZ,e1,e2,e3]
     rw [show ((⟨qb,qr,qw⟩:Lck).writer != -1)=true from bne_iff_ne.2 e3];conv=>whnf
     repeat' (refine zZ ?_;conv=>whnf)
     refine⟨rfl,?_⟩;refine⟨⟨by rw [Aa],by omega⟩,?_⟩;conv=>whnf
     exact⟨k+1,hk',by omega,zR (s:= [0,1]) ⟨⟨rfl,by rw [hds,o,Ah];try rfl,rfl,rfl,AQ (by omega),tv⟩,⟨rfl,by rw [hds,o,A0];try rfl,tv⟩,rfl,rfl,rfl,rfl,rfl⟩⟩
 ·have e:k=l.length:=by omega
  subst e;rw [A5];refine Ai (Aa _).symm ?_;exact⟨_,BT (m:= [BR (DZ l id),iv 0]) ⟨Cd (f:=Ey) (DZ l id) rfl rfl,ri,tv⟩,rfl⟩
theorem RA {l:List Hd} {id:Int} (h:Eb l id=true):(l.getD (E7 l id) ⟨0, [], []⟩).id=id:=by
 have h1:=Kc h;have h2:(l[E7 l id].id == id)=true:=List.findIdx_getElem (p:=fun h:Hd=>h.id == id) (xs:=l) (w:=h1);rw [Ab,Af h1];exact eq_of_beq h2
section
variable (g:Geo) (d0 d:Dk) (s0 s:Stt) (b:Bool) (L:List Lck) (l:List Hd) (x:Sp)
theorem SF (hl:l.length<=1000) (hs:∀ h∈l,KX h) (hend:freeId l 0=l.length) (ho:(DW l).2.2=0):ACalls Tryz.prog false 111 [.bp 5 0] (Ds g d0 d s0 s b L l x) fun r H=>r = .ag (an7 0 (DW l).2.1 [])/\H=Ds g d0 d s0 s b L (DW l).1 x:=by
 have c1:=V4 l hl hs hend;rw [ho] at c1;obtain⟨n,hn⟩:∃ n,n=(DW l).2.1:=⟨_,rfl⟩;obtain⟨m,hm⟩:∃ m,m=(DW l).1:=⟨_,rfl⟩;rw [<-hn,<-hm] at c1 |-
 cases b with
 | true=>
  refine zV tys_ok Tryz.func111 rfl rfl (Ad rfl) ?_;conv=>whnf
  refine zY c1 ?_;exact⟨_, .ag (an7 0 n []),Ds g d0 d s0 s true L m x,AW (BY 0 n),zR (s:= [0,1,2,3,4,5]) tA,rfl,rfl⟩
 | false=>
  refine zV tys_ok Tryz.func111 rfl rfl (Ad rfl) ?_;conv=>whnf
  refine zY c1 ?_;exact⟨_, .ag (an7 0 n []),Ds g d0 d s0 s false L m x,AW (BY 0 n),zR (s:= [0,1,2,3,4,5]) tA,rfl,rfl⟩
theorem MV (L':List Lck) (id:Int) (hl:l.length<=1000) (hs:∀ h∈l,KX h) (hd:Fn Tryz.prog 287 [BR L,iv id] fun r=>r = .tp [BR L',iv 0]):ACalls Tryz.prog false 205 [.bp 0 0,iv id] (Ds g d0 d s0 s b L l x) fun r H=>r = .tp []/\H=Ds g d0 d s0 s b L' (DC l id).1 x:=by
 have c1:=TC l id hl hs;generalize DC l id=q at c1 |-
 obtain⟨m,h,e⟩:=q;simp only at c1 |-
 cases b with
 | true=>
  refine zV tys_ok Tryz.func205 rfl rfl (Ad rfl) ?_;conv=>whnf
  refine zY c1 ?_;conv=>whnf
  refine zY hd ?_;exact⟨_, .tp [],Ds g d0 d s0 s true L' m x,fun _ _ h=>h,zR (s:= [0,1,2,3,4,5]) tA,rfl,rfl⟩
 | false=>
  refine zV tys_ok Tryz.func205 rfl rfl (Ad rfl) ?_;conv=>whnf
  refine zY c1 ?_;conv=>whnf
  refine zY hd ?_;exact⟨_, .tp [],Ds g d0 d s0 s false L' m x,fun _ _ h=>h,zR (s:= [0,1,2,3,4,5]) tA,rfl,rfl⟩
theorem SA (L':List Lck) (hg:Bt g=true) (hok:Ef l=true) (hl:l.length<=1000) (hs:∀ h∈l,KX h) (hh:Eb l x.h=true) (hlba:0<=x.lba/\x.lba<g.z*g.d) (h8:x.bytes.length=8) (hf:St (l.getD (E7 l x.h) ⟨0, [], []⟩) x.lba=false) (hend:F1 (l.getD (E7 l x.h) ⟨0, [], []⟩).lbas x.lba=(l.getD (E7 l x.h) ⟨0, [], []⟩).lbas.length) (hw:Fn Tryz.prog 202 [BR L,iv x.h,iv x.lba] fun r=>r = .tp [BR L',iv 0]):ACalls Tryz.prog false 113 [.bp 5 0] (Ds g d0 d s0 s b L l x) fun r H=>r = iv 0/\H=Ds g d0 d s0 s b L' (l.set (E7 l x.h) (W6 (l.getD (E7 l x.h) ⟨0, [], []⟩) x.lba x.bytes)) x:=by
 have c1:=J8 g d0 d s0 s b L l x hg hl hh hlba;have hid:=RA hh;have c2:=Ss (l.getD (E7 l x.h) ⟨0, [], []⟩) x.lba (by have:=(hs _ (AC (d:=⟨0, [], []⟩) (Kc hh))).1;omega);rw [show (decide (4<=(l.getD (E7 l x.h) ⟨0, [], []⟩).lbas.length)&&!(l.getD (E7 l x.h) ⟨0, [], []⟩).lbas.any fun y=>x.lba == y)=false from hf] at c2;have c3:=K_ g d0 d s0 s b L l x L';have c4:=Xx l x.h x.lba x.bytes hl hs hok hh (by omega) h8 hf hend;generalize l.set (E7 l x.h) (W6 (l.getD (E7 l x.h) ⟨0, [], []⟩) x.lba x.bytes)=m at c4 |-
 obtain⟨q,hq⟩:∃ q,q=l.getD (E7 l x.h) ⟨0, [], []⟩:=⟨_,rfl⟩;rw [<-hq] at c1 c2 hid;have hn8:((x.bytes.length:Int) != 8)=false:=bne_eq_false_iff_eq.2 (by omega);cases b with
 | true=>
  refine zV tys_ok Tryz.func113 rfl rfl (Ad rfl) ?_;conv=>whnf
  refine ze9 [0,1,2,3,4,5] c1 ?_;rintro _ _ ⟨rfl,rfl⟩;conv=>whnf
  rw [hn8];conv=>whnf
  apply zX (0) tys_ok mixed (.o [0,1,2,3,4,5,6,7] .fin) (by kernel_rfl);conv=>whnf
  refine zY c2 ?_;conv=>whnf
  rw [hid];apply zX (2 ^ 146) tys_ok mixed (.o [0,1,2,3,4,5,6,7,8,9,10,11,12,13,14,15,16,17,18,19] .fin) (by kernel_rfl);conv=>whnf
  refine zY hw ?_;conv=>whnf
  (refine ze9 [0,1,2,3,4,5] c3 ?_;rintro _ _ ⟨rfl,rfl⟩)
  conv=>whnf
  repeat' (refine zZ ?_;conv=>whnf)
  apply zX (0) tys_ok mixed (.o [0,1,2,3,4,5,6,7,8,9,10,11,12,13,14,15,16,17,18,19,20,21,22,23,24,25,26,27,28,29,30] .fin) (by kernel_rfl);conv=>whnf
  refine zY c4 ?_;conv=>whnf
  try (refine tS ?_;conv=>whnf)
  exact⟨_,iv 0,Ds g d0 d s0 s true L' m x,fun _ _ h=>h,zR (s:= [0,1,2,3,4,5]) tA,rfl,rfl⟩
 | false=>
  refine zV tys_ok Tryz.func113 rfl rfl (Ad rfl) ?_;conv=>whnf
  refine ze9 [0,1,2,3,4,5] c1 ?_;rintro _ _ ⟨rfl,rfl⟩;conv=>whnf
  rw [hn8];conv=>whnf
  apply zX (0) tys_ok mixed (.o [0,1,2,3,4,5,6,7] .fin) (by kernel_rfl);conv=>whnf
  refine zY c2 ?_;conv=>whnf
  rw [hid];apply zX (2 ^ 146) tys_ok mixed (.o [0,1,2,3,4,5,6,7,8,9,10,11,12,13,14,15,16,17,18,19] .fin) (by kernel_rfl);conv=>whnf
  refine zY hw ?_;conv=>whnf
  (refine ze9 [0,1,2,3,4,5] c3 ?_;rintro _ _ ⟨rfl,rfl⟩)
  conv=>whnf
  repeat' (refine zZ ?_;conv=>whnf)
  apply zX (0) tys_ok mixed (.o [0,1,2,3,4,5,6,7,8,9,10,11,12,13,14,15,16,17,18,19,20,21,22,23,24,25,26,27,28,29,30] .fin) (by kernel_rfl);conv=>whnf
  refine zY c4 ?_;conv=>whnf
  try (refine tS ?_;conv=>whnf)
  exact⟨_,iv 0,Ds g d0 d s0 s false L' m x,fun _ _ h=>h,zR (s:= [0,1,2,3,4,5]) tA,rfl,rfl⟩
theorem SH (L':List Lck) (hl:l.length<=1000) (hs:∀ h∈l,KX h) (hh:Eb l x.h=true) (hd:Fn Tryz.prog 287 [BR L,iv x.h] fun r=>r = .tp [BR L',iv 0]):ACalls Tryz.prog false 115 [.bp 5 0] (Ds g d0 d s0 s b L l x) fun r H=>r = iv 0/\H=Ds g d0 d s0 s b L' (DC l x.h).1 x:=by
 have c1:=Gm g d0 d s0 s b L l x hl hh;have hid:=RA hh;have c2:=MV g d0 d s0 s b L l x L' x.h hl hs hd;obtain⟨q,hq⟩:∃ q,q=l.getD (E7 l x.h) ⟨0, [], []⟩:=⟨_,rfl⟩;rw [<-hq] at c1 hid;generalize (DC l x.h).1=m at c2 |-
 cases b with
 | true=>
  refine zV tys_ok Tryz.func115 rfl rfl (Ad rfl) ?_;conv=>whnf
  refine ze9 [0,1,2,3,4,5] c1 ?_;rintro _ _ ⟨rfl,rfl⟩;conv=>whnf
  rw [hid];repeat' (refine zZ ?_;conv=>whnf)
  apply zX (2 ^ 134) tys_ok mixed (.o [0,1,2,3,4,5,6] .fin) (by kernel_rfl);conv=>whnf
  (refine ze9 [0,1,2,3,4,5] c2 ?_;rintro _ _ ⟨rfl,rfl⟩)
  conv=>whnf
  repeat' (refine zZ ?_;conv=>whnf)
  exact⟨_,iv 0,Ds g d0 d s0 s true L' m x,fun _ _ h=>h,zR (s:= [0,1,2,3,4,5]) tA,rfl,rfl⟩
 | false=>
  refine zV tys_ok Tryz.func115 rfl rfl (Ad rfl) ?_;conv=>whnf
  refine ze9 [0,1,2,3,4,5] c1 ?_;rintro _ _ ⟨rfl,rfl⟩;conv=>whnf
  rw [hid];repeat' (refine zZ ?_;conv=>whnf)
  apply zX (2 ^ 134) tys_ok mixed (.o [0,1,2,3,4,5,6] .fin) (by kernel_rfl);conv=>whnf
  (refine ze9 [0,1,2,3,4,5] c2 ?_;rintro _ _ ⟨rfl,rfl⟩)
  conv=>whnf
  repeat' (refine zZ ?_;conv=>whnf)
  exact⟨_,iv 0,Ds g d0 d s0 s false L' m x,fun _ _ h=>h,zR (s:= [0,1,2,3,4,5]) tA,rfl,rfl⟩
end
def Ly (g:Geo) (lb:ByteArray) (c:An) (q:Int):List UInt8:=if q<0 then ((C7 (DD g lb).cells (AT g c)).getD (-1 - q).toNat cz).old else if q<g.an then Dq c q else FQ g lb q
theorem Xa {g:Geo} {lb:ByteArray} (hg:Bt g=true) (hs:Er lb.data.toList=0):∃ D,JO g (DD g lb)=(D,0,AI (DX (BO g lb) 0) [])/\DkOk (DD g lb)/\((DD g lb).cells.length:Int)=A7 g/\Vol g 2 D (AI (DX (BO g lb) 0) [])/\Gd (A7 g) D (Ly g lb (DX (BO g lb) 0)):=by
 obtain⟨g1,g2,g3,g4,g5⟩:=Ay.1 hg;have hf:=JY (g:=g) (s:=lb) hg;have hb:=JZ (g:=g) (s:=lb) hg hs;have hdk:DkOk (DD g lb):=X9 hg hb;have hcg:=Ei hg;have hsc:=Pg hg (b:=BO g lb) rfl (by show ¬(1:Int) - 1<0;decide) hf;have hm:=On hg hdk hf.len hf.cache (by show (-1:Int)<0;decide) (UW hg hb hf) hsc (by show (1:Int)≠_;decide) (by show (0:Int)≠_;decide) (fun w hw=>by cases hw) (Aj _);have hna:=Fa g (DX (BO g lb) ([]:List Tx).length);rw [VB hf _ (fun w hw=>by
  simp only [AT,AK,AL] at hw;obtain⟨i,hi,rfl⟩:=hw;exact⟨by show (0:Int)<=(i:Nat);omega,by show ((i:Nat):Int)<_;omega⟩),if_neg (by omega),if_neg (by omega)] at hm
 have hn:=P3 (n:=0) hb (by show (1:Int)≠_;decide) (by show (0:Int)≠_;decide) (by show (1:Int)+0 - 1<=_;decide);have hfin:=T9 (r:=((DD g lb).tick (L8 g [])).reqs) (l:=(DD g lb).left) hg (c:=DX (BO g lb) ([]:List Tx).length) hf;have hD:DkOk ⟨C7 (C7 (DD g lb).cells []) (AT g (DX (BO g lb) 0)), [],((DD g lb).tick (L8 g [])).reqs,(DD g lb).left⟩:=by
  have h1:=hdk.adv (L8 g []);rw [J6 _ (Se hdk (by show (-1:Int)<0;decide) _)] at h1;have h2:=h1.allFin (AT g (DX (BO g lb) 0)) fun w hw=>(My hg hn hf.len w hw).2
  rw [allFin_cells] at h2;exact h2
 have hgd:Gd (A7 g) _ (Ly g lb (DX (BO g lb) 0)):=⟨hD,rfl,hfin.len,hfin.cache,fun a h0 h1=>by
  unfold Ly;rw [if_neg (by omega)];exact hfin.cell a h0 h1,fun a h0 h1=>by
  unfold Ly;rw [if_pos (by omega),show -1 - (-1 - a)=a by omega];try rfl⟩
 exact⟨_,hm,hdk,hf.len,⟨⟨_,hgd⟩,hn,rfl,tA,(by show (1:Int)+1<=2;decide),(by show (1:Int)+(0:Nat)<=2;decide),fun t ht=>by cases ht⟩,hgd⟩
def IC (g:Geo) (lb:ByteArray):Md:=⟨DX (BO g lb) 0, [],K5 (A7 g) (Ly g lb (DX (BO g lb) 0)),List.replicate (g.z*g.d).toNat zero8⟩
theorem UN {g:Geo} {lb:ByteArray} (hg:Bt g=true) (hs:Er lb.data.toList=0):∃ D,JO g (DD g lb)=(D,0,AI (IC g lb).a (IC g lb).l)/\DkOk (DD g lb)/\((DD g lb).cells.length:Int)=A7 g/\Gd (A7 g) D (IC g lb).F/\Vo g 2 (IC g lb):=by
 obtain⟨D,h1,h2,h3,h4,h5⟩:=Xa hg hs;obtain⟨q1,q2⟩:=h5.clip;refine⟨D,h1,h2,h3,q1,Vo.of (d:=D) (M:=IC g lb) ⟨⟨_,q1⟩,h4.an,h4.ring,h4.rest,h4.gen,h4.seq,h4.one⟩ q2 ?_⟩;obtain⟨g1,g2,g3,g4,g5⟩:=Ay.1 hg;have:0<=g.z*g.d:=C4 (by omega) (by omega);show (((List.replicate (g.z*g.d).toNat zero8).length:Nat):Int)=_;rw [Bn];omega
theorem Va {g:Geo} {lb:ByteArray} (hg:Bt g=true):VolV g (IC g lb).a (IC g lb).l (IC g lb).F fun _ _=>zero8:=by
 obtain⟨g1,g2,g3,g4,g5⟩:=Ay.1 hg;intro z h0 h1;obtain⟨k,rfl⟩:∃ k:Nat,z=(k:Nat):=⟨z.toNat,by omega⟩;have hcb:=H7 hg;have hpb:=Hq hg;have ht0:=RN hg;have hzh:((IC g lb).a.homes.getD k ⟨[],0,0⟩)=⟨(List.range (g.d+1).toNat).map Int.ofNat,g.d+1,0⟩:=by
  show (List.replicate g.z.toNat _).getD k _=_;rw [Ab,List.getElem?_replicate,if_pos (by omega)];try rfl
 have hF:∀ q,g.an+2*g.sl<=q->q<A7 g->(IC g lb).F q=FQ g lb q:=fun q hq hq2=>by
  show K5 (A7 g) (Ly g lb _) q=_;rw [XH (by omega) hq2];unfold Ly;rw [if_neg (by omega)];exact if_neg (by omega)
 have hti:=QB hg (z:=(k:Nat)) (k:=0) ⟨h0,h1⟩ (by omega);have htab:Fj g (AI (IC g lb).a (IC g lb).l) (IC g lb).F (k:Nat)=some (E8 g):=by
  have hroot:Dw (IC g lb).a (IC g lb).l (k:Nat)=0:=by
   show ((IC g lb).a.homes.getD ((k:Nat):Int).toNat ⟨[],0,0⟩).root=0;rw [Ac,hzh]
  show (match Cw g ⟨0,(IC g lb).F (Bg g (k:Nat) 0)⟩ (Bg g (k:Nat) 0) (Dw (IC g lb).a (IC g lb).l (k:Nat)) with | some t=>some t | none=>_)=_;have e:=PQ (g:=g) (s:=lb) (z:=k) (k:=0) (by omega) h1 (by omega);rw [hroot,hF _ hti.1 hti.2.2,show Bg g ((k:Nat):Int) (0:Int)=Bg g (k:Nat) ((0:Nat):Int) from rfl,e,SS ⟨by show 0<=Bg g (k:Nat) 0;omega,by show Bg g (k:Nat) 0<=65535;omega,by omega,by omega,by rw [ET];unfold E8;rw [Bn];omega⟩,I6 ht0]
 have hent:∀ w, -1<=w->w<g.d->(E8 g).getD (Ex g w).toNat ez=ent0:=fun w hw hw2=>by
  have hat:0<=Ex g w/\Ex g w<=g.d:=by unfold Ex;split <;> omega
  unfold E8;rw [Ab,List.getElem?_replicate,if_pos (by omega)];try rfl
 refine⟨E8 g,htab,fun _ _ _=>rfl,fun w hw hw2=>?_,fun w hw hw2=>?_,(fold_zero _).symm⟩
 ·rw [hent w hw hw2];exact tA
 ·show DI ⟨0,(IC g lb).F (D3 g (IC g lb).a (k:Nat) w)⟩ (D3 g (IC g lb).a (k:Nat) w) ((E8 g).getD (Ex g w).toNat ez)=some zero8;have hat:0<=Ex g w/\Ex g w<=g.d:=by unfold Ex;split <;> omega
  have hadr:D3 g (IC g lb).a (k:Nat) w=Cx g (k:Nat) ((Ex g w).toNat:Nat):=by
   unfold D3;rw [Ac,hzh];congr 1;rw [AR (d:=0) (by simp;omega),Ab,BL (by omega)];try rfl
  have hsl:=KN hg (z:=(k:Nat)) (s:=((Ex g w).toNat:Nat)) ⟨h0,h1⟩ (by unfold CK;omega);rw [hadr,hF _ (by omega) hsl.2,Nx (by omega) (by omega) (by omega),hent w hw hw2];exact Ua ⟨by omega,by omega,by omega,by omega,by decide⟩ rfl rfl rfl
theorem Vb {g:Geo} {lb:ByteArray} (hg:Bt g=true):ZR g (IC g lb):=by
 obtain⟨g1,g2,g3,g4,g5⟩:=Ay.1 hg;have hn:0<=g.z*g.d:=C4 (by omega) (by omega);refine⟨?_,_,Va hg,fun z w h0 h1 h2 h3=>?_⟩
 ·show (((List.replicate (g.z*g.d).toNat zero8).length:Nat):Int)=_;rw [Bn];omega
 ·have:=aq hg h0 h1 h2 h3;show (List.replicate (g.z*g.d).toNat zero8).getD _ []=zero8;rw [Ab,List.getElem?_replicate,if_pos (by omega)];try rfl
theorem Vh {g:Geo} {a:An} {seq left:Int} (hg:Bt g=true):EB g a ⟨0,B6 g zeroC 0 0⟩ ⟨0,B6 g zeroC 1 0⟩ 0 seq 0 0 left=(zeroC, [],2):=by
 obtain⟨g1,g2,g3,g4,g5⟩:=Ay.1 hg;have h0:Fg zeroC a seq 0 0 left=false:=decide_eq_false fun h=>h.1 rfl
 unfold EB;rw [JE hg (Et hg) (Lz (.inl rfl) ⟨by omega,by omega⟩),JE hg (Et hg) (Lz (.inr rfl) ⟨by omega,by omega⟩)];show FI (some zeroC) (some zeroC) (Fg zeroC a seq 0 0 left) (Fg zeroC a seq 0 0 left)=_;rw [h0];try rfl
theorem UH (g:Geo) (a:An) (x y:List Gt) (pos seq left:Int) (hp:pos=0) (hg:Bt g=true) (ha:B7 g a=true) (hl:a.label.size<=1000000) (hh:a.homes.length<=1000000) (hx:x.length=g.sl) (hy:y.length=g.sl) (h0:x.getD 0 gz=⟨0,B6 g zeroC 0 0⟩) (h1:y.getD 0 gz=⟨0,B6 g zeroC 1 0⟩) :
  ACalls Tryz.prog false 376 [.bp 0 0,iv 0,iv 0] [.box 443 (Zg g a x y pos seq left (.v (.slice none 0 0)))]
   fun r H=>r = .tp [.ag (Ho zeroC),iv 2, .v (.slice none 0 0)]/\H=[.box 443 (Zg g a x y pos seq left (.v (.slice none 0 0)))]:=by
 subst hp;obtain⟨g1,g2,g3,g4,g5⟩:=Ay.1 hg;have b0:(B6 g zeroC 0 0).length<=100000:=by have:=Ce (Et hg) 0 0;omega
 have b1:(B6 g zeroC 1 0).length<=100000:=by have:=Ce (Et hg) 1 0;omega
 have lk:=Xm (g:=g) (a:=a) (x:=⟨0,B6 g zeroC 0 0⟩) (y:=⟨0,B6 g zeroC 1 0⟩) (slot:=0) (seq:=seq) (at_:=0) (of_:=0) (left:=left) hl hh b0 b1 hg ha (AJ.2 (by omega)) (Vh hg);have w0:(IntKind.i64.wrap (0+0)).tmod g.sl=0:=by rw [show IntKind.i64.wrap (0+0)=0 from rfl,Int.zero_tmod]
 rw [<-h0,<-h1] at lk;refine zV tys_ok Tryz.func376 rfl rfl (Ad rfl) ?_;conv=>whnf
 conv=>whnf
 refine zG tys_ok mixed (by kernel_rfl) ?_;refine⟨by omega,?_⟩;conv=>whnf
 rw [w0];apply zH tys_ok mixed (.o [0,1,2,3,4,5,6,7,8,9,10,11,12,13,14,15,16,17,18,19,20,21,22,23,24,25,26,27,28,29,30,31,32] (.two 33 (.o [34,35,36,37,38,39,40,41,42,43] .fin) 39 (.o [33,34,35,36,37,38,40,41,42,43] .fin))) [10,11,12,13,33,34,35,36,37,38,39,40,41,42,43,44,45,46,47,48,49,50,51,52,53,54,55,56,57,58,59,60,61,62,63,64,65,66,67,68,69,70,71] (by kernel_rfl)
 ·conv=>whnf
  try (refine Ai (by first | omega | exact ixA | exact ixB | (simp;done)) ?_;conv=>whnf)
  try (refine Ai (by first | omega | exact ixA | exact ixB | (simp;done)) ?_;conv=>whnf)
  refine Ai ?_ ?_
  ·conv=>whnf
   refine zY lk ?_;conv=>whnf
   try (refine tS ?_;conv=>whnf)
   exact tA
  ·conv=>whnf
   refine zY lk ?_;conv=>whnf
   try (refine tS ?_;conv=>whnf)
   exact tA
 conv=>whnf
 refine zA 1 ?_;conv=>whnf
 repeat' (refine zZ ?_;conv=>whnf)
 exact⟨_, .tp [.ag (Ho zeroC),iv 2, .v (.slice none 0 0)], [.box 443 (Zg g a x y 0 seq left (.v (.slice none 0 0)))],fun _ _ h=>h,zR (s:= [0]) tA,rfl,rfl⟩
theorem Ux (g:Geo) (a:An) (x y:List Gt) (pos seq left:Int) (hp:pos=0) (hg:Bt g=true) (ha:B7 g a=true) (hl:a.label.size<=1000000) (hh:a.homes.length<=1000000) (hx:x.length=g.sl) (hy:y.length=g.sl) (h0:x.getD 0 gz=⟨0,B6 g zeroC 0 0⟩) (h1:y.getD 0 gz=⟨0,B6 g zeroC 1 0⟩) :
  ACalls Tryz.prog false 331 [.bp 0 0] [.box 443 (Zg g a x y pos seq left (.v (.slice none 0 0)))]
   fun r H=>r = .tp [.ag [iv 0,iv 0,iv 0, .v (.slice none 0 0)],iv 2]/\H=[.box 443 (Zg g a x y pos seq left (.v (.slice none 0 0)))]:=by
 subst hp;have rc0:=UH g a x y 0 seq left rfl hg ha hl hh hx hy h0 h1;refine zV tys_ok Tryz.func331 rfl rfl (Ad rfl) ?_;conv=>whnf
 conv=>whnf
 refine ze9 [0] rc0 ?_;rintro _ _ ⟨rfl,rfl⟩;exact⟨_, .tp [.ag [iv 0,iv 0,iv 0, .v (.slice none 0 0)],iv 2], [.box 443 (Zg g a x y 0 seq left (.v (.slice none 0 0)))],fun _ _ h=>h,zR (s:= [0]) tA,rfl,rfl⟩
theorem SY (g:Geo) (a:An) (x y:List Gt) (hg:Bt g=true) (ha:B7 g a=true) (hl:a.label.size<=1000000) (hh:a.homes.length<=1000000) (hp:a.pos=0) (hq:¬a.seq - 1<a.last) (hq1:1<=a.seq) (hq2:a.seq<=4294967295) (hx:(x.length:Int)=g.sl) (hy:(y.length:Int)=g.sl) (h0:x.getD 0 gz=⟨0,B6 g zeroC 0 0⟩) (h1:y.getD 0 gz=⟨0,B6 g zeroC 1 0⟩) :
  Fn Tryz.prog 274 [.ag (Bh g), .ag (Fi a),F2 x,F2 y] fun r=>r = .tp [.v (.slice none 0 0), .v (.slice none 0 0),iv 0]:=by
 obtain⟨g1,g2,g3,g4,g5⟩:=Ay.1 hg;have s1:=Gl g a hl hh;rw [hg,ha] at s1;have tx:=Ux g a x y a.pos a.seq g.sl hp hg ha hl hh hx hy h0 h1;have w1:IntKind.i64.wrap (a.seq - 1)=a.seq - 1:=wi (by omega);refine zT Tryz.func274 rfl ?_;conv=>whnf
 refine zY s1 ?_;conv=>whnf
 rw [show ((x.length:Int) != g.sl)=false from bne_eq_false_iff_eq.2 hx];conv=>whnf
 rw [show ((y.length:Int) != g.sl)=false from bne_eq_false_iff_eq.2 hy];conv=>whnf
 refine zA 1 ?_;conv=>whnf
 rw [show decide (g.sl > 0)=true from decide_eq_true (by omega)];conv=>whnf
 rw [show decide (a.seq<=4294967295)=true from decide_eq_true hq2];conv=>whnf
 refine ze9 [2] tx ?_;rintro _ _ ⟨rfl,rfl⟩;conv=>whnf
 repeat' (refine zZ ?_;conv=>whnf)
 refine zG tys_ok mixed (by kernel_rfl) ?_;conv=>whnf
 rw [w1,decide_eq_false hq];conv=>whnf
 refine zG tys_ok mixed (by kernel_rfl) ?_;exact⟨_,ri,rfl⟩
theorem OK {g:Geo} (hg:Bt g=true) {lba:Int} (hlba:0<=lba/\lba<g.z*g.d):(0<=lba.tdiv g.d/\lba.tdiv g.d<g.z)/\0<=lba.tmod g.d/\lba.tmod g.d<g.d:=by
 obtain⟨g1,g2,g3,g4,g5⟩:=Ay.1 hg;rw [Bw hlba.1];exact⟨⟨Dh hlba.1 (by omega),De (by omega) hlba.2⟩,BH _ hlba.1,B3 _ (by omega)⟩
def Dk.z (d:Dk):Dk:={ d with reqs:=0 }
theorem DkOk.z {d:Dk} (h:DkOk d):DkOk d.z:=⟨h.n,h.m,⟨C6 _,by show (0:Int)<=_;decide⟩,h.l,h.c,h.w⟩
theorem Gd.z {n:Int} {d:Dk} {F:Int->List UInt8} (h:Gd n d F):Gd n d.z F:=⟨h.ok.z,h.left,h.len,h.cache,h.cell,h.old⟩
theorem au {g:Geo} {lb:ByteArray} (hg:Bt g=true) (hs:Er lb.data.toList=0):∀ a j,F_ g (B8 (DD g lb) (Dl g))=some (a,j)->He g a (B8 ((DD g lb).adv g.an.toNat) (BJ g 0)) (B8 ((DD g lb).adv g.an.toNat) (BJ g 1))=([], [],0)/\Fn Tryz.prog 274 [.ag (Bh g), .ag (Fi a),F2 (B8 ((DD g lb).adv g.an.toNat) (BJ g 0)),F2 (B8 ((DD g lb).adv g.an.toNat) (BJ g 1))] fun r=>r = .tp [.v (.slice none 0 0), .v (.slice none 0 0),iv 0]:=fun a j hp=>by
 obtain⟨g1,g2,g3,g4,g5⟩:=Ay.1 hg;have hf:=JY (g:=g) (s:=lb) hg;have hb:=JZ (g:=g) (s:=lb) hg hs;rw [UW hg hb hf] at hp;obtain⟨rfl, -⟩:=Prod.mk.inj (Option.some.inj hp);have hsm:=Fb g.an.toNat (DD g lb);have h3:Holds ((DD g lb).adv g.an.toNat) (A7 g) (FQ g lb):=⟨by rw [hsm.1];exact hf.len,hsm.2.trans hf.cache,by rw [hsm.1];exact hf.cell⟩;have hl:∀ c,((B8 ((DD g lb).adv g.an.toNat) (BJ g c)).length:Int)=g.sl:=fun c=>by rw [DG,D9];omega
 have e:∀ c,c=0\/c=1->(B8 ((DD g lb).adv g.an.toNat) (BJ g c)).getD 0 gz=⟨0,B6 g zeroC c 0⟩:=fun c hc=>by
  rw [LP h3 _ (No hg hc)];unfold BJ;rw [List.map_map,Ab,Bf,BL (by omega)];show (⟨0,FQ g lb (Bc g c ((0:Nat):Int))⟩:Gt)=_;rw [Jv hc (by omega)];try rfl
 have hk:=DF hg hb 0 (Aj _);exact⟨Pg hg rfl (by show ¬(1:Int) - 1<0;decide) h3,SY g _ _ _ hg hb (by have:=hk.2.2.2.1;omega) (by have:=hk.2.1;omega) rfl (by show ¬(1:Int) - 1<0;decide) (by show (1:Int)<=1;decide) (by show (1:Int)<=4294967295;decide) (hl 0) (hl 1) (e 0 (.inl rfl)) (e 1 (.inr rfl))⟩
structure Vm (g:Geo) (K:Int) (d:Dk) (M:Md):Prop where
 gd:Gd (A7 g) d M.F
 vo:Vo g K M
 rd:ZR g M
theorem Vm.z {g:Geo} {K:Int} {d:Dk} {M:Md} (h:Vm g K d M):Vm g K d.z M:=⟨h.gd.z,h.vo,h.rd⟩
theorem Vm.cm {g:Geo} {K:Int} {d d':Dk} {M:Md} {lba:Int} {b:List UInt8} {W:List Wr} (hg:Bt g=true) (hK:K<=4294967294) (hlba:0<=lba/\lba<g.z*g.d) (hb:b.length=8) (h:Vm g K d M) (hroom:Ed M.l+4<=g.sl) (hd:Gd (A7 g) d' (MX M.F W)) (hW:∀ w∈W,(g.an<=w.addr/\w.addr<g.an+2*g.sl/\B_ w.bytes=w.addr)/\w.bytes.length<=200):Vm g (K+1) d' ⟨M.a,M.l ++ [FT g M.a M.l M.F lba b],MX M.F W,M.m.set lba.toNat b⟩:=by
 have hz:0<=lba.tdiv g.d/\lba.tdiv g.d<g.z:=(OK hg hlba).1;obtain⟨-,V,hV, -⟩:=h.rd;obtain⟨t,hz⟩:=hV _ hz.1 hz.2;obtain⟨c1,c2⟩:=ZC hg hK hlba hb (h.vo.vol h.gd) h.rd (.inl ⟨hroom,by rw [hz.tab];try rfl,W,hW,rfl⟩);exact⟨hd,Vo.of (d:=d') ⟨⟨_,hd⟩,c2.an,c2.ring,c2.rest,c2.gen,c2.seq,c2.one⟩ (Q3 h.vo.fb fun w hw=>(hW w hw).2) (by show (((M.m.set lba.toNat b).length:Nat):Int)=_;rw [Bm];exact h.vo.m),c1⟩
structure Vout where
 d:Dk
 s:Stt
 b:Bool
 L:List Lck
 l:List Hd
 e:Int
 n:Int
 bytes:List UInt8
@[reducible] def ES (g:Geo) (d:Dk) (s:Stt) (b:Bool) (L:List Lck) (l:List Hd):List AB:= [.box 111 (ON g d true s (txV b s.txns) (BR L) (C2 l))]
@[reducible] def voX (g:Geo) (c1 c2:AV) (rq lf:Int) (on:Bool) (s:Stt) (tx lk hd:AV):List AV:= [iv g.z,iv g.d,iv g.sp,iv g.sl,iv g.an,c1,c2,iv rq,iv lf, .v (.bool on),iv s.a.gen,iv s.a.epoch,iv s.a.pos,iv s.a.seq,iv s.a.last, .v (.string s.a.label),GS s.a.homes,tx, .v (.bool s.only),iv s.cursor,iv s.found,iv s.fixed,iv s.moved,iA s.lost,lk,hd]
theorem GZ {g:Geo} {c1 c2:AV} {rq lf:Int} {on:Bool} {s:Stt} {lk hd tx tx':AV} (h:∀ c v,Rd tx c v->Rd tx' c v):SubL (voX g c1 c2 rq lf on s tx lk hd) (voX g c1 c2 rq lf on s tx' lk hd):=⟨ri,ri,ri,ri,ri,ri,ri,ri,ri,ri,ri,ri,ri,ri,ri,ri,ri,h,ri,ri,ri,ri,ri,ri,ri,ri,tv⟩
@[reducible] def ZL (g:Geo) (d:Dk) (j:Nat) (on:Bool) (s:Stt) (tx lk hd:AV):List AV:=voX g (.sl 3 (d.cells.map Cc).length fun k=>(d.cells.map Cc).getD k []) (.ow j d.cache.length) d.reqs d.left on s tx lk hd
@[reducible] def ZT (g:Geo) (d:Dk) (on:Bool) (s:Stt) (tx lk hd:AV):List AV:=voX g (.sl 3 (d.cells.map Cc).length fun k=>(d.cells.map Cc).getD k []) (.sl 2 (d.cache.map FB).length fun k=>(d.cache.map FB).getD k []) d.reqs d.left on s tx lk hd
theorem EC {H:List AB} {t:TypeId} {g:Geo} {d:Dk} {on b:Bool} {s:Stt} {L:List Lck} {l:List Hd} (i j:Nat) (hij:i≠j) (hj0:0≠j) (h0:H[0]? = some (.box t (voX g (.ow i d.cells.length) (.ow j d.cache.length) d.reqs d.left on s (txV b s.txns) (BR L) (C2 l)))) (hi:H[i]? = some (.row 68 3 (d.cells.map Cc))) (hj:H[j]? = some (.row 152 2 (d.cache.map FB))) :
  ConvH H (((((H.set i .dead).set 0 (.box t (ZL g d j on s (txV b s.txns) (BR L) (C2 l)))).set j .dead).set 0 (.box t (ZT g d on s (txV b s.txns) (BR L) (C2 l)))).set 0 (.box t (ON g d on s (txV b s.txns) (BR L) (C2 l)))):=by
 have hl0:0<H.length:=(Ar.1 h0).1;have c1:=zp (H:=H) 0 i (cs2:=ZL g d j on s (txV b s.txns) (BR L) (C2 l)) h0 hi (by
  simp only [A6,By,NQ (Aa _).symm,H_ (Ne.symm hij)];cases b <;> rfl)
 have c2:=zp (H:=(H.set i .dead).set 0 (.box t (ZL g d j on s (txV b s.txns) (BR L) (C2 l)))) 0 j (cs:=ZL g d j on s (txV b s.txns) (BR L) (C2 l)) (cs2:=ZT g d on s (txV b s.txns) (BR L) (C2 l)) (by rw [A2 (by simpa using hl0)]) (by rw [A3 hj0,A3 hij];exact hj) (by
  simp only [A6,By,NQ (Aa _).symm];cases b <;> rfl)
 exact c1.trans (c2.trans (zJ (cs:=ZT g d on s (txV b s.txns) (BR L) (C2 l)) (cs':=ON g d on s (txV b s.txns) (BR L) (C2 l)) 0 (by rw [A2 (by simpa using hl0)]) ⟨ri,ri,ri,ri,ri,Cd (f:=Cc) d.cells (Aa _) rfl,Cd (f:=FB) d.cache (Aa _) rfl,ri,ri,ri,ri,ri,ri,ri,ri,ri,ri,ri,ri,ri,ri,ri,ri,ri,ri,ri,tv⟩))
theorem J7 (g:Geo) (d:Dk) (s:Stt) (b:Bool) (L:List Lck) (l:List Hd) (x:Sp) (P:Vout->Prop) (hb:b=true->s.txns=[]) (hd:d.cells.length<=1000000000/\d.cache.length<=1000000000) (hk:2<=x.kind/\x.kind<=10) (hcut:x.cut<=0)
  (hdoes:ACalls Tryz.prog false 45 [.bp 5 0] (Ds g d.z d.z s s b L l x) fun r H=>∃ o,P o/\o.e≠8/\o.d.left = -1/\r = .ag (an7 o.e o.n o.bytes)/\H=D_ g d.z o.d s o.s o.b o.L o.l x) :
  ACalls Tryz.prog false 20 [.bp 0 0, .ag (GV x)] (ES g d s b L l) fun r H=>∃ o,P o/\r = .ag (an7 o.e (if o.e=0 then o.n else 0) (if o.e=0 then o.bytes else []))/\H=ES g o.d o.s o.b o.L o.l:=by
 have c1:=KW d.z hd.1 hd.2;have htx:∀ b,(b=true->s.txns=[])->∀ c v,Rd (txV b s.txns) c v->Rd (Dt s.txns) c v:=fun b hb c v h=>by
  cases b with
  | true=>rw [hb rfl];exact AZ 4 _ c v h
  | false=>exact h
 have k1:decide (x.kind>=11)=false:=decide_eq_false (by omega);have k2:(x.kind == 1)=false:=beq_eq_false_iff_ne.2 (by omega);have k3:decide (x.cut > 0)=false:=decide_eq_false (by omega);cases b with
 | true=>
  refine zV tys_ok Tryz.func20 rfl rfl (Ad rfl) ?_;conv=>whnf
  rw [k1];conv=>whnf
  repeat' (refine zZ ?_;conv=>whnf)
  apply zX (0) tys_ok mixed (.o [0,1,2,3,4,5,6,7,8] .fin) (by kernel_rfl);conv=>whnf
  rw [k2];conv=>whnf
  repeat' (refine zZ ?_;conv=>whnf)
  rw [k3];conv=>whnf
  repeat' (refine zZ ?_;conv=>whnf)
  apply zX (0) tys_ok mixed (.o [0,1,2,3,4,5,6,7,8,10,11,12,13,16,9,14,15,17,18,19] .fin) (by kernel_rfl);conv=>whnf
  (refine zW c1 rfl ?_;rintro _ _ ⟨rfl,rfl⟩)
  conv=>whnf
  repeat' (refine zZ ?_;conv=>whnf)
  refine zr (zJ (cs':=ON g d.z true s (Dt s.txns) (BR L) (C2 l)) 0 rfl (GZ (htx true hb))) ?_;refine ze9 [0,6,3,4,5,7] hdoes ?_;rintro _ _ ⟨o,ho,he8,hleft,rfl,rfl⟩;obtain⟨⟨cs,ca,rq,lf⟩,s1,b1,L1,l1,e,n,bs⟩:=o;obtain rfl:lf = -1:=hleft;simp only at he8;have k8:(e == 8)=false:=beq_eq_false_iff_ne.2 he8;cases b1 with
  | true=>
   conv=>whnf
   repeat' (refine zZ ?_;conv=>whnf)
   apply zX (0) tys_ok mixed (.o [0,1,2,3,4,5,6,7,8,9,10,11,12,13,14,15,16,17,18,19,20,21,22,23,24] .fin) (by kernel_rfl);conv=>whnf
   try (refine tS ?_;conv=>whnf)
   try (refine tS ?_;conv=>whnf)
   repeat' (refine zZ ?_;conv=>whnf)
   rw [k8];conv=>whnf
   repeat' (refine zZ ?_;conv=>whnf)
   by_cases he0:e=0
   ·subst he0;conv=>whnf
    repeat' (refine zZ ?_;conv=>whnf)
    exact⟨_, .ag (an7 0 n bs),ES g ⟨cs,ca,rq, -1⟩ s1 true L1 l1,fun _ _ h=>h,zL (zP (EC (d:=⟨cs,ca,rq, -1⟩) (b:=true) 4 8 (by decide) (by decide) rfl rfl rfl)) (s:= [0]) tA,⟨⟨cs,ca,rq, -1⟩,s1,true,L1,l1,0,n,bs⟩,ho,rfl,rfl⟩
   ·rw [show (e != 0)=true from bne_iff_ne.2 he0];conv=>whnf
    repeat' (refine zZ ?_;conv=>whnf)
    exact⟨_, .ag (an7 e 0 []),ES g ⟨cs,ca,rq, -1⟩ s1 true L1 l1,AW (BY e 0),zL (zP (EC (d:=⟨cs,ca,rq, -1⟩) (b:=true) 4 8 (by decide) (by decide) rfl rfl rfl)) (s:= [0]) tA,⟨⟨cs,ca,rq, -1⟩,s1,true,L1,l1,e,n,bs⟩,ho,by rw [if_neg he0,if_neg he0],rfl⟩
  | false=>
   conv=>whnf
   repeat' (refine zZ ?_;conv=>whnf)
   apply zX (0) tys_ok mixed (.o [0,1,2,3,4,5,6,7,8,9,10,11,12,13,14,15,16,17,18,19,20,21,22,23,24] .fin) (by kernel_rfl);conv=>whnf
   try (refine tS ?_;conv=>whnf)
   try (refine tS ?_;conv=>whnf)
   repeat' (refine zZ ?_;conv=>whnf)
   rw [k8];conv=>whnf
   repeat' (refine zZ ?_;conv=>whnf)
   by_cases he0:e=0
   ·subst he0;conv=>whnf
    repeat' (refine zZ ?_;conv=>whnf)
    exact⟨_, .ag (an7 0 n bs),ES g ⟨cs,ca,rq, -1⟩ s1 false L1 l1,fun _ _ h=>h,zL (zP (EC (d:=⟨cs,ca,rq, -1⟩) (b:=false) 4 8 (by decide) (by decide) rfl rfl rfl)) (s:= [0]) tA,⟨⟨cs,ca,rq, -1⟩,s1,false,L1,l1,0,n,bs⟩,ho,rfl,rfl⟩
   ·rw [show (e != 0)=true from bne_iff_ne.2 he0];conv=>whnf
    repeat' (refine zZ ?_;conv=>whnf)
    exact⟨_, .ag (an7 e 0 []),ES g ⟨cs,ca,rq, -1⟩ s1 false L1 l1,AW (BY e 0),zL (zP (EC (d:=⟨cs,ca,rq, -1⟩) (b:=false) 4 8 (by decide) (by decide) rfl rfl rfl)) (s:= [0]) tA,⟨⟨cs,ca,rq, -1⟩,s1,false,L1,l1,e,n,bs⟩,ho,by rw [if_neg he0,if_neg he0],rfl⟩
 | false=>
  refine zV tys_ok Tryz.func20 rfl rfl (Ad rfl) ?_;conv=>whnf
  rw [k1];conv=>whnf
  repeat' (refine zZ ?_;conv=>whnf)
  apply zX (0) tys_ok mixed (.o [0,1,2,3,4,5,6,7,8] .fin) (by kernel_rfl);conv=>whnf
  rw [k2];conv=>whnf
  repeat' (refine zZ ?_;conv=>whnf)
  rw [k3];conv=>whnf
  repeat' (refine zZ ?_;conv=>whnf)
  apply zX (0) tys_ok mixed (.o [0,1,2,3,4,5,6,7,8,10,11,12,13,16,9,14,15,17,18,19] .fin) (by kernel_rfl);conv=>whnf
  (refine zW c1 rfl ?_;rintro _ _ ⟨rfl,rfl⟩)
  conv=>whnf
  repeat' (refine zZ ?_;conv=>whnf)
  refine zr (zJ (cs':=ON g d.z true s (Dt s.txns) (BR L) (C2 l)) 0 rfl (GZ (htx false hb))) ?_;refine ze9 [0,6,3,4,5,7] hdoes ?_;rintro _ _ ⟨o,ho,he8,hleft,rfl,rfl⟩;obtain⟨⟨cs,ca,rq,lf⟩,s1,b1,L1,l1,e,n,bs⟩:=o;obtain rfl:lf = -1:=hleft;simp only at he8;have k8:(e == 8)=false:=beq_eq_false_iff_ne.2 he8;cases b1 with
  | true=>
   conv=>whnf
   repeat' (refine zZ ?_;conv=>whnf)
   apply zX (0) tys_ok mixed (.o [0,1,2,3,4,5,6,7,8,9,10,11,12,13,14,15,16,17,18,19,20,21,22,23,24] .fin) (by kernel_rfl);conv=>whnf
   try (refine tS ?_;conv=>whnf)
   try (refine tS ?_;conv=>whnf)
   repeat' (refine zZ ?_;conv=>whnf)
   rw [k8];conv=>whnf
   repeat' (refine zZ ?_;conv=>whnf)
   by_cases he0:e=0
   ·subst he0;conv=>whnf
    repeat' (refine zZ ?_;conv=>whnf)
    exact⟨_, .ag (an7 0 n bs),ES g ⟨cs,ca,rq, -1⟩ s1 true L1 l1,fun _ _ h=>h,zL (zP (EC (d:=⟨cs,ca,rq, -1⟩) (b:=true) 4 8 (by decide) (by decide) rfl rfl rfl)) (s:= [0]) tA,⟨⟨cs,ca,rq, -1⟩,s1,true,L1,l1,0,n,bs⟩,ho,rfl,rfl⟩
   ·rw [show (e != 0)=true from bne_iff_ne.2 he0];conv=>whnf
    repeat' (refine zZ ?_;conv=>whnf)
    exact⟨_, .ag (an7 e 0 []),ES g ⟨cs,ca,rq, -1⟩ s1 true L1 l1,AW (BY e 0),zL (zP (EC (d:=⟨cs,ca,rq, -1⟩) (b:=true) 4 8 (by decide) (by decide) rfl rfl rfl)) (s:= [0]) tA,⟨⟨cs,ca,rq, -1⟩,s1,true,L1,l1,e,n,bs⟩,ho,by rw [if_neg he0,if_neg he0],rfl⟩
  | false=>
   conv=>whnf
   repeat' (refine zZ ?_;conv=>whnf)
   apply zX (0) tys_ok mixed (.o [0,1,2,3,4,5,6,7,8,9,10,11,12,13,14,15,16,17,18,19,20,21,22,23,24] .fin) (by kernel_rfl);conv=>whnf
   try (refine tS ?_;conv=>whnf)
   try (refine tS ?_;conv=>whnf)
   repeat' (refine zZ ?_;conv=>whnf)
   rw [k8];conv=>whnf
   repeat' (refine zZ ?_;conv=>whnf)
   by_cases he0:e=0
   ·subst he0;conv=>whnf
    repeat' (refine zZ ?_;conv=>whnf)
    exact⟨_, .ag (an7 0 n bs),ES g ⟨cs,ca,rq, -1⟩ s1 false L1 l1,fun _ _ h=>h,zL (zP (EC (d:=⟨cs,ca,rq, -1⟩) (b:=false) 4 8 (by decide) (by decide) rfl rfl rfl)) (s:= [0]) tA,⟨⟨cs,ca,rq, -1⟩,s1,false,L1,l1,0,n,bs⟩,ho,rfl,rfl⟩
   ·rw [show (e != 0)=true from bne_iff_ne.2 he0];conv=>whnf
    repeat' (refine zZ ?_;conv=>whnf)
    exact⟨_, .ag (an7 e 0 []),ES g ⟨cs,ca,rq, -1⟩ s1 false L1 l1,AW (BY e 0),zL (zP (EC (d:=⟨cs,ca,rq, -1⟩) (b:=false) 4 8 (by decide) (by decide) rfl rfl rfl)) (s:= [0]) tA,⟨⟨cs,ca,rq, -1⟩,s1,false,L1,l1,e,n,bs⟩,ho,by rw [if_neg he0,if_neg he0],rfl⟩
section
variable (g:Geo) (d0 d:Dk) (s0 s:Stt) (b:Bool) (L:List Lck) (l:List Hd) (x:Sp) (P:Vout->Prop)
theorem OP (hk:x.kind=2) (h:ACalls Tryz.prog false 111 [.bp 5 0] (Ds g d0 d s0 s b L l x) fun r H=>∃ o:Vout,P o/\r = .ag (an7 o.e o.n o.bytes)/\H=Ds g d0 o.d s0 o.s o.b o.L o.l x):ACalls Tryz.prog false 45 [.bp 5 0] (Ds g d0 d s0 s b L l x) fun r H=>∃ o:Vout,P o/\r = .ag (an7 o.e o.n o.bytes)/\H=D_ g d0 o.d s0 o.s o.b o.L o.l x:=by
 obtain⟨k,h1,h2,h3,h4,h5,h6,h7,h8,h9⟩:=x;obtain rfl:k=2:=hk;cases b with
 | true=>
  refine zV tys_ok Tryz.func45 rfl rfl (Ad rfl) ?_;conv=>whnf
  repeat' (refine zZ ?_;conv=>whnf)
  refine ze9 [0,1,2,3,4,5] h ?_;rintro _ _ ⟨o,ho,rfl,rfl⟩;obtain⟨d1,s1,b1,L1,l1,e,n,bs⟩:=o;cases b1 with
  | true=>
   exact⟨_, .ag (an7 e n bs),D_ g d0 d1 s0 s1 true L1 l1 ⟨2,h1,h2,h3,h4,h5,h6,h7,h8,h9⟩,fun _ _ h=>h,zL (zP (zI 2 4 (by decide) rfl rfl)) (s:= [0,1,2,3,4,5,7]) tA,⟨d1,s1,true,L1,l1,e,n,bs⟩,ho,rfl,rfl⟩
  | false=>
   exact⟨_, .ag (an7 e n bs),D_ g d0 d1 s0 s1 false L1 l1 ⟨2,h1,h2,h3,h4,h5,h6,h7,h8,h9⟩,fun _ _ h=>h,zL (zP (zI 2 4 (by decide) rfl rfl)) (s:= [0,1,2,3,4,5,7]) tA,⟨d1,s1,false,L1,l1,e,n,bs⟩,ho,rfl,rfl⟩
 | false=>
  refine zV tys_ok Tryz.func45 rfl rfl (Ad rfl) ?_;conv=>whnf
  repeat' (refine zZ ?_;conv=>whnf)
  refine ze9 [0,1,2,3,4,5] h ?_;rintro _ _ ⟨o,ho,rfl,rfl⟩;obtain⟨d1,s1,b1,L1,l1,e,n,bs⟩:=o;cases b1 with
  | true=>
   exact⟨_, .ag (an7 e n bs),D_ g d0 d1 s0 s1 true L1 l1 ⟨2,h1,h2,h3,h4,h5,h6,h7,h8,h9⟩,fun _ _ h=>h,zL (zP (zI 2 4 (by decide) rfl rfl)) (s:= [0,1,2,3,4,5,7]) tA,⟨d1,s1,true,L1,l1,e,n,bs⟩,ho,rfl,rfl⟩
  | false=>
   exact⟨_, .ag (an7 e n bs),D_ g d0 d1 s0 s1 false L1 l1 ⟨2,h1,h2,h3,h4,h5,h6,h7,h8,h9⟩,fun _ _ h=>h,zL (zP (zI 2 4 (by decide) rfl rfl)) (s:= [0,1,2,3,4,5,7]) tA,⟨d1,s1,false,L1,l1,e,n,bs⟩,ho,rfl,rfl⟩
theorem I2 (hk:x.kind=3) (h:ACalls Tryz.prog false 112 [.bp 5 0] (Ds g d0 d s0 s b L l x) fun r H=>∃ o:Vout,P o/\r = .ag (an7 o.e o.n o.bytes)/\H=Ds g d0 o.d s0 o.s o.b o.L o.l x):ACalls Tryz.prog false 45 [.bp 5 0] (Ds g d0 d s0 s b L l x) fun r H=>∃ o:Vout,P o/\r = .ag (an7 o.e o.n o.bytes)/\H=D_ g d0 o.d s0 o.s o.b o.L o.l x:=by
 obtain⟨k,h1,h2,h3,h4,h5,h6,h7,h8,h9⟩:=x;obtain rfl:k=3:=hk;cases b with
 | true=>
  refine zV tys_ok Tryz.func45 rfl rfl (Ad rfl) ?_;conv=>whnf
  repeat' (refine zZ ?_;conv=>whnf)
  refine ze9 [0,1,2,3,4,5] h ?_;rintro _ _ ⟨o,ho,rfl,rfl⟩;obtain⟨d1,s1,b1,L1,l1,e,n,bs⟩:=o;cases b1 with
  | true=>
   exact⟨_, .ag (an7 e n bs),D_ g d0 d1 s0 s1 true L1 l1 ⟨3,h1,h2,h3,h4,h5,h6,h7,h8,h9⟩,fun _ _ h=>h,zL (zP (zI 2 4 (by decide) rfl rfl)) (s:= [0,1,2,3,4,5,7]) tA,⟨d1,s1,true,L1,l1,e,n,bs⟩,ho,rfl,rfl⟩
  | false=>
   exact⟨_, .ag (an7 e n bs),D_ g d0 d1 s0 s1 false L1 l1 ⟨3,h1,h2,h3,h4,h5,h6,h7,h8,h9⟩,fun _ _ h=>h,zL (zP (zI 2 4 (by decide) rfl rfl)) (s:= [0,1,2,3,4,5,7]) tA,⟨d1,s1,false,L1,l1,e,n,bs⟩,ho,rfl,rfl⟩
 | false=>
  refine zV tys_ok Tryz.func45 rfl rfl (Ad rfl) ?_;conv=>whnf
  repeat' (refine zZ ?_;conv=>whnf)
  refine ze9 [0,1,2,3,4,5] h ?_;rintro _ _ ⟨o,ho,rfl,rfl⟩;obtain⟨d1,s1,b1,L1,l1,e,n,bs⟩:=o;cases b1 with
  | true=>
   exact⟨_, .ag (an7 e n bs),D_ g d0 d1 s0 s1 true L1 l1 ⟨3,h1,h2,h3,h4,h5,h6,h7,h8,h9⟩,fun _ _ h=>h,zL (zP (zI 2 4 (by decide) rfl rfl)) (s:= [0,1,2,3,4,5,7]) tA,⟨d1,s1,true,L1,l1,e,n,bs⟩,ho,rfl,rfl⟩
  | false=>
   exact⟨_, .ag (an7 e n bs),D_ g d0 d1 s0 s1 false L1 l1 ⟨3,h1,h2,h3,h4,h5,h6,h7,h8,h9⟩,fun _ _ h=>h,zL (zP (zI 2 4 (by decide) rfl rfl)) (s:= [0,1,2,3,4,5,7]) tA,⟨d1,s1,false,L1,l1,e,n,bs⟩,ho,rfl,rfl⟩
theorem FD (hk:x.kind=4) (h:ACalls Tryz.prog false 113 [.bp 5 0] (Ds g d0 d s0 s b L l x) fun r H=>∃ o:Vout,P o/\(r = iv o.e/\o.n=0/\o.bytes=[])/\H=Ds g d0 o.d s0 o.s o.b o.L o.l x):ACalls Tryz.prog false 45 [.bp 5 0] (Ds g d0 d s0 s b L l x) fun r H=>∃ o:Vout,P o/\r = .ag (an7 o.e o.n o.bytes)/\H=D_ g d0 o.d s0 o.s o.b o.L o.l x:=by
 obtain⟨k,h1,h2,h3,h4,h5,h6,h7,h8,h9⟩:=x;obtain rfl:k=4:=hk;cases b with
 | true=>
  refine zV tys_ok Tryz.func45 rfl rfl (Ad rfl) ?_;conv=>whnf
  repeat' (refine zZ ?_;conv=>whnf)
  refine ze9 [0,1,2,3,4,5] h ?_;rintro _ _ ⟨o,ho,⟨rfl,hn,hb⟩,rfl⟩;obtain⟨d1,s1,b1,L1,l1,e,n,bs⟩:=o;obtain rfl:n=0:=hn;obtain rfl:bs=[]:=hb;cases b1 with
  | true=>
   exact⟨_, .ag (an7 e 0 []),D_ g d0 d1 s0 s1 true L1 l1 ⟨4,h1,h2,h3,h4,h5,h6,h7,h8,h9⟩,AW (BY e 0),zL (zP (zI 2 4 (by decide) rfl rfl)) (s:= [0,1,2,3,4,5,7]) tA,⟨d1,s1,true,L1,l1,e,0, []⟩,ho,rfl,rfl⟩
  | false=>
   exact⟨_, .ag (an7 e 0 []),D_ g d0 d1 s0 s1 false L1 l1 ⟨4,h1,h2,h3,h4,h5,h6,h7,h8,h9⟩,AW (BY e 0),zL (zP (zI 2 4 (by decide) rfl rfl)) (s:= [0,1,2,3,4,5,7]) tA,⟨d1,s1,false,L1,l1,e,0, []⟩,ho,rfl,rfl⟩
 | false=>
  refine zV tys_ok Tryz.func45 rfl rfl (Ad rfl) ?_;conv=>whnf
  repeat' (refine zZ ?_;conv=>whnf)
  refine ze9 [0,1,2,3,4,5] h ?_;rintro _ _ ⟨o,ho,⟨rfl,hn,hb⟩,rfl⟩;obtain⟨d1,s1,b1,L1,l1,e,n,bs⟩:=o;obtain rfl:n=0:=hn;obtain rfl:bs=[]:=hb;cases b1 with
  | true=>
   exact⟨_, .ag (an7 e 0 []),D_ g d0 d1 s0 s1 true L1 l1 ⟨4,h1,h2,h3,h4,h5,h6,h7,h8,h9⟩,AW (BY e 0),zL (zP (zI 2 4 (by decide) rfl rfl)) (s:= [0,1,2,3,4,5,7]) tA,⟨d1,s1,true,L1,l1,e,0, []⟩,ho,rfl,rfl⟩
  | false=>
   exact⟨_, .ag (an7 e 0 []),D_ g d0 d1 s0 s1 false L1 l1 ⟨4,h1,h2,h3,h4,h5,h6,h7,h8,h9⟩,AW (BY e 0),zL (zP (zI 2 4 (by decide) rfl rfl)) (s:= [0,1,2,3,4,5,7]) tA,⟨d1,s1,false,L1,l1,e,0, []⟩,ho,rfl,rfl⟩
theorem IV (hk:x.kind=5) (h:ACalls Tryz.prog false 114 [.bp 5 0] (Ds g d0 d s0 s b L l x) fun r H=>∃ o:Vout,P o/\(r = iv o.e/\o.n=0/\o.bytes=[])/\H=D_ g d0 o.d s0 o.s o.b o.L o.l x):ACalls Tryz.prog false 45 [.bp 5 0] (Ds g d0 d s0 s b L l x) fun r H=>∃ o:Vout,P o/\r = .ag (an7 o.e o.n o.bytes)/\H=D_ g d0 o.d s0 o.s o.b o.L o.l x:=by
 obtain⟨k,h1,h2,h3,h4,h5,h6,h7,h8,h9⟩:=x;obtain rfl:k=5:=hk;cases b with
 | true=>
  refine zV tys_ok Tryz.func45 rfl rfl (Ad rfl) ?_;conv=>whnf
  repeat' (refine zZ ?_;conv=>whnf)
  refine ze9 [0,1,2,3,4,5] h ?_;rintro _ _ ⟨o,ho,⟨rfl,hn,hb⟩,rfl⟩;obtain⟨d1,s1,b1,L1,l1,e,n,bs⟩:=o;obtain rfl:n=0:=hn;obtain rfl:bs=[]:=hb;cases b1 with
  | true=>
   exact⟨_, .ag (an7 e 0 []),D_ g d0 d1 s0 s1 true L1 l1 ⟨5,h1,h2,h3,h4,h5,h6,h7,h8,h9⟩,AW (BY e 0),zR (s:= [0,1,2,3,4,5,7]) tA,⟨d1,s1,true,L1,l1,e,0, []⟩,ho,rfl,rfl⟩
  | false=>
   exact⟨_, .ag (an7 e 0 []),D_ g d0 d1 s0 s1 false L1 l1 ⟨5,h1,h2,h3,h4,h5,h6,h7,h8,h9⟩,AW (BY e 0),zR (s:= [0,1,2,3,4,5,7]) tA,⟨d1,s1,false,L1,l1,e,0, []⟩,ho,rfl,rfl⟩
 | false=>
  refine zV tys_ok Tryz.func45 rfl rfl (Ad rfl) ?_;conv=>whnf
  repeat' (refine zZ ?_;conv=>whnf)
  refine ze9 [0,1,2,3,4,5] h ?_;rintro _ _ ⟨o,ho,⟨rfl,hn,hb⟩,rfl⟩;obtain⟨d1,s1,b1,L1,l1,e,n,bs⟩:=o;obtain rfl:n=0:=hn;obtain rfl:bs=[]:=hb;cases b1 with
  | true=>
   exact⟨_, .ag (an7 e 0 []),D_ g d0 d1 s0 s1 true L1 l1 ⟨5,h1,h2,h3,h4,h5,h6,h7,h8,h9⟩,AW (BY e 0),zR (s:= [0,1,2,3,4,5,7]) tA,⟨d1,s1,true,L1,l1,e,0, []⟩,ho,rfl,rfl⟩
  | false=>
   exact⟨_, .ag (an7 e 0 []),D_ g d0 d1 s0 s1 false L1 l1 ⟨5,h1,h2,h3,h4,h5,h6,h7,h8,h9⟩,AW (BY e 0),zR (s:= [0,1,2,3,4,5,7]) tA,⟨d1,s1,false,L1,l1,e,0, []⟩,ho,rfl,rfl⟩
theorem Ki (hk:x.kind=6) (h:ACalls Tryz.prog false 115 [.bp 5 0] (Ds g d0 d s0 s b L l x) fun r H=>∃ o:Vout,P o/\(r = iv o.e/\o.n=0/\o.bytes=[])/\H=Ds g d0 o.d s0 o.s o.b o.L o.l x):ACalls Tryz.prog false 45 [.bp 5 0] (Ds g d0 d s0 s b L l x) fun r H=>∃ o:Vout,P o/\r = .ag (an7 o.e o.n o.bytes)/\H=D_ g d0 o.d s0 o.s o.b o.L o.l x:=by
 obtain⟨k,h1,h2,h3,h4,h5,h6,h7,h8,h9⟩:=x;obtain rfl:k=6:=hk;cases b with
 | true=>
  refine zV tys_ok Tryz.func45 rfl rfl (Ad rfl) ?_;conv=>whnf
  repeat' (refine zZ ?_;conv=>whnf)
  refine ze9 [0,1,2,3,4,5] h ?_;rintro _ _ ⟨o,ho,⟨rfl,hn,hb⟩,rfl⟩;obtain⟨d1,s1,b1,L1,l1,e,n,bs⟩:=o;obtain rfl:n=0:=hn;obtain rfl:bs=[]:=hb;cases b1 with
  | true=>
   exact⟨_, .ag (an7 e 0 []),D_ g d0 d1 s0 s1 true L1 l1 ⟨6,h1,h2,h3,h4,h5,h6,h7,h8,h9⟩,AW (BY e 0),zL (zP (zI 2 4 (by decide) rfl rfl)) (s:= [0,1,2,3,4,5,7]) tA,⟨d1,s1,true,L1,l1,e,0, []⟩,ho,rfl,rfl⟩
  | false=>
   exact⟨_, .ag (an7 e 0 []),D_ g d0 d1 s0 s1 false L1 l1 ⟨6,h1,h2,h3,h4,h5,h6,h7,h8,h9⟩,AW (BY e 0),zL (zP (zI 2 4 (by decide) rfl rfl)) (s:= [0,1,2,3,4,5,7]) tA,⟨d1,s1,false,L1,l1,e,0, []⟩,ho,rfl,rfl⟩
 | false=>
  refine zV tys_ok Tryz.func45 rfl rfl (Ad rfl) ?_;conv=>whnf
  repeat' (refine zZ ?_;conv=>whnf)
  refine ze9 [0,1,2,3,4,5] h ?_;rintro _ _ ⟨o,ho,⟨rfl,hn,hb⟩,rfl⟩;obtain⟨d1,s1,b1,L1,l1,e,n,bs⟩:=o;obtain rfl:n=0:=hn;obtain rfl:bs=[]:=hb;cases b1 with
  | true=>
   exact⟨_, .ag (an7 e 0 []),D_ g d0 d1 s0 s1 true L1 l1 ⟨6,h1,h2,h3,h4,h5,h6,h7,h8,h9⟩,AW (BY e 0),zL (zP (zI 2 4 (by decide) rfl rfl)) (s:= [0,1,2,3,4,5,7]) tA,⟨d1,s1,true,L1,l1,e,0, []⟩,ho,rfl,rfl⟩
  | false=>
   exact⟨_, .ag (an7 e 0 []),D_ g d0 d1 s0 s1 false L1 l1 ⟨6,h1,h2,h3,h4,h5,h6,h7,h8,h9⟩,AW (BY e 0),zL (zP (zI 2 4 (by decide) rfl rfl)) (s:= [0,1,2,3,4,5,7]) tA,⟨d1,s1,false,L1,l1,e,0, []⟩,ho,rfl,rfl⟩
end
section
variable (g:Geo) (d0 d:Dk) (s0:Stt) (L:List Lck) (l:List Hd) (x:Sp)
theorem Qz (a:An) (F:Int->List UInt8) (K lba:Int) (bs:List UInt8) (V:Int->Int->List UInt8) (L':List Lck) (hg:Bt g=true) (hv:Vol g K d (AI a [])) (hK:K<=4294967294) (h:Gd (A7 g) d F) (hF:∀ a,(F a).length<=100000) (hV:VolV g a [] F V) (hlba:0<=lba/\lba<g.z*g.d) (h8:bs.length=8)
  (hl:l.length<=1000) (hs:∀ h∈l,KX h) (hh:Eb l x.h=true) (hq:l.getD (E7 l x.h) ⟨0, [], []⟩=⟨x.h, [lba], [bs]⟩) (hd:Fn Tryz.prog 287 [BR L,iv x.h] fun r=>r = .tp [BR L',iv 0]) :
  ACalls Tryz.prog false 114 [.bp 5 0] (Ds g d0 d s0 (AI a []) true L l x) fun r H=>∃ o:Vout,(∃ d' W,Gd (A7 g) d' (MX F W)/\(∀ w∈W,(g.an<=w.addr/\w.addr<g.an+2*g.sl/\B_ w.bytes=w.addr)/\w.bytes.length<=200)/\o=⟨d',AI a ([] ++ [FT g a [] F lba bs]),false,L',(DC l x.h).1,0,0, []⟩)/\(r = iv o.e/\o.n=0/\o.bytes=[])/\H=D_ g d0 o.d s0 o.s o.b o.L o.l x:=by
 have g4:=(Ay.1 hg).2.2.2.1;have c1:=Gm g d0 d s0 (AI a []) true L l x hl hh;rw [hq] at c1;have hc:=YW g a [] d F K lba bs V hg hv hK h hF hV hlba h8 (by show 4<=g.sl - 0;omega);have c2:=fun d1 s1=>MV g d0 d1 s0 s1 false L l x L' x.h hl hs hd
 generalize (DC l x.h).1=m at c2 |-
 refine zV tys_ok Tryz.func114 rfl rfl (Ad rfl) ?_;conv=>whnf
 refine ze9 [0,1,2,3,4,5] c1 ?_;rintro _ _ ⟨rfl,rfl⟩;conv=>whnf
 repeat' (refine zZ ?_;conv=>whnf)
 apply zX (2 ^ 136) tys_ok mixed (.o [0,1,2,3,4,5,6,7,8,9] .fin) (by kernel_rfl);conv=>whnf
 (refine zr (ConvH.ghost 1 13 (t:=170) (sz:=4) rfl rfl (by decide)) ?_;refine ze9 [1,2,3,4,7] hc ?_;rintro _ _ ⟨rfl,d1,W,hd1,hW,hv1,rfl⟩)
 conv=>whnf
 repeat' (refine zZ ?_;conv=>whnf)
 have c2:=c2 d1 (AI a ([] ++ [FT g a [] F lba bs]));obtain⟨T,hT⟩:∃ T,T=[] ++ [FT g a [] F lba bs]:=⟨_,rfl⟩;rw [<-hT] at c2 |-
 apply zX (2 ^ 134) tys_ok mixed (.o [0,1,2,3,4,5,6] .fin) (by kernel_rfl);conv=>whnf
 (refine ze9 [0,1,2,3,8,5] c2 ?_;rintro _ _ ⟨rfl,rfl⟩)
 conv=>whnf
 repeat' (refine zZ ?_;conv=>whnf)
 exact⟨_,iv 0,D_ g d0 d1 s0 (AI a T) false L' m x,fun _ _ h=>h,zR (s:= [0,1,2,3,4,5,8]) tA,⟨d1,AI a T,false,L',m,0,0, []⟩,⟨d1,W,hd1,hW,by rw [hT]⟩,tA,rfl⟩
theorem Ul (a:An) (T:List Tx) (F:Int->List UInt8) (t:List Ent) (v:Int->List UInt8) (L':List Lck) (hg:Bt g=true) (hT:LogB T) (ha:B7 g a=true) (h:Gd (A7 g) d F) (hF:∀ a,(F a).length<=100000) (hlba:0<=x.lba/\x.lba<g.z*g.d) (hB:∀ p,CI T (x.lba.tdiv g.d) 255=some p->p.1.bytes.length<=100000) (hv:ZoneV g a T F (x.lba.tdiv g.d) t v)
  (hl:l.length<=1000) (hs:∀ h∈l,KX h) (hh:Eb l x.h=true) (hno:(MK l x.h x.lba).2.1=false) (hr:Fn Tryz.prog 198 [BR L,iv x.h,iv x.lba] fun r=>r = .tp [BR L',iv 0]) :
  ACalls Tryz.prog false 112 [.bp 5 0] (Ds g d0 d s0 (AI a T) false L l x) fun r H=>∃ o:Vout,(∃ d',Gd (A7 g) d' F/\o=⟨d',AI a T,false,L',l,0,0,v (x.lba.tmod g.d)⟩)/\r = .ag (an7 o.e o.n o.bytes)/\H=Ds g d0 o.d s0 o.s o.b o.L o.l x:=by
 have c1:=J8 g d0 d s0 (AI a T) false L l x hg hl hh hlba;have hid:=RA hh;have c2:=K_ g d0 d s0 (AI a T) false L l x L';have c3:=TB l x.h x.lba hl hs hno;have c4:=Yi [] x.lba (Aj _);have c5:=Qi g a T d F x.lba t v hg hT ha h hF hlba hB hv;obtain⟨q,hq⟩:∃ q,q=l.getD (E7 l x.h) ⟨0, [], []⟩:=⟨_,rfl⟩;rw [<-hq] at c1 hid;generalize (MK l x.h x.lba).2.2=e3 at c3;refine zV tys_ok Tryz.func112 rfl rfl (Ad rfl) ?_;conv=>whnf
 refine ze9 [0,1,2,3,4,5] c1 ?_;rintro _ _ ⟨rfl,rfl⟩;conv=>whnf
 rw [hid];repeat' (refine zZ ?_;conv=>whnf)
 apply zX (2 ^ 146) tys_ok mixed (.o [0,1,2,3,4,5,6,7,8,9,10,11,12,13,14,15,16,17,18,19] .fin) (by kernel_rfl);conv=>whnf
 refine zY hr ?_;conv=>whnf
 (refine ze9 [0,1,2,3,4,5] c2 ?_;rintro _ _ ⟨rfl,rfl⟩)
 conv=>whnf
 repeat' (refine zZ ?_;conv=>whnf)
 apply zX (0) tys_ok mixed (.o [0,1,2,3,4,5,6,7,8,9,10,11,12,13,14,15,16,17,18,19,20,21] .fin) (by kernel_rfl);conv=>whnf
 refine zY c3 ?_;conv=>whnf
 repeat' (refine zZ ?_;conv=>whnf)
 apply zX (0) tys_ok mixed (.o [0,1,2,3,4,5,6,7,8,9,10,11,12,13,14,15] .fin) (by kernel_rfl);conv=>whnf
 refine zY c4 ?_;conv=>whnf
 repeat' (refine zZ ?_;conv=>whnf)
 apply zX (2 ^ 137) tys_ok mixed (.o [0,1,2,3,4,5,6,7,8,9,10,11,12,13,14] .fin) (by kernel_rfl);conv=>whnf
 (refine ze9 [1,2,3,4] c5 ?_;rintro _ _ ⟨rfl,d1,hd1,rfl⟩)
 conv=>whnf
 repeat' (refine zZ ?_;conv=>whnf)
 exact⟨_, .ag (an7 0 0 (v (x.lba.tmod g.d))),Ds g d0 d1 s0 (AI a T) false L' l x,AW (ZJ 0 0 _),zR (s:= [0,1,2,3,4,5]) tA,⟨d1,AI a T,false,L',l,0,0,_⟩,⟨d1,hd1,rfl⟩,rfl,rfl⟩
end
theorem Up (g:Geo) (d:Dk) (x:Sp) (hk:2<=x.kind/\x.kind<=10):ACalls Tryz.prog false 20 [.bp 0 0, .ag (GV x)] [.box 111 (W7 g d)] fun r H=>r = .ag (an7 16 0 [])/\H=[.box 111 (W7 g d)]:=by
 have k1:decide (x.kind>=11)=false:=decide_eq_false (by omega);have k2:(x.kind == 1)=false:=beq_eq_false_iff_ne.2 (by omega);refine zV tys_ok Tryz.func20 rfl rfl (Ad rfl) ?_;conv=>whnf
 rw [k1];conv=>whnf
 repeat' (refine zZ ?_;conv=>whnf)
 apply zX (0) tys_ok mixed (.o [0,1,2,3,4,5,6,7,8] .fin) (by kernel_rfl);conv=>whnf
 rw [k2];conv=>whnf
 repeat' (refine zZ ?_;conv=>whnf)
 exact⟨_, .ag (an7 16 0 []), [.box 111 (W7 g d)],AW (BY 16 0),zR (s:= [0]) tA,rfl,rfl⟩
@[reducible] def ZM (g:Geo) (d:Dk):List AV:= [iv g.z,iv g.d,iv g.sp,iv g.sl,iv g.an,Qf d.cells,NJ d.cache,iv d.reqs,iv d.left, .v (.bool true),iv 0,iv 0,iv 0,iv 0,iv 0, .v (.string ⟨#[]⟩), .v (.slice none 0 0), .v (.slice none 0 0), .v (.bool false),iv 0,iv 0,iv 0,iv 0, .v (.slice none 0 0), .v (.slice none 0 0), .v (.slice none 0 0)]
section
variable (g:Geo) (d D:Dk) (s:Stt) (x:Sp)
theorem SB (hm:ACalls Tryz.prog false 194 [.bp 0 0] (GF g st0 d) fun r H=>r = iv 0/\H=bwN g s D):ACalls Tryz.prog false 110 [.bp 5 0] (Zf (W7 g d) g st0 (Dt []) d x) fun r H=>r = iv 0/\H=Um (ZM g d) g s (.v (.slice none 0 0)) D x:=by
 refine zV tys_ok Tryz.func110 rfl rfl (Ad rfl) ?_;conv=>whnf
 refine ze9 [1,2,3,4] hm ?_;rintro _ _ ⟨rfl,rfl⟩;conv=>whnf
 repeat' (refine zZ ?_;conv=>whnf)
 apply zX (0) tys_ok mixed (.o [0,1,2,3,4,5,6,7,8,9,10,11,12,13,14,15,16,17,18,19,20] .fin) (by kernel_rfl);conv=>whnf
 try (refine tS ?_;conv=>whnf)
 try (refine tS ?_;conv=>whnf)
 try (refine tS ?_;conv=>whnf)
 all_goals
  repeat' (refine zZ ?_;conv=>whnf)
  exact⟨_,iv 0,Um (ZM g d) g s (.v (.slice none 0 0)) D x,fun _ _ h=>h,zR (s:= [0,1,2,3,4,5,6]) tA,rfl,rfl⟩
theorem OO (hk:x.kind=1) (hm:ACalls Tryz.prog false 194 [.bp 0 0] (GF g st0 d) fun r H=>r = iv 0/\H=bwN g s D):ACalls Tryz.prog false 45 [.bp 5 0] (Zf (W7 g d) g st0 (Dt []) d x) fun r H=>r = .ag (an7 0 0 [])/\H=Um (ZM g d) g s (.v (.slice none 0 0)) D x:=by
 have h:=SB g d D s x hm;obtain⟨k,h1,h2,h3,h4,h5,h6,h7,h8,h9⟩:=x;obtain rfl:k=1:=hk;refine zV tys_ok Tryz.func45 rfl rfl (Ad rfl) ?_;conv=>whnf
 repeat' (refine zZ ?_;conv=>whnf)
 refine ze9 [0,1,2,3,4,5] h ?_;rintro _ _ ⟨rfl,rfl⟩;conv=>whnf
 repeat' (refine zZ ?_;conv=>whnf)
 exact⟨_, .ag (an7 0 0 []),Um (ZM g d) g s (.v (.slice none 0 0)) D ⟨1,h1,h2,h3,h4,h5,h6,h7,h8,h9⟩,AW (BY 0 0),zR (s:= [0,1,2,3,4,5,7]) tA,rfl,rfl⟩
end
theorem MT (g:Geo) (d D:Dk) (s:Stt) (x:Sp) (hz:d.z=d) (hd:d.cells.length<=1000000000/\d.cache.length<=1000000000) (hk:x.kind=1) (hcut:x.cut<=0) (hl:D.left = -1) (hm:ACalls Tryz.prog false 194 [.bp 0 0] (GF g st0 d) fun r H=>r = iv 0/\H=bwN g s D) :
  ACalls Tryz.prog false 20 [.bp 0 0, .ag (GV x)] [.box 111 (W7 g d)] fun r H=>r = .ag (an7 0 0 [])/\H=ES g D s true [] []:=by
 have c1:=KW d hd.1 hd.2;have k3:decide (x.cut > 0)=false:=decide_eq_false (by omega);have hdo:=OO g d D s x hk hm;obtain⟨dc,dw,dr,dl⟩:=d;obtain rfl:0=dr:=congrArg Dk.reqs hz;obtain⟨cs,ca,rq,lf⟩:=D;obtain rfl:lf = -1:=hl;obtain⟨k,h1,h2,h3,h4,h5,h6,h7,h8,h9⟩:=x;obtain rfl:k=1:=hk;simp only at k3;refine zV tys_ok Tryz.func20 rfl rfl (Ad rfl) ?_;conv=>whnf
 repeat' (refine zZ ?_;conv=>whnf)
 apply zX (0) tys_ok mixed (.o [0,1,2,3,4,5,6,7,8] .fin) (by kernel_rfl);conv=>whnf
 repeat' (refine zZ ?_;conv=>whnf)
 rw [k3];conv=>whnf
 repeat' (refine zZ ?_;conv=>whnf)
 apply zX (0) tys_ok mixed (.o [0,1,2,3,4,5,6,7,8,10,11,12,13,16,9,14,15,17,18,19] .fin) (by kernel_rfl);conv=>whnf
 (refine zW c1 rfl ?_;rintro _ _ ⟨rfl,rfl⟩)
 conv=>whnf
 repeat' (refine zZ ?_;conv=>whnf)
 refine zr (zJ (cs':=XK g (.bp 3 0) (Dt []) (iA []) st0) 6 rfl ⟨ri,ri,ri,ri,ri,ri,ri,ri,ri,ri,ri,ri,AZ 3 _,AZ 4 _,ri,ri,ri,ri,ri,AZ 1 _,tv⟩) ?_;refine ze9 [0,6,3,4,5,7] hdo ?_;rintro _ _ ⟨rfl,rfl⟩;conv=>whnf
 repeat' (refine zZ ?_;conv=>whnf)
 apply zX (0) tys_ok mixed (.o [0,1,2,3,4,5,6,7,8,9,10,11,12,13,14,15,16,17,18,19,20,21,22,23,24] .fin) (by kernel_rfl);conv=>whnf
 try (refine tS ?_;conv=>whnf)
 try (refine tS ?_;conv=>whnf)
 repeat' (refine zZ ?_;conv=>whnf)
 exact⟨_, .ag (an7 0 0 []),ES g ⟨cs,ca,rq, -1⟩ s true [] [],ri,zL (zP (z7 (zJ (cs':=voX g (.ow 4 cs.length) (.ow 8 ca.length) rq (-1) true s (.v (.slice none 0 0)) (BR []) (C2 [])) 0 rfl ⟨ri,ri,ri,ri,ri,ri,ri,ri,ri,ri,ri,ri,ri,ri,ri,ri,ri,ri,ri,ri,ri,ri,ri,ri,AZ 3 _,AZ 3 _,tv⟩) (EC (d:=⟨cs,ca,rq, -1⟩) (b:=true) 4 8 (by decide) (by decide) rfl rfl rfl))) (s:= [0]) tA,rfl,rfl⟩
theorem X_ (l:List Lck):AV.ltL (l.map Ey).flatten 0=true:=by
 rw [CP];intro x hx;obtain⟨e,he,hxe⟩:=BQ.1 hx;obtain⟨h,_,rfl⟩:=AK.1 he;simp only [Ey,AX,Dz,or_false] at hxe;rcases hxe with rfl | rfl | rfl <;> rfl
theorem Vi {l:List Lck} {y id:Int} {a:Nat} (j:Nat):SubL (((l.map Ey ++ [[AV.v (.int .i64 y), .ow a 1,AV.v (.int .i64 (-1))]]).map (List.map (AV.slIn a ([[AV.v (.int .i64 id)]]:List (List AV)).length (.sl 1 ([[AV.v (.int .i64 id)]]:List (List AV)).length fun i=>([[AV.v (.int .i64 id)]]:List (List AV)).getD i [])))).getD j []) (((l ++ [(⟨y, [id], -1⟩:Lck)]).map Ey).getD j []):=by
 rw [A0,A0];by_cases e:j<l.length
 ·rw [E4 (by rw [Aa,Aa];exact e),E4 (by rw [Aa];exact e),AR (d:= []) (by rw [Aa];exact e),AR (d:=lz) e];exact SubL.refl _
 ·by_cases e2:j=l.length
  ·subst e2;rw [Dg (by rw [Aa,Aa];omega),Dg (by rw [Aa];omega),Aa,Aa,BA];show SubL [AV.v (.int .i64 y),AV.slIn a 1 _ (.ow a 1),AV.v (.int .i64 (-1))] _;rw [Oc rfl];exact⟨fun _ _ h=>h,fun c u h=>EP (f:=Fc) (l:= [id]) (d:=0) rfl c u h,fun _ _ h=>h,tv⟩
  ·rw [Ab,AF (by simp;omega)];rw [Ab,AF (by simp;omega)];exact SubL.refl _
theorem Rf (l:List Lck) (y id:Int) (h:LkI l y) (hid:0<=id) (hh:Ip l y=false):ACalls Tryz.prog false 198 [BR l,iv id,iv y] [] fun r H=>r = .tp [.ow 0 (l.length+1),iv 0]/\H=[.row 216 3 ((l ++ [(⟨y, [id], -1⟩:Lck)]).map Ey)]:=by
 have c1:=G7 l h.ok;have c2:=LB l y h;have hlen:=h.len;have hy:=h.yb;have c3:Fn Tryz.prog 280 [iA [],iv id] (fun r=>r = .tp [iv ((0:Nat):Int), .v (.bool false)]):=Wa [] id (Aj _) rfl;have hp:=h.fin.resolve_left (by rw [hh];decide);have c4:=FK [] [iv id] 0 0 rfl rfl (by decide);unfold UL at c2;rw [hh,if_neg (by decide),hp,Ah,Aa,List.length_singleton] at c2;have hib:((-1:Int) == id)=false:=beq_eq_false_iff_ne.2 (by omega);have hE:∀ e,(l.map Ey ++ [e]).getD l.length []=e:=fun e=>by rw [Dg (by rw [Aa];omega),Aa,BA];try rfl
 have hS:∀ e e',(l.map Ey ++ [e]).set l.length e'=l.map Ey ++ [e']:=fun e e'=>by
  rw [C8 _ _ (by rw [Aa];omega),Aa,BA];try rfl
 have hN:∀ e:List AV,l.length+1=(l.map Ey ++ [e]).length:=fun e=>by rw [Ah,Aa];try rfl
 refine zE tys_ok Tryz.func198 rfl rfl (Ad rfl) ?_;conv=>whnf
 refine zY c1 ?_;conv=>whnf
 rw [decide_eq_false (show ¬id<0 by omega)];conv=>whnf
 rw [decide_eq_false (show ¬y<0 by omega)];conv=>whnf
 refine zW c2 rfl ?_;rintro _ _ ⟨rfl,rfl⟩;conv=>whnf
 repeat' (refine zZ ?_;conv=>whnf)
 refine⟨⟨by omega,by omega⟩,?_⟩;conv=>whnf
 rw [Ac];refine⟨⟨rfl,hN _,Bu _⟩,?_⟩;conv=>whnf
 rw [hE];conv=>whnf
 refine zU [iA [],iv id] ⟨AZ 1 _,ri,tv⟩ ?_;refine zY c3 ?_;refine⟨⟨rfl,hN _,Bu _⟩,?_⟩;conv=>whnf
 rw [hE];refine⟨⟨rfl,hN _,Bu _⟩,?_⟩;conv=>whnf
 rw [hE];conv=>whnf
 rw [hib];refine⟨⟨rfl,hN _,Bu _⟩,?_⟩;conv=>whnf
 rw [hE];refine⟨⟨rfl,hN _,Bu _⟩,?_⟩;conv=>whnf
 rw [hE];conv=>whnf
 refine zr (ConvH.rowo (k:=0) rfl) ?_;refine ACalls.ghost 0 (t:=3) (sz:=1) rfl (by decide) ?_;refine ze9 [2,1] c4 ?_;rintro _ _ ⟨rfl,rfl⟩;refine⟨⟨rfl,hN _,Bu _⟩,?_⟩;conv=>whnf
 rw [hE];conv=>whnf
 rw [hS];exact⟨_, .tp [.ow 0 (l.length+1),iv 0],_,fun _ _ h=>h,RG ⟨_,z7 (zu 0 3 rfl rfl rfl) (z7 (zl (k:=0) rfl (es':=(l ++ [(⟨y, [id], -1⟩:Lck)]).map Ey) (m':=0) (by simp) (fun j=>Vi j) (X_ _)) (ConvH.row (k:=0) rfl (X_ _))),rfl⟩ rfl,rfl,rfl⟩
theorem Np (l:List Lck) (y id:Int) (h:LkI l y) (hid:0<=id) (hh:Ip l y=false):Fn Tryz.prog 198 [BR l,iv id,iv y] fun r=>r = .tp [BR (l ++ [(⟨y, [id], -1⟩:Lck)]),iv 0]:=by
 refine(Rf l y id h hid hh).fn ?_;rintro r H ⟨rfl,rfl⟩;refine⟨_,zC _,?_⟩;refine⟨by simp,?_⟩;refine⟨.tp [BR (l ++ [(⟨y, [id], -1⟩:Lck)]),iv 0],BT ⟨fun c u h=>?_,ri,tv⟩,rfl⟩;exact EP (f:=Ey) (d:=lz) (by simp) c u h
@[reducible] def sp (k h lba:Int) (b:List UInt8):Sp:=⟨k,h,lba,b,0,0,0,0,0,0⟩
theorem Em (k h lba:Int):SubL [iv k,iv h,iv lba, .v (.slice none 0 0),iv 0,iv 0,iv 0,iv 0,iv 0,iv 0] (GV (sp k h lba [])):=⟨ri,ri,ri,AZ 1 _,ri,ri,ri,ri,ri,ri,tv⟩
section
variable {g:Geo} {K:Int} {d:Dk} {M:Md} {b:Bool} {L:List Lck} {l:List Hd}
theorem Vm.n {g:Geo} {K:Int} {d:Dk} {M:Md} (h:Vm g K d M):d.cells.length<=1000000000/\d.cache.length<=1000000000:=⟨by have:=h.gd.ok.n;omega,by have:=h.gd.ok.m;omega⟩
theorem La (h:Vm g K d M) (hb:b=true->M.l=[]) (hl:l.length<=1000) (hs:∀ h∈l,KX h) (hend:freeId l 0=l.length) (ho:(DW l).2.2=0) (q lba:Int) :
  ACalls Tryz.prog false 20 [.bp 0 0, .ag (GV (sp 2 q lba []))] (ES g d (AI M.a M.l) b L l) fun r H=>∃ d',Vm g K d' M/\r = .ag (an7 0 (DW l).2.1 [])/\H=ES g d' (AI M.a M.l) b L (DW l).1:=by
 have hc:=OP g d.z d.z (AI M.a M.l) (AI M.a M.l) b L l (sp 2 q lba []) (fun o=>o=⟨d.z,AI M.a M.l,b,L,(DW l).1,0,(DW l).2.1, []⟩) rfl ((SF g d.z d.z (AI M.a M.l) (AI M.a M.l) b L l (sp 2 q lba []) hl hs hend ho).mono fun r H ⟨h1,h2⟩=>⟨_,rfl,h1,h2⟩);refine(J7 g d (AI M.a M.l) b L l (sp 2 q lba []) (fun o=>o=⟨d.z,AI M.a M.l,b,L,(DW l).1,0,(DW l).2.1, []⟩) hb h.n ⟨by show (2:Int)<=2;decide,by show (2:Int)<=10;decide⟩ (by show (0:Int)<=0;decide) (hc.mono fun r H ⟨o,h1,h2,h3⟩=>⟨o,h1,by rw [h1];show (0:Int)≠8;decide,by rw [h1];exact h.z.gd.left,h2,h3⟩)).mono ?_;rintro r H ⟨o,rfl,rfl,rfl⟩;exact⟨d.z,h.z,rfl,rfl⟩
theorem OQ (L':List Lck) (hg:Bt g=true) (h:Vm g K d M) (hb:b=true->M.l=[]) (q lba:Int) (bs:List UInt8) (hok:Ef l=true) (hl:l.length<=1000) (hs:∀ h∈l,KX h) (hh:Eb l q=true) (hlba:0<=lba/\lba<g.z*g.d) (h8:bs.length=8) (hf:St (l.getD (E7 l q) ⟨0, [], []⟩) lba=false) (hend:F1 (l.getD (E7 l q) ⟨0, [], []⟩).lbas lba=(l.getD (E7 l q) ⟨0, [], []⟩).lbas.length) (hw:Fn Tryz.prog 202 [BR L,iv q,iv lba] fun r=>r = .tp [BR L',iv 0]) :
  ACalls Tryz.prog false 20 [.bp 0 0, .ag (GV (sp 4 q lba bs))] (ES g d (AI M.a M.l) b L l) fun r H=>∃ d',Vm g K d' M/\r = .ag (an7 0 0 [])/\H=ES g d' (AI M.a M.l) b L' (l.set (E7 l q) (W6 (l.getD (E7 l q) ⟨0, [], []⟩) lba bs)):=by
 have hc:=FD g d.z d.z (AI M.a M.l) (AI M.a M.l) b L l (sp 4 q lba bs) (fun o=>o=⟨d.z,AI M.a M.l,b,L',l.set (E7 l q) (W6 (l.getD (E7 l q) ⟨0, [], []⟩) lba bs),0,0, []⟩) rfl ((SA g d.z d.z (AI M.a M.l) (AI M.a M.l) b L l (sp 4 q lba bs) L' hg hok hl hs hh hlba h8 hf hend hw).mono fun r H ⟨h1,h2⟩=>⟨_,rfl,⟨h1,rfl,rfl⟩,h2⟩);refine(J7 g d (AI M.a M.l) b L l (sp 4 q lba bs) (fun o=>o=⟨d.z,AI M.a M.l,b,L',l.set (E7 l q) (W6 (l.getD (E7 l q) ⟨0, [], []⟩) lba bs),0,0, []⟩) hb h.n ⟨by show (2:Int)<=4;decide,by show (4:Int)<=10;decide⟩ (by show (0:Int)<=0;decide) (hc.mono fun r H ⟨o,h1,h2,h3⟩=>⟨o,h1,by rw [h1];show (0:Int)≠8;decide,by rw [h1];exact h.z.gd.left,h2,h3⟩)).mono ?_;rintro r H ⟨o,rfl,rfl,rfl⟩;exact⟨d.z,h.z,rfl,rfl⟩
theorem SI (L':List Lck) (hg:Bt g=true) (h:Vm g K d M) (hK:K<=4294967294) (hM:M.l=[]) (q lba x1:Int) (bs:List UInt8) (hl:l.length<=1000) (hs:∀ h∈l,KX h) (hh:Eb l q=true) (hlba:0<=lba/\lba<g.z*g.d) (h8:bs.length=8) (hq:l.getD (E7 l q) ⟨0, [], []⟩=⟨q, [lba], [bs]⟩) (hd:Fn Tryz.prog 287 [BR L,iv q] fun r=>r = .tp [BR L',iv 0]) :
  ACalls Tryz.prog false 20 [.bp 0 0, .ag (GV (sp 5 q x1 []))] (ES g d (AI M.a M.l) true L l) fun r H=>∃ d' M',Vm g (K+1) d' M'/\M'.m=M.m.set lba.toNat bs/\r = .ag (an7 0 0 [])/\H=ES g d' (AI M'.a M'.l) false L' (DC l q).1:=by
 have g4:=(Ay.1 hg).2.2.2.1;obtain⟨a,ml,F,m⟩:=M;simp only at hM;subst hM;obtain⟨-,V,hV, -⟩:=h.rd;have hz:=h.z;have hc:=IV g d.z d.z (AI a []) (AI a []) true L l (sp 5 q x1 []) (fun o=>∃ d' W,Gd (A7 g) d' (MX F W)/\(∀ w∈W,(g.an<=w.addr/\w.addr<g.an+2*g.sl/\B_ w.bytes=w.addr)/\w.bytes.length<=200)/\o=⟨d',AI a ([] ++ [FT g a [] F lba bs]),false,L',(DC l q).1,0,0, []⟩) rfl (Qz g d.z d.z (AI a []) L l (sp 5 q x1 []) a F K lba bs V L' hg (hz.vo.vol hz.gd) hK hz.gd (fun q=>by have:=h.vo.fb q;exact AS this (by decide)) hV hlba h8 hl hs hh hq hd);refine(J7 g d (AI a []) true L l (sp 5 q x1 []) (fun o=>∃ d' W,Gd (A7 g) d' (MX F W)/\(∀ w∈W,(g.an<=w.addr/\w.addr<g.an+2*g.sl/\B_ w.bytes=w.addr)/\w.bytes.length<=200)/\o=⟨d',AI a ([] ++ [FT g a [] F lba bs]),false,L',(DC l q).1,0,0, []⟩) (fun _=>rfl) h.n ⟨by show (2:Int)<=5;decide,by show (5:Int)<=10;decide⟩ (by show (0:Int)<=0;decide) (hc.mono fun r H ⟨o,⟨d',W,h1,h2,h3⟩,h4,h5⟩=>⟨o,⟨d',W,h1,h2,h3⟩,by rw [h3];show (0:Int)≠8;decide,by rw [h3];exact h1.left,h4,h5⟩)).mono ?_;rintro r H ⟨o,⟨d',W,h1,h2,rfl⟩,rfl,rfl⟩;exact⟨d',_,hz.cm (M:=⟨a, [],F,m⟩) hg hK hlba h8 (by show (0:Int)+4<=g.sl;omega) h1 h2,rfl,rfl,rfl⟩
theorem RK (L':List Lck) (hg:Bt g=true) (h:Vm g K d M) (q lba:Int) (hl:l.length<=1000) (hs:∀ h∈l,KX h) (hh:Eb l q=true) (hlba:0<=lba/\lba<g.z*g.d) (hno:(MK l q lba).2.1=false) (hr:Fn Tryz.prog 198 [BR L,iv q,iv lba] fun r=>r = .tp [BR L',iv 0]) :
  ACalls Tryz.prog false 20 [.bp 0 0, .ag (GV (sp 3 q lba []))] (ES g d (AI M.a M.l) false L l) fun r H=>∃ d',Vm g K d' M/\r = .ag (an7 0 0 (M.m.getD lba.toNat []))/\H=ES g d' (AI M.a M.l) false L' l:=by
 obtain⟨hZ,hB⟩:=OK hg hlba;obtain⟨-,V,hV,hm⟩:=h.rd;obtain⟨t,hv⟩:=hV _ hZ.1 hZ.2;have hz:=h.z;have hvol:=hz.vo.vol hz.gd;have hsm:=hvol.sm hg;have hval:M.m.getD lba.toNat []=V (lba.tdiv g.d) (lba.tmod g.d):=by
  rw [<-hm _ _ hZ.1 hZ.2 hB.1 hB.2];congr 2;have:=Int.mul_tdiv_add_tmod lba g.d;rw [Int.mul_comm] at this;exact this.symm
 have hc:=I2 g d.z d.z (AI M.a M.l) (AI M.a M.l) false L l (sp 3 q lba []) (fun o=>∃ d',Gd (A7 g) d' M.F/\o=⟨d',AI M.a M.l,false,L',l,0,0,V (lba.tdiv g.d) (lba.tmod g.d)⟩) rfl (Ul g d.z d.z (AI M.a M.l) L l (sp 3 q lba []) M.a M.l M.F t (V (lba.tdiv g.d)) L' hg ⟨by have:=hsm.t.1;exact AS this (by decide),fun t ht=>⟨by have:=(hsm.t.2 t ht).1;omega,fun x hx=>by have:=(hsm.t.2 t ht).2 x hx;omega⟩⟩ hvol.an hz.gd (fun q=>by have:=h.vo.fb q;exact AS this (by decide)) hlba (fun p hp=>by
   obtain⟨t,ht,hx⟩:=PU hp;have:=(hsm.t.2 t ht).2 _ hx;omega) hv hl hs hh hno hr)
 refine(J7 g d (AI M.a M.l) false L l (sp 3 q lba []) (fun o=>∃ d',Gd (A7 g) d' M.F/\o=⟨d',AI M.a M.l,false,L',l,0,0,V (lba.tdiv g.d) (lba.tmod g.d)⟩) (fun e=>by cases e) h.n ⟨by show (2:Int)<=3;decide,by show (3:Int)<=10;decide⟩ (by show (0:Int)<=0;decide) (hc.mono fun r H ⟨o,⟨d',h1,h3⟩,h4,h5⟩=>⟨o,⟨d',h1,h3⟩,by rw [h3];show (0:Int)≠8;decide,by rw [h3];exact h1.left,h4,h5⟩)).mono ?_;rintro r H ⟨o,⟨d',h1,rfl⟩,rfl,rfl⟩;exact⟨d',⟨h1,h.vo,h.rd⟩,by rw [hval];try rfl,rfl⟩
end
theorem TF (g:Geo) (lba:Int) (hg:Bt g=true) (h:¬(0<=lba/\lba<g.z*g.d)):Fn Tryz.prog 88 [.ag (Bh g),iv lba] fun r=>r = .tp [iv 0,iv 0,iv 17]:=by
 obtain⟨h1,h2,h3,h4,h5⟩:=Ay.1 hg;have hG:Fn Tryz.prog 118 [.ag (Bh g)] fun r=>r = .v (Eg (Bt g)):=Ci g.z g.d g.sp g.sl g.an
 rw [hg] at hG;have hp:g.z*g.d<=16:=Int.le_trans (Bl h1.2 (by omega)) (by omega);have hp0:0<=g.z*g.d:=C4 (by omega) (by omega);have hw:IntKind.i64.wrap (IntKind.i64.wrap (g.z*g.d) - 1)=g.z*g.d - 1:=by rw [wi (n:=g.z*g.d) (by omega),wi (by omega)]
 have hn:=GA lba 0 (IntKind.i64.wrap (IntKind.i64.wrap (g.z*g.d) - 1));rw [show Do lba 0 (IntKind.i64.wrap (IntKind.i64.wrap (g.z*g.d) - 1))=false by rw [<-C9,AJ,hw];omega] at hn;refine zT Tryz.func88 rfl ?_;conv=>whnf
 refine zY hG ?_;conv=>whnf
 refine zY hn ?_;exact⟨_,ri,rfl⟩
theorem hd0_sub:SubL [iv 0, .v (.slice none 0 0), .v (.slice none 0 0)] (D1 ⟨0, [], []⟩):=⟨ri,AZ 1 _,AZ 1 _,tv⟩
section
variable (g:Geo) (d0 d:Dk) (s0 s:Stt) (b:Bool) (L:List Lck) (l:List Hd) (x:Sp)
theorem SE (hg:Bt g=true) (hl:l.length<=1000) (hh:Eb l x.h=false) (hlba:0<=x.lba/\x.lba<g.z*g.d):ACalls Tryz.prog false 196 [.bp 5 0] (Ds g d0 d s0 s b L l x) fun r H=>r = .tp [.ag (D1 ⟨0, [], []⟩),iv 18]/\H=Ds g d0 d s0 s b L l x:=by
 have c1:=I1 g d0 d s0 s b L l x hl hh;have c2:=If g x.lba hg hlba;cases b with
 | true=>
  refine zV tys_ok Tryz.func196 rfl rfl (Ad rfl) ?_;conv=>whnf
  refine ze9 [0,1,2,3,4,5] c1 ?_;rintro _ _ ⟨rfl,rfl⟩;conv=>whnf
  apply zX (0) tys_ok mixed (.o [0,1,2,3,4,5,6,7,8,9,10,11,12,13,14,15,16,17,18,19] .fin) (by kernel_rfl);conv=>whnf
  refine zY c2 ?_;conv=>whnf
  repeat' (refine zZ ?_;conv=>whnf)
  exact⟨_, .tp [.ag (D1 ⟨0, [], []⟩),iv 18],Ds g d0 d s0 s true L l x,fun _ _ h=>h,zR (s:= [0,1,2,3,4,5]) tA,rfl,rfl⟩
 | false=>
  refine zV tys_ok Tryz.func196 rfl rfl (Ad rfl) ?_;conv=>whnf
  refine ze9 [0,1,2,3,4,5] c1 ?_;rintro _ _ ⟨rfl,rfl⟩;conv=>whnf
  apply zX (0) tys_ok mixed (.o [0,1,2,3,4,5,6,7,8,9,10,11,12,13,14,15,16,17,18,19] .fin) (by kernel_rfl);conv=>whnf
  refine zY c2 ?_;conv=>whnf
  repeat' (refine zZ ?_;conv=>whnf)
  exact⟨_, .tp [.ag (D1 ⟨0, [], []⟩),iv 18],Ds g d0 d s0 s false L l x,fun _ _ h=>h,zR (s:= [0,1,2,3,4,5]) tA,rfl,rfl⟩
theorem Q0 (hg:Bt g=true) (hl:l.length<=1000) (hh:Eb l x.h=true) (hlba:¬(0<=x.lba/\x.lba<g.z*g.d)):ACalls Tryz.prog false 196 [.bp 5 0] (Ds g d0 d s0 s b L l x) fun r H=>r = .tp [.ag (D1 ⟨0, [], []⟩),iv 17]/\H=Ds g d0 d s0 s b L l x:=by
 have c1:=Gm g d0 d s0 s b L l x hl hh;have c2:=TF g x.lba hg hlba;cases b with
 | true=>
  refine zV tys_ok Tryz.func196 rfl rfl (Ad rfl) ?_;conv=>whnf
  refine ze9 [0,1,2,3,4,5] c1 ?_;rintro _ _ ⟨rfl,rfl⟩;conv=>whnf
  apply zX (0) tys_ok mixed (.o [0,1,2,3,4,5,6,7,8,9,10,11,12,13,14,15,16,17,18,19] .fin) (by kernel_rfl);conv=>whnf
  refine zY c2 ?_;conv=>whnf
  repeat' (refine zZ ?_;conv=>whnf)
  exact⟨_, .tp [.ag (D1 ⟨0, [], []⟩),iv 17],Ds g d0 d s0 s true L l x,BT (m:= [.ag (D1 ⟨0, [], []⟩),iv 17]) ⟨AW hd0_sub,ri,tv⟩,zR (s:= [0,1,2,3,4,5]) tA,rfl,rfl⟩
 | false=>
  refine zV tys_ok Tryz.func196 rfl rfl (Ad rfl) ?_;conv=>whnf
  refine ze9 [0,1,2,3,4,5] c1 ?_;rintro _ _ ⟨rfl,rfl⟩;conv=>whnf
  apply zX (0) tys_ok mixed (.o [0,1,2,3,4,5,6,7,8,9,10,11,12,13,14,15,16,17,18,19] .fin) (by kernel_rfl);conv=>whnf
  refine zY c2 ?_;conv=>whnf
  repeat' (refine zZ ?_;conv=>whnf)
  exact⟨_, .tp [.ag (D1 ⟨0, [], []⟩),iv 17],Ds g d0 d s0 s false L l x,BT (m:= [.ag (D1 ⟨0, [], []⟩),iv 17]) ⟨AW hd0_sub,ri,tv⟩,zR (s:= [0,1,2,3,4,5]) tA,rfl,rfl⟩
theorem RI (q:Hd) (e:Int) (he:e≠0) (c1:ACalls Tryz.prog false 196 [.bp 5 0] (Ds g d0 d s0 s b L l x) fun r H=>r = .tp [.ag (D1 q),iv e]/\H=Ds g d0 d s0 s b L l x):ACalls Tryz.prog false 112 [.bp 5 0] (Ds g d0 d s0 s b L l x) fun r H=>r = .ag (an7 e 0 [])/\H=Ds g d0 d s0 s b L l x:=by
 have e1:(e == 0)=false:=beq_eq_false_iff_ne.2 he;have e2:(e != 0)=true:=bne_iff_ne.2 he;cases b with
 | true=>
  refine zV tys_ok Tryz.func112 rfl rfl (Ad rfl) ?_;conv=>whnf
  refine ze9 [0,1,2,3,4,5] c1 ?_;rintro _ _ ⟨rfl,rfl⟩;conv=>whnf
  repeat' (refine zZ ?_;conv=>whnf)
  rw [e1];conv=>whnf
  repeat' (refine zZ ?_;conv=>whnf)
  rw [e2];exact⟨_, .ag (an7 e 0 []),Ds g d0 d s0 s true L l x,AW (BY e 0),zR (s:= [0,1,2,3,4,5]) tA,rfl,rfl⟩
 | false=>
  refine zV tys_ok Tryz.func112 rfl rfl (Ad rfl) ?_;conv=>whnf
  refine ze9 [0,1,2,3,4,5] c1 ?_;rintro _ _ ⟨rfl,rfl⟩;conv=>whnf
  repeat' (refine zZ ?_;conv=>whnf)
  rw [e1];conv=>whnf
  repeat' (refine zZ ?_;conv=>whnf)
  rw [e2];exact⟨_, .ag (an7 e 0 []),Ds g d0 d s0 s false L l x,AW (BY e 0),zR (s:= [0,1,2,3,4,5]) tA,rfl,rfl⟩
theorem OL (q:Hd) (e:Int) (he:e≠0) (c1:ACalls Tryz.prog false 196 [.bp 5 0] (Ds g d0 d s0 s b L l x) fun r H=>r = .tp [.ag (D1 q),iv e]/\H=Ds g d0 d s0 s b L l x):ACalls Tryz.prog false 113 [.bp 5 0] (Ds g d0 d s0 s b L l x) fun r H=>r = iv e/\H=Ds g d0 d s0 s b L l x:=by
 have e2:(e != 0)=true:=bne_iff_ne.2 he;cases b with
 | true=>
  refine zV tys_ok Tryz.func113 rfl rfl (Ad rfl) ?_;conv=>whnf
  refine ze9 [0,1,2,3,4,5] c1 ?_;rintro _ _ ⟨rfl,rfl⟩;conv=>whnf
  rw [e2];exact⟨_,iv e,Ds g d0 d s0 s true L l x,fun _ _ h=>h,zR (s:= [0,1,2,3,4,5]) tA,rfl,rfl⟩
 | false=>
  refine zV tys_ok Tryz.func113 rfl rfl (Ad rfl) ?_;conv=>whnf
  refine ze9 [0,1,2,3,4,5] c1 ?_;rintro _ _ ⟨rfl,rfl⟩;conv=>whnf
  rw [e2];exact⟨_,iv e,Ds g d0 d s0 s false L l x,fun _ _ h=>h,zR (s:= [0,1,2,3,4,5]) tA,rfl,rfl⟩
theorem Qx (hg:Bt g=true) (hl:l.length<=1000) (hh:Eb l x.h=true) (hlba:0<=x.lba/\x.lba<g.z*g.d) (h8:x.bytes.length≠8):ACalls Tryz.prog false 113 [.bp 5 0] (Ds g d0 d s0 s b L l x) fun r H=>r = iv 1/\H=Ds g d0 d s0 s b L l x:=by
 have c1:=J8 g d0 d s0 s b L l x hg hl hh hlba;have hn8:((x.bytes.length:Int) != 8)=true:=bne_iff_ne.2 (by omega);cases b with
 | true=>
  refine zV tys_ok Tryz.func113 rfl rfl (Ad rfl) ?_;conv=>whnf
  refine ze9 [0,1,2,3,4,5] c1 ?_;rintro _ _ ⟨rfl,rfl⟩;conv=>whnf
  rw [hn8];exact⟨_,iv 1,Ds g d0 d s0 s true L l x,fun _ _ h=>h,zR (s:= [0,1,2,3,4,5]) tA,rfl,rfl⟩
 | false=>
  refine zV tys_ok Tryz.func113 rfl rfl (Ad rfl) ?_;conv=>whnf
  refine ze9 [0,1,2,3,4,5] c1 ?_;rintro _ _ ⟨rfl,rfl⟩;conv=>whnf
  rw [hn8];exact⟨_,iv 1,Ds g d0 d s0 s false L l x,fun _ _ h=>h,zR (s:= [0,1,2,3,4,5]) tA,rfl,rfl⟩
theorem Qy (hl:l.length<=1000) (hh:Eb l x.h=false):ACalls Tryz.prog false 114 [.bp 5 0] (Ds g d0 d s0 s b L l x) fun r H=>r = iv 18/\H=D_ g d0 d s0 s b L l x:=by
 have c1:=I1 g d0 d s0 s b L l x hl hh;cases b with
 | true=>
  refine zV tys_ok Tryz.func114 rfl rfl (Ad rfl) ?_;conv=>whnf
  refine ze9 [0,1,2,3,4,5] c1 ?_;rintro _ _ ⟨rfl,rfl⟩;exact⟨_,iv 18,D_ g d0 d s0 s true L l x,fun _ _ h=>h,zL (zP (zI 2 4 (by decide) rfl rfl)) (s:= [0,1,2,3,4,5,7]) tA,rfl,rfl⟩
 | false=>
  refine zV tys_ok Tryz.func114 rfl rfl (Ad rfl) ?_;conv=>whnf
  refine ze9 [0,1,2,3,4,5] c1 ?_;rintro _ _ ⟨rfl,rfl⟩;exact⟨_,iv 18,D_ g d0 d s0 s false L l x,fun _ _ h=>h,zL (zP (zI 2 4 (by decide) rfl rfl)) (s:= [0,1,2,3,4,5,7]) tA,rfl,rfl⟩
theorem SG (hl:l.length<=1000) (hh:Eb l x.h=false):ACalls Tryz.prog false 115 [.bp 5 0] (Ds g d0 d s0 s b L l x) fun r H=>r = iv 18/\H=Ds g d0 d s0 s b L l x:=by
 have c1:=I1 g d0 d s0 s b L l x hl hh;cases b with
 | true=>
  refine zV tys_ok Tryz.func115 rfl rfl (Ad rfl) ?_;conv=>whnf
  refine ze9 [0,1,2,3,4,5] c1 ?_;rintro _ _ ⟨rfl,rfl⟩;conv=>whnf
  repeat' (refine zZ ?_;conv=>whnf)
  exact⟨_,iv 18,Ds g d0 d s0 s true L l x,fun _ _ h=>h,zR (s:= [0,1,2,3,4,5]) tA,rfl,rfl⟩
 | false=>
  refine zV tys_ok Tryz.func115 rfl rfl (Ad rfl) ?_;conv=>whnf
  refine ze9 [0,1,2,3,4,5] c1 ?_;rintro _ _ ⟨rfl,rfl⟩;conv=>whnf
  repeat' (refine zZ ?_;conv=>whnf)
  exact⟨_,iv 18,Ds g d0 d s0 s false L l x,fun _ _ h=>h,zR (s:= [0,1,2,3,4,5]) tA,rfl,rfl⟩
end
theorem SC (g:Geo) (d:Dk) (s:Stt) (b:Bool) (L:List Lck) (l:List Hd) (x:Sp) (hk:x.kind=1):ACalls Tryz.prog false 20 [.bp 0 0, .ag (GV x)] (ES g d s b L l) fun r H=>r = .ag (an7 16 0 [])/\H=ES g d s b L l:=by
 obtain⟨k,h1,h2,h3,h4,h5,h6,h7,h8,h9⟩:=x;obtain rfl:k=1:=hk;cases b with
 | true=>
  refine zV tys_ok Tryz.func20 rfl rfl (Ad rfl) ?_;conv=>whnf
  repeat' (refine zZ ?_;conv=>whnf)
  apply zX (0) tys_ok mixed (.o [0,1,2,3,4,5,6,7,8] .fin) (by kernel_rfl);conv=>whnf
  repeat' (refine zZ ?_;conv=>whnf)
  exact⟨_, .ag (an7 16 0 []),ES g d s true L l,AW (BY 16 0),zR (s:= [0]) tA,rfl,rfl⟩
 | false=>
  refine zV tys_ok Tryz.func20 rfl rfl (Ad rfl) ?_;conv=>whnf
  repeat' (refine zZ ?_;conv=>whnf)
  apply zX (0) tys_ok mixed (.o [0,1,2,3,4,5,6,7,8] .fin) (by kernel_rfl);conv=>whnf
  repeat' (refine zZ ?_;conv=>whnf)
  exact⟨_, .ag (an7 16 0 []),ES g d s false L l,AW (BY 16 0),zR (s:= [0]) tA,rfl,rfl⟩
@[reducible] def ZS (g:Geo) (d:Dk):List AB:= [.box 111 (ON g d false st0 (Dt []) (BR []) (C2 []))]
section
variable (g:Geo) (d0 d:Dk) (s0 s:Stt) (b:Bool) (L:List Lck) (l:List Hd) (x:Sp)
theorem Uo (hk:x.kind=99):ACalls Tryz.prog false 45 [.bp 5 0] (Ds g d0 d s0 s b L l x) fun r H=>r = .ag (an7 1 0 [])/\H=Ds g d0 d s0 s b L l x:=by
 obtain⟨k,h1,h2,h3,h4,h5,h6,h7,h8,h9⟩:=x;obtain rfl:k=99:=hk;cases b with
 | true=>
  refine zV tys_ok Tryz.func45 rfl rfl (Ad rfl) ?_;conv=>whnf
  repeat' (refine zZ ?_;conv=>whnf)
  exact⟨_, .ag (an7 1 0 []),Ds g d0 d s0 s true L l ⟨99,h1,h2,h3,h4,h5,h6,h7,h8,h9⟩,AW (BY 1 0),zR (s:= [0,1,2,3,4,5]) tA,rfl,rfl⟩
 | false=>
  refine zV tys_ok Tryz.func45 rfl rfl (Ad rfl) ?_;conv=>whnf
  repeat' (refine zZ ?_;conv=>whnf)
  exact⟨_, .ag (an7 1 0 []),Ds g d0 d s0 s false L l ⟨99,h1,h2,h3,h4,h5,h6,h7,h8,h9⟩,AW (BY 1 0),zR (s:= [0,1,2,3,4,5]) tA,rfl,rfl⟩
theorem Un (hk:x.kind=10):ACalls Tryz.prog false 45 [.bp 5 0] (Ds g d0 d s0 s b L l x) fun r H=>r = .ag (an7 0 0 [])/\H=Zf (ON g d0 false s0 (Dt s0.txns) (BR L) (C2 l)) g s (txV b s.txns) d x:=by
 obtain⟨k,h1,h2,h3,h4,h5,h6,h7,h8,h9⟩:=x;obtain rfl:k=10:=hk;cases b with
 | true=>
  refine zV tys_ok Tryz.func45 rfl rfl (Ad rfl) ?_;conv=>whnf
  repeat' (refine zZ ?_;conv=>whnf)
  exact⟨_, .ag (an7 0 0 []),Zf (ON g d0 false s0 (Dt s0.txns) (BR L) (C2 l)) g s (txV true s.txns) d ⟨10,h1,h2,h3,h4,h5,h6,h7,h8,h9⟩,AW (BY 0 0),zR (s:= [0,1,2,3,4,5]) tA,rfl,rfl⟩
 | false=>
  refine zV tys_ok Tryz.func45 rfl rfl (Ad rfl) ?_;conv=>whnf
  repeat' (refine zZ ?_;conv=>whnf)
  exact⟨_, .ag (an7 0 0 []),Zf (ON g d0 false s0 (Dt s0.txns) (BR L) (C2 l)) g s (txV false s.txns) d ⟨10,h1,h2,h3,h4,h5,h6,h7,h8,h9⟩,AW (BY 0 0),zR (s:= [0,1,2,3,4,5]) tA,rfl,rfl⟩
end
theorem KJ {s:Stt}:∀ b,(b=true->s.txns=[])->∀ c v,Rd (txV b s.txns) c v->Rd (Dt s.txns) c v:=fun b hb c v h=>by
 cases b with
 | true=>rw [hb rfl];exact AZ 4 _ c v h
 | false=>exact h
theorem Yt (g:Geo) (d:Dk) (s:Stt) (b:Bool) (L:List Lck) (l:List Hd) (x:Sp) (hb:b=true->s.txns=[]) (hd:d.cells.length<=1000000000/\d.cache.length<=1000000000) (hk:x.kind=99) (hcut:x.cut<=0) (hl:d.left = -1) :
  ACalls Tryz.prog false 20 [.bp 0 0, .ag (GV x)] (ES g d s b L l) fun r H=>r = .ag (an7 1 0 [])/\H=ES g d.z s b L l:=by
 have c1:=KW d.z hd.1 hd.2;have hdoes:=Uo g d.z d.z s s b L l x hk;have htx:=KJ b hb;obtain⟨cs,ca,rq,lf⟩:=d;obtain rfl:lf = -1:=hl;have k3:decide (x.cut > 0)=false:=decide_eq_false (by omega);obtain⟨k,h1,h2,h3,h4,h5,h6,h7,h8,h9⟩:=x;obtain rfl:k=99:=hk;simp only at k3;cases b with
 | true=>
  refine zV tys_ok Tryz.func20 rfl rfl (Ad rfl) ?_;conv=>whnf
  repeat' (refine zZ ?_;conv=>whnf)
  apply zX (0) tys_ok mixed (.o [0,1,2,3,4,5,6,7,8] .fin) (by kernel_rfl);conv=>whnf
  repeat' (refine zZ ?_;conv=>whnf)
  rw [k3];conv=>whnf
  repeat' (refine zZ ?_;conv=>whnf)
  apply zX (0) tys_ok mixed (.o [0,1,2,3,4,5,6,7,8,10,11,12,13,16,9,14,15,17,18,19] .fin) (by kernel_rfl);conv=>whnf
  (refine zW c1 rfl ?_;rintro _ _ ⟨rfl,rfl⟩)
  conv=>whnf
  repeat' (refine zZ ?_;conv=>whnf)
  refine zr (zJ (cs':=ON g ⟨cs,ca,0, -1⟩ true s (Dt s.txns) (BR L) (C2 l)) 0 rfl (GZ htx)) ?_;refine ze9 [0,6,3,4,5,7] hdoes ?_;rintro _ _ ⟨rfl,rfl⟩;conv=>whnf
  repeat' (refine zZ ?_;conv=>whnf)
  apply zX (0) tys_ok mixed (.o [0,1,2,3,4,5,6,7,8,9,10,11,12,13,14,15,16,17,18,19,20,21,22,23,24] .fin) (by kernel_rfl);conv=>whnf
  try (refine tS ?_;conv=>whnf)
  try (refine tS ?_;conv=>whnf)
  repeat' (refine zZ ?_;conv=>whnf)
  exact⟨_, .ag (an7 1 0 []),ES g ⟨cs,ca,0, -1⟩ s true L l,AW (BY 1 0),zL (zP (EC (d:=⟨cs,ca,0, -1⟩) (b:=true) 4 5 (by decide) (by decide) rfl rfl rfl)) (s:= [0]) tA,rfl,rfl⟩
 | false=>
  refine zV tys_ok Tryz.func20 rfl rfl (Ad rfl) ?_;conv=>whnf
  repeat' (refine zZ ?_;conv=>whnf)
  apply zX (0) tys_ok mixed (.o [0,1,2,3,4,5,6,7,8] .fin) (by kernel_rfl);conv=>whnf
  repeat' (refine zZ ?_;conv=>whnf)
  rw [k3];conv=>whnf
  repeat' (refine zZ ?_;conv=>whnf)
  apply zX (0) tys_ok mixed (.o [0,1,2,3,4,5,6,7,8,10,11,12,13,16,9,14,15,17,18,19] .fin) (by kernel_rfl);conv=>whnf
  (refine zW c1 rfl ?_;rintro _ _ ⟨rfl,rfl⟩)
  conv=>whnf
  repeat' (refine zZ ?_;conv=>whnf)
  refine zr (zJ (cs':=ON g ⟨cs,ca,0, -1⟩ true s (Dt s.txns) (BR L) (C2 l)) 0 rfl (GZ htx)) ?_;refine ze9 [0,6,3,4,5,7] hdoes ?_;rintro _ _ ⟨rfl,rfl⟩;conv=>whnf
  repeat' (refine zZ ?_;conv=>whnf)
  apply zX (0) tys_ok mixed (.o [0,1,2,3,4,5,6,7,8,9,10,11,12,13,14,15,16,17,18,19,20,21,22,23,24] .fin) (by kernel_rfl);conv=>whnf
  try (refine tS ?_;conv=>whnf)
  try (refine tS ?_;conv=>whnf)
  repeat' (refine zZ ?_;conv=>whnf)
  exact⟨_, .ag (an7 1 0 []),ES g ⟨cs,ca,0, -1⟩ s false L l,AW (BY 1 0),zL (zP (EC (d:=⟨cs,ca,0, -1⟩) (b:=false) 4 5 (by decide) (by decide) rfl rfl rfl)) (s:= [0]) tA,rfl,rfl⟩
theorem Ys (g:Geo) (d:Dk) (s:Stt) (b:Bool) (L:List Lck) (l:List Hd) (x:Sp) (hb:b=true->s.txns=[]) (hd:d.cells.length<=1000000000/\d.cache.length<=1000000000) (hk:x.kind=10) (hcut:x.cut<=0) (hl:d.left = -1) :
  ACalls Tryz.prog false 20 [.bp 0 0, .ag (GV x)] (ES g d s b L l) fun r H=>r = .ag (an7 0 0 [])/\H=ZS g d.z:=by
 have c1:=KW d.z hd.1 hd.2;have hdoes:=Un g d.z d.z s s b L l x hk;have htx:=KJ b hb;obtain⟨cs,ca,rq,lf⟩:=d;obtain rfl:lf = -1:=hl;have k3:decide (x.cut > 0)=false:=decide_eq_false (by omega);obtain⟨k,h1,h2,h3,h4,h5,h6,h7,h8,h9⟩:=x;obtain rfl:k=10:=hk;simp only at k3;cases b with
 | true=>
  refine zV tys_ok Tryz.func20 rfl rfl (Ad rfl) ?_;conv=>whnf
  repeat' (refine zZ ?_;conv=>whnf)
  apply zX (0) tys_ok mixed (.o [0,1,2,3,4,5,6,7,8] .fin) (by kernel_rfl);conv=>whnf
  repeat' (refine zZ ?_;conv=>whnf)
  rw [k3];conv=>whnf
  repeat' (refine zZ ?_;conv=>whnf)
  apply zX (0) tys_ok mixed (.o [0,1,2,3,4,5,6,7,8,10,11,12,13,16,9,14,15,17,18,19] .fin) (by kernel_rfl);conv=>whnf
  (refine zW c1 rfl ?_;rintro _ _ ⟨rfl,rfl⟩)
  conv=>whnf
  repeat' (refine zZ ?_;conv=>whnf)
  refine zr (zJ (cs':=ON g ⟨cs,ca,0, -1⟩ true s (Dt s.txns) (BR L) (C2 l)) 0 rfl (GZ htx)) ?_;refine ze9 [0,6,3,4,5,7] hdoes ?_;rintro _ _ ⟨rfl,rfl⟩;conv=>whnf
  repeat' (refine zZ ?_;conv=>whnf)
  apply zX (0) tys_ok mixed (.o [0,1,2,3,4,5,6,7,8,9,10,11,12,13,14,15,16,17,18,19,20,21,22,23,24] .fin) (by kernel_rfl);conv=>whnf
  try (refine tS ?_;conv=>whnf)
  try (refine tS ?_;conv=>whnf)
  repeat' (refine zZ ?_;conv=>whnf)
  exact⟨_, .ag (an7 0 0 []),ZS g ⟨cs,ca,0, -1⟩,ri,zL (zP (z7 (zJ (cs':=voX g (.ow 4 cs.length) (.ow 5 ca.length) 0 (-1) false st0 (Dt []) (BR []) (C2 [])) 0 rfl ⟨ri,ri,ri,ri,ri,ri,ri,ri,ri,ri,ri,ri,ri,ri,ri,ri,AZ 3 _,AZ 4 _,ri,ri,ri,ri,ri,AZ 1 _,AZ 3 _,AZ 3 _,tv⟩) (EC (d:=⟨cs,ca,0, -1⟩) (s:=st0) (on:=false) (b:=false) (L:= []) (l:= []) 4 5 (by decide) (by decide) rfl rfl rfl))) (s:= [0]) tA,rfl,rfl⟩
 | false=>
  refine zV tys_ok Tryz.func20 rfl rfl (Ad rfl) ?_;conv=>whnf
  repeat' (refine zZ ?_;conv=>whnf)
  apply zX (0) tys_ok mixed (.o [0,1,2,3,4,5,6,7,8] .fin) (by kernel_rfl);conv=>whnf
  repeat' (refine zZ ?_;conv=>whnf)
  rw [k3];conv=>whnf
  repeat' (refine zZ ?_;conv=>whnf)
  apply zX (0) tys_ok mixed (.o [0,1,2,3,4,5,6,7,8,10,11,12,13,16,9,14,15,17,18,19] .fin) (by kernel_rfl);conv=>whnf
  (refine zW c1 rfl ?_;rintro _ _ ⟨rfl,rfl⟩)
  conv=>whnf
  repeat' (refine zZ ?_;conv=>whnf)
  refine zr (zJ (cs':=ON g ⟨cs,ca,0, -1⟩ true s (Dt s.txns) (BR L) (C2 l)) 0 rfl (GZ htx)) ?_;refine ze9 [0,6,3,4,5,7] hdoes ?_;rintro _ _ ⟨rfl,rfl⟩;conv=>whnf
  repeat' (refine zZ ?_;conv=>whnf)
  apply zX (0) tys_ok mixed (.o [0,1,2,3,4,5,6,7,8,9,10,11,12,13,14,15,16,17,18,19,20,21,22,23,24] .fin) (by kernel_rfl);conv=>whnf
  try (refine tS ?_;conv=>whnf)
  try (refine tS ?_;conv=>whnf)
  repeat' (refine zZ ?_;conv=>whnf)
  exact⟨_, .ag (an7 0 0 []),ZS g ⟨cs,ca,0, -1⟩,ri,zL (zP (z7 (zJ (cs':=voX g (.ow 4 cs.length) (.ow 5 ca.length) 0 (-1) false st0 (Dt []) (BR []) (C2 [])) 0 rfl ⟨ri,ri,ri,ri,ri,ri,ri,ri,ri,ri,ri,ri,ri,ri,ri,ri,AZ 3 _,AZ 4 _,ri,ri,ri,ri,ri,AZ 1 _,AZ 3 _,AZ 3 _,tv⟩) (EC (d:=⟨cs,ca,0, -1⟩) (s:=st0) (on:=false) (b:=false) (L:= []) (l:= []) 4 5 (by decide) (by decide) rfl rfl rfl))) (s:= [0]) tA,rfl,rfl⟩
section
variable {g:Geo} {K:Int} {d:Dk} {M:Md} {b:Bool} {L:List Lck} {l:List Hd}
theorem Q1 (h:Vm g K d M) (hb:b=true->M.l=[]) (x:Sp) (e:Int) (he:e≠0) (he8:e≠8) (hk:2<=x.kind/\x.kind<=10) (hcut:x.cut<=0)
  (hc:ACalls Tryz.prog false 45 [.bp 5 0] (Ds g d.z d.z (AI M.a M.l) (AI M.a M.l) b L l x) fun r H=>∃ o:Vout,o=⟨d.z,AI M.a M.l,b,L,l,e,0, []⟩/\r = .ag (an7 o.e o.n o.bytes)/\H=D_ g d.z o.d (AI M.a M.l) o.s o.b o.L o.l x) :
  ACalls Tryz.prog false 20 [.bp 0 0, .ag (GV x)] (ES g d (AI M.a M.l) b L l) fun r H=>∃ d',Vm g K d' M/\r = .ag (an7 e 0 [])/\H=ES g d' (AI M.a M.l) b L l:=by
 refine(J7 g d (AI M.a M.l) b L l x (fun o=>o=⟨d.z,AI M.a M.l,b,L,l,e,0, []⟩) hb h.n hk hcut (hc.mono fun r H ⟨o,h1,h2,h3⟩=>⟨o,h1,by rw [h1];exact he8,by rw [h1];exact h.z.gd.left,h2,h3⟩)).mono ?_;rintro r H ⟨o,rfl,rfl,rfl⟩;exact⟨d.z,h.z,by rw [if_neg he,if_neg he],rfl⟩
theorem Zo (hg:Bt g=true) (h:Vm g K d M) (hb:b=true->M.l=[]) (k q:Int) (hk:3<=k/\k<=6) (hl:l.length<=1000) (hh:Eb l q=false) :
  ACalls Tryz.prog false 20 [.bp 0 0, .ag (GV (sp k q 0 []))] (ES g d (AI M.a M.l) b L l) fun r H=>∃ d',Vm g K d' M/\r = .ag (an7 18 0 [])/\H=ES g d' (AI M.a M.l) b L l:=by
 obtain⟨g1,g2,g3,g4,g5⟩:=Ay.1 hg;have h0:(0:Int)<=0/\(0:Int)<g.z*g.d:=⟨C6 _,Int.mul_pos (by omega) (by omega)⟩;refine Q1 h hb (sp k q 0 []) 18 (by decide) (by decide) ⟨by show 2<=k;omega,by show k<=10;omega⟩ (by show (0:Int)<=0;decide) ?_;have hblk:=SE g d.z d.z (AI M.a M.l) (AI M.a M.l) b L l (sp k q 0 []) hg hl hh h0;rcases(show k=3\/k=4\/k=5\/k=6 by omega) with rfl | rfl | rfl | rfl
 ·exact I2 _ _ _ _ _ _ _ _ _ (fun o=>o=⟨d.z,AI M.a M.l,b,L,l,18,0, []⟩) rfl ((RI _ _ _ _ _ _ _ _ _ _ 18 (by decide) hblk).mono fun r H ⟨h1,h2⟩=>⟨_,rfl,h1,h2⟩)
 ·exact FD _ _ _ _ _ _ _ _ _ (fun o=>o=⟨d.z,AI M.a M.l,b,L,l,18,0, []⟩) rfl ((OL _ _ _ _ _ _ _ _ _ _ 18 (by decide) hblk).mono fun r H ⟨h1,h2⟩=>⟨_,rfl,⟨h1,rfl,rfl⟩,h2⟩)
 ·exact IV _ _ _ _ _ _ _ _ _ (fun o=>o=⟨d.z,AI M.a M.l,b,L,l,18,0, []⟩) rfl ((Qy _ _ _ _ _ _ _ _ _ hl hh).mono fun r H ⟨h1,h2⟩=>⟨_,rfl,⟨h1,rfl,rfl⟩,h2⟩)
 ·exact Ki _ _ _ _ _ _ _ _ _ (fun o=>o=⟨d.z,AI M.a M.l,b,L,l,18,0, []⟩) rfl ((SG _ _ _ _ _ _ _ _ _ hl hh).mono fun r H ⟨h1,h2⟩=>⟨_,rfl,⟨h1,rfl,rfl⟩,h2⟩)
theorem Us (hg:Bt g=true) (h:Vm g K d M) (hb:b=true->M.l=[]) (k q lba:Int) (bs:List UInt8) (hk:k=3\/k=4) (hl:l.length<=1000) (hh:Eb l q=true) (hlba:¬(0<=lba/\lba<g.z*g.d)) :
  ACalls Tryz.prog false 20 [.bp 0 0, .ag (GV (sp k q lba bs))] (ES g d (AI M.a M.l) b L l) fun r H=>∃ d',Vm g K d' M/\r = .ag (an7 17 0 [])/\H=ES g d' (AI M.a M.l) b L l:=by
 refine Q1 h hb (sp k q lba bs) 17 (by decide) (by decide) ⟨by show 2<=k;omega,by show k<=10;omega⟩ (by show (0:Int)<=0;decide) ?_;have hblk:=Q0 g d.z d.z (AI M.a M.l) (AI M.a M.l) b L l (sp k q lba bs) hg hl hh hlba;rcases hk with rfl | rfl
 ·exact I2 _ _ _ _ _ _ _ _ _ (fun o=>o=⟨d.z,AI M.a M.l,b,L,l,17,0, []⟩) rfl ((RI _ _ _ _ _ _ _ _ _ _ 17 (by decide) hblk).mono fun r H ⟨h1,h2⟩=>⟨_,rfl,h1,h2⟩)
 ·exact FD _ _ _ _ _ _ _ _ _ (fun o=>o=⟨d.z,AI M.a M.l,b,L,l,17,0, []⟩) rfl ((OL _ _ _ _ _ _ _ _ _ _ 17 (by decide) hblk).mono fun r H ⟨h1,h2⟩=>⟨_,rfl,⟨h1,rfl,rfl⟩,h2⟩)
theorem Yv (hg:Bt g=true) (h:Vm g K d M) (hb:b=true->M.l=[]) (q lba:Int) (bs:List UInt8) (hl:l.length<=1000) (hh:Eb l q=true) (hlba:0<=lba/\lba<g.z*g.d) (h8:bs.length≠8) :
  ACalls Tryz.prog false 20 [.bp 0 0, .ag (GV (sp 4 q lba bs))] (ES g d (AI M.a M.l) b L l) fun r H=>∃ d',Vm g K d' M/\r = .ag (an7 1 0 [])/\H=ES g d' (AI M.a M.l) b L l:=
 Q1 h hb (sp 4 q lba bs) 1 (by decide) (by decide) ⟨by show (2:Int)<=4;decide,by show (4:Int)<=10;decide⟩ (by show (0:Int)<=0;decide)
  (FD _ _ _ _ _ _ _ _ _ (fun o=>o=⟨d.z,AI M.a M.l,b,L,l,1,0, []⟩) rfl ((Qx _ _ _ _ _ _ _ _ _ hg hl hh hlba h8).mono fun r H ⟨h1,h2⟩=>⟨_,rfl,⟨h1,rfl,rfl⟩,h2⟩))
theorem Ut (L':List Lck) (h:Vm g K d M) (hb:b=true->M.l=[]) (q lba:Int) (hl:l.length<=1000) (hs:∀ h∈l,KX h) (hh:Eb l q=true) (hd:Fn Tryz.prog 287 [BR L,iv q] fun r=>r = .tp [BR L',iv 0]) :
  ACalls Tryz.prog false 20 [.bp 0 0, .ag (GV (sp 6 q lba []))] (ES g d (AI M.a M.l) b L l) fun r H=>∃ d',Vm g K d' M/\r = .ag (an7 0 0 [])/\H=ES g d' (AI M.a M.l) b L' (DC l q).1:=by
 have hc:=Ki g d.z d.z (AI M.a M.l) (AI M.a M.l) b L l (sp 6 q lba []) (fun o=>o=⟨d.z,AI M.a M.l,b,L',(DC l q).1,0,0, []⟩) rfl ((SH g d.z d.z (AI M.a M.l) (AI M.a M.l) b L l (sp 6 q lba []) L' hl hs hh hd).mono fun r H ⟨h1,h2⟩=>⟨_,rfl,⟨h1,rfl,rfl⟩,h2⟩);refine(J7 g d (AI M.a M.l) b L l (sp 6 q lba []) (fun o=>o=⟨d.z,AI M.a M.l,b,L',(DC l q).1,0,0, []⟩) hb h.n ⟨by show (2:Int)<=6;decide,by show (6:Int)<=10;decide⟩ (by show (0:Int)<=0;decide) (hc.mono fun r H ⟨o,h1,h2,h3⟩=>⟨o,h1,by rw [h1];show (0:Int)≠8;decide,by rw [h1];exact h.z.gd.left,h2,h3⟩)).mono ?_;rintro r H ⟨o,rfl,rfl,rfl⟩;exact⟨d.z,h.z,rfl,rfl⟩
theorem Ur (L':List Lck) (hg:Bt g=true) (h:Vm g K d M) (hb:b=true->M.l=[]) (q lba:Int) (hl:l.length<=1000) (hs:∀ h∈l,KX h) (hh:Eb l q=true) (hlba:0<=lba/\lba<g.z*g.d) (hno:(MK l q lba).2.1=false) (hr:Fn Tryz.prog 198 [BR L,iv q,iv lba] fun r=>r = .tp [BR L',iv 0]) :
  ACalls Tryz.prog false 20 [.bp 0 0, .ag (GV (sp 3 q lba []))] (ES g d (AI M.a M.l) b L l) fun r H=>∃ d',Vm g K d' M/\r = .ag (an7 0 0 (M.m.getD lba.toNat []))/\H=ES g d' (AI M.a M.l) false L' l:=
 (RK L' hg h q lba hl hs hh hlba hno hr).pre (zJ (cs':=ON g d true (AI M.a M.l) (Dt M.l) (BR L) (C2 l)) 0 rfl (GZ (KJ b hb)))
end
end
end Go.Proofs.YtpjkcgacjjbikaaGreatDoor.A
namespace Go.Proofs.YtpjkcgacjjbikaaGreatDoor
section
open Go.RowKit
attribute [local go_sem ↓] Go.wp_at_zero Go.wp_at_succ

theorem ab (g c n:Nat) (xs:List Value) (base:Nat) (w:World) (fv:Value) (ho:w.ownsRow base 3 1 (.slice (some ⟨g,0,none⟩) (n+1) c) (n+1) xs) (hn:n<=1000000)
  (hix:Calls Tryz.prog 152 #[.slice (some ⟨g,0,none⟩) (n+1) c,fv] w fun e w'=>e = .returned (.int .i64 n)/\Below w.heap.size w w') :
  Calls Tryz.prog 78 #[.slice (some ⟨g,0,none⟩) (n+1) c,fv] w fun e w'=>∃ v',e = .returned v'/\w'.ownsRow base 3 1 v' n (xs.take n)/\w.grownBy w' (some g)/\v'.ownBlock=some g:=by
 rcases ho.2 with ⟨e,_⟩ | ⟨g',c',cur,e,hbg,hg,hnc,hcm,hcs,ht⟩
 ·cases e
 cases e;have hxl:=ho.1;unfold maxLen at hcm;have mixed:Tryz.prog.follows .mixedOrders=true:=by kernel_rfl
 go_enter Tryz.func78,Tryz.ntmps78
 go_wp2_with fail
 refine hix.mono ?_;rintro e w1 ⟨rfl,hB⟩;have HB:=Lib.hid hB;have Hg:=Lib.hid hg;have Hx:=Lib.hid ht;have hne:¬((n:Int) = -1):=by omega
 have hw:IntKind.i64.wrap ((n:Int)+1)=(n:Int)+1:=IntWalk.i64_in _ (by omega);have hlt:¬((n:Int)+1<((n+1:Nat):Int)):=by omega
 have X5:(0:Int)<=n:=by omega
 have hb2:(n:Int)<=((n+1:Nat):Int):=by omega
 have hb3:(n:Int)<=c:=by omega
 have hb4:((n+1:Nat):Int)<=c:=by omega
 have hcn:¬c=n:=by omega
 have hglt:=Lib.hid (Aw.1 hg).1;clear hix hB hg ht ho
 go_wp2_with fail
 go_loopw [5,6] (fun k i wr=>k = .int .i64 (n:Int)/\i = .int .i64 ((n:Int)+1)/\Hid (Below w.heap.size w wr)) (fun _ _ _=>0)
 case atStart=>exact⟨rfl,rfl,HB⟩
 case round=>
  obtain⟨rfl,rfl,HS⟩:=hrel;have hgw:wr.heap[g]? = some (.cells cur 3 (0,0)):=(HS.out.block g hglt.out).trans Hg.out;have hcv:=fun ty cc=>Kr (P:=Tryz.prog) wr 30 3 ty (.int .i64 0) 1 Tryz.underlying30 (fun w=>by kernel_rfl) rfl (by simp [Value.cells,Value.oneCell']) g n cc 3 cur hgw (by omega)
  have HG:=Lib.hid hgw;clear hgw
  go_wp2_with (simp only [hcv])
  go_ret
  have hB:=HS.out;refine⟨_,rfl,⟨by rw [Aq,hxl];omega, .inr ⟨g,c,_,rfl,hbg,setRow_heap wr g _ _ 3 _ HG.out,by omega,by unfold maxLen;omega,?_,?_⟩⟩,World.grownBy.trans ⟨hB.os,hB.tape,hB.output,hB.size,fun k hk _=>hB.block k hk⟩ (D6 rfl),rfl⟩
  ·rw [Bx,G8 _ _ _ (by show n+1<=cur.toList.length;rw [BD];omega),BD,hcs]
  ·have hl:(cur.toList.take n).length=n:=by rw [Aq,BD,hcs];omega
   rw [QG,List.take_left' (by rw [hl];omega),<-Hx.out,List.take_take];congr 1;omega
end
end Go.Proofs.YtpjkcgacjjbikaaGreatDoor
namespace Go.Proofs.YtpjkcgacjjbikaaGreatDoor.A
section
open Go.RowKit
theorem icF_len:∀ l:List Int,(l.map Fc).flatten.length=l.length
 | []=>rfl
 | x::r=>by rw [A6,A8,Ah,icF_len r,Ao,CD];rfl
theorem V1 (l:List Int) (id:Int) (hl:l.length<=1000) (h:l.any (fun n=>n == id)=false):ACalls Tryz.prog false 78 [.ow 0 (l.length+1), .fn 353 [.rp [iv id]]] [.row 3 1 ((l ++ [id]).map Fc)] fun r H=>r = .ow 1 l.length/\H=[.dead, .row 3 1 (l.map Fc)]:=by
 have hix:=Vk (l ++ [id]) id (by rw [Ah];exact AS (Nat.succ_le_succ hl) (by decide));rw [Ek (p:=fun n=>n == id) (l:=l ++ [id]) (k:=l.length) (d:=(0:Int)) (by rw [Ah];exact Bu _) (by rw [List.take_left];exact h) (by rw [Dg (Ag _),BA];exact beq_self_eq_true id)] at hix;have hlen:((l ++ [id]).map Fc).length=l.length+1:=by rw [Aa,Ah];try rfl
 have hsub:SubL [.sl 1 (l.length+1) fun i=>((l ++ [id]).map Fc).getD i [], .fn 353 [.rp [iv id]]] [iA (l ++ [id]), .fn 353 [.rp [iv id]]]:=⟨Cd (f:=Fc) (l ++ [id]) (by rw [Ah];try rfl) rfl,ri,tv⟩;refine⟨⟨_,Tryz.func78,rfl,rfl⟩,fun w0 M0 c us hs hr=>?_⟩;have hr0:=hr;have hj:([.row 3 1 ((l ++ [id]).map Fc)]:List AB)[0]? = some (.row 3 1 ((l ++ [id]).map Fc)):=rfl;obtain⟨h1,h2,h3,xs,h4,h5,h6⟩:=hs.blk 0 _ hj;simp only [RdL] at hr;obtain⟨v,us1,rfl,r1,v1,us2,rfl,r2,rfl⟩:=hr;have r1o:=r1;simp only [Rd] at r1;rw [hlen] at h1 h4;have hv:=r1.2.2.2 h1.symm;rcases h4.2 with ⟨_,h0⟩ | ⟨g,cc,cur,q1,q2,q3,q4,q5,q6,q7⟩
 ·omega
 have hv':v = .slice (some ⟨g,0,none⟩) (l.length+1) cc:=hv.trans q1;have hcall:=hix.sub hsub;obtain⟨r,H1,c',rfl,s2,s3,s4,s5,_⟩:=FG (k:=fun a _=>a = .sl 1 (l.length+1) fun i=>((l ++ [id]).map Fc).getD i []) hs r1o ⟨hlen.symm,rfl⟩;have s6:Rd (.fn 353 [.rp [iv id]]) c'.closed v1:=Rd.ext _ s4.closed (Rd.cut (c:=c) (c':=c.closed) _ ⟨zM _,fun k hk=>absurd hk (Ap k)⟩ rfl r2);have hc0:=hcall.2 c'.closed [v,v1] rfl s3.lt s3.glob (by simp only [RdL];exact⟨_,_,rfl,s5,_,_,rfl,s6,rfl⟩);rw [show c'.closed.w=c.w from s2] at hc0;have hc1:Calls Tryz.prog 152 #[v,v1] c.w fun e w'=>e = .returned (.int .i64 (l.length:Nat))/\Below c.w.heap.size c.w w':=hc0.mono fun e w' ⟨v,r,e1,e2,e3,e4⟩=>by
  subst e2;simp only [Rd] at e4;subst e4;exact⟨e1,e3⟩
 rw [hv'] at hc1;have:=ab g cc l.length xs c.base c.w v1 (by rw [<-hv',hv];exact h4) (by omega) hc1;rw [hv'];refine this.mono ?_;rintro e' w' ⟨v',rfl,p1,p2,p3⟩;have hl2:(l.map Fc).length=l.length:=Aa _;have hob':=Lu p1;have hog:oB (c.rho 0)=some g:=by rw [q1];try rfl
 rw [<-hog] at p2 p3;rw [<-hob'] at p3;obtain⟨s1,s2,s3⟩:=hs.rerow (es':=l.map Fc) hj (by rw [hl2];exact p1) p2 (.inl p3) h2 (fun x hx=>by
   obtain⟨y,_,rfl⟩:=AK.1 hx;rfl) (by
   have e:(l.map Fc).flatten=(((l ++ [id]).map Fc).flatten).take l.length:=by
    rw [A0,AU,List.take_left' (icF_len l)]
   rw [e];exact h5.take _) (fun u hu=>h6 u (Br hu))
 exact⟨v',_,_,_,rfl,rfl,tA,s1,s2,by rw [<-hl2];exact s3,fun e=>by cases e⟩
theorem Rb (x:Lck) (hx:x.reads.length<=1000):ACalls Tryz.prog false 49 [BR [x]] [] fun r H=>r = .ow 0 1/\H=[.rowo 216 3 [[iv x.lba, .ow 1 x.reads.length,iv x.writer]] 2, .row 3 1 (x.reads.map Fc)]:=by
 have hc:=IG x.reads (by omega);refine zV tys_ok Tryz.func49 rfl rfl (Ad rfl) ?_;conv=>whnf
 refine zW (Nq [x] (by show 1<=1000000000;decide)) rfl ?_;rintro _ _ ⟨rfl,rfl⟩;conv=>whnf
 refine zS Nat (fun k=>match k with
  | 0=>([(0, .ow 0 1),(7,iv 1),(8,iv 0)], [.rowo 216 3 [Ey x] 0])
  | _+1=>([(0, .ow 0 1),(7,iv 1),(8,iv 1)], [.rowo 216 3 [[iv x.lba, .ow 1 x.reads.length,iv x.writer]] 2, .row 3 1 (x.reads.map Fc)])) (fun k=>k<=1) (fun k=>1 - k) 0 (Aj _)
  (zL (zP (ConvH.rowo (k:=0) rfl)) (s:= [0]) ⟨tA,⟨⟨rfl,_,rfl⟩,tv⟩,rfl,rfl,rfl,rfl,rfl⟩) ?_
 rintro k hk;cases k with
 | zero=>
  refine⟨⟨by decide,by decide⟩,?_⟩;refine⟨⟨rfl,rfl,by decide⟩,?_⟩;conv=>whnf
  refine zW hc rfl ?_;rintro _ _ ⟨rfl,rfl⟩;refine⟨⟨by decide,by decide⟩,?_⟩;refine⟨⟨rfl,rfl,by decide⟩,?_⟩;exact⟨1,Ag _,by decide,zR (s:= [0,1]) ⟨tA,⟨⟨rfl,_,rfl⟩,rfl,tv⟩,rfl,rfl,rfl,rfl,rfl⟩⟩
 | succ k=>
  exact⟨.ow 0 1, .ow 0 1, [.rowo 216 3 [[iv x.lba, .ow 1 x.reads.length,iv x.writer]] 2, .row 3 1 (x.reads.map Fc)],fun _ _ h=>h,zR (s:= [0,1]) ⟨tA,⟨⟨rfl,_,rfl⟩,rfl,tv⟩,rfl,rfl,rfl,rfl,rfl⟩,rfl,rfl⟩
def Mq (y:Int) (rs:List Int):List Lck:=if 0<rs.length then [⟨y,rs, -1⟩] else []
theorem Ts (y id:Int) (rs:List Int) (hok:Hv [(⟨y,rs ++ [id], -1⟩:Lck)]=true) (hid:0<=id) (h:rs.any (fun n=>n == id)=false):Fn Tryz.prog 287 [BR [(⟨y,rs ++ [id], -1⟩:Lck)],iv id] fun r=>r = .tp [BR (Mq y rs),iv 0]:=by
 have c1:=G7 [(⟨y,rs ++ [id], -1⟩:Lck)] hok;have hrd:(rs ++ [id]).length<=8:=by
  simp only [Hv,Ae] at hok;have:=Au.1 hok.2.2 ⟨y,rs ++ [id], -1⟩ (A4.2 rfl);simp only [GQ,Ae,decide_eq_true_eq] at this;exact this.1
 have c2:=Rb (⟨y,rs ++ [id], -1⟩:Lck) (by show (rs ++ [id]).length<=1000;omega);have hlen:(rs ++ [id]).length=rs.length+1:=by rw [Ah];try rfl
 have c3:=V1 rs id (by omega) h;simp only [hlen] at c2;have hib:((-1:Int) == id)=false:=beq_eq_false_iff_ne.2 (by omega);refine zT Tryz.func287 rfl ?_;conv=>whnf
 refine zY c1 ?_;conv=>whnf
 rw [decide_eq_false (show ¬id<0 by omega)];conv=>whnf
 refine zW c2 rfl ?_;rintro _ _ ⟨rfl,rfl⟩;conv=>whnf
 refine zS Nat (fun k=>match k with
  | 0=>([(3, .rp [iv id]),(6, .ow 2 0),(17, .ow 0 1),(18,iv 1),(19,iv 0)], [.rowo 216 3 [[iv y, .ow 1 (rs.length+1),iv (-1)]] 2, .row 3 1 ((rs ++ [id]).map Fc), .row 216 3 []])
  | _+1=>([(3, .rp [iv id]),(6, .ow 0 (Mq y rs).length),(18,iv 1),(19,iv 1)], [.row 216 3 ((Mq y rs).map Ey)])) (fun k=>k<=1) (fun k=>1 - k) 0 (Aj _)
  ⟨_,_,zd 3 0 (y:= .rp [iv id]) (H':= [.dead, .rowo 216 3 [[iv y, .ow 2 (rs.length+1),iv (-1)]] 3, .row 3 1 ((rs ++ [id]).map Fc)]) rfl (by (conv=>whnf);exact tA), [(6,216,3)],tA, [1,2,3],⟨tA,⟨⟨rfl,_,rfl⟩,rfl,rfl,tv⟩,rfl,rfl,rfl,rfl,rfl⟩⟩ ?_
 rintro k hk;cases k with
 | zero=>
  conv=>whnf
  repeat' (refine zZ ?_;conv=>whnf)
  refine⟨⟨by decide,by decide⟩,?_⟩;refine⟨⟨rfl,rfl,by decide⟩,?_⟩;conv=>whnf
  refine ze9 [1] c3 ?_;rintro _ _ ⟨rfl,rfl⟩;conv=>whnf
  refine y_ Unit (fun _=>([(3, .rp [iv id]),(6, .ow 1 0),(8, .bp 0 0),(18,iv 1),(19,iv 0)], [.box 216 [iv y,iA rs,iv (-1)], .row 216 3 []])) (fun _=>True) ?_ ?_
  ·conv=>whnf
   rw [hib];exact⟨(),tv,zL (zP (z7 (zp 3 4 (cs2:= [iv y, .sl 1 (rs.map Fc).length fun i=>(rs.map Fc).getD i [],iv (-1)]) rfl rfl (by
    show ([iv y, .ow 4 rs.length,iv (-1)]:List AV).map _=_;simp only [A6,By,Oc (show rs.length=(rs.map Fc).length from (Aa _).symm)];rfl)) (zJ (cs':= [iv y,iA rs,iv (-1)]) 3 rfl ⟨ri,Cd (f:=Fc) rs (Aa _) rfl,ri,tv⟩))) (s:= [3,2]) tA⟩
  intro _ _;conv=>whnf
  repeat' (refine zZ ?_;conv=>whnf)
  by_cases hz:0<rs.length
  ·have o:Mq y rs=[⟨y,rs, -1⟩]:=if_pos hz;rw [show decide ((rs.length:Int) > 0)=true from decide_eq_true (by omega)];conv=>whnf
   repeat' (refine zZ ?_;conv=>whnf)
   refine⟨rfl,?_⟩;refine⟨⟨rfl,by omega⟩,?_⟩;conv=>whnf
   exact⟨1,Ag _,by decide,zR (s:= [1]) ⟨⟨rfl,by rw [o];try rfl,rfl,rfl,tv⟩,⟨by rw [o];try rfl,tv⟩,rfl,rfl,rfl,rfl,rfl⟩⟩
  ·have o:Mq y rs=[]:=if_neg hz;rw [show decide ((rs.length:Int) > 0)=false from decide_eq_false (by omega)];conv=>whnf
   repeat' (refine zZ ?_;conv=>whnf)
   exact⟨1,Ag _,by decide,zR (s:= [1]) ⟨⟨rfl,by rw [o];try rfl,rfl,rfl,tv⟩,⟨by rw [o];try rfl,tv⟩,rfl,rfl,rfl,rfl,rfl⟩⟩
 | succ k=>
  refine Ai (Aa _).symm ?_;exact⟨_,BT (m:= [BR (Mq y rs),iv 0]) ⟨Cd (f:=Ey) (Mq y rs) rfl rfl,ri,tv⟩,rfl⟩
def b8:List UInt8:= [1,2,3,4,5,6,7,8]
def lbX:ByteArray:=⟨#[120]⟩
theorem lab_x8:Er lbX.data.toList=0:=by decide +kernel
theorem ZY {y:Int} (h:0<=y/\y<=1000000):LkI [] y:=⟨rfl,by decide,(fun x hx=>by cases hx),h, .inr rfl⟩
theorem X5 (i:Int) (b:List (List UInt8)) (hb:b.length<=1000/\∀ x∈b,x.length<=1000000) (a:List Int) (ha:a.length<=1000):∀ h∈ [(⟨i,a,b⟩:Hd)],KX h:=fun h hh=>by
 rw [A4] at hh;subst hh;exact⟨ha,hb.1,hb.2⟩
theorem wakes26_fn:Fn Tryz.prog 21 [] fun r=>r = .v (.bool true):=by
 have h1:=RO 0 1 0 0 1;have hg:=OZ 0 1 0 0 1;have hzd:(FY 0 1 0 0 1).z*(FY 0 1 0 0 1).d=2:=by decide
 have hbd:4*(FY 0 1 0 0 1).sl+4*(FY 0 1 0 0 1).an+16*(FY 0 1 0 0 1).z*((FY 0 1 0 0 1).d+(FY 0 1 0 0 1).sp+4)+8=168:=by decide
 generalize FY 0 1 0 0 1=g at h1 hg hzd hbd;obtain⟨D,hM,hdk,hlen,hgd,hvo⟩:=UN (lb:=lbX) hg lab_x8;have v0:Vm g 2 D (IC g lbX):=⟨hgd,hvo,Vb hg⟩;have hl0:(IC g lbX).l=[]:=rfl;have hm0:(IC g lbX).m=[zero8,zero8]:=by show List.replicate (g.z*g.d).toNat zero8=_;rw [hzd];try rfl
 have c1:=RJ g lbX hg lab_x8 (by decide);have c2:=Up g (DD g lbX) (sp 2 0 0 []) ⟨by decide,by decide⟩;have c3:=MT g (DD g lbX) D _ (sp 1 0 0 []) rfl ⟨by have:=hdk.n;omega,by have:=hdk.m;omega⟩ rfl (by decide) hgd.left (Wb g (DD g lbX) D _ hg hdk hlen hM (au hg lab_x8));obtain⟨M,hMe⟩:∃ M,M=IC g lbX:=⟨_,rfl⟩;rw [<-hMe] at v0 hl0 hm0 c3;have cw:=Nm [] 1 0 (ZY (by decide)) (by decide) rfl;have cd:=LE [⟨1, [],0⟩] 0 rfl (by decide) (by decide);have cr:=Np [] 1 0 (ZY (by decide)) (by decide) rfl;have hbs:=Mu b8 (by decide);have cb:=SD g hg;rw [hbd] at cb;have s1:=La (b:=true) (L:= []) (l:= []) v0 (fun _=>hl0) (by decide) (fun h hh=>by cases hh) rfl rfl 0 0;simp only [show DW []=([⟨0, [], []⟩],0,0) from rfl] at s1;have hd8:∀ h∈ [(⟨0, [1], [b8]⟩:Hd)],KX h:=X5 0 [b8] (by decide) [1] (by decide);have hd0:∀ h∈ [(⟨0, [], []⟩:Hd)],KX h:=X5 0 [] ⟨by decide,fun x h=>by cases h⟩ [] (by decide);refine zT Tryz.func21 rfl ?_;conv=>whnf
 refine zY h1 ?_;conv=>whnf
 refine zW c1 rfl ?_;rintro _ _ ⟨rfl,rfl⟩;conv=>whnf
 refine zU [.bp 1 0, .ag (GV (sp 2 0 0 []))] ⟨ri,AW (Em 2 0 0),tv⟩ ?_;refine ze9 [1] c2 ?_;rintro _ _ ⟨rfl,rfl⟩;conv=>whnf
 refine zU [.bp 1 0, .ag (GV (sp 1 0 0 []))] ⟨ri,AW (Em 1 0 0),tv⟩ ?_;refine ze9 [1] c3 ?_;rintro _ _ ⟨rfl,rfl⟩;conv=>whnf
 refine y_ Unit (fun _=>([(1, .bp 0 0),(2, .bp 1 0),(4,bA b8)],(.box 24 (Bh g))::ES g D (AI M.a M.l) true [] [])) (fun _=>True) ?_ ?_
 ·exact⟨(),tv,zL (zN (zF 4 2 rfl rfl) (zB 4 rfl (NN (L:=b8) rfl rfl))) (s:= [0,1]) tA⟩
 intro _ _;conv=>whnf
 refine zU [.bp 1 0, .ag (GV (sp 2 0 0 []))] ⟨ri,AW (Em 2 0 0),tv⟩ ?_;refine ze9 [1] s1 ?_;rintro _ _ ⟨d1,v1,rfl,rfl⟩;have s2:=OQ (b:=true) (L:= []) (l:= [⟨0, [], []⟩]) (Zl [] 1 0) hg v1 (fun _=>hl0) 0 1 b8 rfl (by decide) hd0 rfl ⟨by decide,by rw [hzd];decide⟩ rfl rfl rfl cw;conv=>whnf
 refine ze9 [1] s2 ?_;rintro _ _ ⟨d2,v2,rfl,rfl⟩;have s3:=SI (L:= [⟨1, [],0⟩]) (l:= [⟨0, [1], [b8]⟩]) (DZ [⟨1, [],0⟩] 0) hg v2 (by decide) hl0 0 1 0 b8 (by decide) hd8 rfl ⟨by decide,by rw [hzd];decide⟩ rfl rfl cd;conv=>whnf
 refine zU [.bp 1 0, .ag (GV (sp 5 0 0 []))] ⟨ri,AW (Em 5 0 0),tv⟩ ?_;refine ze9 [1] s3 ?_;rintro _ _ ⟨d3,M2,v3,hm3,rfl,rfl⟩;have s4:=La (b:=false) (L:= []) (l:= []) v3 (fun h=>by cases h) (by decide) (fun h hh=>by cases hh) rfl rfl 0 0;simp only [show DW []=([⟨0, [], []⟩],0,0) from rfl] at s4;conv=>whnf
 refine zU [.bp 1 0, .ag (GV (sp 2 0 0 []))] ⟨ri,AW (Em 2 0 0),tv⟩ ?_;refine ze9 [1] s4 ?_;rintro _ _ ⟨d4,v4,rfl,rfl⟩;have s5:=RK (L:= []) (l:= [⟨0, [], []⟩]) ([] ++ [⟨1, [0], -1⟩]) hg v4 0 1 (by decide) hd0 rfl ⟨by decide,by rw [hzd];decide⟩ rfl cr;rw [show M2.m.getD (Int.toNat 1) []=b8 by rw [hm3,hm0];try rfl] at s5;conv=>whnf
 refine zU [.bp 1 0, .ag (GV (sp 3 0 1 []))] ⟨ri,AW (Em 3 0 1),tv⟩ ?_;refine ze9 [1] s5 ?_;rintro _ _ ⟨d5,v5,rfl,rfl⟩;conv=>whnf
 refine zY cb ?_;conv=>whnf
 refine zY hbs ?_;exact⟨_,ri,rfl⟩
def Dk.faultX (d:Dk) (kind a frm bit bits:Int):Dk:=if (d.fault kind a frm bit bits).2=0 then (d.fault kind a frm bit bits).1 else dk0

structure Gr where
 f:Int->Gt
 cells:List Cel
 cache:List Wr
instance:CoeFun Gr fun _=>Int->Gt:=⟨Gr.f⟩
structure Gs (n:Int) (d:Dk) (G:Gr):Prop where
 ok:DkOk d
 left:d.left = -1
 len:(d.cells.length:Int)=n
 got:∀ a:Int,0<=a->a<n->d.got a=((G a).bytes,(G a).err)
 cells:d.cells=G.cells
 cache:d.cache=G.cache
theorem Gs.req {n:Int} {d:Dk} {G:Gr} (h:Gs n d G):Gs n d.req G:=⟨h.ok.req,by unfold Dk.req;rw [h.left];try rfl,h.len,h.got,h.cells,h.cache⟩
theorem Gs.read {n:Int} {d:Dk} {G:Gr} (h:Gs n d G) {a:Int} (h0:0<=a) (h1:a<n):d.read a=(d.req,(G a).bytes,(G a).err):=by
 unfold Dk.read;rw [if_neg (by rw [h.left];decide),h.got a h0 h1]
def Ov (d:Dk):Gr:=⟨fun a=>⟨(d.got a).2,(d.got a).1⟩,d.cells,d.cache⟩
theorem Gs.of {n:Int} {d:Dk} (h:DkOk d) (hl:d.left = -1) (hn:(d.cells.length:Int)=n):Gs n d (Ov d):=⟨h,hl,hn,fun _ _ _=>rfl,rfl,rfl⟩


@[reducible] def aK (g:Geo) (t:List Ent) (had l:List (List UInt8)):List AB:= [.box 348 [iv g.d,BX t,GW had], .row 22 1 (l.map M8)]



structure AtsOk (g:Geo) (l:List Int):Prop where
 pos:0<l.length
 len:l.length<=1000
 at_:∀ i:Nat,i<l.length->0<=l.getD i 0/\l.getD i 0<g.d
 up:∀ i:Nat,i+1<l.length->l.getD i 0<l.getD (i+1) 0
theorem AtsOk.lt {g:Geo} {l:List Int} (h:AtsOk g l):∀ {j k:Nat},j<k->k<l.length->l.getD j 0<l.getD k 0:=fun {j k} hjk hk=>by
 induction k with
 | zero=>omega
 | succ k ih=>
  by_cases e:j=k
  ·rw [e];exact h.up k hk
  ·exact Int.lt_trans (ih (by omega) (by omega)) (h.up k hk)
theorem AtsOk.inj {g:Geo} {l:List Int} (h:AtsOk g l) {j k:Nat} (hj:j<l.length) (hk:k<l.length) (e:l.getD j 0=l.getD k 0):j=k:=by
 rcases Nat.lt_trichotomy j k with q | q | q
 ·have:=h.lt q hk;omega
 ·exact q
 ·have:=h.lt q hj;omega
section
variable {g:Geo} {t:List Ent} {had:List (List UInt8)} {ats:List Int} {bs:List (List UInt8)}
end

theorem KY {d:Dk} (h:d.left = -1) (a:Int) (b:List UInt8):(d.write a b).2≠8/\(d.write a b).1.left = -1:=by
 have e:d.req.left = -1:=by unfold Dk.req;rw [h];try rfl
 unfold Dk.write;rw [if_neg (by rw [h];decide)];split
 ·exact⟨by show (7:Int)≠8;decide,e⟩
 ·exact⟨by show (0:Int)≠8;decide,e⟩
def XT (g:Geo) (d:Dk) (x:Rc) (Q:Int):Dk:=((d.write (Bc g 0 Q) (B6 g x 0 Q)).1.write (Bc g 1 Q) (B6 g x 1 Q)).1
def dW (g:Geo) (P:Int) (R:List Rc) (d:Dk):Nat->Dk
 | 0=>d
 | i+1=>XT g (dW g P R d i) (R.getD i rc0) (E1 g P (i:Nat))
theorem Y9 {g:Geo} (hg:Bt g=true) {d:Dk} {x:Rc} {Q:Int} (hx:EH g x=true) (hQ:0<=Q/\Q<g.sl) (h:DkOk d) (hl:d.left = -1) (hn:(d.cells.length:Int)=A7 g):DkOk (XT g d x Q)/\(XT g d x Q).left = -1/\((XT g d x Q).cells.length:Int)=A7 g:=by
 have b0:=E3 hg hn (.inl rfl) hQ (c:=0);have b1:=E3 hg hn (.inr rfl) hQ (c:=1);have h1:=h.write (a:=Bc g 0 Q) (b:=B6 g x 0 Q) (by omega) (Ce hx 0 Q);have l1:=(KY hl (Bc g 0 Q) (B6 g x 0 Q)).2;have n1:=KH d (Bc g 0 Q) (B6 g x 0 Q);have h2:=h1.write (a:=Bc g 1 Q) (b:=B6 g x 1 Q) (by omega) (Ce hx 1 Q);have l2:=(KY l1 (Bc g 1 Q) (B6 g x 1 Q)).2;have n2:=KH (d.write (Bc g 0 Q) (B6 g x 0 Q)).1 (Bc g 1 Q) (B6 g x 1 Q);exact⟨h2,l2,by show ((((d.write _ _).1.write _ _).1.cells.length:Nat):Int)=_;omega⟩
theorem Yh {g:Geo} (hg:Bt g=true) {P:Int} {R:List Rc} {n:Nat} (hR:∀ i:Nat,i<n->EH g (R.getD i rc0)=true) (hP:∀ i:Nat,i<n->0<=E1 g P (i:Nat)/\E1 g P (i:Nat)<g.sl) {d:Dk} (h:DkOk d) (hl:d.left = -1) (hn:(d.cells.length:Int)=A7 g):∀ i,i<=n->DkOk (dW g P R d i)/\(dW g P R d i).left = -1/\((dW g P R d i).cells.length:Int)=A7 g
 | 0,_=>⟨h,hl,hn⟩
 | i+1,hi=>by
  obtain⟨q1,q2,q3⟩:=Yh hg hR hP h hl hn i (by omega);exact Y9 hg (hR i (by omega)) (hP i (by omega)) q1 q2 q3


theorem MQ (d:Dk) (a:Int) (b:List UInt8):(d.write a b).1.cells=d.cells/\∃ W,(d.write a b).1.cache=d.cache ++ W/\∀ w∈W,w.addr=a:=by
 unfold Dk.write;split
 ·simp_all
 ·split
  ·exact⟨rfl, [],(AE _).symm,fun w hw=>by cases hw⟩
  ·exact⟨rfl, [⟨a,b⟩],rfl,fun w hw=>by rw [A4] at hw;rw [hw]⟩
theorem WT {g:Geo} (d:Dk) (x:Rc) {Q:Int} (hQ:0<=Q/\Q<g.sl):(XT g d x Q).cells=d.cells/\∃ W,(XT g d x Q).cache=d.cache ++ W/\∀ w∈W,g.an<=w.addr/\w.addr<g.an+2*g.sl:=by
 obtain⟨e1,W1,c1,h1⟩:=MQ d (Bc g 0 Q) (B6 g x 0 Q);obtain⟨e2,W2,c2,h2⟩:=MQ (d.write (Bc g 0 Q) (B6 g x 0 Q)).1 (Bc g 1 Q) (B6 g x 1 Q);refine⟨e2.trans e1,W1 ++ W2,by unfold XT;rw [c2,c1,AA],fun w hw=>?_⟩;rcases Az.1 hw with q | q
 ·rw [h1 w q];exact Hu (.inl rfl) hQ
 ·rw [h2 w q];exact Hu (.inr rfl) hQ
theorem VU {g:Geo} {P:Int} {R:List Rc} {n:Nat} (hP:∀ i:Nat,i<n->0<=E1 g P (i:Nat)/\E1 g P (i:Nat)<g.sl) (d:Dk):∀ i,i<=n->(dW g P R d i).cells=d.cells/\∃ W,(dW g P R d i).cache=d.cache ++ W/\∀ w∈W,g.an<=w.addr/\w.addr<g.an+2*g.sl
 | 0,_=>⟨rfl, [],(AE _).symm,fun w hw=>by cases hw⟩
 | i+1,hi=>by
  obtain⟨e1,W1,c1,h1⟩:=VU (R:=R) hP d i (by omega);obtain⟨e2,W2,c2,h2⟩:=WT (dW g P R d i) (R.getD i rc0) (hP i (by omega));refine⟨e2.trans e1,W1 ++ W2,by show (XT g _ _ _).cache=_;rw [c2,c1,AA],fun w hw=>?_⟩
  grind
theorem TM {d:Dk} {q:Int} (hq:0<=q/\q<d.cells.length) (h:∀ w∈d.cache,0<=w.addr/\w.addr≠q):d.flush.got q=if (d.cells.getD q.toNat cz).state=0 then ((d.cells.getD q.toNat cz).bytes,0) else ([],6):=by
 have e:d.flush.cells=C7 d.cells d.cache:=by
  unfold Dk.flush;rw [allFin_cells];try rfl
 unfold Dk.got;rw [e,show d.flush.cache=[] from rfl];show (if ((C7 d.cells d.cache).getD q.toNat cz).state=0 then (((C7 d.cells d.cache).getD q.toNat cz).bytes,(0:Int)) else ([],6))=_;rw [finL_miss _ _ _ (by omega) fun w hw=>by have:=h w hw;omega]
theorem Gs.after {g:Geo} (hg:Bt g=true) {P:Int} {R:List Rc} {n:Nat} (hR:∀ i:Nat,i<n->EH g (R.getD i rc0)=true) (hP:∀ i:Nat,i<n->0<=E1 g P (i:Nat)/\E1 g P (i:Nat)<g.sl) {d:Dk} {G:Gr} (h:Gs (A7 g) d G) (hc:d.cache=[]):Gs (A7 g) (dW g P R d n).flush (Ov (dW g P R d n).flush)/\(∀ q,g.an+2*g.sl<=q->q<A7 g->Ov (dW g P R d n).flush q=G q)/\(dW g P R d n).flush.cache=[]:=by
 obtain⟨g1,g2,g3,g4,g5⟩:=Ay.1 hg;obtain⟨h1,h2,h3⟩:=Yh hg hR hP h.ok h.left h.len n (Ag _);obtain⟨e1,W,c1,hW⟩:=VU (R:=R) hP d n (Ag _);rw [hc,Bq] at c1;generalize dW g P R d n=D at *
 have hl:=h.len;refine⟨Gs.of h1.flush ?_ ?_,fun q q1 q2=>?_,rfl⟩
 ·unfold Dk.flush;rw [allFin_cells];show D.req.left = -1;unfold Dk.req
  grind
 ·unfold Dk.flush;rw [allFin_cells];show ((C7 D.cells D.cache).length:Int)=_;rw [finL_len];exact h3
 ·have hq:=h.got q (by omega) q2;have hf:=TM (d:=D) (q:=q) ⟨by omega,by omega⟩ (by rw [c1];intro w hw;have:=hW w hw;omega);unfold Ov;simp only;have hd:d.got q=D.flush.got q:=by
   rw [hf,e1];unfold Dk.got;rw [hc];try rfl
  simp_all
theorem Gd.gs {n:Int} {d:Dk} {F:Int->List UInt8} (h:Gd n d F):Gs n d (Ov d)/\∀ q,0<=q->q<n->Ov d q=⟨0,F q⟩:=
 ⟨Gs.of h.ok h.left h.len,fun q h0 h1=>by show (⟨_,_⟩:Gt)=_;rw [h.got h0 h1]⟩
section
variable {g:Geo} {s:ByteArray} {b:An} {fill:UInt8} {sizes:List Int} {d:Dk} {bad0 bad1:Int->Bool}
end
structure Sk (k n:Int) (d:Dk) (F:Int->List UInt8) (A:Int->Prop):Prop where
 ok:DkOk d
 left:d.left = -1
 len:(d.cells.length:Int)=n
 cache:d.cache=[]
 cell:∀ a:Int,0<=a->a<n->(d.cells.getD a.toNat cz).bytes=F a/\((d.cells.getD a.toNat cz).state=0/\¬A a\/(d.cells.getD a.toNat cz).state=k/\A a)
theorem Gd.sk {k n:Int} {d:Dk} {F:Int->List UInt8} (h:Gd n d F):Sk k n d F fun _=>False:=⟨h.ok,h.left,h.len,h.cache,fun a h0 h1=>⟨(h.cell a h0 h1).2, .inl ⟨(h.cell a h0 h1).1,id⟩⟩⟩
theorem Sk.fault {k j n:Int} {d:Dk} {F:Int->List UInt8} {A:Int->Prop} (hk:k=1/\j=11\/k=2/\j=12) (h:Sk k n d F A) {q:Int} (hq:0<=q/\q<n):(d.fault j q 0 0 0).2=0/\Sk k n (d.faultX j q 0 0 0) F fun a=>A a\/a=q:=by
 have hl:=h.len;have e:d.fault j q 0 0 0=(Iq d q { d.cells.getD q.toNat cz with state:=k },0):=by
  have hc:=h.cell q hq.1 hq.2;unfold Dk.fault;rw [if_neg (by rw [Bool.not_eq_false,AJ];omega),if_neg (by rw [h.cache];decide)]
  grind
 have ho:=h.ok.fault j q 0 0 0;unfold Dk.faultX;rw [e] at ho |-
 rw [if_pos rfl];refine⟨rfl,ho.1,h.left,by rw [<-hl];exact congrArg Nat.cast ho.2.1,h.cache,fun a h0 h1=>?_⟩;have hc:=h.cell a h0 h1;show ((d.cells.set q.toNat _).getD a.toNat cz).bytes=_/\_;rw [show (Iq d q { d.cells.getD q.toNat cz with state:=k }).cells=d.cells.set q.toNat { d.cells.getD q.toNat cz with state:=k } from rfl,O0 _ _ _ _ (by omega)]
 grind
theorem Sk.gs {k n:Int} {d:Dk} {F:Int->List UInt8} {A:Int->Prop} (hk:k=1\/k=2) (h:Sk k n d F A) {q:Int} (h0:0<=q) (h1:q<n):(¬A q->Ov d q=⟨0,F q⟩)/\(A q->(Ov d q).err≠0):=by
 have hc:=h.cell q h0 h1;have e:Ov d q=⟨(if (d.cells.getD q.toNat cz).state=0 then ((d.cells.getD q.toNat cz).bytes,(0:Int)) else ([],6)).2,(if (d.cells.getD q.toNat cz).state=0 then ((d.cells.getD q.toNat cz).bytes,(0:Int)) else ([],6)).1⟩:=by
  show (⟨(d.got q).2,(d.got q).1⟩:Gt)=_;unfold Dk.got;rw [h.cache];try rfl
 grind
theorem Sk.stuck {n:Int} {d:Dk} {F:Int->List UInt8} {A:Int->Prop} (h:Sk 2 n d F A) {q:Int} (h0:0<=q) (h1:q<n):(A q->decide ((d.cells.getD q.toNat cz).state=2)=true)/\(¬A q->decide ((d.cells.getD q.toNat cz).state=2)=false):=by
 have hc:=h.cell q h0 h1
 grind

def Dk.vf (g:Geo) (d:Dk) (x:Sp):Dk × Int:=
 if (x.kind=14\/x.kind=15)/\(x.addr<0\/(d.cells.length:Int)<=x.addr) then (d,1)
 else if (x.kind=14\/x.kind=15)/\x.addr<g.an+2*g.sl then (d,9)
 else if (d.fault x.kind x.addr x.frm x.bit x.bits).2=0 then d.fault x.kind x.addr x.frm x.bit x.bits else (d,(d.fault x.kind x.addr x.frm x.bit x.bits).2)
theorem YK {y:Int} {x:Lck} (hx:x.lba=y) (hy:0<=y) (h:GQ x=true):Hv [x]=true:=by
 subst hx;simp only [Hv,M5,Gx,A6,By,List.length_singleton,Bb,BM,h,BC,B9,List.range_zero,Bq,List.getD_cons_zero,decide_true,Bool.true_or,decide_eq_true hy];rfl
theorem Yc {y:Int} {x:Lck} (hx:x.lba=y):Ip [x] y=true/\F1 ([x].map Lck.lba) y=0:=by
 subst hx;have e:F1 ([x].map Lck.lba) x.lba=0:=by simp [F1]
 exact⟨by unfold Ip;rw [e];simp,e⟩
theorem ZX {y:Int} {x:Lck} (hx:x.lba=y) (hy:0<=y/\y<=1000000) (h:GQ x=true):LkI [x] y:=
 ⟨YK hx hy.1 h,by show 1<64;decide,fun z hz=>by rw [A4] at hz;subst hz;omega,hy, .inl (Yc hx).1⟩
theorem MU (g:Geo) (d:Dk) (s:Stt) (b:Bool) (L:List Lck) (l:List Hd) (h:DkOk d):ACalls Tryz.prog false 22 [.bp 0 0] (ES g d s b L l) fun r H=>r = .ag (TV d)/\H=ES g d s b L l:=by
 have hn:=h.n;have hm:=h.m;have c1:=VP d (by omega) (by omega) (fun c hc=>by have:=(h.c c hc).2;omega) (fun w hw=>by have:=(h.w w hw).2;omega);cases b with
 | true=>
  refine zV tys_ok Tryz.func22 rfl rfl (Ad rfl) ?_;conv=>whnf
  refine zY c1 ?_;exact⟨_, .ag (TV d),ES g d s true L l,fun _ _ h=>h,zR (s:= [0]) tA,rfl,rfl⟩
 | false=>
  refine zV tys_ok Tryz.func22 rfl rfl (Ad rfl) ?_;conv=>whnf
  refine zY c1 ?_;exact⟨_, .ag (TV d),ES g d s false L l,fun _ _ h=>h,zR (s:= [0]) tA,rfl,rfl⟩
@[reducible] def h00:List Hd:= [⟨0, [], []⟩]
theorem h00_b:∀ h∈h00,KX h:=fun h hh=>by
 rw [A4] at hh;subst hh;exact⟨Aj _,Aj _,fun x hx=>by cases hx⟩
section
variable {g:Geo} {K:Int} {d:Dk} {M:Md} {b:Bool}
theorem Yw (hg:Bt g=true) (h:Vm g K d M) (hM:M.l=[]) (lba:Int) :
  ACalls Tryz.prog false 20 [.bp 0 0, .ag (GV (sp 3 0 lba []))] (ES g d (AI M.a M.l) b [] h00) fun r H=>∃ d' L' bs,Vm g K d' M/\(L'=if 0<=lba/\lba<g.z*g.d then [⟨lba, [0], -1⟩] else [])/\r = .ag (an7 (if 0<=lba/\lba<g.z*g.d then 0 else 17) 0 bs)/\H=ES g d' (AI M.a M.l) false L' h00:=by
 obtain⟨g1,g2,g3,g4,g5⟩:=Ay.1 hg;have hp:g.z*g.d<=16:=Int.le_trans (Bl g1.2 (by omega)) (by omega);by_cases hi:0<=lba/\lba<g.z*g.d
 ·refine(Ur (L:= []) (l:=h00) ([] ++ [⟨lba, [0], -1⟩]) hg h (fun _=>hM) 0 lba (by decide) h00_b rfl hi rfl (Np [] lba 0 (ZY (by omega)) (by decide) rfl)).mono ?_;rintro r H ⟨d',h1,h2,h3⟩;exact⟨d',_,_,h1,by rw [if_pos hi];try rfl,by rw [if_pos hi];exact h2,h3⟩
 ·refine((Us (b:=false) (L:= []) (l:=h00) hg h (fun e=>by cases e) 3 0 lba [] (.inl rfl) (by decide) rfl hi).pre (zJ (cs':=ON g d true (AI M.a M.l) (Dt M.l) (BR []) (C2 h00)) 0 rfl (GZ (KJ b fun _=>hM)))).mono ?_;rintro r H ⟨d',h1,h2,h3⟩;exact⟨d', [], [],h1,by rw [if_neg hi],by rw [if_neg hi];exact h2,h3⟩
theorem Yu (hg:Bt g=true) (h:Vm g K d M) (hM:M.l=[]) (lba:Int) (bs:List UInt8) (L:List Lck) (hL:L=if 0<=lba/\lba<g.z*g.d then [⟨lba, [0], -1⟩] else []) :
  ACalls Tryz.prog false 20 [.bp 0 0, .ag (GV (sp 4 0 lba bs))] (ES g d (AI M.a M.l) b L h00) fun r H=>∃ d' L' l',Vm g K d' M/\(l'.length<=1000/\(∀ h∈l',KX h)/\Eb l' 0=true)/\(∃ L2,Fn Tryz.prog 287 [BR L',iv 0] fun r=>r = .tp [BR L2,iv 0])/\r = .ag (an7 (if 0<=lba/\lba<g.z*g.d then (if bs.length=8 then 0 else 1) else 17) 0 [])/\H=ES g d' (AI M.a M.l) b L' l':=by
 obtain⟨g1,g2,g3,g4,g5⟩:=Ay.1 hg;have hp:g.z*g.d<=16:=Int.le_trans (Bl g1.2 (by omega)) (by omega);by_cases hi:0<=lba/\lba<g.z*g.d
 ·rw [if_pos hi] at hL;subst hL;have hr1:GQ ⟨lba, [0], -1⟩=true:=rfl;have hw1:GQ ⟨lba, [],0⟩=true:=rfl;by_cases h8:bs.length=8
  ·have hh:=Yc (x:=⟨lba, [0], -1⟩) (y:=lba) rfl;have hfr:Su [⟨lba, [0], -1⟩] lba 0=true:=by unfold Su;rw [hh.1,hh.2];try rfl
   have hwr:Zl [⟨lba, [0], -1⟩] lba 0=[⟨lba, [],0⟩]:=by unfold Zl;rw [hh.1,hh.2];try rfl
   have c:=Nm [⟨lba, [0], -1⟩] lba 0 (ZX rfl (by omega) hr1) (by decide) hfr;rw [hwr] at c;refine(OQ (b:=b) (L:= [⟨lba, [0], -1⟩]) (l:=h00) [⟨lba, [],0⟩] hg h (fun _=>hM) 0 lba bs rfl (by decide) h00_b rfl hi h8 rfl rfl c).mono ?_;rintro r H ⟨d',h1,h2,h3⟩;refine⟨d', [⟨lba, [],0⟩], [⟨0, [lba], [bs]⟩],h1,⟨by show 1<=1000;decide,X5 0 [bs] ⟨by show 1<=1000;decide,fun x hx=>by rw [A4] at hx;subst hx;omega⟩ [lba] (by show 1<=1000;decide),rfl⟩,⟨_,LE [⟨lba, [],0⟩] 0 (YK rfl hi.1 hw1) (by decide) fun x hx=>by rw [A4] at hx;subst hx;rfl⟩,by rw [if_pos hi,if_pos h8];exact h2,h3⟩
  ·refine(Yv (b:=b) (L:= [⟨lba, [0], -1⟩]) (l:=h00) hg h (fun _=>hM) 0 lba bs (by decide) rfl hi h8).mono ?_;rintro r H ⟨d',h1,h2,h3⟩;exact⟨d',_,_,h1,⟨by decide,h00_b,rfl⟩,⟨_,Ts lba 0 [] (YK rfl hi.1 hr1) (by decide) rfl⟩,by rw [if_pos hi,if_neg h8];exact h2,h3⟩
 ·rw [if_neg hi] at hL;subst hL;refine(Us (b:=b) (L:= []) (l:=h00) hg h (fun _=>hM) 4 0 lba bs (.inr rfl) (by decide) rfl hi).mono ?_;rintro r H ⟨d',h1,h2,h3⟩;exact⟨d',_,_,h1,⟨by decide,h00_b,rfl⟩,⟨_,LE [] 0 rfl (by decide) fun x hx=>by cases hx⟩,by rw [if_neg hi];exact h2,h3⟩
end

theorem lab_e8:Er (⟨#[]⟩:ByteArray).data.toList=0:=by decide +kernel
theorem MJ (z d sp1 sl an h lba:Int) (b:List UInt8):Fn Tryz.prog 6 [iv z,iv d,iv sp1,iv sl,iv an,iv h,iv lba,bA b] fun r=>r = .v (.bool true):=by
 have h1:=RO z d sp1 sl an;have hg:=OZ z d sp1 sl an;generalize FY z d sp1 sl an=g at h1 hg;by_cases hbl:b.length<=100;rotate_left 1
 ·refine zT Tryz.func6 rfl ?_;conv=>whnf
  rw [show decide ((b.length:Int) > 100)=true from decide_eq_true (by omega)];exact⟨_,ri,rfl⟩
 obtain⟨D,hM,hdk,hlen,hgd,hvo⟩:=UN (lb:=⟨#[]⟩) hg lab_e8;have v0:Vm g 2 D (IC g ⟨#[]⟩):=⟨hgd,hvo,Vb hg⟩;have hl0:(IC g ⟨#[]⟩).l=[]:=rfl;have c1:=RJ g ⟨#[]⟩ hg lab_e8 (by decide);have c2:=fun k (hk:2<=k/\k<=10)=>Up g (DD g ⟨#[]⟩) (sp k 0 0 []) hk
 have c3:=MT g (DD g ⟨#[]⟩) D _ (sp 1 0 0 []) rfl ⟨by have:=hdk.n;omega,by have:=hdk.m;omega⟩ rfl (by decide) hgd.left (Wb g (DD g ⟨#[]⟩) D _ hg hdk hlen hM (au hg lab_e8));obtain⟨M,hMe⟩:∃ M,M=IC g ⟨#[]⟩:=⟨_,rfl⟩;rw [<-hMe] at v0 hl0 c3;have c4:=SC g D (AI M.a M.l) true [] [] (sp 1 0 0 []) rfl;have c5:=Yt g D (AI M.a M.l) true [] [] (sp 99 0 0 []) (fun _=>hl0) v0.n rfl (by decide) v0.gd.left;have cw:=wakes26_fn;obtain⟨F,hF⟩:∃ F,F=DD g ⟨#[]⟩:=⟨_,rfl⟩;rw [<-hF] at c1 c2 c3;clear hM hdk hlen hgd hvo;obtain⟨g1,g2,g3,g4,g5⟩:=Ay.1 hg;have hp:g.z*g.d<=16:=Int.le_trans (Bl g1.2 (by omega)) (by omega);have hp0:0<=g.z*g.d:=C4 (by omega) (by omega);have wzd:IntKind.i64.wrap (g.z*g.d)=g.z*g.d:=wi (by omega);refine zT Tryz.func6 rfl ?_;conv=>whnf
 rw [show decide ((b.length:Int) > 100)=false from decide_eq_false (by omega)];conv=>whnf
 refine zY h1 ?_;conv=>whnf
 refine zW c1 rfl ?_;rintro _ _ ⟨rfl,rfl⟩;conv=>whnf
 repeat' (refine zZ ?_;conv=>whnf)
 refine zS Nat (fun k=>([(5,iv h),(6,iv lba),(7,bA b),(17, .bp 0 0),(18, .bp 1 0),(20,iv (k:Nat))], [.box 24 (Bh g), .box 111 (W7 g F)])) (fun k=>2<=k/\k<=11) (fun k=>11 - k) 2 ⟨by decide,by decide⟩
  (zR (s:= [0,1]) tA) ?_
 rintro k ⟨hk1,hk2⟩;conv=>whnf
 refine AP (fun h6=>?_) (fun h6=>?_) <;> (repeat rw [Ac] at h6) <;> conv=>whnf
 ·repeat' (refine zZ ?_;conv=>whnf)
  refine zU [.bp 1 0, .ag (GV (sp (k:Nat) 0 0 []))] ⟨ri,AW (Em _ 0 0),tv⟩ ?_;refine z_ [1] (c2 (k:Nat) ⟨by omega,by omega⟩) rfl rfl rfl rfl (by decide) (A_ rfl) tA ?_;rintro _ _ ⟨rfl,rfl⟩;conv=>whnf
  repeat' (refine zZ ?_;conv=>whnf)
  exact⟨k+1,⟨by omega,by omega⟩,by show 11 - (k+1)<11 - k;omega,zR (s:= [0,1]) ⟨⟨rfl,rfl,rfl,rfl,rfl,AQ (by omega),tv⟩,tA,rfl,rfl,rfl,rfl,rfl⟩⟩
 clear c1 c2;repeat' (refine zZ ?_;conv=>whnf)
 refine zU [.bp 1 0, .ag (GV (sp 1 0 0 []))] ⟨ri,AW (Em 1 0 0),tv⟩ ?_;refine ze9 [1] c3 ?_;rintro _ _ ⟨rfl,rfl⟩;conv=>whnf
 refine zU [.bp 1 0, .ag (GV (sp 1 0 0 []))] ⟨ri,AW (Em 1 0 0),tv⟩ ?_;refine ze9 [1] c4 ?_;rintro _ _ ⟨rfl,rfl⟩;conv=>whnf
 refine zU [.bp 1 0, .ag (GV (sp 99 0 0 []))] ⟨ri,AW (Em 99 0 0),tv⟩ ?_;refine ze9 [1] c5 ?_;rintro _ _ ⟨rfl,rfl⟩;clear c3 c4 c5;conv=>whnf
 repeat' (refine zZ ?_;conv=>whnf)
 refine zS (Nat × Dk) (fun x=>([(6,iv lba),(5,iv h),(7,bA b),(17, .bp 0 0),(18, .bp 1 0),(21,iv (x.1:Nat))],(.box 24 (Bh g))::ES g x.2 (AI M.a M.l) true [] [])) (fun x=>(3<=x.1/\x.1<=7)/\Vm g 2 x.2 M) (fun x=>7 - x.1) (3,D.z) ⟨⟨by show 3<=3;decide,by show 3<=7;decide⟩,v0.z⟩
  (zR (s:= [0,1]) tA) ?_
 rintro⟨k,d1⟩ ⟨⟨hk1,hk2⟩,v1⟩;simp only at hk1 hk2 v1;conv=>whnf
 refine AP (fun h6=>?_) (fun h6=>?_) <;> (repeat rw [Ac] at h6) <;> conv=>whnf
 ·have s:=Zo (b:=true) (L:= []) (l:= []) hg v1 (fun _=>hl0) (k:Nat) h ⟨by omega,by omega⟩ (by decide) rfl;repeat' (refine zZ ?_;conv=>whnf)
  refine zU [.bp 1 0, .ag (GV (sp (k:Nat) h 0 []))] ⟨ri,AW (Em _ h 0),tv⟩ ?_;refine ze9 [1] s ?_;rintro _ _ ⟨d2,v2,rfl,rfl⟩;conv=>whnf
  repeat' (refine zZ ?_;conv=>whnf)
  exact⟨(k+1,d2),⟨⟨by show 3<=k+1;omega,by show k+1<=7;omega⟩,v2⟩,by show 7 - (k+1)<7 - k;omega,zR (s:= [0,1]) ⟨⟨rfl,rfl,rfl,rfl,rfl,AQ (by omega),tv⟩,tA,rfl,rfl,rfl,rfl,rfl⟩⟩
 repeat' (refine zZ ?_;conv=>whnf)
 have s1:=La (b:=true) (L:= []) (l:= []) v1 (fun _=>hl0) (by decide) (fun h hh=>by cases hh) rfl rfl 0 0;simp only [show DW []=(h00,0,0) from rfl] at s1;refine zU [.bp 1 0, .ag (GV (sp 2 0 0 []))] ⟨ri,AW (Em 2 0 0),tv⟩ ?_;refine ze9 [1] s1 ?_;rintro _ _ ⟨d2,v2,rfl,rfl⟩;clear s1;have s2:=MU g d2 (AI M.a M.l) true [] h00 v2.gd.ok;have s3:=Yw (b:=true) hg v2 hl0 lba;conv=>whnf
 refine ze9 [1] s2 ?_;rintro _ _ ⟨rfl,rfl⟩;conv=>whnf
 rw [wzd];refine zU [.bp 1 0, .ag (GV (sp 3 0 lba []))] ⟨ri,AW (Em 3 0 lba),tv⟩ ?_;refine ze9 [1] s3 ?_;rintro _ _ ⟨d3,L3,bs3,v3,hL3,rfl,rfl⟩;have s4:=Yu (b:=false) hg v3 hl0 lba b L3 hL3;clear s2 s3;conv=>whnf
 refine ze9 [1] s4 ?_;rintro _ _ ⟨d4,L4,l4,v4,⟨q1,q2,q3⟩,⟨L5,q4⟩,rfl,rfl⟩;clear s4;obtain⟨e1,he1⟩:∃ e:Int,e=if 0<=lba/\lba<g.z*g.d then 0 else 17:=⟨_,rfl⟩
 obtain⟨e2,he2⟩:∃ e:Int,e=if 0<=lba/\lba<g.z*g.d then (if b.length=8 then 0 else 1) else 17:=⟨_,rfl⟩
 rw [<-he1,<-he2];have s5:=MU g d4 (AI M.a M.l) false L4 l4 v4.gd.ok;have s6:=Ut (b:=false) (L:=L4) (l:=l4) L5 v4 (fun e=>by cases e) 0 0 q1 q2 q3 q4;conv=>whnf
 refine y_ Unit (fun _=>([(17, .bp 0 0),(18, .bp 1 0),(22, .bp 2 0),(23, .bp 3 0)],(.box 24 (Bh g))::ES g d4 (AI M.a M.l) false L4 l4 ++ ([.box 60 (an7 0 0 []), .box 38 (TV d2)]:List AB))) (fun _=>True) ?_ ?_
 ·conv=>whnf
  by_cases i1:lba<0
  ·rw [if_neg (by omega)] at he1 he2;subst he1 he2;rw [decide_eq_true i1];conv=>whnf
   repeat' (refine zZ ?_;conv=>whnf)
   exact⟨(),tv,zR (s:= [0,1,2,3]) tA⟩
  ·rw [decide_eq_false i1];conv=>whnf
   by_cases i2:lba>=g.z*g.d
   ·rw [if_neg (by omega)] at he1 he2;subst he1 he2;rw [decide_eq_true i2];conv=>whnf
    repeat' (refine zZ ?_;conv=>whnf)
    exact⟨(),tv,zR (s:= [0,1,2,3]) tA⟩
   ·rw [if_pos (by omega)] at he1 he2;subst he1;rw [decide_eq_false i2];conv=>whnf
    repeat' (refine zZ ?_;conv=>whnf)
    by_cases h8:b.length=8
    ·rw [if_pos h8] at he2;subst he2;rw [show ((b.length:Int) != 8)=false from bne_eq_false_iff_eq.2 (by omega)];conv=>whnf
     rw [show ((b.length:Int) == 8)=true from beq_iff_eq.2 (by omega)];conv=>whnf
     repeat' (refine zZ ?_;conv=>whnf)
     exact⟨(),tv,zR (s:= [0,1,2,3]) tA⟩
    ·rw [if_neg h8] at he2;subst he2;rw [show ((b.length:Int) != 8)=true from bne_iff_ne.2 (by omega)];conv=>whnf
     rw [show ((b.length:Int) == 8)=false from beq_eq_false_iff_ne.2 (by omega)];conv=>whnf
     repeat' (refine zZ ?_;conv=>whnf)
     exact⟨(),tv,zR (s:= [0,1,2,3]) tA⟩
 intro _ _;conv=>whnf
 repeat' (refine zZ ?_;conv=>whnf)
 refine ze9 [1] s5 ?_;rintro _ _ ⟨rfl,rfl⟩;clear s5;have n2:=v2.gd.len;have n4:=v4.gd.len;have n5:=v4.gd.ok.n;conv=>whnf
 repeat' (refine zZ ?_;conv=>whnf)
 rw [show (((d4.cells.length:Nat):Int) != ((d2.cells.length:Nat):Int))=false from bne_eq_false_iff_eq.2 (by omega)];conv=>whnf
 repeat' (refine zZ ?_;conv=>whnf)
 refine zS Nat (fun i=>([(18, .bp 1 0),(22, .bp 2 0),(23, .bp 3 0),(27, .bp 4 0),(28,iv (i:Nat))],(.box 24 (Bh g))::ES g d4 (AI M.a M.l) false L4 l4 ++ ([.box 60 (an7 0 0 []), .box 38 (TV d2), .box 38 (TV d4)]:List AB))) (fun i=>i<=d4.cells.length) (fun i=>d4.cells.length - i) 0 (Aj _)
  (zR (s:= [0,1,2,3,4]) tA) ?_
 intro i hi;conv=>whnf
 refine AP (fun h7=>?_) (fun h7=>?_) <;> (repeat rw [Ac] at h7) <;> conv=>whnf
 ·have hi2:i<d4.cells.length:=by omega
  have e4:=(v4.gd.cell (i:Nat) (by omega) (by omega)).2;have e2:=(v2.gd.cell (i:Nat) (by omega) (by omega)).2;have hbb:Fn Tryz.prog 17 [bA (d4.cells.getD ((i:Nat):Int).toNat ⟨0, [], []⟩).bytes,bA (d2.cells.getD ((i:Nat):Int).toNat ⟨0, [], []⟩).bytes] fun r=>r = .v (.bool true):=by
   rw [show (d2.cells.getD ((i:Nat):Int).toNat ⟨0, [], []⟩).bytes=(d4.cells.getD ((i:Nat):Int).toNat ⟨0, [], []⟩).bytes from e2.trans e4.symm];refine Mu _ ?_;have:=(v4.gd.ok.c _ (AC (d:=cz) hi2)).2.1;rw [Ac];exact AS this (by decide)
  have n4':d2.cells.length=d4.cells.length:=by omega
  apply zX (0) tys_ok mixed (.o [0,1,2,3,4,5,6,7,8,9,10,11,12,13] .fin) (by kernel_rfl);conv=>whnf
  try (refine tI ?_;conv=>whnf)
  try (refine tI ?_;conv=>whnf)
  refine zY hbb ?_;conv=>whnf
  all_goals
   repeat' (refine zZ ?_;conv=>whnf)
   exact⟨i+1,hi2,by show d4.cells.length - (i+1)<d4.cells.length - i;omega,zR (s:= [0,1,2,3,4]) ⟨⟨rfl,rfl,rfl,rfl,AQ (by omega),tv⟩,tA,rfl,rfl,rfl,rfl,rfl⟩⟩
 ·repeat' (refine zZ ?_;conv=>whnf)
  refine zU [.bp 1 0, .ag (GV (sp 6 0 0 []))] ⟨ri,AW (Em 6 0 0),tv⟩ ?_;refine ze9 [1] s6 ?_;rintro _ _ ⟨d6,v6,rfl,rfl⟩;have s7:=Ys g d6 (AI M.a M.l) false L5 (DC l4 0).1 (sp 10 0 0 []) (fun e=>by cases e) v6.n rfl (by decide) v6.gd.left;conv=>whnf
  refine zU [.bp 1 0, .ag (GV (sp 10 0 0 []))] ⟨ri,AW (Em 10 0 0),tv⟩ ?_;refine ze9 [1] s7 ?_;rintro _ _ ⟨rfl,rfl⟩;conv=>whnf
  refine zY cw ?_;exact⟨_,ri,rfl⟩
end
end Go.Proofs.YtpjkcgacjjbikaaGreatDoor.A
namespace Go.Proofs.YtpjkcgacjjbikaaGreatDoor
section
open Go.ChangeShapes Go.WideShapes Go.ChangeAt Go.RowKit
theorem own_none:ownKnob Tryz.prog.godebug=none:=by kernel_rfl
theorem laidOut:laidOutB Tryz.prog=true:=by kernel_rfl

section
variable {H:Type} {enc:TypeId × Value->H}
theorem Vp {f:Func} {s:ChangeSpec} {apart fresh handsOn again:Bool} {W W':World} {args:Array Value} {ds:List (DataW H)} {before:List MemPlace}
  (hW:DataW.Whole enc Tryz.prog f.params.toList s.vars apart W args.toList ds [] before) (hv:s.vars=[]) (hvs:(s.fn H (ds ++ [])).vars=[])
  (hr:f.resultTypes = #[4]) (hfr:(s.fn H (ds ++ [])).results=[.lit (.bool true)]) (hfa:(s.fn H (ds ++ [])).args=ds)
  (hrow:∀ t∈f.params.toList,Tryz.prog.readableRec t=true/\t<Tryz.prog.types.size) (hb:Below W.heap.size W W') :
  s.post enc Tryz.prog f apart fresh handsOn again W args (.bool true) W':=by
 have hlt:∀ p∈before,p.block<W.heap.size:=fun p hp=>hW.lt p hp
 obtain⟨p,q,hA,hV,hpq,hz,hn⟩:=id hW;rw [hv] at hV;obtain⟨-,rfl⟩:=trodVars_none hV;rw [AE] at hpq;subst hpq;have stay:∀ sp:Nat->Bool,(∀ x∈before,sp x.block=true)->DataW.TrodAll enc Tryz.prog W' 0 sp true f.params.toList args.toList ds before:=by
  intro sp hsp;have go:∀ (ts:List TypeId) (vs:List Value) (es:List (DataW H)) (ps:List MemPlace),(∀ t∈ts,Tryz.prog.readableRec t=true/\t<Tryz.prog.types.size)->(∀ x∈ps,x∈before)->
    DataW.TrodAll enc Tryz.prog W 0 (fun _=>true) true ts vs es ps->DataW.TrodAll enc Tryz.prog W' 0 sp true ts vs es ps:=by
   intro ts;induction ts with
   | nil=>
    intro vs es ps _ _ h;cases vs <;> cases es <;> exact h
   | cons t ts ih=>
    intro vs es ps ht hin h;cases vs with
    | nil=>cases es <;> exact h.elim
    | cons v vs=>
     cases es with
     | nil=>exact h.elim
     | cons e es=>
      obtain⟨p1,p2,h1,h2,rfl⟩:=h;exact⟨p1,p2,WideElems.Trod_stays laidOut (ht t (by simp)).1 (ht t (by simp)).2 h1 (fun x hx=>hb.same (hlt x (hin x (by simp [hx])))) (fun x hx=>hsp x (hin x (by simp [hx]))),
       ih vs es p2 (fun t' ht'=>ht t' (by simp [ht'])) (fun x hx=>hin x (by simp [hx])) h2,rfl⟩
  exact go _ _ _ _ hrow (fun x hx=>hx) hA
 have hres:∀ (b:Nat) (sp:Nat->Bool) (hd:Bool),DataW.TrodAll enc Tryz.prog W' b sp hd f.resultTypes.toList ((Value.bool true).resultList f.resultTypes.size) (s.fn H (ds ++ [])).results []:=by
  intro b sp hd;rw [hr,hfr];exact trodAll_mk1 ⟨1,by simp [DataW.trod,Value.cells,Tryz.underlying4]⟩
 have hold:∀ p∈before,(fun b=>decide (b<W.heap.size)) p.block=true:=fun p hp=>by simpa using hlt p hp
 have hvars:∀ sp:Nat->Bool,DataW.TrodVars enc Tryz.prog W' sp s.vars (s.fn H (ds ++ [])).vars []:=by
  intro sp;rw [hv,hvs];exact rfl
 refine⟨ds, [],before, [],before, [],hW,hres _ _ _,by rw [hfa];exact stay _ hold,hvars _,World.keptBut_mono (fun p hp=>⟨hp,?_⟩) (hb.frame (·∈before)),fun _=>?_⟩
 ·exact Or.inr (by simpa using hp)
 ·refine⟨ok_one hr rfl (by simp [Value.okWide,Tryz.underlying4,Cell.okWide,Cell.ok]),_,_,([] ++ before) ++ [],⟨[] ++ before, [],trodAll_append (stay _ (fun _ _=>rfl)) (hres _ _ _),hvars _,rfl,?_,?_⟩,?_⟩
  ·intro b off hp;have hin:MemPlace.cell b off∈before:=by simpa using hp
   rw [hb.frozen (hlt _ hin)];exact hz b off hin
  ·intro ha;have:=hn ha;simpa using this
  ·intro p hp _;simpa using hp
end
abbrev Vs : List (String × DataW Unit) := [("unicode/utf8.acceptRanges", Rows.laid_unicode_utf8_acceptRanges), ("unicode/utf8.first", Rows.laid_unicode_utf8_first)]
noncomputable def JQ (os:Os):World:=
 let w0:=World.holding Tryz.prog os ⟨#[], #[], []⟩;let put (h:Array Obj) (g:Nat) (cs:Array Value):Array Obj:=h.modify g fun
  | .cells _ t frozen=> .cells cs t frozen
  | o=>o
 let h1:=put w0.heap 0 (Lib.firstTab.map fun z=>Value.int .u8 z).toArray;let h2:=put h1 1 ((List.range 16).flatMap fun i=> [Value.int .u8 (Lib.accLo i),Value.int .u8 (Lib.accHi i)]).toArray
 { w0 with heap:=h2 }
theorem Vr (os:Os) (args:Array Value):laidMetH Tryz.prog Vs ((JQ os).forCall (fun _ _=>0) ⟨#[],args, []⟩).memory:=by
 rw [MakeChecks.laidMetH_plain _ _ _ (by kernel_rfl)];exact(LaidIn.of_run (l:=Vs) [1,0] 8 (by kernel_rfl) (by kernel_rfl) (by kernel_rfl) (by kernel_rfl)).met
theorem first_data:Rows.laid_unicode_utf8_first=Lib.firstData:=by kernel_rfl
theorem accept_data:(Rows.laid_unicode_utf8_acceptRanges:DataW Unit)=Lib.acceptData:=by kernel_rfl
theorem Tw {W:World} (h:laidMetH Tryz.prog Vs W):A.globOk W:=by
 rw [MakeChecks.laidMetH_plain _ _ _ (by kernel_rfl)] at h;have h1:=Lib.laidMet.reads h (.head _);have h2:=Lib.laidMet.reads h (.tail _ (.head _));rw [accept_data] at h1;rw [first_data] at h2;exact utf8Tabs_of_readsT (U8Types.of196 Tryz.laysValid) ⟨by kernel_rfl,by kernel_rfl,by kernel_rfl,by kernel_rfl,by kernel_rfl,by kernel_rfl,by kernel_rfl⟩ h2 h1
end
end Go.Proofs.YtpjkcgacjjbikaaGreatDoor
