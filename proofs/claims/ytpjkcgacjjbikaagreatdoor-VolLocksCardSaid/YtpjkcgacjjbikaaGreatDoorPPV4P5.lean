/-
Several texts in one.
-/
import Derived.Test.YtpjkcgacjjbikaaGreatDoorPPV4P4
import Derived.Test.YtpjkcgacjjbikaaGreatDoorPPV4P3
import Derived.Test.YtpjkcgacjjbikaaGreatDoorPPV4P2
import Derived.Test.YtpjkcgacjjbikaaGreatDoorPPV4P1
import Derived.Test.YtpjkcgacjjbikaaGreatDoorRows
import Derived.Below
import Derived.ChangeSame
import Derived.Carry
import Derived.Lib.LaidIn
import Derived.Lib.LaidU8T
import Derived.LaidHandle
import Derived.MakeChecks
import Derived.Handed
set_option maxRecDepth 100000
set_option maxHeartbeats 8000000
set_option linter.unusedSimpArgs false
set_option linter.unusedVariables false
set_option linter.deprecated false
namespace Go.Proofs.YtpjkcgacjjbikaaGreatDoor.A
section
open Go.RowKit
theorem Sc {g:Geo} {b:List UInt8} {t:List Ent} (h:CV g b=some t):t.length=(g.d+1).toNat:=by
 unfold CV at h;split at h
 ·rw [<-Option.some.inj h,entsOf_len]
 ·cases h
theorem Pd {g:Geo} {x:Gt} {q r:Int} {t:List Ent} (h:Cv g x q r=some t):t.length=(g.d+1).toNat:=by
 rw [Lo] at h;split at h
 ·exact Sc h
 ·cases h
theorem Ux {g:Geo} (hg:Bq g=true) {s:Stt} {F:Int->List UInt8} {z:Int} {t:List Ent} (h:Fq g s F z=some t):(t.length:Int)=g.d+1:=by
 have g5:=A2.1 hg;have:t.length=(g.d+1).toNat:=by
  unfold Fq at h;split at h
  ·exact Sc h
  ·split at h
   ·rename_i q;rw [<-Option.some.inj h];exact Pd q
   ·exact Pd h
 omega
theorem V_ (g:Geo) (s:Stt) (d:Dk) (F:Int->List UInt8) (z w:Int) (t:List Ent) (hg:Bq g=true) (ha:B7 g s.a=true) (h:Gd (A7 g) d F) (hF:∀ a,(F a).length<=100000) (hz:0<=z/\z<g.z) (hw : -1<=w/\w<g.d) (ht:(t.length:Int)=g.d+1) :
  ACalls Tryz.prog false 91 [.bp 0 0,iv z,iv w, .ag [BX t]] (GJ g s d) fun r H=>r = .tp [bA ((DJ ⟨0,F (D3 g s.a z w)⟩ (D3 g s.a z w) (t.getD (E4 g w).toNat ez)).getD []),iv 0]/\∃ d',Gd (A7 g) d' F/\H=GJ g s d':=by
 have hadr:=P4 g s.a z w hg ha hz hw;obtain⟨sl,e1,e2⟩:=M7 hg ha hz (w:=w) hw;have hsl:=KW hg hz e2;have hat:0<=E4 g w/\E4 g w<=g.d:=by have:=A2.1 hg;unfold E4;split <;> omega
 have hci:=N2 g w;obtain⟨X,hX⟩:∃ X,X=D3 g s.a z w:=⟨_,rfl⟩;rw [<-hX] at hadr e1 |-
 have hcb:=HJ hg;have hrd:=Sx g s d F X h (by have:=A2.1 hg;omega);have heb:=Nz ⟨0,F X⟩ X (t.getD (E4 g w).toNat ez) (hF _);have ixA:0<=E4 g w/\E4 g w<(t.length:Nat):=by omega
 refine zU tys_ok Tryz.func91 rfl rfl (Ae rfl) ?_;conv=>whnf
 apply zI tys_ok mixed (.o [0,1,2,3,4,5,6,7,8,9,10,11,12,13,14,15,16] .fin) [10,11,15,16,17,18,19,20,21,22,23,24,25,26,27,28,29] (by kernel_rfl)
 ·conv=>whnf
  refine zY hadr ?_;exact tA
 conv=>whnf
 refine ze9 [0,1,2,3] hrd ?_;rintro _ _ ⟨rfl,d2,hd2,rfl⟩;conv=>whnf
 repeat' (refine zZ ?_;conv=>whnf)
 apply zI tys_ok mixed (.o [0,1,2,3,4,5,6,7,8,9,10,11,12,13,14,15,16,17] .fin) [13,14,36,37,38,39,40,41,42,43,44,45,46,47,48,49,50,51] (by kernel_rfl)
 ·conv=>whnf
  refine zY hci ?_;conv=>whnf
  try (refine Ai (by first | omega | exact ixA | exact ixB | (simp;done)) ?_;conv=>whnf)
  refine zY heb ?_;exact tA
 conv=>whnf
 obtain⟨B,hBe⟩:∃ B,B=(DJ ⟨0,F X⟩ X (t.getD (E4 g w).toNat ez)).getD []:=⟨_,rfl⟩;rw [<-hBe];exact⟨.tp [bA B,iv 0], .tp [bA B,iv 0],GJ g s d2,fun _ _ h=>h,zQ (s:= [0,1,2,3]) tA,rfl,d2,hd2,rfl⟩
theorem Qs (g:Geo) (a:An) (l:List Tx) (d:Dk) (F:Int->List UInt8) (lba:Int) (t:List Ent) (v:Int->List UInt8) (hg:Bq g=true) (hl:LogB l) (ha:B7 g a=true) (h:Gd (A7 g) d F) (hF:∀ a,(F a).length<=100000) (hb:0<=lba/\lba<g.z*g.d) (hB:∀ p,CG l (lba.tdiv g.d) 255=some p->p.1.bytes.length<=100000) (hv:ZoneV g a l F (lba.tdiv g.d) t v) :
  ACalls Tryz.prog false 40 [.bp 0 0,iv lba] (GJ g (AO a l) d) fun r H=>r = .tp [bA (v (lba.tmod g.d)),iv 0]/\∃ d',Gd (A7 g) d' F/\H=GJ g (AO a l) d':=by
 have g5:=A2.1 hg;have h1:=Kd g lba hg hb;have hz:0<=lba.tdiv g.d/\lba.tdiv g.d<g.z:=by
  rw [Bu hb.1];exact⟨Dl hb.1 (by omega),Dh (by omega) hb.2⟩
 have hA:0<=lba.tmod g.d/\lba.tmod g.d<g.d:=⟨BF _ hb.1,Bz _ (by omega)⟩;obtain⟨Z,hZ⟩:∃ Z,Z=lba.tdiv g.d:=⟨_,rfl⟩;obtain⟨A,hAe⟩:∃ A,A=lba.tmod g.d:=⟨_,rfl⟩;rw [<-hZ] at h1 hz hB hv;rw [<-hAe] at h1 hA |-
 have ht:=Ux hg hv.tab;have h2:=XJ g (AO a l) d F Z hg hl ha h hF hz hB t hv.tab;have h3:=Nb l Z A hl.n hl.i;have hat:E4 g A=A:=by unfold E4;rw [if_neg (by omega)]
 have hE:=hv.ent A (by omega) hA.2;have hV:=hv.val A (by omega) hA.2;have hLn:=hv.len A (by omega) hA.2;rw [hat] at hE hV;have ixA:0<=A/\A<(t.length:Nat):=by omega
 cases hL:CG l Z A with
 | some p=>
  rw [hL] at h3 hV;simp only at h3 hV;rw [hV.1] at h3;refine zU tys_ok Tryz.func40 rfl rfl (Ae rfl) ?_;conv=>whnf
  refine zY h1 ?_;conv=>whnf
  refine ze9 [0,1,2,3] h2 ?_;rintro _ _ ⟨rfl,d2,hd2,rfl⟩;conv=>whnf
  repeat' (refine zZ ?_;conv=>whnf)
  refine⟨ixA,?_⟩;conv=>whnf
  rw [show (t.getD A.toNat ⟨0,0,false⟩).lost=false from hE.1];conv=>whnf
  refine zY h3 ?_;exact⟨.tp [bA (v A),iv 0], .tp [bA (v A),iv 0],GJ g (AO a l) d2,fun _ _ h=>h,zQ (s:= [0,1,2,3]) tA,rfl,d2,hd2,rfl⟩
 | none=>
  rw [hL] at h3 hV;simp only at h3 hV;refine zU tys_ok Tryz.func40 rfl rfl (Ae rfl) ?_;conv=>whnf
  refine zY h1 ?_;conv=>whnf
  refine ze9 [0,1,2,3] h2 ?_;rintro _ _ ⟨rfl,d2,hd2,rfl⟩;have h4:=V_ g (AO a l) d2 F Z A t hg ha hd2 hF hz (by omega) ht;rw [hat] at h4;change ACalls Tryz.prog false 91 [.bp 0 0,iv Z,iv A, .ag [BX t]] (GJ g (AO a l) d2) (fun r H=>r = .tp [bA ((DJ ⟨0,F (D3 g a Z A)⟩ (D3 g a Z A) (t.getD A.toNat ez)).getD []),iv 0]/\∃ d',Gd (A7 g) d' F/\H=GJ g (AO a l) d') at h4;rw [hV] at h4;replace h4:ACalls Tryz.prog false 91 [.bp 0 0,iv Z,iv A, .ag [BX t]] (GJ g (AO a l) d2) (fun r H=>r = .tp [bA (v A),iv 0]/\∃ d',Gd (A7 g) d' F/\H=GJ g (AO a l) d'):=h4;conv=>whnf
  repeat' (refine zZ ?_;conv=>whnf)
  refine⟨ixA,?_⟩;conv=>whnf
  rw [show (t.getD A.toNat ⟨0,0,false⟩).lost=false from hE.1];conv=>whnf
  refine zY h3 ?_;conv=>whnf
  refine ze9 [0,1,2,3] h4 ?_;rintro _ _ ⟨rfl,d3,hd3,rfl⟩;conv=>whnf
  rw [show decide (((v A).length:Int) > 0)=true from decide_eq_true (by omega)];exact⟨.tp [bA (v A),iv 0], .tp [bA (v A),iv 0],GJ g (AO a l) d3,fun _ _ h=>h,zQ (s:= [0,1,2,3]) tA,rfl,d3,hd3,rfl⟩
def Yj (g:Geo) (i:Nat):Int:=if (i:Int)=g.d then -1 else (i:Nat)
def TN (g:Geo) (s:Stt) (F:Int->List UInt8) (t:List Ent) (z:Int) (k:Nat):List (List UInt8):=(List.range k).map fun i=>G7 g s F t z (Yj g i)
theorem XD {g:Geo} (hg:Bq g=true) (s:Stt) (F:Int->List UInt8) (t:List Ent) (z:Int):TN g s F t z (g.d.toNat+1)=CY g s F t z:=by
 obtain⟨g1,g2,g3,g4,g5⟩:=A2.1 hg;unfold TN CY TJ;rw [By,A0,A5,Bp,show Yj g g.d.toNat = -1 by unfold Yj;rw [if_pos (by omega)]];congr 1;refine Dx fun i hi=>?_
 have:=AJ.1 hi;unfold Yj;rw [if_neg (by omega)]
theorem XC (g:Geo) (s:Stt) (d:Dk) (a:Int) (h:DkOk d) (ha:0<=a/\a<d.cells.length) :
  ACalls Tryz.prog false 162 [.bp 0 0,iv a] (GS g s d) fun r H=>r = .ag (Eg ⟨(d.read a).2.2,(d.read a).2.1⟩)/\H=GS g s (d.read a).1:=by
 have hr:=Qj BS d a h.l ha h.m (fun c hc=>by have:=(h.c c hc).2.1;omega) (fun w hw=>by have:=(h.w w hw).2;omega);refine zU tys_ok Tryz.func162 rfl rfl (Ae rfl) ?_;conv=>whnf
 refine ze9 [1,2,3] hr ?_;rintro _ _ ⟨rfl,rfl⟩;exact⟨_, .ag (Eg ⟨(d.read a).2.2,(d.read a).2.1⟩),GS g s (d.read a).1,fun _ _ h=>h,zQ (s:= [0,1,2,3,4]) tA,rfl,rfl⟩
theorem Qr (g:Geo) (s:Stt) (d:Dk) (a:Int) (b:List UInt8) (h:DkOk d) (ha:0<=a/\a<d.cells.length) (hb:b.length<=200) :
  ACalls Tryz.prog false 149 [.bp 0 0,iv a,bA b] (GS g s d) fun r H=>r = .tp [.v (.bool (decide ((d.write a b).2=0))),iv (if (d.write a b).2=8 then 8 else 0)]/\H=GS g s (d.write a b).1:=by
 have hr:=N0 BS d a b h.l ha h.m (by omega);have he:(d.write a b).2=8\/(d.write a b).2=7\/(d.write a b).2=0:=by
  unfold Dk.write;split
  ·exact .inl rfl
  ·split
   ·exact .inr (.inl rfl)
   ·exact .inr (.inr rfl)
 generalize d.write a b=q at hr he |-
 obtain⟨d',e⟩:=q;simp only at hr he |-
 refine zU tys_ok Tryz.func149 rfl rfl (Ae rfl) ?_;conv=>whnf
 refine ze9 [1,2,3] hr ?_;rintro _ _ ⟨rfl,rfl⟩;rcases he with rfl | rfl | rfl
 all_goals
  exact⟨_,_,GS g s d',fun _ _ h=>h,zQ (s:= [0,1,2,3,4]) tA,rfl,rfl⟩
theorem PW (g:Geo) (s:Stt) (d:Dk) (F:Int->List UInt8) (a:Int) (h:Gd (A7 g) d F) (ha:0<=a/\a<A7 g) :
  ACalls Tryz.prog false 162 [.bp 0 0,iv a] (GS g s d) fun r H=>r = .ag (Eg ⟨0,F a⟩)/\∃ d',Gd (A7 g) d' F/\H=GS g s d':=by
 have hr:=XC g s d a h.ok (by rw [h.len];exact ha);rw [h.read ha.1 ha.2] at hr;exact hr.mono fun r H hh=>⟨hh.1,d.req,h.req,hh.2⟩
theorem VZ (g:Geo) (s:Stt) (d:Dk) (F:Int->List UInt8) (z:Int) (hg:Bq g=true) (hl:LogB s.txns) (ha:B7 g s.a=true) (h:Gd (A7 g) d F) (hF:∀ a,(F a).length<=100000) (hz:0<=z/\z<g.z) (hB:∀ p,CG s.txns z 255=some p->p.1.bytes.length<=100000) (t:List Ent) (ht:Fq g s F z=some t) :
    ACalls Tryz.prog false 89 [.bp 0 0,iv z] (GS g s d) fun r H=>r = .tp [.ag [BX t],iv 0]/\∃ d',Gd (A7 g) d' F/\H=GS g s d':=by
  have hf:=JU s.txns z 255 hl.n hl.i;unfold Fq at ht;cases hL:CG s.txns z 255 with
  | some p=>
    obtain⟨x,q⟩:=p;rw [hL] at hf ht;simp only at hf ht;have hr:=Jg g x.bytes (hB _ hL);rw [hg,if_pos rfl,ht] at hr;refine zU tys_ok Tryz.func89 rfl rfl (Ae rfl) ?_;conv=>whnf
    refine ze9 [4] hf ?_;rintro _ _ ⟨rfl,rfl⟩;conv=>whnf
    refine zY hr ?_;exact⟨.tp [.ag [BX t],iv 0], .tp [.ag [BX t],iv 0],GS g s d,fun _ _ h=>h,zQ (s:= [0,1,2,3,4]) tA,rfl,d,h,rfl⟩
  | none=>
    rw [hL] at hf ht;simp only at hf ht;have hR:=P7 s.a s.txns z (by have:=(Sv ha hz).1;omega) hl.n (fun t ht=>(hl.i t ht).1);refine zU tys_ok Tryz.func89 rfl rfl (Ae rfl) ?_;conv=>whnf
    refine ze9 [4] hf ?_;rintro _ _ ⟨rfl,rfl⟩;conv=>whnf
    apply zI tys_ok mixed (.o [0,1,2,3,4,5,6,7,8,9,10,11,12,13,14,15,16] .fin) [11,12,41,42,43,44,45,46,47,48,49,50,51,52,53,54,55] (by kernel_rfl)
    · conv=>whnf
      (refine zq (args':= [.ag (Fp s.a), .sl 4 s.txns.length fun i=>(s.txns.map It).getD i [],iv z]) (hR.subA ⟨fun _ _ h=>h,BY (f:=It) s.txns rfl rfl,fun _ _ h=>h,tv⟩) ⟨(Aa _).symm,rfl⟩ ?_;rintro _ rfl;refine⟨rfl,?_⟩)
      exact tA
    conv=>whnf
    have htab:∀ k:Nat,k<2->g.an+2*g.sl<=Bf g z (k:Nat)/\Bf g z (k:Nat)<A7 g:=fun k hk=>by have:=QK hg hz (k:=(k:Nat)) (by omega);omega
    refine zR (Nat × Dk) (fun x=>([(0, .bp 0 0),(1,iv z),(4, .bp 5 0),(11,iv (Dy s.a s.txns z)),(56,iv (x.1:Nat))],GS g s x.2 ++ ([.box 145 [.v (.slice none 0 0)]]:List AB))) (fun x=>x.1<=2/\Gd (A7 g) x.2 F/\∀ j:Nat,j<x.1->Cv g ⟨0,F (Bf g z (j:Nat))⟩ (Bf g z (j:Nat)) (Dy s.a s.txns z)=none) (fun x=>2 - x.1) (0,d) ⟨Aj _,h,fun j hj=>absurd hj (Ap j)⟩
      (zQ (s:= [0,1,2,3,4,5]) tA) ?_
    rintro⟨k,d1⟩ ⟨hk,hd1,hno⟩;simp only at hk hd1 hno;conv=>whnf
    refine AS (fun h6=>?_) (fun h6=>?_) <;> (repeat rw [Ac] at h6) <;> conv=>whnf
    · have hk2:k<2:=by omega
      have hta:=Kc g z (k:Nat) hg hz (by omega);obtain⟨q1,q2⟩:=htab k hk2;have hz2:=A2.1 hg;have hrd:=PW g s d1 F (Bf g z (k:Nat)) hd1 (by omega);have hto:=Nx g ⟨0,F (Bf g z (k:Nat))⟩ (Bf g z (k:Nat)) (Dy s.a s.txns z) hg (hF _);repeat' (refine zZ ?_;conv=>whnf)
      refine zY hta ?_;conv=>whnf
      repeat' (refine zZ ?_;conv=>whnf)
      refine ze9 [0,1,2,3,4] hrd ?_;rintro _ _ ⟨rfl,d2,hd2,rfl⟩;conv=>whnf
      repeat' (refine zZ ?_;conv=>whnf)
      have hGk:∀ u,Cv g ⟨0,F (Bf g z (k:Nat))⟩ (Bf g z (k:Nat)) (Dy s.a s.txns z)=some u->u=t:=fun u hu=>by
        match k,hk2 with
        | 0,_=>
          have hu:Cv g ⟨0,F (Bf g z 0)⟩ (Bf g z 0) (Dy s.a s.txns z)=some u:=hu;rw [hu] at ht;exact Option.some.inj ht
        | 1,_=>
          have h0:Cv g ⟨0,F (Bf g z 0)⟩ (Bf g z 0) (Dy s.a s.txns z)=none:=hno 0 (by decide);have hu:Cv g ⟨0,F (Bf g z 1)⟩ (Bf g z 1) (Dy s.a s.txns z)=some u:=hu;rw [h0] at ht;simp only at ht;exact Option.some.inj (hu.symm.trans ht)
      apply zW (0) tys_ok mixed (.o [0,1,2,3,4,5,6] (.two 7 (.o [8,9,10,11,12,13] .fin) 11 (.o [7,8,9,10,12,13] .fin))) (by kernel_rfl);refine Ai ?_ ?_;conv=>whnf
      refine zY hto ?_;conv=>whnf
      try (refine tS ?_;conv=>whnf)
      rotate_left 1;conv=>whnf
      refine zY hto ?_;conv=>whnf
      try (refine tS ?_;conv=>whnf)
      rotate_left 1;all_goals
        cases hT:Cv g ⟨0,F (Bf g z (k:Nat))⟩ (Bf g z (k:Nat)) (Dy s.a s.txns z)
      all_goals
        conv=>whnf
        first
        | exact⟨(k+1,d2),⟨by show k+1<=2;omega,hd2,fun j hj=>by by_cases e:j=k;exact e ▸ hT;exact hno j (by have:j<k+1:=hj;omega)⟩,by show 2 - (k+1)<2 - k;omega,zQ (s:= [0,1,2,3,4,5]) ⟨⟨rfl,rfl,rfl,rfl,AT (by omega),tv⟩,tA,rfl,rfl,rfl,rfl,rfl⟩⟩
        | (rename_i u
           have e:=hGk _ hT;subst e;exact⟨.tp [.ag [BX u],iv 0], .tp [.ag [BX u],iv 0],GS g s d2,fun _ _ h=>h,zQ (s:= [0,1,2,3,4]) tA,rfl,d2,hd2,rfl⟩)
    · have ek:k=2:=by omega
      subst ek;have h0:Cv g ⟨0,F (Bf g z 0)⟩ (Bf g z 0) (Dy s.a s.txns z)=none:=hno 0 (by decide);have h1:Cv g ⟨0,F (Bf g z 1)⟩ (Bf g z 1) (Dy s.a s.txns z)=none:=hno 1 (by decide);rw [h0] at ht;simp only at ht;rw [h1] at ht;cases ht
theorem N3 (g:Geo) (s:Stt) (d:Dk) (F:Int->List UInt8) (z w:Int) (t:List Ent) (hg:Bq g=true) (ha:B7 g s.a=true) (h:Gd (A7 g) d F) (hF:∀ a,(F a).length<=100000) (hz:0<=z/\z<g.z) (hw : -1<=w/\w<g.d) (ht:(t.length:Int)=g.d+1) :
  ACalls Tryz.prog false 91 [.bp 0 0,iv z,iv w, .ag [BX t]] (GS g s d) fun r H=>r = .tp [bA ((DJ ⟨0,F (D3 g s.a z w)⟩ (D3 g s.a z w) (t.getD (E4 g w).toNat ez)).getD []),iv 0]/\∃ d',Gd (A7 g) d' F/\H=GS g s d':=by
 have hadr:=P4 g s.a z w hg ha hz hw;obtain⟨sl,e1,e2⟩:=M7 hg ha hz (w:=w) hw;have hsl:=KW hg hz e2;have hat:0<=E4 g w/\E4 g w<=g.d:=by have:=A2.1 hg;unfold E4;split <;> omega
 have hci:=N2 g w;obtain⟨X,hX⟩:∃ X,X=D3 g s.a z w:=⟨_,rfl⟩;rw [<-hX] at hadr e1 |-
 have hcb:=HJ hg;have hrd:=PW g s d F X h (by have:=A2.1 hg;omega);have heb:=Nz ⟨0,F X⟩ X (t.getD (E4 g w).toNat ez) (hF _);have ixA:0<=E4 g w/\E4 g w<(t.length:Nat):=by omega
 refine zU tys_ok Tryz.func91 rfl rfl (Ae rfl) ?_;conv=>whnf
 apply zI tys_ok mixed (.o [0,1,2,3,4,5,6,7,8,9,10,11,12,13,14,15,16] .fin) [10,11,15,16,17,18,19,20,21,22,23,24,25,26,27,28,29] (by kernel_rfl)
 ·conv=>whnf
  refine zY hadr ?_;exact tA
 conv=>whnf
 refine ze9 [0,1,2,3,4] hrd ?_;rintro _ _ ⟨rfl,d2,hd2,rfl⟩;conv=>whnf
 repeat' (refine zZ ?_;conv=>whnf)
 apply zI tys_ok mixed (.o [0,1,2,3,4,5,6,7,8,9,10,11,12,13,14,15,16,17] .fin) [13,14,36,37,38,39,40,41,42,43,44,45,46,47,48,49,50,51] (by kernel_rfl)
 ·conv=>whnf
  refine zY hci ?_;conv=>whnf
  try (refine Ai (by first | omega | exact ixA | exact ixB | (simp;done)) ?_;conv=>whnf)
  refine zY heb ?_;exact tA
 conv=>whnf
 obtain⟨B,hBe⟩:∃ B,B=(DJ ⟨0,F X⟩ X (t.getD (E4 g w).toNat ez)).getD []:=⟨_,rfl⟩;rw [<-hBe];exact⟨.tp [bA B,iv 0], .tp [bA B,iv 0],GS g s d2,fun _ _ h=>h,zQ (s:= [0,1,2,3,4]) tA,rfl,d2,hd2,rfl⟩
theorem Qo (g:Geo) (s:Stt) (d:Dk) (F:Int->List UInt8) (z:Int) (hg:Bq g=true) (hl:LogB s.txns) (ha:B7 g s.a=true) (h:Gd (A7 g) d F) (hF:∀ a,(F a).length<=100000) (hz:0<=z/\z<g.z) (hB:∀ p,CG s.txns z 255=some p->p.1.bytes.length<=100000) (t:List Ent) (ht:Fq g s F z=some t) :
  ACalls Tryz.prog false 92 [.bp 0 0,iv z] (GS g s d) fun r H=>r = .tp [.ag [BX t],GZ (CY g s F t z),iv 0]/\∃ d',Gd (A7 g) d' F/\H=GS g s d':=by
 obtain⟨g1,g2,g3,g4,g5⟩:=A2.1 hg;have hT:=VZ g s d F z hg hl ha h hF hz hB t ht;have htn:=Ux hg ht;have hd1:IntKind.i64.wrap (g.d+1)=g.d+1:=wi (by omega);refine zU tys_ok Tryz.func92 rfl rfl (Ae rfl) ?_;conv=>whnf
 refine ze9 [0,1,2,3,4] hT ?_;rintro _ _ ⟨rfl,d2,hd2,rfl⟩;conv=>whnf
 rw [hd1];refine zR (Nat × Dk) (fun x=>([(0, .bp 0 0),(1,iv z),(4, .bp 5 0),(5, .ow 6 x.1),(27,iv (g.d+1)),(28,iv (x.1:Nat))],GS g s x.2 ++ ([.box 145 [BX t], .row 22 1 ((TN g s F t z x.1).map MA)]:List AB))) (fun x=>(x.1:Int)<=g.d+1/\Gd (A7 g) x.2 F) (fun x=>g.d.toNat+1 - x.1) (0,d2) ⟨by show ((0:Nat):Int)<=g.d+1;omega,hd2⟩
  ⟨_,_,zo _ _, [(5,22,1)],tA, [0,1,2,3,4,5,6],tA,tA,rfl,rfl,rfl,rfl,rfl⟩ ?_
 rintro⟨k,d1⟩ ⟨hk,hd1⟩;simp only at hk hd1;by_cases hkn:(k:Int)<g.d+1;rotate_left 1
 ·have ek:k=g.d.toNat+1:=by omega
  conv=>whnf
  rw [show decide ((k:Int)<g.d+1)=false from decide_eq_false hkn];conv=>whnf
  repeat' (refine zZ ?_;conv=>whnf)
  have hlen:(CY g s F t z).length=g.d.toNat+1:=by simp [CY,TJ]
  subst ek;exact⟨.tp [.ag [BX t], .ow 6 (CY g s F t z).length,iv 0], .tp [.ag [BX t],GZ (CY g s F t z),iv 0],GS g s d1,BV (m:= [.ag [BX t], .ow 6 (CY g s F t z).length,iv 0]) ⟨ri,by rw [hlen];exact fun _ _ h=>h,ri,tv⟩,zK (zN (ConvF.sealTp 0 6 (es:=(CY g s F t z).map MA) (by rw [Aa];try rfl) (congrArg (fun L=>some (AB.row 22 1 (List.map MA L))) (XD hg s F t z))) (z8 0 rfl (BV (m:= [.ag [BX t],GZ (CY g s F t z),iv 0]) ⟨ri,FV (Aa _) rfl,ri,tv⟩))) (s:= [0,1,2,3,4]) tA,rfl,d1,hd1,rfl⟩
 ·conv=>whnf
  rw [show decide ((k:Int)<g.d+1)=true from decide_eq_true hkn];conv=>whnf
  repeat' (refine zZ ?_;conv=>whnf)
  by_cases hkd:(k:Int)=g.d
  ·rw [show (((k:Nat):Int) == g.d)=true by rw [hkd];simp];have e1:Yj g k=(-1):=by unfold Yj;first | rw [if_pos hkd] | rw [if_neg hkd]
   have e2:(TN g s F t z k).map MA ++ [MA (G7 g s F t z (-1))]=(TN g s F t z (k+1)).map MA:=by rw [<-e1];simp [TN,By]
   have hf:=JU s.txns z (-1) hl.n hl.i;have hlk:(TN g s F t z k).length=k:=by simp [TN]
   cases hL:CG s.txns z (-1) with
   | some p=>
    rw [hL] at hf;simp only at hf;have e3:G7 g s F t z (-1)=p.1.bytes:=by unfold G7;rw [hL]
    rw [e3] at e2;conv=>whnf
    repeat' (refine zZ ?_;conv=>whnf)
    refine ze9 [4] hf ?_;rintro _ _ ⟨rfl,rfl⟩;conv=>whnf
    repeat' (refine zZ ?_;conv=>whnf)
    refine⟨rfl,?_⟩;refine⟨⟨by rw [Aa,hlk],by omega⟩,?_⟩;conv=>whnf
    exact⟨(k+1,d1),⟨by show ((k+1:Nat):Int)<=g.d+1;omega,hd1⟩,by show g.d.toNat+1 - (k+1)<g.d.toNat+1 - k;omega,zQ (s:= [0,1,2,3,4,5,6]) ⟨⟨rfl,rfl,rfl,rfl,rfl,AT (by omega),tv⟩,⟨rfl,rfl,rfl,rfl,rfl,rfl,congrArg (fun es=>some (AB.row 22 1 es)) e2,tv⟩,rfl,rfl,rfl,rfl,rfl⟩⟩
   | none=>
    rw [hL] at hf;simp only at hf;have e3:G7 g s F t z (-1)=(DJ ⟨0,F (D3 g s.a z (-1))⟩ (D3 g s.a z (-1)) (t.getD (E4 g (-1)).toNat ez)).getD []:=by unfold G7;rw [hL]
    have hh:=N3 g s d1 F z (-1) t hg ha hd1 hF hz (by omega) htn;rw [<-e3] at hh;conv=>whnf
    repeat' (refine zZ ?_;conv=>whnf)
    refine ze9 [4] hf ?_;rintro _ _ ⟨rfl,rfl⟩;conv=>whnf
    repeat' (refine zZ ?_;conv=>whnf)
    refine ze9 [0,1,2,3,4] hh ?_;rintro _ _ ⟨rfl,d3,hd3,rfl⟩;conv=>whnf
    repeat' (refine zZ ?_;conv=>whnf)
    refine⟨rfl,?_⟩;refine⟨⟨by rw [Aa,hlk],by omega⟩,?_⟩;conv=>whnf
    exact⟨(k+1,d3),⟨by show ((k+1:Nat):Int)<=g.d+1;omega,hd3⟩,by show g.d.toNat+1 - (k+1)<g.d.toNat+1 - k;omega,zQ (s:= [0,1,2,3,4,5,6]) ⟨⟨rfl,rfl,rfl,rfl,rfl,AT (by omega),tv⟩,⟨rfl,rfl,rfl,rfl,rfl,rfl,congrArg (fun es=>some (AB.row 22 1 es)) e2,tv⟩,rfl,rfl,rfl,rfl,rfl⟩⟩
  ·rw [show (((k:Nat):Int) == g.d)=false from beq_eq_false_iff_ne.2 hkd];have e1:Yj g k=((k:Nat):Int):=by unfold Yj;first | rw [if_pos hkd] | rw [if_neg hkd]
   have e2:(TN g s F t z k).map MA ++ [MA (G7 g s F t z ((k:Nat):Int))]=(TN g s F t z (k+1)).map MA:=by rw [<-e1];simp [TN,By]
   have hf:=JU s.txns z ((k:Nat):Int) hl.n hl.i;have hlk:(TN g s F t z k).length=k:=by simp [TN]
   cases hL:CG s.txns z ((k:Nat):Int) with
   | some p=>
    rw [hL] at hf;simp only at hf;have e3:G7 g s F t z ((k:Nat):Int)=p.1.bytes:=by unfold G7;rw [hL]
    rw [e3] at e2;conv=>whnf
    repeat' (refine zZ ?_;conv=>whnf)
    refine ze9 [4] hf ?_;rintro _ _ ⟨rfl,rfl⟩;conv=>whnf
    repeat' (refine zZ ?_;conv=>whnf)
    refine⟨rfl,?_⟩;refine⟨⟨by rw [Aa,hlk],by omega⟩,?_⟩;conv=>whnf
    exact⟨(k+1,d1),⟨by show ((k+1:Nat):Int)<=g.d+1;omega,hd1⟩,by show g.d.toNat+1 - (k+1)<g.d.toNat+1 - k;omega,zQ (s:= [0,1,2,3,4,5,6]) ⟨⟨rfl,rfl,rfl,rfl,rfl,AT (by omega),tv⟩,⟨rfl,rfl,rfl,rfl,rfl,rfl,congrArg (fun es=>some (AB.row 22 1 es)) e2,tv⟩,rfl,rfl,rfl,rfl,rfl⟩⟩
   | none=>
    rw [hL] at hf;simp only at hf;have e3:G7 g s F t z ((k:Nat):Int)=(DJ ⟨0,F (D3 g s.a z ((k:Nat):Int))⟩ (D3 g s.a z ((k:Nat):Int)) (t.getD (E4 g ((k:Nat):Int)).toNat ez)).getD []:=by unfold G7;rw [hL]
    have hh:=N3 g s d1 F z ((k:Nat):Int) t hg ha hd1 hF hz (by omega) htn;rw [<-e3] at hh;conv=>whnf
    repeat' (refine zZ ?_;conv=>whnf)
    refine ze9 [4] hf ?_;rintro _ _ ⟨rfl,rfl⟩;conv=>whnf
    repeat' (refine zZ ?_;conv=>whnf)
    refine ze9 [0,1,2,3,4] hh ?_;rintro _ _ ⟨rfl,d3,hd3,rfl⟩;conv=>whnf
    repeat' (refine zZ ?_;conv=>whnf)
    refine⟨rfl,?_⟩;refine⟨⟨by rw [Aa,hlk],by omega⟩,?_⟩;conv=>whnf
    exact⟨(k+1,d3),⟨by show ((k+1:Nat):Int)<=g.d+1;omega,hd3⟩,by show g.d.toNat+1 - (k+1)<g.d.toNat+1 - k;omega,zQ (s:= [0,1,2,3,4,5,6]) ⟨⟨rfl,rfl,rfl,rfl,rfl,AT (by omega),tv⟩,⟨rfl,rfl,rfl,rfl,rfl,rfl,congrArg (fun es=>some (AB.row 22 1 es)) e2,tv⟩,rfl,rfl,rfl,rfl,rfl⟩⟩
theorem Wb (g:Geo) (s:Stt) (d:Dk) (x:Rc) (Q:Int) (hg:Bq g=true) (hx:EN g x=true) (hxl:x.img.bytes.length<=100000) (hQ:0<=Q/\Q<g.sl) (h:DkOk d) (hn:(d.cells.length:Int)=A7 g) (h1:(d.write (Ba g 0 Q) (B5 g x 0 Q)).2≠8) (h2:((d.write (Ba g 0 Q) (B5 g x 0 Q)).1.write (Ba g 1 Q) (B5 g x 1 Q)).2≠8) :
  ACalls Tryz.prog false 76 [.bp 0 0, .ag (Hq x),iv Q] (GS g s d) fun r H=>r = .tp [.v (.bool (decide ((d.write (Ba g 0 Q) (B5 g x 0 Q)).2=0) || decide (((d.write (Ba g 0 Q) (B5 g x 0 Q)).1.write (Ba g 1 Q) (B5 g x 1 Q)).2=0))),iv 0]/\H=GS g s ((d.write (Ba g 0 Q) (B5 g x 0 Q)).1.write (Ba g 1 Q) (B5 g x 1 Q)).1:=by
 have q0:=L8 (g:=g) (.inl rfl) hQ (c:=0);have q1:=L8 (g:=g) (.inr rfl) hQ (c:=1);have l0:=LG g 0 Q;have l1:=LG g 1 Q;have r0:=L2 g x 0 Q hxl;have r1:=L2 g x 1 Q hxl;rw [hg,q0] at l0;rw [hg,q1] at l1;rw [hx,q0] at r0;rw [hx,q1] at r1;have b0:=EA hg hn (.inl rfl) hQ (c:=0);have b1:=EA hg hn (.inr rfl) hQ (c:=1);have c0:=Qr g s d (Ba g 0 Q) (B5 g x 0 Q) h (by omega) (Cc hx 0 Q);have hok:=h.write (a:=Ba g 0 Q) (b:=B5 g x 0 Q) (by omega) (Cc hx 0 Q);have hlen:(d.write (Ba g 0 Q) (B5 g x 0 Q)).1.cells.length=d.cells.length:=KR d _ _;have c1:=Qr g s (d.write (Ba g 0 Q) (B5 g x 0 Q)).1 (Ba g 1 Q) (B5 g x 1 Q) hok (by omega) (Cc hx 1 Q);rw [if_neg h1] at c0;rw [if_neg h2] at c1;generalize (d.write (Ba g 0 Q) (B5 g x 0 Q)).1.write (Ba g 1 Q) (B5 g x 1 Q)=W2 at c1 |-
 generalize d.write (Ba g 0 Q) (B5 g x 0 Q)=W1 at c0 c1 |-
 generalize decide (W1.2=0)=p1 at c0 |-
 generalize decide (W2.2=0)=p2 at c1 |-
 simp only [Bool.and_self,if_true,if_pos] at l0 l1 r0 r1;cases p1 with
 | true=>
  refine zU tys_ok Tryz.func76 rfl rfl (Ae rfl) ?_;conv=>whnf
  refine zB 3 ?_;conv=>whnf
  repeat' (refine zZ ?_;conv=>whnf)
  refine zY l0 ?_;conv=>whnf
  repeat' (refine zZ ?_;conv=>whnf)
  apply zW (0) tys_ok mixed (.o [0,1,2,3,4,5,6,7,8,9,10,11,12] .fin) (by kernel_rfl);conv=>whnf
  refine zY r0 ?_;conv=>whnf
  repeat' (refine zZ ?_;conv=>whnf)
  refine ze9 [0,1,2,3,4] c0 ?_;rintro _ _ ⟨rfl,rfl⟩;conv=>whnf
  repeat' (refine zZ ?_;conv=>whnf)
  refine zY l1 ?_;conv=>whnf
  repeat' (refine zZ ?_;conv=>whnf)
  apply zW (0) tys_ok mixed (.o [0,1,2,3,4,5,6,7,8,9,10,11,12] .fin) (by kernel_rfl);conv=>whnf
  refine zY r1 ?_;conv=>whnf
  repeat' (refine zZ ?_;conv=>whnf)
  refine ze9 [0,1,2,3,4] c1 ?_;rintro _ _ ⟨rfl,rfl⟩;conv=>whnf
  repeat' (refine zZ ?_;conv=>whnf)
  exact⟨_, .tp [.v (.bool true),iv 0],GS g s W2.1,fun _ _ h=>h,zQ (s:= [0,1,2,3,4]) tA,rfl,rfl⟩
 | false=>
  refine zU tys_ok Tryz.func76 rfl rfl (Ae rfl) ?_;conv=>whnf
  refine zB 3 ?_;conv=>whnf
  repeat' (refine zZ ?_;conv=>whnf)
  refine zY l0 ?_;conv=>whnf
  repeat' (refine zZ ?_;conv=>whnf)
  apply zW (0) tys_ok mixed (.o [0,1,2,3,4,5,6,7,8,9,10,11,12] .fin) (by kernel_rfl);conv=>whnf
  refine zY r0 ?_;conv=>whnf
  repeat' (refine zZ ?_;conv=>whnf)
  refine ze9 [0,1,2,3,4] c0 ?_;rintro _ _ ⟨rfl,rfl⟩;conv=>whnf
  repeat' (refine zZ ?_;conv=>whnf)
  refine zY l1 ?_;conv=>whnf
  repeat' (refine zZ ?_;conv=>whnf)
  apply zW (0) tys_ok mixed (.o [0,1,2,3,4,5,6,7,8,9,10,11,12] .fin) (by kernel_rfl);conv=>whnf
  refine zY r1 ?_;conv=>whnf
  repeat' (refine zZ ?_;conv=>whnf)
  refine ze9 [0,1,2,3,4] c1 ?_;rintro _ _ ⟨rfl,rfl⟩;conv=>whnf
  repeat' (refine zZ ?_;conv=>whnf)
  exact⟨_, .tp [.v (.bool p2),iv 0],GS g s W2.1,fun _ _ h=>h,zQ (s:= [0,1,2,3,4]) tA,rfl,rfl⟩
theorem XL (g:Geo) (s:Stt) (d:Dk) (lba:Int) (b:List UInt8) (hg:Bq g=true) (hl:s.txns.length<=1000) (hlba:0<=lba/\lba<g.z*g.d) (hb:b.length=8) :
  ACalls Tryz.prog false 72 [.bp 0 0,iA [lba],GZ [b]] (GS g s d) fun r H=>r = iv (if s.only then 15 else if 4 > g.sl - Ei s.txns then 21 else 0)/\H=GS g s d:=by
 obtain⟨g1,g2,g3,g4,g5⟩:=A2.1 hg;have hun:=Hb s.txns s.txns.length;have hn:=Te g lba hg hlba;have hu:=MW s.txns (by omega);have tsub:SubL [.sl 4 s.txns.length fun i=>(s.txns.map It).getD i []] [Ej s.txns]:=⟨BY (f:=It) s.txns rfl rfl,tv⟩;refine zU tys_ok Tryz.func72 rfl rfl (Ae rfl) ?_;conv=>whnf
 refine zB 2 ?_;conv=>whnf
 repeat' (refine zZ ?_;conv=>whnf)
 refine⟨in01,?_⟩;conv=>whnf
 repeat' (refine zZ ?_;conv=>whnf)
 refine zw tys_ok mixed [0,1,2,3,4,5,6,7,8,9,10,11,12,13,14,15,16,17,18] (by kernel_rfl) ?_;conv=>whnf
 rw [show ((([b].getD (Int.toNat 0) []).length:Int) != 8)=false from bne_eq_false_iff_eq.2 (by show ((b.length:Nat):Int)=8;omega)];conv=>whnf
 repeat' (refine zZ ?_;conv=>whnf)
 refine zY hn ?_;conv=>whnf
 cases ho:s.only with
 | true=>
  exact⟨_,iv 15,GS g s d,fun _ _ h=>h,zQ (s:= [0,1,2,3,4]) tA,rfl,rfl⟩
 | false=>
  conv=>whnf
  apply zI tys_ok mixed (.o [0,1,2,3,4,5,6,7,8,9,10,11,12,13,14] .fin) [72,73,74,75,76,77,78,79,80,81,82,83,84,85,86] (by kernel_rfl)
  ·conv=>whnf
   (refine zq (args':= [.sl 4 s.txns.length fun i=>(s.txns.map It).getD i []]) (hu.subA tsub) ⟨(Aa _).symm,rfl⟩ ?_;rintro _ rfl;refine⟨rfl,?_⟩)
   exact tA
  conv=>whnf
  rw [wi (show -9223372036854775808<=g.sl - Ei s.txns/\g.sl - Ei s.txns<=9223372036854775807 by unfold Ei;omega)];by_cases hfull:(4:Int) > g.sl - Ei s.txns
  ·rw [decide_eq_true hfull,if_pos hfull];exact⟨_,iv 21,GS g s d,fun _ _ h=>h,zQ (s:= [0,1,2,3,4]) tA,rfl,rfl⟩
  ·rw [decide_eq_false hfull,if_neg hfull];exact⟨_,iv 0,GS g s d,fun _ _ h=>h,zQ (s:= [0,1,2,3,4]) tA,rfl,rfl⟩
theorem RD (g:Geo) (s:Stt) (d:Dk) (F:Int->List UInt8) (lba S:Int) (b:List UInt8) (hg:Bq g=true) (hl:LogB s.txns) (ha:B7 g s.a=true) (h:Gd (A7 g) d F) (hF:∀ a,(F a).length<=100000) (hlba:0<=lba/\lba<g.z*g.d) (hb:b.length=8) (hS:0<=S/\S<=4294967295) (hB:∀ p,CG s.txns (lba.tdiv g.d) 255=some p->p.1.bytes.length<=100000) (t:List Ent) (ht:Fq g s F (lba.tdiv g.d)=some t) (h8:∀ x∈CY g s F t (lba.tdiv g.d),x.length=8) (hlo:∀ i,i<t.length->(t.getD i ez).lost=false) :
  ACalls Tryz.prog false 74 [.bp 0 0,iA [lba],GZ [b],iv S] (GS g s d) fun r H=>r = .tp [Fb (H0 g s F S lba b),iv 0]/\∃ d',Gd (A7 g) d' F/\H=GS g s d':=by
 obtain⟨g1,g2,g3,g4,g5⟩:=A2.1 hg;obtain⟨Z,hZ⟩:∃ Z,Z=lba.tdiv g.d:=⟨_,rfl⟩;obtain⟨A,hA⟩:∃ A,A=lba.tmod g.d:=⟨_,rfl⟩;have hZ2:0<=Z/\Z<g.z:=by
  rw [hZ,Bu hlba.1];exact⟨Dl hlba.1 (by omega),Dh (by omega) hlba.2⟩
 have hA2:0<=A/\A<g.d:=by
  rw [hA];exact⟨BF _ hlba.1,Bz _ (by omega)⟩
 have hdiv:IntKind.i64.wrap (([lba].getD (Int.toNat 0) 0).tdiv g.d)=Z:=by
  rw [hZ];exact wi (by have:=hZ2;rw [hZ] at this;show -9223372036854775808<=lba.tdiv g.d/\lba.tdiv g.d<=9223372036854775807;omega)
 have hL:H0 g s F S lba b=Cz Z (BJ g t (CY g s F t Z) [A] [b] S) (Fa g t (CY g s F t Z) [A] [b] g.d.toNat) [A] [b]:=by
  rw [H0,<-hZ,<-hA];rw [<-hZ] at ht;rw [ht]
 rw [hL];rw [<-hZ] at ht h8 hB;obtain⟨L,hL⟩:∃ L,L=Cz Z (BJ g t (CY g s F t Z) [A] [b] S) (Fa g t (CY g s F t Z) [A] [b] g.d.toNat) [A] [b]:=⟨_,rfl⟩;rw [<-hL];have hL3:L.length=3:=by rw [hL,H5];try rfl
 have htok:=KU ht;have h01:∀ x∈ [b],x.length=8:=fun x hx=>by rw [Ay] at hx;rw [hx];exact hb
 have hpl:(Fa g t (CY g s F t Z) [A] [b] g.d.toNat).length=8:=Ht (fun x hx=> .inr (h8 x hx)) h01 (show [A].length<= [b].length from Ag 1) _;have hwr:=QM g t (CY g s F t Z) A b S hg htok (by simp [CY,TJ];omega) h8 hlo hA2 hb hS;have him:=Pj g Z (BJ g t (CY g s F t Z) [A] [b] S) (Fa g t (CY g s F t Z) [A] [b] g.d.toNat) A b hg hZ2 (G_ hg htok hS) hpl hA2 hb;rw [<-hL] at him;refine zU tys_ok Tryz.func74 rfl rfl (Ae rfl) ?_;conv=>whnf
 refine zR (Nat × Dk × Bool) (fun x=>([(0, .bp 0 0),(1,iA [lba]),(2,GZ [b]),(3,iv S),(10,Z5 L x.2.2),(27,iv g.z),(28,iv (x.1:Nat))],GS g s x.2.1)) (fun x=>(x.1:Int)<=g.z/\Gd (A7 g) x.2.1 F/\(x.2.2=true↔Z<(x.1:Int))) (fun x=>g.z.toNat - x.1) (0,d,false) ⟨by show ((0:Nat):Int)<=g.z;omega,h,⟨fun q=>(by cases q),fun q=>absurd q (by show ¬Z<((0:Nat):Int);omega)⟩⟩
  (zQ (s:= [0,1,2,3,4]) tA) ?_
 rintro⟨k,d1,p⟩ ⟨hk,hd1,hpz⟩;simp only at hk hd1 hpz;by_cases hkz:(k:Int)<g.z;rotate_left 1
 ·obtain rfl:p=true:=hpz.2 (by omega);conv=>whnf
  rw [decide_eq_false hkz];conv=>whnf
  repeat' (refine zZ ?_;conv=>whnf)
  exact⟨_, .tp [Fb L,iv 0],GS g s d1,fun _ _ h=>h,zQ (s:= [0,1,2,3,4]) tA,rfl,d1,hd1,rfl⟩
 by_cases he:(k:Int)=Z;rotate_left 1
 ·conv=>whnf
  rw [decide_eq_true hkz];conv=>whnf
  repeat' (refine zZ ?_;conv=>whnf)
  refine zB 2 ?_;conv=>whnf
  repeat' (refine zZ ?_;conv=>whnf)
  refine⟨in01,?_⟩;conv=>whnf
  repeat' (refine zZ ?_;conv=>whnf)
  refine⟨by omega,?_⟩;conv=>whnf
  rw [hdiv,show (Z == (k:Int))=false from beq_eq_false_iff_ne.2 fun q=>he q.symm];conv=>whnf
  repeat' (refine zZ ?_;conv=>whnf)
  cases p
  ·exact⟨(k+1,d1,false),⟨by show ((k+1:Nat):Int)<=g.z;omega,hd1,⟨fun q=>by have:=hpz.1 q;show Z<((k+1:Nat):Int);omega,fun q=>hpz.2 (by have:Z<((k+1:Nat):Int):=q;omega)⟩⟩,by show g.z.toNat - (k+1)<g.z.toNat - k;omega,zQ (s:= [0,1,2,3,4]) ⟨⟨rfl,rfl,rfl,rfl,rfl,rfl,AT (by omega),tv⟩,tA,rfl,rfl,rfl,rfl,rfl⟩⟩
  ·exact⟨(k+1,d1,true),⟨by show ((k+1:Nat):Int)<=g.z;omega,hd1,⟨fun q=>by have:=hpz.1 q;show Z<((k+1:Nat):Int);omega,fun q=>hpz.2 (by have:Z<((k+1:Nat):Int):=q;omega)⟩⟩,by show g.z.toNat - (k+1)<g.z.toNat - k;omega,zQ (s:= [0,1,2,3,4]) ⟨⟨rfl,rfl,rfl,rfl,rfl,rfl,AT (by omega),tv⟩,tA,rfl,rfl,rfl,rfl,rfl⟩⟩
 ·obtain rfl:p=false:=by
   cases p with
   | false=>rfl
   | true=>exact absurd (hpz.1 rfl) (by omega)
  have hgat:=Qo g s d1 F Z hg hl ha hd1 hF hZ2 hB t ht;conv=>whnf
  rw [decide_eq_true hkz];conv=>whnf
  repeat' (refine zZ ?_;conv=>whnf)
  refine zR (Nat × Bool) (fun i=>([(0, .bp 0 0),(1,iA [lba]),(2,GZ [b]),(3,iv S),(10, .v (.slice none 0 0)),(11,iv (k:Nat)),(12,af A i.2),(13,aG b i.2),(27,iv g.z),(28,iv (k:Nat)),(31,iA [lba]),(32,iv 1),(33,iv (i.1:Nat))],GS g s d1)) (fun i=>i.1<=1/\(i.2=true↔i.1=1)) (fun i=>1 - i.1) (0,false) ⟨by show 0<=1;omega,by decide⟩
   (zQ (s:= [0,1,2,3,4]) tA) ?_
  rintro⟨i,q⟩ ⟨hi,hq⟩;simp only at hi hq;by_cases hi1:i=1;rotate_left 1
  ·obtain rfl:i=0:=by omega
   obtain rfl:q=false:=by
    cases q with
    | false=>rfl
    | true=>exact absurd (hq.1 rfl) (by decide)
   have ixA:(0:Int)<=0/\(0:Int)<(([b]:List (List UInt8)).length:Nat):=in01;conv=>whnf
   repeat' (refine zZ ?_;conv=>whnf)
   refine⟨in01,?_⟩;conv=>whnf
   repeat' (refine zZ ?_;conv=>whnf)
   refine⟨by omega,?_⟩;conv=>whnf
   rw [show IntKind.i64.wrap (([lba].getD (((0:Nat):Int)).toNat 0).tdiv g.d)=Z from hdiv,show (Z == (k:Int))=true from beq_iff_eq.2 he.symm];conv=>whnf
   repeat' (refine zZ ?_;conv=>whnf)
   apply zW (16384) tys_ok mixed (.o [0,1,2,3,4,5,6,7,10,11,12,13] (.two 8 (.two 9 (.o [14,15,16,17,18] .fin) 14 (.two 9 (.o [15,16,17,18] .fin) 15 (.o [9,16,17,18] .fin))) 14 (.two 8 (.two 9 (.o [15,16,17,18] .fin) 15 (.o [9,16,17,18] .fin)) 15 (.o [8,9,16,17,18] .fin)))) (by kernel_rfl);conv=>whnf
   try (refine tI ?_;conv=>whnf)
   try (refine tI ?_;conv=>whnf)
   refine Ai ?_ ?_;refine Ai ?_ ?_;conv=>whnf
   try (refine tJ ?_;conv=>whnf)
   try (refine tK ?_;conv=>whnf)
   try (refine tJ ?_;conv=>whnf)
   try (refine tK ?_;conv=>whnf)
   rotate_left 1;refine Ai ?_ ?_;conv=>whnf
   try (refine tJ ?_;conv=>whnf)
   try (refine tK ?_;conv=>whnf)
   try (refine tJ ?_;conv=>whnf)
   try (refine tK ?_;conv=>whnf)
   rotate_left 1;conv=>whnf
   try (refine tJ ?_;conv=>whnf)
   try (refine tK ?_;conv=>whnf)
   try (refine tJ ?_;conv=>whnf)
   try (refine tK ?_;conv=>whnf)
   rotate_left 1;refine Ai ?_ ?_;refine Ai ?_ ?_;conv=>whnf
   try (refine tJ ?_;conv=>whnf)
   try (refine tK ?_;conv=>whnf)
   try (refine tJ ?_;conv=>whnf)
   try (refine tK ?_;conv=>whnf)
   rotate_left 1;conv=>whnf
   try (refine tJ ?_;conv=>whnf)
   try (refine tK ?_;conv=>whnf)
   try (refine tJ ?_;conv=>whnf)
   try (refine tK ?_;conv=>whnf)
   rotate_left 1;conv=>whnf
   try (refine tJ ?_;conv=>whnf)
   try (refine tK ?_;conv=>whnf)
   try (refine tJ ?_;conv=>whnf)
   try (refine tK ?_;conv=>whnf)
   rotate_left 1;all_goals
    conv=>whnf
    first
    | exact⟨(1,true),⟨by show 1<=1;omega,by decide⟩,by show 1 - 1<1 - 0;omega,zK (zN (zF 12 6 rfl rfl) (zN (z8 12 rfl (Gk (L:= [A]) rfl (by rw [hA];rfl))) (zN (zF 13 7 rfl rfl) (z8 13 rfl (FV (L:= [b]) rfl rfl))))) (s:= [0,1,2,3,4]) tA⟩
    | exact⟨(1,true),⟨by show 1<=1;omega,by decide⟩,by show 1 - 1<1 - 0;omega,zK (zN (zF 12 6 rfl rfl) (zN (z8 12 rfl (Gk (L:= [A]) rfl (by rw [hA];rfl))) (zN (zF 13 8 rfl rfl) (z8 13 rfl (FV (L:= [b]) rfl rfl))))) (s:= [0,1,2,3,4]) tA⟩
    | exact⟨(1,true),⟨by show 1<=1;omega,by decide⟩,by show 1 - 1<1 - 0;omega,zK (zN (zF 12 7 rfl rfl) (zN (z8 12 rfl (Gk (L:= [A]) rfl (by rw [hA];rfl))) (zN (zF 13 6 rfl rfl) (z8 13 rfl (FV (L:= [b]) rfl rfl))))) (s:= [0,1,2,3,4]) tA⟩
    | exact⟨(1,true),⟨by show 1<=1;omega,by decide⟩,by show 1 - 1<1 - 0;omega,zK (zN (zF 12 7 rfl rfl) (zN (z8 12 rfl (Gk (L:= [A]) rfl (by rw [hA];rfl))) (zN (zF 13 8 rfl rfl) (z8 13 rfl (FV (L:= [b]) rfl rfl))))) (s:= [0,1,2,3,4]) tA⟩
    | exact⟨(1,true),⟨by show 1<=1;omega,by decide⟩,by show 1 - 1<1 - 0;omega,zK (zN (zF 12 8 rfl rfl) (zN (z8 12 rfl (Gk (L:= [A]) rfl (by rw [hA];rfl))) (zN (zF 13 6 rfl rfl) (z8 13 rfl (FV (L:= [b]) rfl rfl))))) (s:= [0,1,2,3,4]) tA⟩
    | exact⟨(1,true),⟨by show 1<=1;omega,by decide⟩,by show 1 - 1<1 - 0;omega,zK (zN (zF 12 8 rfl rfl) (zN (z8 12 rfl (Gk (L:= [A]) rfl (by rw [hA];rfl))) (zN (zF 13 7 rfl rfl) (z8 13 rfl (FV (L:= [b]) rfl rfl))))) (s:= [0,1,2,3,4]) tA⟩
    | fail
  subst hi1;obtain rfl:q=true:=hq.2 rfl;conv=>whnf
  repeat' (refine zZ ?_;conv=>whnf)
  rw [he];refine ze9 [0,1,2,3,4] hgat ?_;rintro _ _ ⟨rfl,d2,hd2,rfl⟩;conv=>whnf
  repeat' (refine zZ ?_;conv=>whnf)
  apply zW (0) tys_ok mixed (.o [0,1,2,3,4,5,6,7,8] (.two 9 (.o [10,11,12,13,14,15,16,17] .fin) 14 (.o [9,10,11,12,13,15,16,17] .fin))) (by kernel_rfl);refine Ai ?_ ?_;conv=>whnf
  refine zY hwr ?_;conv=>whnf
  try (refine tS ?_;conv=>whnf)
  rotate_left 1;conv=>whnf
  refine zY hwr ?_;conv=>whnf
  try (refine tS ?_;conv=>whnf)
  rotate_left 1;all_goals
   conv=>whnf
   repeat' (refine zZ ?_;conv=>whnf)
   apply zW (0) tys_ok mixed (.o [0,1,2,3,4,5,6,7,8,9,10,11,12,13,14] .fin) (by kernel_rfl);conv=>whnf
   refine zY him ?_;conv=>whnf
   all_goals
    conv=>whnf
    repeat' (refine zZ ?_;conv=>whnf)
    refine⟨by omega,?_⟩;conv=>whnf
    exact⟨(k+1,d2,true),⟨by show ((k+1:Nat):Int)<=g.z;omega,hd2,⟨fun _=>by show Z<((k+1:Nat):Int);omega,fun _=>rfl⟩⟩,by show g.z.toNat - (k+1)<g.z.toNat - k;omega,zK (zN (zF 10 7 (congrArg (AV.ow 7) (by rw [Aa,CH])) rfl) (z8 10 rfl (WS rfl (by rw [Aa,CH])))) (s:= [0,1,2,3,4]) ⟨⟨rfl,rfl,rfl,rfl,rfl,rfl,by rw [<-he];exact AT (by omega),tv⟩,tA,rfl,rfl,rfl,rfl,rfl⟩⟩
theorem VolV.far {g:Geo} (hg:Bq g=true) {a:An} (ha:B7 g a=true) {l:List Tx} {F F':Int->List UInt8} {V:Int->Int->List UInt8} (h:VolV g a l F V) (e:∀ q,g.an+2*g.sl<=q->F' q=F q):VolV g a l F' V:=by
 obtain⟨g1,g2,g3,g4,g5⟩:=A2.1 hg;intro z h0 h1;obtain⟨t,hz⟩:=h z h0 h1;refine⟨t,⟨?_,hz.len,hz.ent,fun w hw hw2=>?_,hz.par⟩⟩
 ·have:=hz.tab;unfold Fq at this |-
  rw [e (Bf g z 0) (by unfold Bf;omega),e (Bf g z 1) (by unfold Bf;omega)];omega
 ·have:=hz.val w hw hw2;obtain⟨sl,e1,e2⟩:=M7 hg ha ⟨h0,h1⟩ (w:=w) ⟨hw,hw2⟩;have hsl:=KW hg ⟨h0,h1⟩ e2
  grind
theorem S5 {g:Geo} (hg:Bq g=true) {a:An} {l:List Tx} {F:Int->List UInt8} {lba:Int} {b:List UInt8} (himg:∀ t∈l,∀ x∈t.images,BW g x=true) (hs:0<=a.seq+(l.length:Int)/\a.seq+(l.length:Int)<=4294967295) (hlba:0<=lba/\lba<g.z*g.d) (hb:b.length=8) (ht:(Fq g (AO a l) F (lba.tdiv g.d)).isSome=true):(FU g a l F lba b).images.length=3/\(∀ x∈(FU g a l F lba b).images,BW g x=true)/\OneTab (FU g a l F lba b).images:=by
 obtain⟨g1,g2,g3,g4,g5⟩:=A2.1 hg;obtain⟨t,ht⟩:=C9.1 ht;have ei:(FU g a l F lba b).images=Cz (lba.tdiv g.d) (BJ g t (CY g (AO a l) F t (lba.tdiv g.d)) [lba.tmod g.d] [b] (a.seq+(l.length:Int))) (Fa g t (CY g (AO a l) F t (lba.tdiv g.d)) [lba.tmod g.d] [b] g.d.toNat) [lba.tmod g.d] [b]:=by
  show H0 g (AO a l) F _ lba b=_;unfold H0;rw [ht]
 have htok:=KU ht;obtain⟨Z,hZ⟩:∃ Z,Z=lba.tdiv g.d:=⟨_,rfl⟩;obtain⟨A,hA⟩:∃ A,A=lba.tmod g.d:=⟨_,rfl⟩;have hZ2:0<=Z/\Z<g.z:=by
  rw [hZ,Bu hlba.1];exact⟨Dl hlba.1 (by omega),Dh (by omega) hlba.2⟩
 have hA2:0<=A/\A<g.d:=by
  rw [hA];exact⟨BF _ hlba.1,Bz _ (by omega)⟩
 rw [<-hZ,<-hA] at ei;have hadlen:∀ x∈CY g (AO a l) F t Z,x.length=0\/x.length=8:=fun x hx=>by
  have himg:∀ t∈(AO a l).txns,∀ x∈t.images,BW g x=true:=himg;rcases Az.1 hx with q | q
  ·obtain⟨i,hi,rfl⟩:=AI.1 q;exact Ju himg (by have:=AJ.1 hi;omega)
  ·rw [Ay] at q;rw [q];exact Ju himg (by decide)
 have h01:∀ x∈ [b],x.length=8:=fun x hx=>by rw [Ay] at hx;rw [hx];exact hb
 have hA3:∀ x∈ [A],0<=x/\x<g.d:=fun x hx=>by rw [Ay] at hx;rw [hx];exact hA2
 rw [ei];refine⟨by rw [H5];try rfl,fun x hx=>?_,?_⟩
 ·exact(Rt hg hZ2 (G_ hg htok (by omega)) (Ht hadlen h01 (show [A].length<= [b].length from Ag 1) _) hA3 h01 (Ag 1) x hx).1
 ·exact PO (l:= []) hg List.Pairwise.nil (fun x hx=>by cases hx) hA3
def ZQ (g:Geo) (M:Md):Prop:=(M.m.length:Int)=g.z*g.d/\∃ V,VolV g M.a M.l M.F V/\∀ z w,0<=z->z<g.z->0<=w->w<g.d->M.m.getD (z*g.d+w).toNat []=V z w
theorem ap {g:Geo} (hg:Bq g=true) {z w:Int} (h0:0<=z) (h1:z<g.z) (h2:0<=w) (h3:w<g.d):0<=z*g.d+w/\z*g.d+w<g.z*g.d:=by
 obtain⟨g1,g2,g3,g4,g5⟩:=A2.1 hg;have e1:0<=z*g.d:=Dc h0 (by omega);have e2:(z+1)*g.d<=g.z*g.d:=BQ (by omega) (by omega)
 grind
theorem ZB {g:Geo} (hg:Bq g=true) {K:Int} (hK:K<=4294967294) {D:Dk} {M M':Md} {lba:Int} {b:List UInt8} (hlba:0<=lba/\lba<g.z*g.d) (hb:b.length=8) (hv:Vol g K D (AO M.a M.l)) (h:ZQ g M) (hc:aI g M lba b M'):ZQ g M'/\Vol g (K+1) D (AO M'.a M'.l):=by
 obtain⟨g1,g2,g3,g4,g5⟩:=A2.1 hg;rcases hc with ⟨hu,ht,W,hW,rfl⟩ | ⟨-,rfl⟩
 rotate_left 1
 ·exact⟨h,⟨hv.gd,hv.an,hv.ring,hv.rest,by have:=hv.gen;omega,by have:=hv.seq;omega,hv.one⟩⟩
 obtain⟨a,l,F,m⟩:=M;obtain⟨hm,V,hV,hr⟩:=h;simp only at hu ht hW hm hV hr;have ha:B7 g a=true:=hv.an;obtain⟨a1,a2,a3,a4⟩:=JC ha;have hseq:a.seq+l.length<=K:=hv.seq;have himg:∀ t∈l,∀ x∈t.images,BW g x=true:=fun t ht=>Av.1 (Fy hv.ring t ht).1
 obtain⟨c1,c2,c3⟩:=S5 hg (F:=F) himg (by omega) hlba hb ht;refine⟨⟨?_,SN V (FU g a l F lba b),?_,fun z w h0 h1 h2 h3=>?_⟩,?_⟩
 ·grind
 ·have q:=Wz hg (x:=FU g a l F lba b) (by show 0<=a.seq+(l.length:Int)/\a.seq+(l.length:Int)<=4294967295;omega) himg hV (YZ hg hlba hb ht);exact q.far hg ha fun p hp=>O_ (by omega) _ _ rfl fun w hw e=>by have:=(hW w hw).1;omega
 ·rw [YY hg hlba ht V ⟨h2,h3⟩];show (m.set lba.toNat b).getD (z*g.d+w).toNat []=_;have hz:=ap hg h0 h1 h2 h3;have hdm:g.d*lba.tdiv g.d+lba.tmod g.d=lba:=Int.mul_tdiv_add_tmod lba g.d;rw [Ab,List.getElem?_set];by_cases e:z=lba.tdiv g.d/\w=lba.tmod g.d
  ·rw [if_pos e,if_pos (by rw [e.1,e.2,Int.mul_comm,hdm]),if_pos (by omega)];try rfl
  ·rw [if_neg e,if_neg fun q=>e ?_,<-Ab]
   ·grind
   ·have q2:lba=z*g.d+w:=by omega
    have e1:lba.tdiv g.d=lba / g.d:=Bu hlba.1;have e2:lba / g.d=z:=by
     rw [q2,Int.add_comm,Int.add_mul_ediv_right _ _ (by omega),Int.ediv_eq_zero_of_lt h2 h3,Int.zero_add]
    grind
 ·exact hv.add hg hK (d':=D) hv.gd (x:=FU g a l F lba b) rfl rfl (by show (2:Int)<=4;omega) (by show (4:Int)<=g.sl - Ei l;omega) (by show (4:Int)=_;rw [c1];try rfl) c2 c3
theorem Qd {l:List Tx} {z w:Int} {p:Img × Int} (h:CG l z w=some p):∃ t∈l,p.1∈t.images:=by
 have e:CG l z w=_:=J7 l z w l.length;rw [e] at h;cases hA:FM l z w l.length with
 | none=>rw [hA] at h;cases h
 | some q=>
  obtain⟨k,i⟩:=q;obtain⟨h1,h2⟩:=H8 hA;rw [hA] at h;obtain rfl:=Option.some.inj h;exact⟨_,AC h1,AC h2⟩
theorem WF (g:Geo) (seq epoch:Int) (l:List Img) (hl:l.length<=100000) (hb:∀ x∈l,x.bytes.length<=100000):Fn Tryz.prog 75 [.ag (Bm g),iv seq,iv epoch,Fb l] fun r=>r = .tp [Sb (if KM g seq epoch l=0 then Fk seq epoch l else []),iv (KM g seq epoch l)]:=by
 have nilr:∀ c v n,n≠0->KM g seq epoch l=n->Rd (.tp [.v (.slice none 0 0),iv n]) c v->Rd (.tp [Sb (if KM g seq epoch l=0 then Fk seq epoch l else []),iv (KM g seq epoch l)]) c v:=by
  intro c v n hn he h;rw [if_neg (by rw [he];exact hn),he];simp only [Rd,RdL] at h |-
  obtain⟨xs,rfl,a,_,rfl,h1,h2⟩:=h;exact⟨_,rfl,a,_,rfl,Bv _ _ _ _ (by simpa [Rd] using h1),h2⟩
 obtain⟨z,d,sp,sl,an⟩:=g;refine zT Tryz.func75 rfl ?_;conv=>whnf
 repeat' (first | (refine Ak (fun h=>?_) (fun h=>?_) <;> (try simp at h) <;> conv=>whnf) | (refine zY (Ct z d sp sl an) ?_;conv=>whnf) | (refine zY (IB _ _ _) ?_;conv=>whnf))
 iterate 3 (exact⟨_,fun c v h=>nilr c v 1 (by decide) (by simp [KM, *]) h,rfl⟩)
 rename_i h1 h2;have ht0:(Bq ⟨z,d,sp,sl,an⟩&&(Dv seq 0 4294967295&&Dv epoch 0 4294967295))=true:=by simp [*]
 clear h h1 h2;refine zP Nat (fun k=>([(1,iv seq),(2,iv epoch),(3,Fb l),(4, .bp 0 0),(29,Fb l),(30,iv l.length),(31,iv k)], [.box 24 (Bm ⟨z,d,sp,sl,an⟩)])) (fun k=>k<=l.length/\∀ i,i<k->BW ⟨z,d,sp,sl,an⟩ (l.getD i ⟨0,0, []⟩)=true) (fun k=>l.length - k) 0 ⟨Aj _,by simp⟩ ⟨[],tv,tA,tA,rfl,rfl,rfl⟩ ?_;rintro k ⟨hk,hI⟩;conv=>whnf
 refine Ak (fun h2=>?_) (fun h2=>?_) <;> simp at h2 <;> conv=>whnf
 ·refine⟨by first | omega | (refine⟨rfl,?_,?_⟩ <;> first | omega | (simp only [Aa];done) | (simp only [Aa];omega)) | (simp only [Aa];omega),?_⟩;conv=>whnf
  refine zx (Ka ⟨z,d,sp,sl,an⟩ (l.getD k ⟨0,0, []⟩) (hb _ (AC h2))) rfl ?_;rintro _ rfl;conv=>whnf
  refine Ak (fun h3=>?_) (fun h3=>?_) <;> conv=>whnf
  ·refine⟨_,fun c v h=>nilr c v 1 (by decide) ?_ h,rfl⟩;have:l.all (BW ⟨z,d,sp,sl,an⟩)=false:=by
    rw [<-CU];intro hh;have:=Av.1 hh _ (AC (d:=⟨0,0, []⟩) h2);rw [this] at h3;simp at h3
   simp [KM,ht0,this]
  ·refine⟨k+1,⟨by omega,fun i hi=>?_⟩,by omega, [],tv,⟨rfl,rfl,rfl,rfl,rfl,rfl,AT (by omega),tv⟩,tA,rfl,rfl,rfl⟩;rcases BT i k with h | h
   ·exact hI i h
   ·obtain rfl:i=k:=by omega
    cases hq:BW ⟨z,d,sp,sl,an⟩ (l.getD i ⟨0,0, []⟩) with
    | true=>rfl
    | false=>rw [hq] at h3;simp at h3
 ·have ht1:l.all (BW ⟨z,d,sp,sl,an⟩)=true:=by
   rw [Av];intro x hx;obtain⟨i,hi,rfl⟩:=List.getElem_of_mem hx;have:=hI i (by omega);rwa [Ab,Af hi] at this
  clear hI;refine zY (IB _ _ _) ?_;conv=>whnf
  refine Ak (fun h3=>?_) (fun h3=>?_) <;> simp at h3 <;> conv=>whnf
  ·exact⟨_,fun c v h=>nilr c v 2 (by decide) (by simp [KM,ht0,ht1,h3]) h,rfl⟩
  have ht2:KM ⟨z,d,sp,sl,an⟩ seq epoch l=0:=by simp [KM,ht0,ht1,h3]
  clear nilr;rw [wi (by omega)];refine zP Nat (fun k=>([(1,iv seq),(2,iv epoch),(13,iv (l.length+1)),(12, .ow 1 k),(47,Fb l),(48,iv l.length),(49,iv k)], [.dead, .row 141 8 ((IK seq epoch (l.length+1) k l).map Hq)])) (fun k=>k<=l.length) (fun k=>l.length - k) 0 (Aj _) ⟨[(12,141,8)],tA,tA,tA,rfl,rfl,rfl⟩ ?_;rintro k hk;have hlk:=Jz seq epoch (l.length+1) k l;conv=>whnf
  refine Ak (fun h2=>?_) (fun h2=>?_) <;> simp at h2 <;> conv=>whnf
  ·refine⟨by first | omega | (refine⟨rfl,?_,?_⟩ <;> first | omega | (simp only [Aa];done) | (simp only [Aa];omega)) | (simp only [Aa];omega),?_⟩;conv=>whnf
   refine zx (BS (l.getD k ⟨0,0, []⟩).bytes (by have:=hb _ (AC (d:=⟨0,0, []⟩) h2);omega)) rfl ?_;rintro _ rfl;refine⟨rfl,?_⟩;conv=>whnf
   refine⟨⟨by rw [Aa,hlk];omega,by omega⟩,?_⟩;refine⟨k+1,by omega,by omega, [],tv,⟨rfl,rfl,rfl,rfl,rfl,rfl,AT (by omega),tv⟩,⟨Zs ?_,tv⟩,rfl,rfl,rfl⟩;rw [Rr _ _ _ h2];try rfl
  ·obtain rfl:k=l.length:=by omega
   rw [wi (by omega),show (l.length:Int)+1 - 1=l.length by omega];refine⟨rfl,?_⟩;conv=>whnf
   refine⟨⟨by rw [Aa,hlk];omega,by omega⟩,?_⟩;conv=>whnf
   refine⟨by rw [Ah,Aa,hlk];simp,?_⟩;refine⟨_,fun c v h=>?_,rfl⟩;rw [ht2,if_pos rfl];simp only [Rd,RdL] at h |-
   obtain⟨xs,rfl,a,_,rfl,h1,h2⟩:=h;exact⟨_,rfl,a,_,rfl,yW (sz:=8) (L0 seq epoch l).symm (UF seq epoch l) (by simp only [Rd];exact h1),h2⟩
@[reducible] def delX (lba:Int):AV:= .fn 79 [.rp [iA [lba]]]
theorem X6 (lba:Int):Fn Tryz.prog 152 [iA [],delX lba] fun r=>r = iv (-1):=by
 refine zT Tryz.func152 rfl ?_;conv=>whnf
 refine zB 1 ?_;conv=>whnf
 repeat' (refine zZ ?_;conv=>whnf)
 exact⟨_,ri,rfl⟩
theorem VW (lba:Int):Fn Tryz.prog 78 [iA [],delX lba] fun r=>r=iA []:=by
 have h1:=X6 lba;refine zT Tryz.func78 rfl ?_;conv=>whnf
 refine zY h1 ?_;exact⟨_,ri,rfl⟩
theorem Y1 {g:Geo} {seq epoch:Int} {l:List Img} (hg:Bq g=true) (h1:Dv seq 0 4294967295=true) (h2:Dv epoch 0 4294967295=true) (h3:l.all (BW g)=true) (h4:Dv l.length 1 29=true):KM g seq epoch l=0:=by
 simp [KM,hg,h1,h2,h3,h4]
theorem Uc (g:Geo) (s:Stt) (d:Dk) (F:Int->List UInt8) (W:List Wr) (x:Rc) (Q:Int) (hg:Bq g=true) (hx:EN g x=true) (hxl:x.img.bytes.length<=100000) (hQ:0<=Q/\Q<g.sl) (h:Gw (A7 g) d F W) (hW:W.length<1900) :
  ACalls Tryz.prog false 76 [.bp 0 0, .ag (Hq x),iv Q] (GS g s d) fun r H=>r = .tp [.v (.bool true),iv 0]/\∃ d',Gw (A7 g) d' F ((W ++ [⟨Ba g 0 Q,B5 g x 0 Q⟩]) ++ [⟨Ba g 1 Q,B5 g x 1 Q⟩])/\H=GS g s d':=by
 have b0:=EA hg h.len (.inl rfl) hQ (c:=0);have b1:=EA hg h.len (.inr rfl) hQ (c:=1);have hl:=h.len;obtain⟨e0,w0⟩:=h.write (a:=Ba g 0 Q) (b:=B5 g x 0 Q) (by omega) b0.1 (by omega) (Cc hx 0 Q);obtain⟨e1,w1⟩:=w0.write (a:=Ba g 1 Q) (b:=B5 g x 1 Q) (by simp;omega) b1.1 (by omega) (Cc hx 1 Q);have hc:=Wb g s d x Q hg hx hxl hQ h.ok h.len (by rw [e0];decide) (by rw [e1];decide);rw [e0] at hc;exact hc.mono fun r H ⟨h1,h2⟩=>⟨h1,_,w1,h2⟩
theorem Y2 {H:List AB} {t:TypeId} {g:Geo} {s:Stt} {T:List Tx} {es:List (List AV)} {n:Nat} (hj:H[0]? = some (.box t (XP g (.bp 1 0) (.ow 4 n) (iA s.lost) s))) (hk:H[4]? = some (.row 170 4 es)) (hn:n=T.length) (he:es=T.map It):ConvH H ((H.set 4 .dead).set 0 (.box t (Za g (.bp 1 0) { s with txns:=T }))):=by
 subst hn he;have h4:4<H.length:=(Ar.1 hk).1;have e:=zp (H:=H) 0 4 (cs2:=XP g (.bp 1 0) (.sl 4 (T.map It).length fun i=>(T.map It).getD i []) (iA s.lost) s) hj hk (by simp only [A5,Bp,NJ (Aa _).symm];rfl);have q:=z6 (H:=(H.set 4 .dead).set 0 (.box t (XP g (.bp 1 0) (.sl 4 (T.map It).length fun i=>(T.map It).getD i []) (iA s.lost) s))) 0 (t:=t) (cs':=Za g (.bp 1 0) { s with txns:=T }) (A3 (by rw [Bl];omega)) ⟨ri,ri,ri,ri,ri,ri,ri,ri,ri,ri,ri,ri,ri,BY (f:=It) T (Aa _) rfl,ri,ri,ri,ri,ri,ri,tv⟩;rw [List.set_set] at q;exact e.trans q
@[reducible] def a7 (g:Geo) (s:Stt) (d:Dk):List AB:= [.box 99 (Za g (.bp 1 0) s), .box 119 (Lg (.ow 2 d.cells.length) (.ow 5 d.cache.length) d.reqs d.left), .row 68 3 (d.cells.map Ci), .dead, .dead, .row 152 2 (d.cache.map GU)]
@[reducible] def conH (g:Geo) (s:Stt) (d:Dk) (lba:Int):List AB:=GS g s d ++ [.box 30 [iA [lba]]]
theorem YX (g:Geo) (a:An) (l:List Tx) (d:Dk) (F:Int->List UInt8) (K lba:Int) (b:List UInt8) (V:Int->Int->List UInt8) (hg:Bq g=true) (hv:Vol g K d (AO a l)) (hK:K<=4294967294) (h:Gd (A7 g) d F) (hF:∀ a,(F a).length<=100000) (hV:VolV g a l F V) (hlba:0<=lba/\lba<g.z*g.d) (hb:b.length=8) (hroom:4<=g.sl - Ei l) :
  ACalls Tryz.prog false 36 [.bp 0 0,iA [lba],GZ [b]] (GS g (AO a l) d) fun r H=>r = iv 0/\∃ d' W,Gd (A7 g) d' (MP F W)/\(∀ w∈W,(g.an<=w.addr/\w.addr<g.an+2*g.sl/\B_ w.bytes=w.addr)/\w.bytes.length<=200)/\Vol g (K+1) d' (AO a (l ++ [FU g a l F lba b]))/\H=a7 g (AO a (l ++ [FU g a l F lba b])) d':=by
 obtain⟨g1,g2,g3,g4,g5⟩:=A2.1 hg;have hsm:=hv.sm hg;have ha:B7 g a=true:=hv.an;have hring:CO g l a.seq a.pos g.sl=true:=hv.ring;have hl30:l.length<=30:=hsm.t.1;have hlb:LogB (AO a l).txns:=⟨by have:=hsm.t.1;omega,fun t ht=>⟨by have:=(hsm.t.2 t ht).1;omega,fun x hx=>by have:=(hsm.t.2 t ht).2 x hx;omega⟩⟩;have hun:=Hb l l.length;obtain⟨a1,a2,a3,a4⟩:=JC ha;have hseq:a.seq+l.length<=K:=hv.seq;have hZ2:0<=lba.tdiv g.d/\lba.tdiv g.d<g.z:=by
  rw [Bu hlba.1];exact⟨Dl hlba.1 (by omega),Dh (by omega) hlba.2⟩
 obtain⟨t,hz⟩:=hV _ hZ2.1 hZ2.2;have htab:Fq g (AO a l) F (lba.tdiv g.d)=some t:=hz.tab;have hB:∀ p,CG (AO a l).txns (lba.tdiv g.d) 255=some p->p.1.bytes.length<=100000:=fun p hp=>by
  obtain⟨t,ht,hx⟩:=Qd hp;have:=(hsm.t.2 t ht).2 _ hx;omega
 have h8:∀ x∈CY g (AO a l) F t (lba.tdiv g.d),x.length=8:=fun x hx=>by
  rcases Az.1 hx with q | q
  ·obtain⟨i,hi,rfl⟩:=AI.1 q;have:=AJ.1 hi;rw [hz.one ⟨by omega,by omega⟩];exact hz.len _ (by omega) (by omega)
  ·rw [Ay] at q;rw [q,hz.one ⟨by omega,by omega⟩];exact hz.len _ (by omega) (by omega)
 have htok:=KU htab;have htl:=Jv htok;have hlo:∀ i,i<t.length->(t.getD i ez).lost=false:=fun i hi=>by
  by_cases hd:(i:Int)<g.d
  ·have:=(hz.ent (i:Nat) (by omega) hd).1;rwa [show (E4 g (i:Nat)).toNat=i by unfold E4;rw [if_neg (by omega)];omega] at this
  ·have:=(hz.ent (-1) (by omega) (by omega)).1;rwa [show (E4 g (-1)).toNat=i by unfold E4;rw [if_pos rfl];omega] at this
 have tsub:SubL [.ag (Bm g), .ag (Fp a), .sl 4 l.length fun i=>(l.map It).getD i []] [.ag (Bm g), .ag (Fp a),Ej l]:=⟨ri,ri,BY (f:=It) l rfl rfl,tv⟩;have hmay:=XL g (AO a l) d lba b hg (by show l.length<=1000;omega) hlba hb;rw [show (AO a l).only=false from rfl,if_neg (by decide),show (AO a l).txns=l from rfl,if_neg (by omega)] at hmay;have hnext:=Tg g a l hg ha hring (by omega) (fun t ht=>⟨by have:=(hsm.t.2 t ht).1;omega,fun x hx=>by have:=(hsm.t.2 t ht).2 x hx;omega⟩) (by have:=(Mz hg ha).1;omega) (by have:=(Mz hg ha).2.1;omega) (by omega);obtain⟨S,hS⟩:∃ S,S=a.seq+(l.length:Int):=⟨_,rfl⟩;obtain⟨P,hP⟩:∃ P,P=(a.pos+Ei l).tmod g.sl:=⟨_,rfl⟩;have himg:=RD g (AO a l) d F lba S b hg hlb ha h hF hlba hb (by omega) hB t htab h8 hlo;rw [<-hS,<-hP] at hnext;obtain⟨L,hL⟩:∃ L,L=H0 g (AO a l) F S lba b:=⟨_,rfl⟩;rw [<-hL] at himg;have hcm:FU g a l F lba b=⟨S,P,4,L⟩:=by rw [hL,hS,hP];try rfl
 obtain⟨hL3,hLok,hL1⟩:=S5 hg (a:=a) (l:=l) (F:=F) (fun t ht=>Av.1 (Fy hring t ht).1) (by omega) hlba hb (by rw [htab];try rfl);rw [hcm] at hL3 hLok hL1 |-
 simp only at hL3 hLok hL1;have hep:0<=a.epoch/\a.epoch<=4294967295:=by
  have:=ha;simp only [B7,AR,BA,B6,Ad,decide_eq_true_eq,AK] at this;omega
 have hLb:∀ x∈L,x.bytes.length<=45:=fun x hx=>J_ hg (hLok x hx)
 have hrec:=WF g S a.epoch L (by omega) fun x hx=>by have:=hLb x hx;omega
 have hS1:Dv S 0 4294967295=true:=AK.2 (by omega);rw [Y1 hg hS1 (AK.2 hep) (Av.2 hLok) (by rw [hL3];decide),if_pos rfl] at hrec;obtain⟨R,hR⟩:∃ R,R=Fk S a.epoch L:=⟨_,rfl⟩;have hRl:R.length=4:=by rw [hR,L0,hL3]
 have hRok:∀ k:Nat,k<4->EN g (R.getD k rc0)=true/\(R.getD k rc0).img.bytes.length<=100000:=fun k hk=>by
  rw [hR,Th _ _ _ (by omega)];split
  ·rename_i q;exact⟨WX hg hS1 (AK.2 hep) (hLok _ (AC (d:=⟨0,0, []⟩) q)) q hL3,by have:=hLb _ (AC (d:=(⟨0,0, []⟩:Img)) q);show (L.getD k _).bytes.length<=_;omega⟩
  ·rw [show k=L.length by omega];exact⟨WW hg hS1 (AK.2 hep) hL3,Aj _⟩
 rw [<-hR] at hrec;refine zU tys_ok Tryz.func36 rfl rfl (Ae rfl) ?_;conv=>whnf
 refine ze9 [0,1,2,3,4] hmay ?_;rintro _ _ ⟨rfl,rfl⟩;conv=>whnf
 apply zW (0) tys_ok mixed (.o [0,1,2,3,4,5,6,7,8,9,10,11,12,13,14,15,16,17,18,19,20,21] .fin) (by kernel_rfl);conv=>whnf
 (refine zq (args':= [.ag (Bm g), .ag (Fp a), .sl 4 l.length fun i=>(l.map It).getD i []]) (hnext.subA tsub) ⟨(Aa _).symm,rfl⟩ ?_;rintro _ rfl;refine⟨rfl,?_⟩)
 conv=>whnf
 refine ze9 [0,1,2,3,4] himg ?_;rintro _ _ ⟨rfl,d1,hd1,rfl⟩;conv=>whnf
 repeat' (refine zZ ?_;conv=>whnf)
 apply zW (0) tys_ok mixed (.o [0,1,2,3,4,5,6,7,8,9,10,11,12,13,14,15,16,17] .fin) (by kernel_rfl);conv=>whnf
 refine zY hrec ?_;conv=>whnf
 refine zR (Nat × Dk × List Wr) (fun x=>([(0, .bp 0 0),(4, .bp 5 0),(8,iv P),(9,iv S),(10,Fb L),(11,Sb R),(73,Sb R),(74,iv R.length),(75,iv (x.1:Nat))],conH g (AO a l) x.2.1 lba)) (fun x=>x.1<=4/\Gw (A7 g) x.2.1 F x.2.2/\x.2.2.length=2*x.1/\∀ w∈x.2.2,(g.an<=w.addr/\w.addr<g.an+2*g.sl/\B_ w.bytes=w.addr)/\w.bytes.length<=200) (fun x=>4 - x.1) (0,d1, []) ⟨by show 0<=4;omega,hd1,rfl,fun w hw=>by cases hw⟩
  (zQ (s:= [0,1,2,3,4,5]) tA) ?_
 rintro⟨i,d2,W⟩ ⟨hi,hW,hWl,hWb⟩;simp only at hi hW hWl hWb;by_cases hi4:i<4
 ·obtain⟨Q,hQ⟩:∃ Q,Q=E8 g P (i:Nat):=⟨_,rfl⟩;have hQ2:=Ph hg (pos:=P) (at_:=(i:Nat)) (by rw [hP];exact⟨BF _ (by unfold Ei;omega),Bz _ (by omega)⟩) (by omega);rw [<-hQ] at hQ2;obtain⟨X,hX⟩:∃ X,X=R.getD i rc0:=⟨_,rfl⟩;have hXok:=hRok i hi4;rw [<-hX] at hXok;subst hX;have c0:=Hw (g:=g) (.inl rfl) hQ2 (c:=0);have c1:=Hw (g:=g) (.inr rfl) hQ2 (c:=1);have hbo:=Uc g (AO a l) d2 F W (R.getD i rc0) Q hg hXok.1 hXok.2 hQ2 hW (by omega);have hW2:∀ w∈(W ++ [⟨Ba g 0 Q,B5 g (R.getD i rc0) 0 Q⟩]) ++ [⟨Ba g 1 Q,B5 g (R.getD i rc0) 1 Q⟩],(g.an<=w.addr/\w.addr<g.an+2*g.sl/\B_ w.bytes=w.addr)/\w.bytes.length<=200:=fun w hw=>by
   rcases Az.1 hw with q | q
   ·rcases Az.1 q with q | q
    ·exact hWb w q
    ·rw [Ay] at q;rw [q];exact⟨⟨c0.1,c0.2,Qq hg hXok.1 (.inl rfl) hQ2⟩,Cc hXok.1 0 Q⟩
   ·rw [Ay] at q;rw [q];exact⟨⟨c1.1,c1.2,Qq hg hXok.1 (.inr rfl) hQ2⟩,Cc hXok.1 1 Q⟩
  conv=>whnf
  rw [show decide ((i:Int)<(R.length:Nat))=true from decide_eq_true (by omega)];conv=>whnf
  repeat' (refine zZ ?_;conv=>whnf)
  refine⟨⟨by omega,by omega⟩,?_⟩;conv=>whnf
  rw [Ac];repeat' (refine zZ ?_;conv=>whnf)
  apply zW (2 ^ 139) tys_ok mixed (.o [0,1,2,3,4,5,6,7,8,9,10,11,12,13,14,15,16] .fin) (by kernel_rfl);conv=>whnf
  try (refine tI ?_;conv=>whnf)
  (rw [show (IntKind.i64.wrap (P+(i:Nat))).tmod g.sl=Q from hQ.symm];refine ze9 [0,1,2,3,4] hbo ?_;rintro _ _ ⟨rfl,d3,hd3,rfl⟩)
  conv=>whnf
  conv=>whnf
  repeat' (refine zZ ?_;conv=>whnf)
  exact⟨(i+1,d3,(W ++ [⟨Ba g 0 Q,B5 g (R.getD i rc0) 0 Q⟩]) ++ [⟨Ba g 1 Q,B5 g (R.getD i rc0) 1 Q⟩]),⟨by show i+1<=4;omega,hd3,by show ((W ++ [_]) ++ [_]).length=2*(i+1);simp;omega,hW2⟩,by show 4 - (i+1)<4 - i;omega,zQ (s:= [0,1,2,3,4,5]) ⟨⟨rfl,rfl,rfl,rfl,rfl,rfl,rfl,rfl,AT (by omega),tv⟩,tA,rfl,rfl,rfl,rfl,rfl⟩⟩
 ·have ei:i=4:=by omega
  subst ei;have hok1:=hW.ok;have hfl:=IV d2 hok1.l hok1.m fun w hw=>(hok1.w w hw).1
  rw [if_neg (by rw [hW.left];decide),if_neg (by rw [hW.left];decide)] at hfl;have hdel:=VW lba;conv=>whnf
  rw [show decide (((4:Nat):Int)<(R.length:Nat))=false from decide_eq_false (by omega)];conv=>whnf
  repeat' (refine zZ ?_;conv=>whnf)
  refine ze9 [1,2,3] hfl ?_;rintro _ _ ⟨rfl,rfl⟩;conv=>whnf
  repeat' (refine zZ ?_;conv=>whnf)
  refine⟨rfl,?_⟩;conv=>whnf
  refine Ai ⟨by rw [Aa],by show l.length+1<=1000000000;omega⟩ ?_;conv=>whnf
  repeat' (refine zZ ?_;conv=>whnf)
  refine zY hdel ?_;conv=>whnf
  have hv2:=hv.add hg hK (d':=d2.flush) ⟨_,hW.flush⟩ (x:=⟨S,P,4,L⟩) hS hP (by show (2:Int)<=4;omega) (by show (4:Int)<=g.sl - Ei l;omega) (by show (4:Int)=(L.length:Int)+1;omega) hLok hL1;have e4:((R.length:Nat):Int)=4:=by omega
  rw [e4];exact⟨_,iv 0,a7 g (AO a (l ++ [⟨S,P,4,L⟩])) d2.flush,fun _ _ h=>h,zK (zO (Y2 (T:=l ++ [⟨S,P,4,L⟩]) rfl rfl (by rw [Ah];try rfl) (by rw [A0];try rfl))) (s:= [0,1,2,3,4,6]) tA,rfl,d2.flush,W,hW.flush,hWb,hv2,rfl⟩
theorem Sl {c1:Ctx} {l:List AV} {us:List Value} {j k:Nat} (hx:RdL l c1 us) (hj:l[j]? = some (.v (.slice none 0 0))) (q:Rd (.ow k 0) c1 (.slice none 0 0)):RdL (l.set j (.ow k 0)) c1 us:=by
 obtain⟨v,h5,h6⟩:=hx.get hj;simp only [Rd] at h6;subst h6;have h7:=hx.set (i:=j) q;have e:us.set j (.slice none 0 0)=us:=by
  obtain⟨hlt,h8⟩:=Ar.1 h5;have:=@List.set_getElem_self _ us _ hlt;rw [h8] at this;exact this
 rwa [e] at h7
theorem ConvH.ghost {H:List AB} (k j:Nat) {bt t:TypeId} {sz:Nat} {cs:List AV} (hk:H[k]? = some (.box bt cs)) (hj:cs[j]? = some (.v (.slice none 0 0))) (hz:0<sz):ConvH H (H.set k (.box bt (cs.set j (.ow H.length 0))) ++ [.row t sz []]):=by
 intro w0 M0 c hs;obtain⟨q1,q2,q3⟩:=hs.newrow (Below.refl _ _) (t:=t) (es:= []) (v:= .slice none 0 0) (xs:= []) hz (by simp) (World.ownsRow_nil _ _ _ _) (by simp) (by simp [RdL]);have hkl:=(Ar.1 hk).1;have hk':(H ++ [AB.row t sz []])[k]? = some (.box bt cs):=by rw [AD hkl];exact hk
 have q1':=q1.rebox hk' (cs':=cs.set j (.ow H.length 0)) (fun xs hx=>Sl hx hj q3);rw [List.set_append_left _ _ hkl] at q1';exact⟨c.new c.w (.slice none 0 0) 0,rfl,q1',q2⟩
theorem ACalls.ghost {P:Program} {q:Bool} {f:FuncId} {args:List AV} {H:List AB} {K:AV->List AB->Prop} (j:Nat) {t:TypeId} {sz:Nat} (hj:args[j]? = some (.v (.slice none 0 0))) (hz:0<sz) (h:ACalls P q f (args.set j (.ow H.length 0)) (H ++ [.row t sz []]) K):ACalls P q f args H K:=by
 refine⟨h.go,fun w0 M0 c us hs hr=>?_⟩;obtain⟨q1,q2,q3⟩:=hs.newrow (Below.refl _ _) (t:=t) (es:= []) (v:= .slice none 0 0) (xs:= []) hz (by simp) (World.ownsRow_nil _ _ _ _) (by simp) (by simp [RdL]);have:=h.calls w0 M0 _ us q1 (Sl (RdL.ext _ q2 hr) hj q3);refine this.mono ?_;rintro e w' ⟨v,c',r,H2,rfl,rfl,p1,p2,p3,p4,p5⟩;exact⟨v,c',r,H2,rfl,rfl,p1,p2,q2.trans p3,p4,p5⟩
@[reducible] def txV:Bool->List Tx->AV
 | true,_=> .v (.slice none 0 0)
 | false,l=>Ej l
structure Sp where
 kind:Int
 h:Int
 lba:Int
 bytes:List UInt8
 addr:Int
 frm:Int
 bit:Int
 bits:Int
 cut:Int
 keep:Int
@[reducible] def H_ (x:Sp):List AV:= [iv x.kind,iv x.h,iv x.lba,bA x.bytes,iv x.addr,iv x.frm,iv x.bit,iv x.bits,iv x.cut,iv x.keep]
@[reducible] def WC (g:Geo) (d:Dk) (on:Bool) (s:Stt) (tx lk hd:AV):List AV:= [iv g.z,iv g.d,iv g.sp,iv g.sl,iv g.an,Qp d.cells,NB d.cache,iv d.reqs,iv d.left, .v (.bool on),iv s.a.gen,iv s.a.epoch,iv s.a.pos,iv s.a.seq,iv s.a.last, .v (.string s.a.label),GW s.a.homes,tx, .v (.bool s.only),iv s.cursor,iv s.found,iv s.fixed,iv s.moved,iA s.lost,lk,hd]
@[reducible] def XW (g:Geo) (d:Dk):List AV:= [iv g.z,iv g.d,iv g.sp,iv g.sl,iv g.an,Qp d.cells,NB d.cache,iv d.reqs,iv d.left, .v (.bool false),iv 0,iv 0,iv 0,iv 0,iv 0, .v (.string ⟨#[]⟩), .v (.slice none 0 0), .v (.slice none 0 0), .v (.bool false),iv 0,iv 0,iv 0,iv 0, .v (.slice none 0 0), .v (.slice none 0 0), .v (.slice none 0 0)]
@[reducible] def ZS (vol:List AV) (g:Geo) (s:Stt) (tx:AV) (d:Dk) (x:Sp):List AB:= [.box 111 vol, .box 99 (XP g (.bp 2 0) tx (iA s.lost) s), .box 119 (Lg (.ow 3 d.cells.length) (.ow 4 d.cache.length) d.reqs d.left), .row 68 3 (d.cells.map Ci), .row 152 2 (d.cache.map GU), .box 116 (.bp 0 0:: .bp 1 0::H_ x)]
@[reducible] def Up (vol:List AV) (g:Geo) (s:Stt) (tx:AV) (d:Dk) (x:Sp):List AB:= [.box 111 vol, .box 99 (XP g (.bp 2 0) tx (iA s.lost) s), .box 119 (Lg (.ow 3 d.cells.length) (.ow 6 d.cache.length) d.reqs d.left), .row 68 3 (d.cells.map Ci), .dead, .box 116 (.bp 0 0:: .bp 1 0::H_ x), .row 152 2 (d.cache.map GU)]
@[reducible] def an7 (e n:Int) (b:List UInt8):List AV:= [iv e,iv n,bA b,iv 0,iv 0,iv 0,iA []]
theorem C3 (e n:Int):SubL [iv e,iv n, .v (.slice none 0 0),iv 0,iv 0,iv 0, .v (.slice none 0 0)] (an7 e n []):=⟨ri,ri,Bv 1 _,ri,ri,ri,Bv 1 _,tv⟩
theorem Wv (e n:Int) (b:List UInt8):SubL [iv e,iv n,bA b,iv 0,iv 0,iv 0, .v (.slice none 0 0)] (an7 e n b):=⟨ri,ri,ri,ri,ri,ri,Bv 1 _,tv⟩
theorem RQ (g:Geo) (lb:ByteArray) (hg:Bq g=true) (hs:Ev lb.data.toList=0) (hl:lb.size<=1000000):ACalls Tryz.prog false 19 [.ag (Bm g), .v (.string lb)] [] fun r H=>r = .tp [.bp 0 0,iv 0]/\H=[.box 111 (XW g (DI g lb))]:=by
 have hf:=TP g lb hg hs hl;refine zU tys_ok Tryz.func19 rfl rfl (Ae rfl) ?_;conv=>whnf
 refine zY hf ?_;exact⟨_, .tp [.bp 0 0,iv 0], [.box 111 (XW g (DI g lb))],fun _ _ h=>h,zQ (s:= [2]) tA,rfl,rfl⟩
theorem SJ (g:Geo) (hg:Bq g=true):Fn Tryz.prog 47 [.ag (Bm g)] fun r=>r = .tp [iv (4*g.sl+4*g.an+16*g.z*(g.d+g.sp+4)+8),iv 0]:=by
 have hG:Fn Tryz.prog 118 [.ag (Bm g)] fun r=>r = .v (Ew (Bq g)):=Ct g.z g.d g.sp g.sl g.an
 rw [hg] at hG;obtain⟨g1,g2,g3,g4,g5⟩:=A2.1 hg;have hb:0<=16*g.z*(g.d+g.sp+4)/\16*g.z*(g.d+g.sp+4)<=64*10:=⟨Dc (by omega) (by omega),Int.mul_le_mul (by omega) (by omega) (by omega) (by omega)⟩;refine zT Tryz.func47 rfl ?_;conv=>whnf
 refine zY hG ?_;exact⟨_,ri,by
  rw [wi (n:=4*g.sl) (by omega),wi (n:=4*g.an) (by omega),wi (n:=4*g.sl+4*g.an) (by omega),wi (n:=16*g.z) (by omega),wi (n:=g.d+g.sp) (by omega),wi (n:=g.d+g.sp+4) (by omega),wi (n:=16*g.z*(g.d+g.sp+4)) (by omega),wi (n:=4*g.sl+4*g.an+16*g.z*(g.d+g.sp+4)) (by omega),wi (n:=4*g.sl+4*g.an+16*g.z*(g.d+g.sp+4)+8) (by omega)]⟩
@[reducible] def Eo (g:Geo) (d0 d:Dk) (s0 s:Stt) (b:Bool) (L:List Lck) (l:List Hd) (x:Sp):List AB:=ZS (WC g d0 true s0 (Ej s0.txns) (BH L) (CJ l)) g s (txV b s.txns) d x
@[reducible] def E2 (g:Geo) (d0 d:Dk) (s0 s:Stt) (b:Bool) (L:List Lck) (l:List Hd) (x:Sp):List AB:=Up (WC g d0 true s0 (Ej s0.txns) (BH L) (CJ l)) g s (txV b s.txns) d x
section
variable (g:Geo) (d0 d:Dk) (s0 s:Stt) (b:Bool) (L:List Lck) (l:List Hd) (x:Sp)
theorem I6 (hl:l.length<=1000) (hh:E3 l x.h=true):ACalls Tryz.prog false 204 [.bp 5 0] (Eo g d0 d s0 s b L l x) fun r H=>r = .tp [.ag (Eh (l.getD (Eb l x.h) ⟨0, [], []⟩)),iv 0]/\H=Eo g d0 d s0 s b L l x:=by
 have ha:=LY l x.h (by omega);rw [hh,if_pos rfl] at ha;have hlt:=HP hh;obtain⟨p,hp⟩:∃ p,p=Eb l x.h:=⟨_,rfl⟩;rw [<-hp] at ha hlt |-
 cases b with
 | true=>
  refine zU tys_ok Tryz.func204 rfl rfl (Ae rfl) ?_;conv=>whnf
  apply zW (0) tys_ok mixed (.o [0,1,2,3,4,5,6,7,8,9,10,11,12,13,14,15,16,17] .fin) (by kernel_rfl);conv=>whnf
  refine zY ha ?_;refine⟨⟨by omega,by omega⟩,?_⟩;conv=>whnf
  rw [Ac];exact⟨_, .tp [.ag (Eh (l.getD p ⟨0, [], []⟩)),iv 0],Eo g d0 d s0 s true L l x,fun _ _ h=>h,zQ (s:= [0,1,2,3,4,5]) tA,rfl,rfl⟩
 | false=>
  refine zU tys_ok Tryz.func204 rfl rfl (Ae rfl) ?_;conv=>whnf
  apply zW (0) tys_ok mixed (.o [0,1,2,3,4,5,6,7,8,9,10,11,12,13,14,15,16,17] .fin) (by kernel_rfl);conv=>whnf
  refine zY ha ?_;refine⟨⟨by omega,by omega⟩,?_⟩;conv=>whnf
  rw [Ac];exact⟨_, .tp [.ag (Eh (l.getD p ⟨0, [], []⟩)),iv 0],Eo g d0 d s0 s false L l x,fun _ _ h=>h,zQ (s:= [0,1,2,3,4,5]) tA,rfl,rfl⟩
theorem FY (hg:Bq g=true) (hl:l.length<=1000) (hh:E3 l x.h=true) (hlba:0<=x.lba/\x.lba<g.z*g.d):ACalls Tryz.prog false 196 [.bp 5 0] (Eo g d0 d s0 s b L l x) fun r H=>r = .tp [.ag (Eh (l.getD (Eb l x.h) ⟨0, [], []⟩)),iv 0]/\H=Eo g d0 d s0 s b L l x:=by
 have c1:=I6 g d0 d s0 s b L l x hl hh;have c2:=Kd g x.lba hg hlba;cases b with
 | true=>
  refine zU tys_ok Tryz.func196 rfl rfl (Ae rfl) ?_;conv=>whnf
  refine ze9 [0,1,2,3,4,5] c1 ?_;rintro _ _ ⟨rfl,rfl⟩;conv=>whnf
  apply zW (0) tys_ok mixed (.o [0,1,2,3,4,5,6,7,8,9,10,11,12,13,14,15,16,17,18,19] .fin) (by kernel_rfl);conv=>whnf
  refine zY c2 ?_;conv=>whnf
  repeat' (refine zZ ?_;conv=>whnf)
  exact⟨_, .tp [.ag (Eh (l.getD (Eb l x.h) ⟨0, [], []⟩)),iv 0],Eo g d0 d s0 s true L l x,fun _ _ h=>h,zQ (s:= [0,1,2,3,4,5]) tA,rfl,rfl⟩
 | false=>
  refine zU tys_ok Tryz.func196 rfl rfl (Ae rfl) ?_;conv=>whnf
  refine ze9 [0,1,2,3,4,5] c1 ?_;rintro _ _ ⟨rfl,rfl⟩;conv=>whnf
  apply zW (0) tys_ok mixed (.o [0,1,2,3,4,5,6,7,8,9,10,11,12,13,14,15,16,17,18,19] .fin) (by kernel_rfl);conv=>whnf
  refine zY c2 ?_;conv=>whnf
  repeat' (refine zZ ?_;conv=>whnf)
  exact⟨_, .tp [.ag (Eh (l.getD (Eb l x.h) ⟨0, [], []⟩)),iv 0],Eo g d0 d s0 s false L l x,fun _ _ h=>h,zQ (s:= [0,1,2,3,4,5]) tA,rfl,rfl⟩
theorem I5 (L':List Lck):ACalls Tryz.prog false 197 [.bp 5 0,BH L',iv 0] (Eo g d0 d s0 s b L l x) fun r H=>r = iv 0/\H=Eo g d0 d s0 s b L' l x:=by
 cases b with
 | true=>
  refine zU tys_ok Tryz.func197 rfl rfl (Ae rfl) ?_;exact⟨_,iv 0,Eo g d0 d s0 s true L' l x,fun _ _ h=>h,zQ (s:= [0,1,2,3,4,5]) tA,rfl,rfl⟩
 | false=>
  refine zU tys_ok Tryz.func197 rfl rfl (Ae rfl) ?_;exact⟨_,iv 0,Eo g d0 d s0 s false L' l x,fun _ _ h=>h,zQ (s:= [0,1,2,3,4,5]) tA,rfl,rfl⟩
theorem Li (a:AV) (ha:a = .v (.slice none 0 0)) (e:Int) (he:e≠0):ACalls Tryz.prog false 197 [.bp 5 0,a,iv e] (Eo g d0 d s0 s b L l x) fun r H=>r = iv 22/\H=Eo g d0 d s0 s b L l x:=by
 subst ha;have hb:(e != 0)=true:=bne_iff_ne.2 he;cases b with
 | true=>
  refine zU tys_ok Tryz.func197 rfl rfl (Ae rfl) ?_;conv=>whnf
  rw [hb];exact⟨_,iv 22,Eo g d0 d s0 s true L l x,fun _ _ h=>h,zQ (s:= [0,1,2,3,4,5]) tA,rfl,rfl⟩
 | false=>
  refine zU tys_ok Tryz.func197 rfl rfl (Ae rfl) ?_;conv=>whnf
  rw [hb];exact⟨_,iv 22,Eo g d0 d s0 s false L l x,fun _ _ h=>h,zQ (s:= [0,1,2,3,4,5]) tA,rfl,rfl⟩
end
theorem Xw (n id:Int):Fn Tryz.prog 353 [iv n, .rp [iv id]] fun r=>r = .v (.bool (n == id)):=by
 refine zT Tryz.func353 rfl ?_;exact⟨_,ri,rfl⟩
theorem Vj (l:List Int) (id:Int) (hl:l.length<=1000000):Fn Tryz.prog 152 [iA l, .fn 353 [.rp [iv id]]] fun r=>r = iv (Nk (fun n=>n == id) l):=by
 refine zT Tryz.func152 rfl ?_;conv=>whnf
 refine zP Nat (fun k=>([(0,iA l),(1, .fn 353 [.rp [iv id]]),(7,iv l.length),(8,iv k)], [])) (fun k=>k<=l.length/\(l.take k).any (fun n=>n == id)=false) (fun k=>l.length - k) 0 ⟨Aj _,by simp⟩ ⟨[],tv,tA,tv,rfl,rfl,rfl⟩ ?_;rintro k ⟨hk,hI⟩;conv=>whnf
 refine Ak (fun h2=>?_) (fun h2=>?_) <;> simp at h2 <;> conv=>whnf
 ·refine⟨by first | omega | (refine⟨rfl,?_,?_⟩ <;> first | omega | (simp only [Aa];done) | (simp only [Aa];omega)) | (simp only [Aa];omega),?_⟩;conv=>whnf
  refine zY (Xw (l.getD k 0) id) ?_;conv=>whnf
  refine Ak (fun h3=>?_) (fun h3=>?_) <;> conv=>whnf
  ·exact⟨_,ri,by rw [Er (d:=0) h2 hI (by first | exact h3 | (rw [Ac] at h3;exact h3) | simpa using h3)]⟩
  ·refine⟨k+1,⟨by omega,Cj (d:=0) h2 hI (by first | exact h3 | (rw [Ac] at h3;exact h3) | simpa using h3)⟩,by omega, [],tv,⟨rfl,rfl,rfl,AT (by omega),tv⟩,tv,rfl,rfl,rfl⟩
 ·exact⟨_,ri,by rw [At h2] at hI;rw [Dz hI]⟩
theorem Xx (l:List Int) (id:Int) (hl:l.length<=1000000) (h:l.any (fun n=>n == id)=false):Fn Tryz.prog 78 [iA l, .fn 353 [.rp [iv id]]] fun r=>r=iA l:=by
 have h1:=Vj l id hl;rw [Dz h] at h1;refine zT Tryz.func78 rfl ?_;conv=>whnf
 refine zY h1 ?_;exact⟨_,ri,rfl⟩
def DY (l:List Lck) (id:Int):List Lck:=(l.map fun x=>if x.writer=id then (⟨x.lba,x.reads, -1⟩:Lck) else x).filter fun x=>decide (0<x.reads.length) || (x.writer != -1)
theorem R8 {l:List Lck} {id:Int} {k:Nat} (hk:k<l.length):DY (l.take (k+1)) id=DY (l.take k) id ++ DY [l.getD k lz] id:=by
 unfold DY;rw [AM hk,A0,List.filter_append];congr 2;rw [Ab,Af hk];try rfl
theorem TX (l:List Lck) (id:Int):(DY l id).length<=l.length:=by
 unfold DY;exact AW (List.length_filter_le _ _) (by rw [Aa];exact Ag _)
theorem PJ (l:List Lck) (id:Int) (hok:Hy l=true) (hid:0<=id) (hn:∀ x∈l,x.reads.any (fun n=>n == id)=false):Fn Tryz.prog 287 [BH l,iv id] fun r=>r = .tp [BH (DY l id),iv 0]:=by
 have c1:=DW l hok;have hok2:=hok;simp only [Hy,Ad,decide_eq_true_eq] at hok2;have hlen:=hok2.1;have hrd:∀ x∈l,x.reads.length<=8:=fun x hx=>by
  have:=Av.1 hok2.2.2 x hx;simp only [GB,Ad,decide_eq_true_eq] at this;exact this.1
 have c2:=LE l (by omega) fun x hx=>by have:=hrd x hx;omega
 refine zT Tryz.func287 rfl ?_;conv=>whnf
 refine zY c1 ?_;conv=>whnf
 rw [decide_eq_false (show ¬id<0 by omega)];conv=>whnf
 refine zX c2 rfl ?_;rintro _ _ ⟨rfl,rfl⟩;conv=>whnf
 refine zR Nat (fun k=>([(3, .rp [iv id]),(6, .ow 1 (DY (l.take k) id).length),(17, .ow 0 l.length),(18,iv l.length),(19,iv k)], [.row 216 3 (l.map DX), .row 216 3 ((DY (l.take k) id).map DX)])) (fun k=>k<=l.length) (fun k=>l.length - k) 0 (Aj _)
  ⟨_,_,zg 3 0 (y:= .rp [iv id]) (H':= [.dead, .row 216 3 (l.map DX)]) rfl (by (conv=>whnf);exact tA), [(6,216,3)],tA, [1,2],tA⟩ ?_
 rintro k hk;conv=>whnf
 refine AS (fun h2=>?_) (fun h2=>?_) <;> (repeat rw [Ac] at h2) <;> conv=>whnf
 ·have hk':k<l.length:=by omega
  have hE:(l.map DX).getD (k:Int).toNat []=DX (l.getD k lz):=by rw [Ac];exact AP hk'
  have hm:=AC (d:=lz) hk';have hdl:=Xx (l.getD k lz).reads id (by have:=hrd _ hm;omega) (hn _ hm);have hds:=R8 (id:=id) hk';have hdn:=TX (l.take k) id;rw [Aq] at hdn;obtain⟨q,hq⟩:∃ q,q=l.getD k lz:=⟨_,rfl⟩;rw [<-hq] at hE hdl hds;obtain⟨qb,qr,qw⟩:=q;repeat' (refine zZ ?_;conv=>whnf)
  refine⟨⟨by omega,by omega⟩,?_⟩;conv=>whnf
  refine Ai ⟨rfl,(Aa _).symm,by rw [Ac];exact hk'⟩ ?_;conv=>whnf
  rw [hE];conv=>whnf
  refine zY hdl ?_;conv=>whnf
  repeat' (refine zZ ?_;conv=>whnf)
  by_cases e1:qw=id
  ·rw [show ((⟨qb,qr,qw⟩:Lck).writer == id)=true from beq_iff_eq.2 e1];conv=>whnf
   by_cases e2:0<qr.length
   ·have o:DY [⟨qb,qr,qw⟩] id=[⟨qb,qr, -1⟩]:=by simp [DY,e1,e2]
    rw [show decide (((⟨qb,qr,qw⟩:Lck).reads.length:Int) > 0)=true from decide_eq_true (by show 0<(qr.length:Int);omega)];conv=>whnf
    repeat' (refine zZ ?_;conv=>whnf)
    refine⟨rfl,?_⟩;refine⟨⟨by rw [Aa],by omega⟩,?_⟩;conv=>whnf
    exact⟨k+1,hk',by omega,zQ (s:= [0,1]) ⟨⟨rfl,by rw [hds,o,Ah];try rfl,rfl,rfl,AT (by omega),tv⟩,⟨rfl,by rw [hds,o,A0];try rfl,tv⟩,rfl,rfl,rfl,rfl,rfl⟩⟩
   ·have o:DY [⟨qb,qr,qw⟩] id=[]:=by simp [DY,e1,e2]
    rw [show decide (((⟨qb,qr,qw⟩:Lck).reads.length:Int) > 0)=false from decide_eq_false (by show ¬0<(qr.length:Int);omega)];conv=>whnf
    repeat' (refine zZ ?_;conv=>whnf)
    exact⟨k+1,hk',by omega,zQ (s:= [0,1]) ⟨⟨rfl,by rw [hds,o,AE];try rfl,rfl,rfl,AT (by omega),tv⟩,⟨rfl,by rw [hds,o,AE];try rfl,tv⟩,rfl,rfl,rfl,rfl,rfl⟩⟩
  ·rw [show ((⟨qb,qr,qw⟩:Lck).writer == id)=false from beq_eq_false_iff_ne.2 e1];conv=>whnf
   by_cases e2:0<qr.length
   ·have o:DY [⟨qb,qr,qw⟩] id=[⟨qb,qr,qw⟩]:=by simp [DY,e1,e2]
    rw [show decide (((⟨qb,qr,qw⟩:Lck).reads.length:Int) > 0)=true from decide_eq_true (by show 0<(qr.length:Int);omega)];conv=>whnf
    repeat' (refine zZ ?_;conv=>whnf)
    refine⟨rfl,?_⟩;refine⟨⟨by rw [Aa],by omega⟩,?_⟩;conv=>whnf
    exact⟨k+1,hk',by omega,zQ (s:= [0,1]) ⟨⟨rfl,by rw [hds,o,Ah];try rfl,rfl,rfl,AT (by omega),tv⟩,⟨rfl,by rw [hds,o,A0];try rfl,tv⟩,rfl,rfl,rfl,rfl,rfl⟩⟩
   ·rw [show decide (((⟨qb,qr,qw⟩:Lck).reads.length:Int) > 0)=false from decide_eq_false (by show ¬0<(qr.length:Int);omega)];conv=>whnf
    by_cases e3:qw = -1
    ·have o:DY [⟨qb,qr,qw⟩] id=[]:=by simp [DY,e2,e3]
     rw [show ((⟨qb,qr,qw⟩:Lck).writer != -1)=false from bne_eq_false_iff_eq.2 e3];conv=>whnf
     repeat' (refine zZ ?_;conv=>whnf)
     exact⟨k+1,hk',by omega,zQ (s:= [0,1]) ⟨⟨rfl,by rw [hds,o,AE];try rfl,rfl,rfl,AT (by omega),tv⟩,⟨rfl,by rw [hds,o,AE];try rfl,tv⟩,rfl,rfl,rfl,rfl,rfl⟩⟩
    ·have o:DY [⟨qb,qr,qw⟩] id=[⟨qb,qr,qw⟩]:=by simp [DY,e1,e2,e3]
     rw [show ((⟨qb,qr,qw⟩:Lck).writer != -1)=true from bne_iff_ne.2 e3];conv=>whnf
     repeat' (refine zZ ?_;conv=>whnf)
     refine⟨rfl,?_⟩;refine⟨⟨by rw [Aa],by omega⟩,?_⟩;conv=>whnf
     exact⟨k+1,hk',by omega,zQ (s:= [0,1]) ⟨⟨rfl,by rw [hds,o,Ah];try rfl,rfl,rfl,AT (by omega),tv⟩,⟨rfl,by rw [hds,o,A0];try rfl,tv⟩,rfl,rfl,rfl,rfl,rfl⟩⟩
 ·have e:k=l.length:=by omega
  subst e;rw [A6];refine Ai (Aa _).symm ?_;exact⟨_,BV (m:= [BH (DY l id),iv 0]) ⟨BY (f:=DX) (DY l id) rfl rfl,ri,tv⟩,rfl⟩
theorem Kl {l:List Hd} {id:Int} (h:E3 l id=true):(l.getD (Eb l id) ⟨0, [], []⟩).id=id:=by
 have h1:=HP h;have h2:(l[Eb l id].id == id)=true:=List.findIdx_getElem (p:=fun h:Hd=>h.id == id) (xs:=l) (w:=h1);rw [Ab,Af h1];exact eq_of_beq h2
section
variable (g:Geo) (d0 d:Dk) (s0 s:Stt) (b:Bool) (L:List Lck) (l:List Hd) (x:Sp)
theorem SK (hl:l.length<=1000) (hs:∀ h∈l,I4 h) (hend:freeId l 0=l.length) (ho:(DT l).2.2=0):ACalls Tryz.prog false 111 [.bp 5 0] (Eo g d0 d s0 s b L l x) fun r H=>r = .ag (an7 0 (DT l).2.1 [])/\H=Eo g d0 d s0 s b L (DT l).1 x:=by
 have c1:=V6 l hl hs hend;rw [ho] at c1;obtain⟨n,hn⟩:∃ n,n=(DT l).2.1:=⟨_,rfl⟩;obtain⟨m,hm⟩:∃ m,m=(DT l).1:=⟨_,rfl⟩;rw [<-hn,<-hm] at c1 |-
 cases b with
 | true=>
  refine zU tys_ok Tryz.func111 rfl rfl (Ae rfl) ?_;conv=>whnf
  refine zY c1 ?_;exact⟨_, .ag (an7 0 n []),Eo g d0 d s0 s true L m x,Bg (C3 0 n),zQ (s:= [0,1,2,3,4,5]) tA,rfl,rfl⟩
 | false=>
  refine zU tys_ok Tryz.func111 rfl rfl (Ae rfl) ?_;conv=>whnf
  refine zY c1 ?_;exact⟨_, .ag (an7 0 n []),Eo g d0 d s0 s false L m x,Bg (C3 0 n),zQ (s:= [0,1,2,3,4,5]) tA,rfl,rfl⟩
theorem MM (L':List Lck) (id:Int) (hl:l.length<=1000) (hs:∀ h∈l,I4 h) (hd:Fn Tryz.prog 287 [BH L,iv id] fun r=>r = .tp [BH L',iv 0]):ACalls Tryz.prog false 205 [.bp 0 0,iv id] (Eo g d0 d s0 s b L l x) fun r H=>r = .tp []/\H=Eo g d0 d s0 s b L' (Ds l id).1 x:=by
 have c1:=TI l id hl hs;generalize Ds l id=q at c1 |-
 obtain⟨m,h,e⟩:=q;simp only at c1 |-
 cases b with
 | true=>
  refine zU tys_ok Tryz.func205 rfl rfl (Ae rfl) ?_;conv=>whnf
  refine zY c1 ?_;conv=>whnf
  refine zY hd ?_;exact⟨_, .tp [],Eo g d0 d s0 s true L' m x,fun _ _ h=>h,zQ (s:= [0,1,2,3,4,5]) tA,rfl,rfl⟩
 | false=>
  refine zU tys_ok Tryz.func205 rfl rfl (Ae rfl) ?_;conv=>whnf
  refine zY c1 ?_;conv=>whnf
  refine zY hd ?_;exact⟨_, .tp [],Eo g d0 d s0 s false L' m x,fun _ _ h=>h,zQ (s:= [0,1,2,3,4,5]) tA,rfl,rfl⟩
theorem SG (L':List Lck) (hg:Bq g=true) (hok:DO l=true) (hl:l.length<=1000) (hs:∀ h∈l,I4 h) (hh:E3 l x.h=true) (hlba:0<=x.lba/\x.lba<g.z*g.d) (h8:x.bytes.length=8) (hf:KC (l.getD (Eb l x.h) ⟨0, [], []⟩) x.lba=false) (hend:Ef (l.getD (Eb l x.h) ⟨0, [], []⟩).lbas x.lba=(l.getD (Eb l x.h) ⟨0, [], []⟩).lbas.length) (hw:Fn Tryz.prog 202 [BH L,iv x.h,iv x.lba] fun r=>r = .tp [BH L',iv 0]):ACalls Tryz.prog false 113 [.bp 5 0] (Eo g d0 d s0 s b L l x) fun r H=>r = iv 0/\H=Eo g d0 d s0 s b L' (l.set (Eb l x.h) (W6 (l.getD (Eb l x.h) ⟨0, [], []⟩) x.lba x.bytes)) x:=by
 have c1:=FY g d0 d s0 s b L l x hg hl hh hlba;have hid:=Kl hh;have c2:=Ow (l.getD (Eb l x.h) ⟨0, [], []⟩) x.lba (by have:=(hs _ (AC (d:=⟨0, [], []⟩) (HP hh))).1;omega);rw [show (decide (4<=(l.getD (Eb l x.h) ⟨0, [], []⟩).lbas.length)&&!(l.getD (Eb l x.h) ⟨0, [], []⟩).lbas.any fun y=>x.lba == y)=false from hf] at c2;have c3:=I5 g d0 d s0 s b L l x L';have c4:=X8 l x.h x.lba x.bytes hl hs hok hh (by omega) h8 hf hend;generalize l.set (Eb l x.h) (W6 (l.getD (Eb l x.h) ⟨0, [], []⟩) x.lba x.bytes)=m at c4 |-
 obtain⟨q,hq⟩:∃ q,q=l.getD (Eb l x.h) ⟨0, [], []⟩:=⟨_,rfl⟩;rw [<-hq] at c1 c2 hid;have hn8:((x.bytes.length:Int) != 8)=false:=bne_eq_false_iff_eq.2 (by omega);cases b with
 | true=>
  refine zU tys_ok Tryz.func113 rfl rfl (Ae rfl) ?_;conv=>whnf
  refine ze9 [0,1,2,3,4,5] c1 ?_;rintro _ _ ⟨rfl,rfl⟩;conv=>whnf
  rw [hn8];conv=>whnf
  apply zW (0) tys_ok mixed (.o [0,1,2,3,4,5,6,7] .fin) (by kernel_rfl);conv=>whnf
  refine zY c2 ?_;conv=>whnf
  rw [hid];apply zW (2 ^ 146) tys_ok mixed (.o [0,1,2,3,4,5,6,7,8,9,10,11,12,13,14,15,16,17,18,19] .fin) (by kernel_rfl);conv=>whnf
  refine zY hw ?_;conv=>whnf
  (refine ze9 [0,1,2,3,4,5] c3 ?_;rintro _ _ ⟨rfl,rfl⟩)
  conv=>whnf
  repeat' (refine zZ ?_;conv=>whnf)
  apply zW (0) tys_ok mixed (.o [0,1,2,3,4,5,6,7,8,9,10,11,12,13,14,15,16,17,18,19,20,21,22,23,24,25,26,27,28,29,30] .fin) (by kernel_rfl);conv=>whnf
  refine zY c4 ?_;conv=>whnf
  try (refine tS ?_;conv=>whnf)
  exact⟨_,iv 0,Eo g d0 d s0 s true L' m x,fun _ _ h=>h,zQ (s:= [0,1,2,3,4,5]) tA,rfl,rfl⟩
 | false=>
  refine zU tys_ok Tryz.func113 rfl rfl (Ae rfl) ?_;conv=>whnf
  refine ze9 [0,1,2,3,4,5] c1 ?_;rintro _ _ ⟨rfl,rfl⟩;conv=>whnf
  rw [hn8];conv=>whnf
  apply zW (0) tys_ok mixed (.o [0,1,2,3,4,5,6,7] .fin) (by kernel_rfl);conv=>whnf
  refine zY c2 ?_;conv=>whnf
  rw [hid];apply zW (2 ^ 146) tys_ok mixed (.o [0,1,2,3,4,5,6,7,8,9,10,11,12,13,14,15,16,17,18,19] .fin) (by kernel_rfl);conv=>whnf
  refine zY hw ?_;conv=>whnf
  (refine ze9 [0,1,2,3,4,5] c3 ?_;rintro _ _ ⟨rfl,rfl⟩)
  conv=>whnf
  repeat' (refine zZ ?_;conv=>whnf)
  apply zW (0) tys_ok mixed (.o [0,1,2,3,4,5,6,7,8,9,10,11,12,13,14,15,16,17,18,19,20,21,22,23,24,25,26,27,28,29,30] .fin) (by kernel_rfl);conv=>whnf
  refine zY c4 ?_;conv=>whnf
  try (refine tS ?_;conv=>whnf)
  exact⟨_,iv 0,Eo g d0 d s0 s false L' m x,fun _ _ h=>h,zQ (s:= [0,1,2,3,4,5]) tA,rfl,rfl⟩
theorem SL (L':List Lck) (hl:l.length<=1000) (hs:∀ h∈l,I4 h) (hh:E3 l x.h=true) (hd:Fn Tryz.prog 287 [BH L,iv x.h] fun r=>r = .tp [BH L',iv 0]):ACalls Tryz.prog false 115 [.bp 5 0] (Eo g d0 d s0 s b L l x) fun r H=>r = iv 0/\H=Eo g d0 d s0 s b L' (Ds l x.h).1 x:=by
 have c1:=I6 g d0 d s0 s b L l x hl hh;have hid:=Kl hh;have c2:=MM g d0 d s0 s b L l x L' x.h hl hs hd;obtain⟨q,hq⟩:∃ q,q=l.getD (Eb l x.h) ⟨0, [], []⟩:=⟨_,rfl⟩;rw [<-hq] at c1 hid;generalize (Ds l x.h).1=m at c2 |-
 cases b with
 | true=>
  refine zU tys_ok Tryz.func115 rfl rfl (Ae rfl) ?_;conv=>whnf
  refine ze9 [0,1,2,3,4,5] c1 ?_;rintro _ _ ⟨rfl,rfl⟩;conv=>whnf
  rw [hid];repeat' (refine zZ ?_;conv=>whnf)
  apply zW (2 ^ 134) tys_ok mixed (.o [0,1,2,3,4,5,6] .fin) (by kernel_rfl);conv=>whnf
  (refine ze9 [0,1,2,3,4,5] c2 ?_;rintro _ _ ⟨rfl,rfl⟩)
  conv=>whnf
  repeat' (refine zZ ?_;conv=>whnf)
  exact⟨_,iv 0,Eo g d0 d s0 s true L' m x,fun _ _ h=>h,zQ (s:= [0,1,2,3,4,5]) tA,rfl,rfl⟩
 | false=>
  refine zU tys_ok Tryz.func115 rfl rfl (Ae rfl) ?_;conv=>whnf
  refine ze9 [0,1,2,3,4,5] c1 ?_;rintro _ _ ⟨rfl,rfl⟩;conv=>whnf
  rw [hid];repeat' (refine zZ ?_;conv=>whnf)
  apply zW (2 ^ 134) tys_ok mixed (.o [0,1,2,3,4,5,6] .fin) (by kernel_rfl);conv=>whnf
  (refine ze9 [0,1,2,3,4,5] c2 ?_;rintro _ _ ⟨rfl,rfl⟩)
  conv=>whnf
  repeat' (refine zZ ?_;conv=>whnf)
  exact⟨_,iv 0,Eo g d0 d s0 s false L' m x,fun _ _ h=>h,zQ (s:= [0,1,2,3,4,5]) tA,rfl,rfl⟩
end
def L7 (g:Geo) (lb:ByteArray) (c:An) (q:Int):List UInt8:=if q<0 then ((C4 (DI g lb).cells (AU g c)).getD (-1 - q).toNat cz).old else if q<g.an then Dt c q else FT g lb q
theorem Xg {g:Geo} {lb:ByteArray} (hg:Bq g=true) (hs:Ev lb.data.toList=0):∃ D,JV g (DI g lb)=(D,0,AO (Ec (BN g lb) 0) [])/\DkOk (DI g lb)/\((DI g lb).cells.length:Int)=A7 g/\Vol g 2 D (AO (Ec (BN g lb) 0) [])/\Gd (A7 g) D (L7 g lb (Ec (BN g lb) 0)):=by
 obtain⟨g1,g2,g3,g4,g5⟩:=A2.1 hg;have hf:=Kf (g:=g) (s:=lb) hg;have hb:=Kg (g:=g) (s:=lb) hg hs;have hdk:DkOk (DI g lb):=XE hg hb;have hcg:=En hg;have hsc:=Pp hg (b:=BN g lb) rfl (by show ¬(1:Int) - 1<0;decide) hf;have hm:=Og hg hdk hf.len hf.cache (by show (-1:Int)<0;decide) (UV hg hb hf) hsc (by show (1:Int)≠_;decide) (by show (0:Int)≠_;decide) (fun w hw=>by cases hw) (Aj _);have hna:=Fh g (Ec (BN g lb) ([]:List Tx).length);rw [VG hf _ (fun w hw=>by
  simp only [AU,AI,AJ] at hw;obtain⟨i,hi,rfl⟩:=hw;exact⟨by show (0:Int)<=(i:Nat);omega,by show ((i:Nat):Int)<_;omega⟩),if_neg (by omega),if_neg (by omega)] at hm
 have hn:=PC (n:=0) hb (by show (1:Int)≠_;decide) (by show (0:Int)≠_;decide) (by show (1:Int)+0 - 1<=_;decide);have hfin:=TF (r:=((DI g lb).tick (LC g [])).reqs) (l:=(DI g lb).left) hg (c:=Ec (BN g lb) ([]:List Tx).length) hf;have hD:DkOk ⟨C4 (C4 (DI g lb).cells []) (AU g (Ec (BN g lb) 0)), [],((DI g lb).tick (LC g [])).reqs,(DI g lb).left⟩:=by
  have h1:=hdk.adv (LC g []);rw [JG _ (Sm hdk (by show (-1:Int)<0;decide) _)] at h1;have h2:=h1.allFin (AU g (Ec (BN g lb) 0)) fun w hw=>(M3 hg hn hf.len w hw).2
  rw [allFin_cells] at h2;exact h2
 have hgd:Gd (A7 g) _ (L7 g lb (Ec (BN g lb) 0)):=⟨hD,rfl,hfin.len,hfin.cache,fun a h0 h1=>by
  unfold L7;rw [if_neg (by omega)];exact hfin.cell a h0 h1,fun a h0 h1=>by
  unfold L7;rw [if_pos (by omega),show -1 - (-1 - a)=a by omega];try rfl⟩
 exact⟨_,hm,hdk,hf.len,⟨⟨_,hgd⟩,hn,rfl,tA,(by show (1:Int)+1<=2;decide),(by show (1:Int)+(0:Nat)<=2;decide),fun t ht=>by cases ht⟩,hgd⟩
def I2 (g:Geo) (lb:ByteArray):Md:=⟨Ec (BN g lb) 0, [],KE (A7 g) (L7 g lb (Ec (BN g lb) 0)),List.replicate (g.z*g.d).toNat zero8⟩
theorem UM {g:Geo} {lb:ByteArray} (hg:Bq g=true) (hs:Ev lb.data.toList=0):∃ D,JV g (DI g lb)=(D,0,AO (I2 g lb).a (I2 g lb).l)/\DkOk (DI g lb)/\((DI g lb).cells.length:Int)=A7 g/\Gd (A7 g) D (I2 g lb).F/\Vo g 2 (I2 g lb):=by
 obtain⟨D,h1,h2,h3,h4,h5⟩:=Xg hg hs;obtain⟨q1,q2⟩:=h5.clip;refine⟨D,h1,h2,h3,q1,Vo.of (d:=D) (M:=I2 g lb) ⟨⟨_,q1⟩,h4.an,h4.ring,h4.rest,h4.gen,h4.seq,h4.one⟩ q2 ?_⟩;obtain⟨g1,g2,g3,g4,g5⟩:=A2.1 hg;have:0<=g.z*g.d:=Dc (by omega) (by omega);show (((List.replicate (g.z*g.d).toNat zero8).length:Nat):Int)=_;rw [Be];omega
theorem U_ {g:Geo} {lb:ByteArray} (hg:Bq g=true):VolV g (I2 g lb).a (I2 g lb).l (I2 g lb).F fun _ _=>zero8:=by
 obtain⟨g1,g2,g3,g4,g5⟩:=A2.1 hg;intro z h0 h1;obtain⟨k,rfl⟩:∃ k:Nat,z=(k:Nat):=⟨z.toNat,by omega⟩;have hcb:=HJ hg;have hpb:=Hs hg;have ht0:=RU hg;have hzh:((I2 g lb).a.homes.getD k ⟨[],0,0⟩)=⟨(List.range (g.d+1).toNat).map Int.ofNat,g.d+1,0⟩:=by
  show (List.replicate g.z.toNat _).getD k _=_;rw [Ab,CI,if_pos (by omega)];try rfl
 have hF:∀ q,g.an+2*g.sl<=q->q<A7 g->(I2 g lb).F q=FT g lb q:=fun q hq hq2=>by
  show KE (A7 g) (L7 g lb _) q=_;rw [XM (by omega) hq2];unfold L7;rw [if_neg (by omega)];exact if_neg (by omega)
 have hti:=QK hg (z:=(k:Nat)) (k:=0) ⟨h0,h1⟩ (by omega);have htab:Fq g (AO (I2 g lb).a (I2 g lb).l) (I2 g lb).F (k:Nat)=some (EE g):=by
  have hroot:Dy (I2 g lb).a (I2 g lb).l (k:Nat)=0:=by
   show ((I2 g lb).a.homes.getD ((k:Nat):Int).toNat ⟨[],0,0⟩).root=0;rw [Ac,hzh]
  show (match Cv g ⟨0,(I2 g lb).F (Bf g (k:Nat) 0)⟩ (Bf g (k:Nat) 0) (Dy (I2 g lb).a (I2 g lb).l (k:Nat)) with | some t=>some t | none=>_)=_;have e:=PZ (g:=g) (s:=lb) (z:=k) (k:=0) (by omega) h1 (by omega);rw [hroot,hF _ hti.1 hti.2.2,show Bf g ((k:Nat):Int) (0:Int)=Bf g (k:Nat) ((0:Nat):Int) from rfl,e,SV ⟨by show 0<=Bf g (k:Nat) 0;omega,by show Bf g (k:Nat) 0<=65535;omega,by omega,by omega,by rw [EZ];unfold EE;rw [Be];omega⟩,IC ht0]
 have hent:∀ w, -1<=w->w<g.d->(EE g).getD (E4 g w).toNat ez=ent0:=fun w hw hw2=>by
  have hat:0<=E4 g w/\E4 g w<=g.d:=by unfold E4;split <;> omega
  unfold EE;rw [Ab,CI,if_pos (by omega)];try rfl
 refine⟨EE g,htab,fun _ _ _=>rfl,fun w hw hw2=>?_,fun w hw hw2=>?_,(fold_zero _).symm⟩
 ·rw [hent w hw hw2];exact tA
 ·show DJ ⟨0,(I2 g lb).F (D3 g (I2 g lb).a (k:Nat) w)⟩ (D3 g (I2 g lb).a (k:Nat) w) ((EE g).getD (E4 g w).toNat ez)=some zero8;have hat:0<=E4 g w/\E4 g w<=g.d:=by unfold E4;split <;> omega
  have hadr:D3 g (I2 g lb).a (k:Nat) w=Cw g (k:Nat) ((E4 g w).toNat:Nat):=by
   unfold D3;rw [Ac,hzh];congr 1;rw [AP (d:=0) (by simp;omega),Ab,BL (by omega)];try rfl
  have hsl:=KW hg (z:=(k:Nat)) (s:=((E4 g w).toNat:Nat)) ⟨h0,h1⟩ (by unfold CK;omega);rw [hadr,hF _ (by omega) hsl.2,Np (by omega) (by omega) (by omega),hent w hw hw2];exact Ud ⟨by omega,by omega,by omega,by omega,by decide⟩ rfl rfl rfl
theorem Va {g:Geo} {lb:ByteArray} (hg:Bq g=true):ZQ g (I2 g lb):=by
 obtain⟨g1,g2,g3,g4,g5⟩:=A2.1 hg;have hn:0<=g.z*g.d:=Dc (by omega) (by omega);refine⟨?_,_,U_ hg,fun z w h0 h1 h2 h3=>?_⟩
 ·show (((List.replicate (g.z*g.d).toNat zero8).length:Nat):Int)=_;rw [Be];omega
 ·have:=ap hg h0 h1 h2 h3;show (List.replicate (g.z*g.d).toNat zero8).getD _ []=zero8;rw [Ab,CI,if_pos (by omega)];try rfl
theorem Vh {g:Geo} {a:An} {seq left:Int} (hg:Bq g=true):EH g a ⟨0,B5 g zeroC 0 0⟩ ⟨0,B5 g zeroC 1 0⟩ 0 seq 0 0 left=(zeroC, [],2):=by
 obtain⟨g1,g2,g3,g4,g5⟩:=A2.1 hg;have h0:Fo zeroC a seq 0 0 left=false:=decide_eq_false fun h=>h.1 rfl
 unfold EH;rw [JM hg (Ey hg) (L8 (.inl rfl) ⟨by omega,by omega⟩),JM hg (Ey hg) (L8 (.inr rfl) ⟨by omega,by omega⟩)];show FK (some zeroC) (some zeroC) (Fo zeroC a seq 0 0 left) (Fo zeroC a seq 0 0 left)=_;rw [h0];try rfl
theorem UH (g:Geo) (a:An) (x y:List Gt) (pos seq left:Int) (hp:pos=0) (hg:Bq g=true) (ha:B7 g a=true) (hl:a.label.size<=1000000) (hh:a.homes.length<=1000000) (hx:x.length=g.sl) (hy:y.length=g.sl) (h0:x.getD 0 gz=⟨0,B5 g zeroC 0 0⟩) (h1:y.getD 0 gz=⟨0,B5 g zeroC 1 0⟩) :
  ACalls Tryz.prog false 376 [.bp 0 0,iv 0,iv 0] [.box 443 (Zg g a x y pos seq left (.v (.slice none 0 0)))]
   fun r H=>r = .tp [.ag (Hq zeroC),iv 2, .v (.slice none 0 0)]/\H=[.box 443 (Zg g a x y pos seq left (.v (.slice none 0 0)))]:=by
 subst hp;obtain⟨g1,g2,g3,g4,g5⟩:=A2.1 hg;have b0:(B5 g zeroC 0 0).length<=100000:=by have:=Cc (Ey hg) 0 0;omega
 have b1:(B5 g zeroC 1 0).length<=100000:=by have:=Cc (Ey hg) 1 0;omega
 have lk:=Xs (g:=g) (a:=a) (x:=⟨0,B5 g zeroC 0 0⟩) (y:=⟨0,B5 g zeroC 1 0⟩) (slot:=0) (seq:=seq) (at_:=0) (of_:=0) (left:=left) hl hh b0 b1 hg ha (AK.2 (by omega)) (Vh hg);have w0:(IntKind.i64.wrap (0+0)).tmod g.sl=0:=by rw [show IntKind.i64.wrap (0+0)=0 from rfl,Int.zero_tmod]
 rw [<-h0,<-h1] at lk;refine zU tys_ok Tryz.func376 rfl rfl (Ae rfl) ?_;conv=>whnf
 conv=>whnf
 refine zH tys_ok mixed (by kernel_rfl) ?_;refine⟨by omega,?_⟩;conv=>whnf
 rw [w0];apply zI tys_ok mixed (.o [0,1,2,3,4,5,6,7,8,9,10,11,12,13,14,15,16,17,18,19,20,21,22,23,24,25,26,27,28,29,30,31,32] (.two 33 (.o [34,35,36,37,38,39,40,41,42,43] .fin) 39 (.o [33,34,35,36,37,38,40,41,42,43] .fin))) [10,11,12,13,33,34,35,36,37,38,39,40,41,42,43,44,45,46,47,48,49,50,51,52,53,54,55,56,57,58,59,60,61,62,63,64,65,66,67,68,69,70,71] (by kernel_rfl)
 ·conv=>whnf
  try (refine Ai (by first | omega | exact ixA | exact ixB | (simp;done)) ?_;conv=>whnf)
  try (refine Ai (by first | omega | exact ixA | exact ixB | (simp;done)) ?_;conv=>whnf)
  refine Ai ?_ ?_
  ·conv=>whnf
   refine zY lk ?_;conv=>whnf
   try (refine tS ?_;conv=>whnf)
   exact tA
  ·conv=>whnf
   refine zY lk ?_;conv=>whnf
   try (refine tS ?_;conv=>whnf)
   exact tA
 conv=>whnf
 refine zB 1 ?_;conv=>whnf
 repeat' (refine zZ ?_;conv=>whnf)
 exact⟨_, .tp [.ag (Hq zeroC),iv 2, .v (.slice none 0 0)], [.box 443 (Zg g a x y 0 seq left (.v (.slice none 0 0)))],fun _ _ h=>h,zQ (s:= [0]) tA,rfl,rfl⟩
theorem Uw (g:Geo) (a:An) (x y:List Gt) (pos seq left:Int) (hp:pos=0) (hg:Bq g=true) (ha:B7 g a=true) (hl:a.label.size<=1000000) (hh:a.homes.length<=1000000) (hx:x.length=g.sl) (hy:y.length=g.sl) (h0:x.getD 0 gz=⟨0,B5 g zeroC 0 0⟩) (h1:y.getD 0 gz=⟨0,B5 g zeroC 1 0⟩) :
  ACalls Tryz.prog false 331 [.bp 0 0] [.box 443 (Zg g a x y pos seq left (.v (.slice none 0 0)))]
   fun r H=>r = .tp [.ag [iv 0,iv 0,iv 0, .v (.slice none 0 0)],iv 2]/\H=[.box 443 (Zg g a x y pos seq left (.v (.slice none 0 0)))]:=by
 subst hp;have rc0:=UH g a x y 0 seq left rfl hg ha hl hh hx hy h0 h1;refine zU tys_ok Tryz.func331 rfl rfl (Ae rfl) ?_;conv=>whnf
 conv=>whnf
 refine ze9 [0] rc0 ?_;rintro _ _ ⟨rfl,rfl⟩;exact⟨_, .tp [.ag [iv 0,iv 0,iv 0, .v (.slice none 0 0)],iv 2], [.box 443 (Zg g a x y 0 seq left (.v (.slice none 0 0)))],fun _ _ h=>h,zQ (s:= [0]) tA,rfl,rfl⟩
theorem Ta (g:Geo) (a:An) (x y:List Gt) (hg:Bq g=true) (ha:B7 g a=true) (hl:a.label.size<=1000000) (hh:a.homes.length<=1000000) (hp:a.pos=0) (hq:¬a.seq - 1<a.last) (hq1:1<=a.seq) (hq2:a.seq<=4294967295) (hx:(x.length:Int)=g.sl) (hy:(y.length:Int)=g.sl) (h0:x.getD 0 gz=⟨0,B5 g zeroC 0 0⟩) (h1:y.getD 0 gz=⟨0,B5 g zeroC 1 0⟩) :
  Fn Tryz.prog 274 [.ag (Bm g), .ag (Fp a),F6 x,F6 y] fun r=>r = .tp [.v (.slice none 0 0), .v (.slice none 0 0),iv 0]:=by
 obtain⟨g1,g2,g3,g4,g5⟩:=A2.1 hg;have s1:=Gu g a hl hh;rw [hg,ha] at s1;have tx:=Uw g a x y a.pos a.seq g.sl hp hg ha hl hh hx hy h0 h1;have w1:IntKind.i64.wrap (a.seq - 1)=a.seq - 1:=wi (by omega);refine zT Tryz.func274 rfl ?_;conv=>whnf
 refine zY s1 ?_;conv=>whnf
 rw [show ((x.length:Int) != g.sl)=false from bne_eq_false_iff_eq.2 hx];conv=>whnf
 rw [show ((y.length:Int) != g.sl)=false from bne_eq_false_iff_eq.2 hy];conv=>whnf
 refine zB 1 ?_;conv=>whnf
 rw [show decide (g.sl > 0)=true from decide_eq_true (by omega)];conv=>whnf
 rw [show decide (a.seq<=4294967295)=true from decide_eq_true hq2];conv=>whnf
 refine ze9 [2] tx ?_;rintro _ _ ⟨rfl,rfl⟩;conv=>whnf
 repeat' (refine zZ ?_;conv=>whnf)
 refine zH tys_ok mixed (by kernel_rfl) ?_;conv=>whnf
 rw [w1,decide_eq_false hq];conv=>whnf
 refine zH tys_ok mixed (by kernel_rfl) ?_;exact⟨_,ri,rfl⟩
theorem OG {g:Geo} (hg:Bq g=true) {lba:Int} (hlba:0<=lba/\lba<g.z*g.d):(0<=lba.tdiv g.d/\lba.tdiv g.d<g.z)/\0<=lba.tmod g.d/\lba.tmod g.d<g.d:=by
 obtain⟨g1,g2,g3,g4,g5⟩:=A2.1 hg;rw [Bu hlba.1];exact⟨⟨Dl hlba.1 (by omega),Dh (by omega) hlba.2⟩,BF _ hlba.1,Bz _ (by omega)⟩
def Dk.z (d:Dk):Dk:={ d with reqs:=0 }
theorem DkOk.z {d:Dk} (h:DkOk d):DkOk d.z:=⟨h.n,h.m,⟨CC _,by show (0:Int)<=_;decide⟩,h.l,h.c,h.w⟩
theorem Gd.z {n:Int} {d:Dk} {F:Int->List UInt8} (h:Gd n d F):Gd n d.z F:=⟨h.ok.z,h.left,h.len,h.cache,h.cell,h.old⟩
theorem aq {g:Geo} {lb:ByteArray} (hg:Bq g=true) (hs:Ev lb.data.toList=0):∀ a j,Gf g (B8 (DI g lb) (Do g))=some (a,j)->Hh g a (B8 ((DI g lb).adv g.an.toNat) (BI g 0)) (B8 ((DI g lb).adv g.an.toNat) (BI g 1))=([], [],0)/\Fn Tryz.prog 274 [.ag (Bm g), .ag (Fp a),F6 (B8 ((DI g lb).adv g.an.toNat) (BI g 0)),F6 (B8 ((DI g lb).adv g.an.toNat) (BI g 1))] fun r=>r = .tp [.v (.slice none 0 0), .v (.slice none 0 0),iv 0]:=fun a j hp=>by
 obtain⟨g1,g2,g3,g4,g5⟩:=A2.1 hg;have hf:=Kf (g:=g) (s:=lb) hg;have hb:=Kg (g:=g) (s:=lb) hg hs;rw [UV hg hb hf] at hp;obtain⟨rfl, -⟩:=Prod.mk.inj (Option.some.inj hp);have hsm:=Fi g.an.toNat (DI g lb);have h3:Holds ((DI g lb).adv g.an.toNat) (A7 g) (FT g lb):=⟨by rw [hsm.1];exact hf.len,hsm.2.trans hf.cache,by rw [hsm.1];exact hf.cell⟩;have hl:∀ c,((B8 ((DI g lb).adv g.an.toNat) (BI g c)).length:Int)=g.sl:=fun c=>by rw [DF,D9];omega
 have e:∀ c,c=0\/c=1->(B8 ((DI g lb).adv g.an.toNat) (BI g c)).getD 0 gz=⟨0,B5 g zeroC c 0⟩:=fun c hc=>by
  rw [LS h3 _ (Ng hg hc)];unfold BI;rw [List.map_map,Ab,Bd,BL (by omega)];show (⟨0,FT g lb (Ba g c ((0:Nat):Int))⟩:Gt)=_;rw [J5 hc (by omega)];try rfl
 have hk:=DE hg hb 0 (Aj _);exact⟨Pp hg rfl (by show ¬(1:Int) - 1<0;decide) h3,Ta g _ _ _ hg hb (by have:=hk.2.2.2.1;omega) (by have:=hk.2.1;omega) rfl (by show ¬(1:Int) - 1<0;decide) (by show (1:Int)<=1;decide) (by show (1:Int)<=4294967295;decide) (hl 0) (hl 1) (e 0 (.inl rfl)) (e 1 (.inr rfl))⟩
structure Vm (g:Geo) (K:Int) (d:Dk) (M:Md):Prop where
 gd:Gd (A7 g) d M.F
 vo:Vo g K M
 rd:ZQ g M
theorem Vm.z {g:Geo} {K:Int} {d:Dk} {M:Md} (h:Vm g K d M):Vm g K d.z M:=⟨h.gd.z,h.vo,h.rd⟩
theorem Vm.cm {g:Geo} {K:Int} {d d':Dk} {M:Md} {lba:Int} {b:List UInt8} {W:List Wr} (hg:Bq g=true) (hK:K<=4294967294) (hlba:0<=lba/\lba<g.z*g.d) (hb:b.length=8) (h:Vm g K d M) (hroom:Ei M.l+4<=g.sl) (hd:Gd (A7 g) d' (MP M.F W)) (hW:∀ w∈W,(g.an<=w.addr/\w.addr<g.an+2*g.sl/\B_ w.bytes=w.addr)/\w.bytes.length<=200):Vm g (K+1) d' ⟨M.a,M.l ++ [FU g M.a M.l M.F lba b],MP M.F W,M.m.set lba.toNat b⟩:=by
 have hz:0<=lba.tdiv g.d/\lba.tdiv g.d<g.z:=(OG hg hlba).1;obtain⟨-,V,hV, -⟩:=h.rd;obtain⟨t,hz⟩:=hV _ hz.1 hz.2;obtain⟨c1,c2⟩:=ZB hg hK hlba hb (h.vo.vol h.gd) h.rd (.inl ⟨hroom,by rw [hz.tab];try rfl,W,hW,rfl⟩);exact⟨hd,Vo.of (d:=d') ⟨⟨_,hd⟩,c2.an,c2.ring,c2.rest,c2.gen,c2.seq,c2.one⟩ (QE h.vo.fb fun w hw=>(hW w hw).2) (by show (((M.m.set lba.toNat b).length:Nat):Int)=_;rw [Bl];exact h.vo.m),c1⟩
structure Vout where
 d:Dk
 s:Stt
 b:Bool
 L:List Lck
 l:List Hd
 e:Int
 n:Int
 bytes:List UInt8
@[reducible] def Io (g:Geo) (d:Dk) (s:Stt) (b:Bool) (L:List Lck) (l:List Hd):List AB:= [.box 111 (WC g d true s (txV b s.txns) (BH L) (CJ l))]
@[reducible] def voX (g:Geo) (c1 c2:AV) (rq lf:Int) (on:Bool) (s:Stt) (tx lk hd:AV):List AV:= [iv g.z,iv g.d,iv g.sp,iv g.sl,iv g.an,c1,c2,iv rq,iv lf, .v (.bool on),iv s.a.gen,iv s.a.epoch,iv s.a.pos,iv s.a.seq,iv s.a.last, .v (.string s.a.label),GW s.a.homes,tx, .v (.bool s.only),iv s.cursor,iv s.found,iv s.fixed,iv s.moved,iA s.lost,lk,hd]
theorem QC {g:Geo} {c1 c2:AV} {rq lf:Int} {on:Bool} {s:Stt} {lk hd tx tx':AV} (h:∀ c v,Rd tx c v->Rd tx' c v):SubL (voX g c1 c2 rq lf on s tx lk hd) (voX g c1 c2 rq lf on s tx' lk hd):=⟨ri,ri,ri,ri,ri,ri,ri,ri,ri,ri,ri,ri,ri,ri,ri,ri,ri,h,ri,ri,ri,ri,ri,ri,ri,ri,tv⟩
@[reducible] def ZJ (g:Geo) (d:Dk) (j:Nat) (on:Bool) (s:Stt) (tx lk hd:AV):List AV:=voX g (.sl 3 (d.cells.map Ci).length fun k=>(d.cells.map Ci).getD k []) (.ow j d.cache.length) d.reqs d.left on s tx lk hd
@[reducible] def ZT (g:Geo) (d:Dk) (on:Bool) (s:Stt) (tx lk hd:AV):List AV:=voX g (.sl 3 (d.cells.map Ci).length fun k=>(d.cells.map Ci).getD k []) (.sl 2 (d.cache.map GU).length fun k=>(d.cache.map GU).getD k []) d.reqs d.left on s tx lk hd
theorem Gv {H:List AB} {t:TypeId} {g:Geo} {d:Dk} {on b:Bool} {s:Stt} {L:List Lck} {l:List Hd} (i j:Nat) (hij:i≠j) (hj0:0≠j) (h0:H[0]? = some (.box t (voX g (.ow i d.cells.length) (.ow j d.cache.length) d.reqs d.left on s (txV b s.txns) (BH L) (CJ l)))) (hi:H[i]? = some (.row 68 3 (d.cells.map Ci))) (hj:H[j]? = some (.row 152 2 (d.cache.map GU))) :
  ConvH H (((((H.set i .dead).set 0 (.box t (ZJ g d j on s (txV b s.txns) (BH L) (CJ l)))).set j .dead).set 0 (.box t (ZT g d on s (txV b s.txns) (BH L) (CJ l)))).set 0 (.box t (WC g d on s (txV b s.txns) (BH L) (CJ l)))):=by
 have hl0:0<H.length:=(Ar.1 h0).1;have c1:=zp (H:=H) 0 i (cs2:=ZJ g d j on s (txV b s.txns) (BH L) (CJ l)) h0 hi (by
  simp only [A5,Bp,NJ (Aa _).symm,Id (Ne.symm hij)];cases b <;> rfl)
 have c2:=zp (H:=(H.set i .dead).set 0 (.box t (ZJ g d j on s (txV b s.txns) (BH L) (CJ l)))) 0 j (cs:=ZJ g d j on s (txV b s.txns) (BH L) (CJ l)) (cs2:=ZT g d on s (txV b s.txns) (BH L) (CJ l)) (by rw [A3 (by simpa using hl0)]) (by rw [A4 hj0,A4 hij];exact hj) (by
  simp only [A5,Bp,NJ (Aa _).symm];cases b <;> rfl)
 exact c1.trans (c2.trans (z6 (cs:=ZT g d on s (txV b s.txns) (BH L) (CJ l)) (cs':=WC g d on s (txV b s.txns) (BH L) (CJ l)) 0 (by rw [A3 (by simpa using hl0)]) ⟨ri,ri,ri,ri,ri,BY (f:=Ci) d.cells (Aa _) rfl,BY (f:=GU) d.cache (Aa _) rfl,ri,ri,ri,ri,ri,ri,ri,ri,ri,ri,ri,ri,ri,ri,ri,ri,ri,ri,ri,tv⟩))
theorem I8 (g:Geo) (d:Dk) (s:Stt) (b:Bool) (L:List Lck) (l:List Hd) (x:Sp) (P:Vout->Prop) (hb:b=true->s.txns=[]) (hd:d.cells.length<=1000000000/\d.cache.length<=1000000000) (hk:2<=x.kind/\x.kind<=10) (hcut:x.cut<=0)
  (hdoes:ACalls Tryz.prog false 45 [.bp 5 0] (Eo g d.z d.z s s b L l x) fun r H=>∃ o,P o/\o.e≠8/\o.d.left = -1/\r = .ag (an7 o.e o.n o.bytes)/\H=E2 g d.z o.d s o.s o.b o.L o.l x) :
  ACalls Tryz.prog false 20 [.bp 0 0, .ag (H_ x)] (Io g d s b L l) fun r H=>∃ o,P o/\r = .ag (an7 o.e (if o.e=0 then o.n else 0) (if o.e=0 then o.bytes else []))/\H=Io g o.d o.s o.b o.L o.l:=by
 have c1:=S4 d.z hd.1 hd.2;have htx:∀ b,(b=true->s.txns=[])->∀ c v,Rd (txV b s.txns) c v->Rd (Ej s.txns) c v:=fun b hb c v h=>by
  cases b with
  | true=>rw [hb rfl];exact Bv 4 _ c v h
  | false=>exact h
 have k1:decide (x.kind>=11)=false:=decide_eq_false (by omega);have k2:(x.kind == 1)=false:=beq_eq_false_iff_ne.2 (by omega);have k3:decide (x.cut > 0)=false:=decide_eq_false (by omega);cases b with
 | true=>
  refine zU tys_ok Tryz.func20 rfl rfl (Ae rfl) ?_;conv=>whnf
  rw [k1];conv=>whnf
  repeat' (refine zZ ?_;conv=>whnf)
  apply zW (0) tys_ok mixed (.o [0,1,2,3,4,5,6,7,8] .fin) (by kernel_rfl);conv=>whnf
  rw [k2];conv=>whnf
  repeat' (refine zZ ?_;conv=>whnf)
  rw [k3];conv=>whnf
  repeat' (refine zZ ?_;conv=>whnf)
  apply zW (0) tys_ok mixed (.o [0,1,2,3,4,5,6,7,8,10,11,12,13,16,9,14,15,17,18,19] .fin) (by kernel_rfl);conv=>whnf
  (refine zX c1 rfl ?_;rintro _ _ ⟨rfl,rfl⟩)
  conv=>whnf
  repeat' (refine zZ ?_;conv=>whnf)
  refine zh (z6 (cs':=WC g d.z true s (Ej s.txns) (BH L) (CJ l)) 0 rfl (QC (htx true hb))) ?_;refine ze9 [0,6,3,4,5,7] hdoes ?_;rintro _ _ ⟨o,ho,he8,hleft,rfl,rfl⟩;obtain⟨⟨cs,ca,rq,lf⟩,s1,b1,L1,l1,e,n,bs⟩:=o;obtain rfl:lf = -1:=hleft;simp only at he8;have k8:(e == 8)=false:=beq_eq_false_iff_ne.2 he8;cases b1 with
  | true=>
   conv=>whnf
   repeat' (refine zZ ?_;conv=>whnf)
   apply zW (0) tys_ok mixed (.o [0,1,2,3,4,5,6,7,8,9,10,11,12,13,14,15,16,17,18,19,20,21,22,23,24] .fin) (by kernel_rfl);conv=>whnf
   try (refine tS ?_;conv=>whnf)
   try (refine tS ?_;conv=>whnf)
   repeat' (refine zZ ?_;conv=>whnf)
   rw [k8];conv=>whnf
   repeat' (refine zZ ?_;conv=>whnf)
   by_cases he0:e=0
   ·subst he0;conv=>whnf
    repeat' (refine zZ ?_;conv=>whnf)
    exact⟨_, .ag (an7 0 n bs),Io g ⟨cs,ca,rq, -1⟩ s1 true L1 l1,fun _ _ h=>h,zK (zO (Gv (d:=⟨cs,ca,rq, -1⟩) (b:=true) 4 8 (by decide) (by decide) rfl rfl rfl)) (s:= [0]) tA,⟨⟨cs,ca,rq, -1⟩,s1,true,L1,l1,0,n,bs⟩,ho,rfl,rfl⟩
   ·rw [show (e != 0)=true from bne_iff_ne.2 he0];conv=>whnf
    repeat' (refine zZ ?_;conv=>whnf)
    exact⟨_, .ag (an7 e 0 []),Io g ⟨cs,ca,rq, -1⟩ s1 true L1 l1,Bg (C3 e 0),zK (zO (Gv (d:=⟨cs,ca,rq, -1⟩) (b:=true) 4 8 (by decide) (by decide) rfl rfl rfl)) (s:= [0]) tA,⟨⟨cs,ca,rq, -1⟩,s1,true,L1,l1,e,n,bs⟩,ho,by rw [if_neg he0,if_neg he0],rfl⟩
  | false=>
   conv=>whnf
   repeat' (refine zZ ?_;conv=>whnf)
   apply zW (0) tys_ok mixed (.o [0,1,2,3,4,5,6,7,8,9,10,11,12,13,14,15,16,17,18,19,20,21,22,23,24] .fin) (by kernel_rfl);conv=>whnf
   try (refine tS ?_;conv=>whnf)
   try (refine tS ?_;conv=>whnf)
   repeat' (refine zZ ?_;conv=>whnf)
   rw [k8];conv=>whnf
   repeat' (refine zZ ?_;conv=>whnf)
   by_cases he0:e=0
   ·subst he0;conv=>whnf
    repeat' (refine zZ ?_;conv=>whnf)
    exact⟨_, .ag (an7 0 n bs),Io g ⟨cs,ca,rq, -1⟩ s1 false L1 l1,fun _ _ h=>h,zK (zO (Gv (d:=⟨cs,ca,rq, -1⟩) (b:=false) 4 8 (by decide) (by decide) rfl rfl rfl)) (s:= [0]) tA,⟨⟨cs,ca,rq, -1⟩,s1,false,L1,l1,0,n,bs⟩,ho,rfl,rfl⟩
   ·rw [show (e != 0)=true from bne_iff_ne.2 he0];conv=>whnf
    repeat' (refine zZ ?_;conv=>whnf)
    exact⟨_, .ag (an7 e 0 []),Io g ⟨cs,ca,rq, -1⟩ s1 false L1 l1,Bg (C3 e 0),zK (zO (Gv (d:=⟨cs,ca,rq, -1⟩) (b:=false) 4 8 (by decide) (by decide) rfl rfl rfl)) (s:= [0]) tA,⟨⟨cs,ca,rq, -1⟩,s1,false,L1,l1,e,n,bs⟩,ho,by rw [if_neg he0,if_neg he0],rfl⟩
 | false=>
  refine zU tys_ok Tryz.func20 rfl rfl (Ae rfl) ?_;conv=>whnf
  rw [k1];conv=>whnf
  repeat' (refine zZ ?_;conv=>whnf)
  apply zW (0) tys_ok mixed (.o [0,1,2,3,4,5,6,7,8] .fin) (by kernel_rfl);conv=>whnf
  rw [k2];conv=>whnf
  repeat' (refine zZ ?_;conv=>whnf)
  rw [k3];conv=>whnf
  repeat' (refine zZ ?_;conv=>whnf)
  apply zW (0) tys_ok mixed (.o [0,1,2,3,4,5,6,7,8,10,11,12,13,16,9,14,15,17,18,19] .fin) (by kernel_rfl);conv=>whnf
  (refine zX c1 rfl ?_;rintro _ _ ⟨rfl,rfl⟩)
  conv=>whnf
  repeat' (refine zZ ?_;conv=>whnf)
  refine zh (z6 (cs':=WC g d.z true s (Ej s.txns) (BH L) (CJ l)) 0 rfl (QC (htx false hb))) ?_;refine ze9 [0,6,3,4,5,7] hdoes ?_;rintro _ _ ⟨o,ho,he8,hleft,rfl,rfl⟩;obtain⟨⟨cs,ca,rq,lf⟩,s1,b1,L1,l1,e,n,bs⟩:=o;obtain rfl:lf = -1:=hleft;simp only at he8;have k8:(e == 8)=false:=beq_eq_false_iff_ne.2 he8;cases b1 with
  | true=>
   conv=>whnf
   repeat' (refine zZ ?_;conv=>whnf)
   apply zW (0) tys_ok mixed (.o [0,1,2,3,4,5,6,7,8,9,10,11,12,13,14,15,16,17,18,19,20,21,22,23,24] .fin) (by kernel_rfl);conv=>whnf
   try (refine tS ?_;conv=>whnf)
   try (refine tS ?_;conv=>whnf)
   repeat' (refine zZ ?_;conv=>whnf)
   rw [k8];conv=>whnf
   repeat' (refine zZ ?_;conv=>whnf)
   by_cases he0:e=0
   ·subst he0;conv=>whnf
    repeat' (refine zZ ?_;conv=>whnf)
    exact⟨_, .ag (an7 0 n bs),Io g ⟨cs,ca,rq, -1⟩ s1 true L1 l1,fun _ _ h=>h,zK (zO (Gv (d:=⟨cs,ca,rq, -1⟩) (b:=true) 4 8 (by decide) (by decide) rfl rfl rfl)) (s:= [0]) tA,⟨⟨cs,ca,rq, -1⟩,s1,true,L1,l1,0,n,bs⟩,ho,rfl,rfl⟩
   ·rw [show (e != 0)=true from bne_iff_ne.2 he0];conv=>whnf
    repeat' (refine zZ ?_;conv=>whnf)
    exact⟨_, .ag (an7 e 0 []),Io g ⟨cs,ca,rq, -1⟩ s1 true L1 l1,Bg (C3 e 0),zK (zO (Gv (d:=⟨cs,ca,rq, -1⟩) (b:=true) 4 8 (by decide) (by decide) rfl rfl rfl)) (s:= [0]) tA,⟨⟨cs,ca,rq, -1⟩,s1,true,L1,l1,e,n,bs⟩,ho,by rw [if_neg he0,if_neg he0],rfl⟩
  | false=>
   conv=>whnf
   repeat' (refine zZ ?_;conv=>whnf)
   apply zW (0) tys_ok mixed (.o [0,1,2,3,4,5,6,7,8,9,10,11,12,13,14,15,16,17,18,19,20,21,22,23,24] .fin) (by kernel_rfl);conv=>whnf
   try (refine tS ?_;conv=>whnf)
   try (refine tS ?_;conv=>whnf)
   repeat' (refine zZ ?_;conv=>whnf)
   rw [k8];conv=>whnf
   repeat' (refine zZ ?_;conv=>whnf)
   by_cases he0:e=0
   ·subst he0;conv=>whnf
    repeat' (refine zZ ?_;conv=>whnf)
    exact⟨_, .ag (an7 0 n bs),Io g ⟨cs,ca,rq, -1⟩ s1 false L1 l1,fun _ _ h=>h,zK (zO (Gv (d:=⟨cs,ca,rq, -1⟩) (b:=false) 4 8 (by decide) (by decide) rfl rfl rfl)) (s:= [0]) tA,⟨⟨cs,ca,rq, -1⟩,s1,false,L1,l1,0,n,bs⟩,ho,rfl,rfl⟩
   ·rw [show (e != 0)=true from bne_iff_ne.2 he0];conv=>whnf
    repeat' (refine zZ ?_;conv=>whnf)
    exact⟨_, .ag (an7 e 0 []),Io g ⟨cs,ca,rq, -1⟩ s1 false L1 l1,Bg (C3 e 0),zK (zO (Gv (d:=⟨cs,ca,rq, -1⟩) (b:=false) 4 8 (by decide) (by decide) rfl rfl rfl)) (s:= [0]) tA,⟨⟨cs,ca,rq, -1⟩,s1,false,L1,l1,e,n,bs⟩,ho,by rw [if_neg he0,if_neg he0],rfl⟩
section
variable (g:Geo) (d0 d:Dk) (s0 s:Stt) (b:Bool) (L:List Lck) (l:List Hd) (x:Sp) (P:Vout->Prop)
theorem OV (hk:x.kind=2) (h:ACalls Tryz.prog false 111 [.bp 5 0] (Eo g d0 d s0 s b L l x) fun r H=>∃ o:Vout,P o/\r = .ag (an7 o.e o.n o.bytes)/\H=Eo g d0 o.d s0 o.s o.b o.L o.l x):ACalls Tryz.prog false 45 [.bp 5 0] (Eo g d0 d s0 s b L l x) fun r H=>∃ o:Vout,P o/\r = .ag (an7 o.e o.n o.bytes)/\H=E2 g d0 o.d s0 o.s o.b o.L o.l x:=by
 obtain⟨k,h1,h2,h3,h4,h5,h6,h7,h8,h9⟩:=x;obtain rfl:k=2:=hk;cases b with
 | true=>
  refine zU tys_ok Tryz.func45 rfl rfl (Ae rfl) ?_;conv=>whnf
  repeat' (refine zZ ?_;conv=>whnf)
  refine ze9 [0,1,2,3,4,5] h ?_;rintro _ _ ⟨o,ho,rfl,rfl⟩;obtain⟨d1,s1,b1,L1,l1,e,n,bs⟩:=o;cases b1 with
  | true=>
   exact⟨_, .ag (an7 e n bs),E2 g d0 d1 s0 s1 true L1 l1 ⟨2,h1,h2,h3,h4,h5,h6,h7,h8,h9⟩,fun _ _ h=>h,zK (zO (zG 2 4 (by decide) rfl rfl)) (s:= [0,1,2,3,4,5,7]) tA,⟨d1,s1,true,L1,l1,e,n,bs⟩,ho,rfl,rfl⟩
  | false=>
   exact⟨_, .ag (an7 e n bs),E2 g d0 d1 s0 s1 false L1 l1 ⟨2,h1,h2,h3,h4,h5,h6,h7,h8,h9⟩,fun _ _ h=>h,zK (zO (zG 2 4 (by decide) rfl rfl)) (s:= [0,1,2,3,4,5,7]) tA,⟨d1,s1,false,L1,l1,e,n,bs⟩,ho,rfl,rfl⟩
 | false=>
  refine zU tys_ok Tryz.func45 rfl rfl (Ae rfl) ?_;conv=>whnf
  repeat' (refine zZ ?_;conv=>whnf)
  refine ze9 [0,1,2,3,4,5] h ?_;rintro _ _ ⟨o,ho,rfl,rfl⟩;obtain⟨d1,s1,b1,L1,l1,e,n,bs⟩:=o;cases b1 with
  | true=>
   exact⟨_, .ag (an7 e n bs),E2 g d0 d1 s0 s1 true L1 l1 ⟨2,h1,h2,h3,h4,h5,h6,h7,h8,h9⟩,fun _ _ h=>h,zK (zO (zG 2 4 (by decide) rfl rfl)) (s:= [0,1,2,3,4,5,7]) tA,⟨d1,s1,true,L1,l1,e,n,bs⟩,ho,rfl,rfl⟩
  | false=>
   exact⟨_, .ag (an7 e n bs),E2 g d0 d1 s0 s1 false L1 l1 ⟨2,h1,h2,h3,h4,h5,h6,h7,h8,h9⟩,fun _ _ h=>h,zK (zO (zG 2 4 (by decide) rfl rfl)) (s:= [0,1,2,3,4,5,7]) tA,⟨d1,s1,false,L1,l1,e,n,bs⟩,ho,rfl,rfl⟩
theorem I7 (hk:x.kind=3) (h:ACalls Tryz.prog false 112 [.bp 5 0] (Eo g d0 d s0 s b L l x) fun r H=>∃ o:Vout,P o/\r = .ag (an7 o.e o.n o.bytes)/\H=Eo g d0 o.d s0 o.s o.b o.L o.l x):ACalls Tryz.prog false 45 [.bp 5 0] (Eo g d0 d s0 s b L l x) fun r H=>∃ o:Vout,P o/\r = .ag (an7 o.e o.n o.bytes)/\H=E2 g d0 o.d s0 o.s o.b o.L o.l x:=by
 obtain⟨k,h1,h2,h3,h4,h5,h6,h7,h8,h9⟩:=x;obtain rfl:k=3:=hk;cases b with
 | true=>
  refine zU tys_ok Tryz.func45 rfl rfl (Ae rfl) ?_;conv=>whnf
  repeat' (refine zZ ?_;conv=>whnf)
  refine ze9 [0,1,2,3,4,5] h ?_;rintro _ _ ⟨o,ho,rfl,rfl⟩;obtain⟨d1,s1,b1,L1,l1,e,n,bs⟩:=o;cases b1 with
  | true=>
   exact⟨_, .ag (an7 e n bs),E2 g d0 d1 s0 s1 true L1 l1 ⟨3,h1,h2,h3,h4,h5,h6,h7,h8,h9⟩,fun _ _ h=>h,zK (zO (zG 2 4 (by decide) rfl rfl)) (s:= [0,1,2,3,4,5,7]) tA,⟨d1,s1,true,L1,l1,e,n,bs⟩,ho,rfl,rfl⟩
  | false=>
   exact⟨_, .ag (an7 e n bs),E2 g d0 d1 s0 s1 false L1 l1 ⟨3,h1,h2,h3,h4,h5,h6,h7,h8,h9⟩,fun _ _ h=>h,zK (zO (zG 2 4 (by decide) rfl rfl)) (s:= [0,1,2,3,4,5,7]) tA,⟨d1,s1,false,L1,l1,e,n,bs⟩,ho,rfl,rfl⟩
 | false=>
  refine zU tys_ok Tryz.func45 rfl rfl (Ae rfl) ?_;conv=>whnf
  repeat' (refine zZ ?_;conv=>whnf)
  refine ze9 [0,1,2,3,4,5] h ?_;rintro _ _ ⟨o,ho,rfl,rfl⟩;obtain⟨d1,s1,b1,L1,l1,e,n,bs⟩:=o;cases b1 with
  | true=>
   exact⟨_, .ag (an7 e n bs),E2 g d0 d1 s0 s1 true L1 l1 ⟨3,h1,h2,h3,h4,h5,h6,h7,h8,h9⟩,fun _ _ h=>h,zK (zO (zG 2 4 (by decide) rfl rfl)) (s:= [0,1,2,3,4,5,7]) tA,⟨d1,s1,true,L1,l1,e,n,bs⟩,ho,rfl,rfl⟩
  | false=>
   exact⟨_, .ag (an7 e n bs),E2 g d0 d1 s0 s1 false L1 l1 ⟨3,h1,h2,h3,h4,h5,h6,h7,h8,h9⟩,fun _ _ h=>h,zK (zO (zG 2 4 (by decide) rfl rfl)) (s:= [0,1,2,3,4,5,7]) tA,⟨d1,s1,false,L1,l1,e,n,bs⟩,ho,rfl,rfl⟩
theorem Kr (hk:x.kind=4) (h:ACalls Tryz.prog false 113 [.bp 5 0] (Eo g d0 d s0 s b L l x) fun r H=>∃ o:Vout,P o/\(r = iv o.e/\o.n=0/\o.bytes=[])/\H=Eo g d0 o.d s0 o.s o.b o.L o.l x):ACalls Tryz.prog false 45 [.bp 5 0] (Eo g d0 d s0 s b L l x) fun r H=>∃ o:Vout,P o/\r = .ag (an7 o.e o.n o.bytes)/\H=E2 g d0 o.d s0 o.s o.b o.L o.l x:=by
 obtain⟨k,h1,h2,h3,h4,h5,h6,h7,h8,h9⟩:=x;obtain rfl:k=4:=hk;cases b with
 | true=>
  refine zU tys_ok Tryz.func45 rfl rfl (Ae rfl) ?_;conv=>whnf
  repeat' (refine zZ ?_;conv=>whnf)
  refine ze9 [0,1,2,3,4,5] h ?_;rintro _ _ ⟨o,ho,⟨rfl,hn,hb⟩,rfl⟩;obtain⟨d1,s1,b1,L1,l1,e,n,bs⟩:=o;obtain rfl:n=0:=hn;obtain rfl:bs=[]:=hb;cases b1 with
  | true=>
   exact⟨_, .ag (an7 e 0 []),E2 g d0 d1 s0 s1 true L1 l1 ⟨4,h1,h2,h3,h4,h5,h6,h7,h8,h9⟩,Bg (C3 e 0),zK (zO (zG 2 4 (by decide) rfl rfl)) (s:= [0,1,2,3,4,5,7]) tA,⟨d1,s1,true,L1,l1,e,0, []⟩,ho,rfl,rfl⟩
  | false=>
   exact⟨_, .ag (an7 e 0 []),E2 g d0 d1 s0 s1 false L1 l1 ⟨4,h1,h2,h3,h4,h5,h6,h7,h8,h9⟩,Bg (C3 e 0),zK (zO (zG 2 4 (by decide) rfl rfl)) (s:= [0,1,2,3,4,5,7]) tA,⟨d1,s1,false,L1,l1,e,0, []⟩,ho,rfl,rfl⟩
 | false=>
  refine zU tys_ok Tryz.func45 rfl rfl (Ae rfl) ?_;conv=>whnf
  repeat' (refine zZ ?_;conv=>whnf)
  refine ze9 [0,1,2,3,4,5] h ?_;rintro _ _ ⟨o,ho,⟨rfl,hn,hb⟩,rfl⟩;obtain⟨d1,s1,b1,L1,l1,e,n,bs⟩:=o;obtain rfl:n=0:=hn;obtain rfl:bs=[]:=hb;cases b1 with
  | true=>
   exact⟨_, .ag (an7 e 0 []),E2 g d0 d1 s0 s1 true L1 l1 ⟨4,h1,h2,h3,h4,h5,h6,h7,h8,h9⟩,Bg (C3 e 0),zK (zO (zG 2 4 (by decide) rfl rfl)) (s:= [0,1,2,3,4,5,7]) tA,⟨d1,s1,true,L1,l1,e,0, []⟩,ho,rfl,rfl⟩
  | false=>
   exact⟨_, .ag (an7 e 0 []),E2 g d0 d1 s0 s1 false L1 l1 ⟨4,h1,h2,h3,h4,h5,h6,h7,h8,h9⟩,Bg (C3 e 0),zK (zO (zG 2 4 (by decide) rfl rfl)) (s:= [0,1,2,3,4,5,7]) tA,⟨d1,s1,false,L1,l1,e,0, []⟩,ho,rfl,rfl⟩
theorem NF (hk:x.kind=5) (h:ACalls Tryz.prog false 114 [.bp 5 0] (Eo g d0 d s0 s b L l x) fun r H=>∃ o:Vout,P o/\(r = iv o.e/\o.n=0/\o.bytes=[])/\H=E2 g d0 o.d s0 o.s o.b o.L o.l x):ACalls Tryz.prog false 45 [.bp 5 0] (Eo g d0 d s0 s b L l x) fun r H=>∃ o:Vout,P o/\r = .ag (an7 o.e o.n o.bytes)/\H=E2 g d0 o.d s0 o.s o.b o.L o.l x:=by
 obtain⟨k,h1,h2,h3,h4,h5,h6,h7,h8,h9⟩:=x;obtain rfl:k=5:=hk;cases b with
 | true=>
  refine zU tys_ok Tryz.func45 rfl rfl (Ae rfl) ?_;conv=>whnf
  repeat' (refine zZ ?_;conv=>whnf)
  refine ze9 [0,1,2,3,4,5] h ?_;rintro _ _ ⟨o,ho,⟨rfl,hn,hb⟩,rfl⟩;obtain⟨d1,s1,b1,L1,l1,e,n,bs⟩:=o;obtain rfl:n=0:=hn;obtain rfl:bs=[]:=hb;cases b1 with
  | true=>
   exact⟨_, .ag (an7 e 0 []),E2 g d0 d1 s0 s1 true L1 l1 ⟨5,h1,h2,h3,h4,h5,h6,h7,h8,h9⟩,Bg (C3 e 0),zQ (s:= [0,1,2,3,4,5,7]) tA,⟨d1,s1,true,L1,l1,e,0, []⟩,ho,rfl,rfl⟩
  | false=>
   exact⟨_, .ag (an7 e 0 []),E2 g d0 d1 s0 s1 false L1 l1 ⟨5,h1,h2,h3,h4,h5,h6,h7,h8,h9⟩,Bg (C3 e 0),zQ (s:= [0,1,2,3,4,5,7]) tA,⟨d1,s1,false,L1,l1,e,0, []⟩,ho,rfl,rfl⟩
 | false=>
  refine zU tys_ok Tryz.func45 rfl rfl (Ae rfl) ?_;conv=>whnf
  repeat' (refine zZ ?_;conv=>whnf)
  refine ze9 [0,1,2,3,4,5] h ?_;rintro _ _ ⟨o,ho,⟨rfl,hn,hb⟩,rfl⟩;obtain⟨d1,s1,b1,L1,l1,e,n,bs⟩:=o;obtain rfl:n=0:=hn;obtain rfl:bs=[]:=hb;cases b1 with
  | true=>
   exact⟨_, .ag (an7 e 0 []),E2 g d0 d1 s0 s1 true L1 l1 ⟨5,h1,h2,h3,h4,h5,h6,h7,h8,h9⟩,Bg (C3 e 0),zQ (s:= [0,1,2,3,4,5,7]) tA,⟨d1,s1,true,L1,l1,e,0, []⟩,ho,rfl,rfl⟩
  | false=>
   exact⟨_, .ag (an7 e 0 []),E2 g d0 d1 s0 s1 false L1 l1 ⟨5,h1,h2,h3,h4,h5,h6,h7,h8,h9⟩,Bg (C3 e 0),zQ (s:= [0,1,2,3,4,5,7]) tA,⟨d1,s1,false,L1,l1,e,0, []⟩,ho,rfl,rfl⟩
theorem OW (hk:x.kind=6) (h:ACalls Tryz.prog false 115 [.bp 5 0] (Eo g d0 d s0 s b L l x) fun r H=>∃ o:Vout,P o/\(r = iv o.e/\o.n=0/\o.bytes=[])/\H=Eo g d0 o.d s0 o.s o.b o.L o.l x):ACalls Tryz.prog false 45 [.bp 5 0] (Eo g d0 d s0 s b L l x) fun r H=>∃ o:Vout,P o/\r = .ag (an7 o.e o.n o.bytes)/\H=E2 g d0 o.d s0 o.s o.b o.L o.l x:=by
 obtain⟨k,h1,h2,h3,h4,h5,h6,h7,h8,h9⟩:=x;obtain rfl:k=6:=hk;cases b with
 | true=>
  refine zU tys_ok Tryz.func45 rfl rfl (Ae rfl) ?_;conv=>whnf
  repeat' (refine zZ ?_;conv=>whnf)
  refine ze9 [0,1,2,3,4,5] h ?_;rintro _ _ ⟨o,ho,⟨rfl,hn,hb⟩,rfl⟩;obtain⟨d1,s1,b1,L1,l1,e,n,bs⟩:=o;obtain rfl:n=0:=hn;obtain rfl:bs=[]:=hb;cases b1 with
  | true=>
   exact⟨_, .ag (an7 e 0 []),E2 g d0 d1 s0 s1 true L1 l1 ⟨6,h1,h2,h3,h4,h5,h6,h7,h8,h9⟩,Bg (C3 e 0),zK (zO (zG 2 4 (by decide) rfl rfl)) (s:= [0,1,2,3,4,5,7]) tA,⟨d1,s1,true,L1,l1,e,0, []⟩,ho,rfl,rfl⟩
  | false=>
   exact⟨_, .ag (an7 e 0 []),E2 g d0 d1 s0 s1 false L1 l1 ⟨6,h1,h2,h3,h4,h5,h6,h7,h8,h9⟩,Bg (C3 e 0),zK (zO (zG 2 4 (by decide) rfl rfl)) (s:= [0,1,2,3,4,5,7]) tA,⟨d1,s1,false,L1,l1,e,0, []⟩,ho,rfl,rfl⟩
 | false=>
  refine zU tys_ok Tryz.func45 rfl rfl (Ae rfl) ?_;conv=>whnf
  repeat' (refine zZ ?_;conv=>whnf)
  refine ze9 [0,1,2,3,4,5] h ?_;rintro _ _ ⟨o,ho,⟨rfl,hn,hb⟩,rfl⟩;obtain⟨d1,s1,b1,L1,l1,e,n,bs⟩:=o;obtain rfl:n=0:=hn;obtain rfl:bs=[]:=hb;cases b1 with
  | true=>
   exact⟨_, .ag (an7 e 0 []),E2 g d0 d1 s0 s1 true L1 l1 ⟨6,h1,h2,h3,h4,h5,h6,h7,h8,h9⟩,Bg (C3 e 0),zK (zO (zG 2 4 (by decide) rfl rfl)) (s:= [0,1,2,3,4,5,7]) tA,⟨d1,s1,true,L1,l1,e,0, []⟩,ho,rfl,rfl⟩
  | false=>
   exact⟨_, .ag (an7 e 0 []),E2 g d0 d1 s0 s1 false L1 l1 ⟨6,h1,h2,h3,h4,h5,h6,h7,h8,h9⟩,Bg (C3 e 0),zK (zO (zG 2 4 (by decide) rfl rfl)) (s:= [0,1,2,3,4,5,7]) tA,⟨d1,s1,false,L1,l1,e,0, []⟩,ho,rfl,rfl⟩
end
section
variable (g:Geo) (d0 d:Dk) (s0:Stt) (L:List Lck) (l:List Hd) (x:Sp)
theorem QD (a:An) (F:Int->List UInt8) (K lba:Int) (bs:List UInt8) (V:Int->Int->List UInt8) (L':List Lck) (hg:Bq g=true) (hv:Vol g K d (AO a [])) (hK:K<=4294967294) (h:Gd (A7 g) d F) (hF:∀ a,(F a).length<=100000) (hV:VolV g a [] F V) (hlba:0<=lba/\lba<g.z*g.d) (h8:bs.length=8)
  (hl:l.length<=1000) (hs:∀ h∈l,I4 h) (hh:E3 l x.h=true) (hq:l.getD (Eb l x.h) ⟨0, [], []⟩=⟨x.h, [lba], [bs]⟩) (hd:Fn Tryz.prog 287 [BH L,iv x.h] fun r=>r = .tp [BH L',iv 0]) :
  ACalls Tryz.prog false 114 [.bp 5 0] (Eo g d0 d s0 (AO a []) true L l x) fun r H=>∃ o:Vout,(∃ d' W,Gd (A7 g) d' (MP F W)/\(∀ w∈W,(g.an<=w.addr/\w.addr<g.an+2*g.sl/\B_ w.bytes=w.addr)/\w.bytes.length<=200)/\o=⟨d',AO a ([] ++ [FU g a [] F lba bs]),false,L',(Ds l x.h).1,0,0, []⟩)/\(r = iv o.e/\o.n=0/\o.bytes=[])/\H=E2 g d0 o.d s0 o.s o.b o.L o.l x:=by
 have g4:=(A2.1 hg).2.2.2.1;have c1:=I6 g d0 d s0 (AO a []) true L l x hl hh;rw [hq] at c1;have hc:=YX g a [] d F K lba bs V hg hv hK h hF hV hlba h8 (by show 4<=g.sl - 0;omega);have c2:=fun d1 s1=>MM g d0 d1 s0 s1 false L l x L' x.h hl hs hd
 generalize (Ds l x.h).1=m at c2 |-
 refine zU tys_ok Tryz.func114 rfl rfl (Ae rfl) ?_;conv=>whnf
 refine ze9 [0,1,2,3,4,5] c1 ?_;rintro _ _ ⟨rfl,rfl⟩;conv=>whnf
 repeat' (refine zZ ?_;conv=>whnf)
 apply zW (2 ^ 136) tys_ok mixed (.o [0,1,2,3,4,5,6,7,8,9] .fin) (by kernel_rfl);conv=>whnf
 (refine zh (ConvH.ghost 1 13 (t:=170) (sz:=4) rfl rfl (by decide)) ?_;refine ze9 [1,2,3,4,7] hc ?_;rintro _ _ ⟨rfl,d1,W,hd1,hW,hv1,rfl⟩)
 conv=>whnf
 repeat' (refine zZ ?_;conv=>whnf)
 have c2:=c2 d1 (AO a ([] ++ [FU g a [] F lba bs]));obtain⟨T,hT⟩:∃ T,T=[] ++ [FU g a [] F lba bs]:=⟨_,rfl⟩;rw [<-hT] at c2 |-
 apply zW (2 ^ 134) tys_ok mixed (.o [0,1,2,3,4,5,6] .fin) (by kernel_rfl);conv=>whnf
 (refine ze9 [0,1,2,3,8,5] c2 ?_;rintro _ _ ⟨rfl,rfl⟩)
 conv=>whnf
 repeat' (refine zZ ?_;conv=>whnf)
 exact⟨_,iv 0,E2 g d0 d1 s0 (AO a T) false L' m x,fun _ _ h=>h,zQ (s:= [0,1,2,3,4,5,8]) tA,⟨d1,AO a T,false,L',m,0,0, []⟩,⟨d1,W,hd1,hW,by rw [hT]⟩,tA,rfl⟩
theorem Uo (a:An) (T:List Tx) (F:Int->List UInt8) (t:List Ent) (v:Int->List UInt8) (L':List Lck) (hg:Bq g=true) (hT:LogB T) (ha:B7 g a=true) (h:Gd (A7 g) d F) (hF:∀ a,(F a).length<=100000) (hlba:0<=x.lba/\x.lba<g.z*g.d) (hB:∀ p,CG T (x.lba.tdiv g.d) 255=some p->p.1.bytes.length<=100000) (hv:ZoneV g a T F (x.lba.tdiv g.d) t v)
  (hl:l.length<=1000) (hs:∀ h∈l,I4 h) (hh:E3 l x.h=true) (hno:(Fd l x.h x.lba).2.1=false) (hr:Fn Tryz.prog 198 [BH L,iv x.h,iv x.lba] fun r=>r = .tp [BH L',iv 0]) :
  ACalls Tryz.prog false 112 [.bp 5 0] (Eo g d0 d s0 (AO a T) false L l x) fun r H=>∃ o:Vout,(∃ d',Gd (A7 g) d' F/\o=⟨d',AO a T,false,L',l,0,0,v (x.lba.tmod g.d)⟩)/\r = .ag (an7 o.e o.n o.bytes)/\H=Eo g d0 o.d s0 o.s o.b o.L o.l x:=by
 have c1:=FY g d0 d s0 (AO a T) false L l x hg hl hh hlba;have hid:=Kl hh;have c2:=I5 g d0 d s0 (AO a T) false L l x L';have c3:=TH l x.h x.lba hl hs hno;have c4:=Yo [] x.lba (Aj _);have c5:=Qs g a T d F x.lba t v hg hT ha h hF hlba hB hv;obtain⟨q,hq⟩:∃ q,q=l.getD (Eb l x.h) ⟨0, [], []⟩:=⟨_,rfl⟩;rw [<-hq] at c1 hid;generalize (Fd l x.h x.lba).2.2=e3 at c3;refine zU tys_ok Tryz.func112 rfl rfl (Ae rfl) ?_;conv=>whnf
 refine ze9 [0,1,2,3,4,5] c1 ?_;rintro _ _ ⟨rfl,rfl⟩;conv=>whnf
 rw [hid];repeat' (refine zZ ?_;conv=>whnf)
 apply zW (2 ^ 146) tys_ok mixed (.o [0,1,2,3,4,5,6,7,8,9,10,11,12,13,14,15,16,17,18,19] .fin) (by kernel_rfl);conv=>whnf
 refine zY hr ?_;conv=>whnf
 (refine ze9 [0,1,2,3,4,5] c2 ?_;rintro _ _ ⟨rfl,rfl⟩)
 conv=>whnf
 repeat' (refine zZ ?_;conv=>whnf)
 apply zW (0) tys_ok mixed (.o [0,1,2,3,4,5,6,7,8,9,10,11,12,13,14,15,16,17,18,19,20,21] .fin) (by kernel_rfl);conv=>whnf
 refine zY c3 ?_;conv=>whnf
 repeat' (refine zZ ?_;conv=>whnf)
 apply zW (0) tys_ok mixed (.o [0,1,2,3,4,5,6,7,8,9,10,11,12,13,14,15] .fin) (by kernel_rfl);conv=>whnf
 refine zY c4 ?_;conv=>whnf
 repeat' (refine zZ ?_;conv=>whnf)
 apply zW (2 ^ 137) tys_ok mixed (.o [0,1,2,3,4,5,6,7,8,9,10,11,12,13,14] .fin) (by kernel_rfl);conv=>whnf
 (refine ze9 [1,2,3,4] c5 ?_;rintro _ _ ⟨rfl,d1,hd1,rfl⟩)
 conv=>whnf
 repeat' (refine zZ ?_;conv=>whnf)
 exact⟨_, .ag (an7 0 0 (v (x.lba.tmod g.d))),Eo g d0 d1 s0 (AO a T) false L' l x,Bg (Wv 0 0 _),zQ (s:= [0,1,2,3,4,5]) tA,⟨d1,AO a T,false,L',l,0,0,_⟩,⟨d1,hd1,rfl⟩,rfl,rfl⟩
end
theorem Yy (g:Geo) (d:Dk) (x:Sp) (hk:2<=x.kind/\x.kind<=10):ACalls Tryz.prog false 20 [.bp 0 0, .ag (H_ x)] [.box 111 (XW g d)] fun r H=>r = .ag (an7 16 0 [])/\H=[.box 111 (XW g d)]:=by
 have k1:decide (x.kind>=11)=false:=decide_eq_false (by omega);have k2:(x.kind == 1)=false:=beq_eq_false_iff_ne.2 (by omega);refine zU tys_ok Tryz.func20 rfl rfl (Ae rfl) ?_;conv=>whnf
 rw [k1];conv=>whnf
 repeat' (refine zZ ?_;conv=>whnf)
 apply zW (0) tys_ok mixed (.o [0,1,2,3,4,5,6,7,8] .fin) (by kernel_rfl);conv=>whnf
 rw [k2];conv=>whnf
 repeat' (refine zZ ?_;conv=>whnf)
 exact⟨_, .ag (an7 16 0 []), [.box 111 (XW g d)],Bg (C3 16 0),zQ (s:= [0]) tA,rfl,rfl⟩
@[reducible] def ZK (g:Geo) (d:Dk):List AV:= [iv g.z,iv g.d,iv g.sp,iv g.sl,iv g.an,Qp d.cells,NB d.cache,iv d.reqs,iv d.left, .v (.bool true),iv 0,iv 0,iv 0,iv 0,iv 0, .v (.string ⟨#[]⟩), .v (.slice none 0 0), .v (.slice none 0 0), .v (.bool false),iv 0,iv 0,iv 0,iv 0, .v (.slice none 0 0), .v (.slice none 0 0), .v (.slice none 0 0)]
section
variable (g:Geo) (d D:Dk) (s:Stt) (x:Sp)
theorem SI (hm:ACalls Tryz.prog false 194 [.bp 0 0] (GJ g st0 d) fun r H=>r = iv 0/\H=bwN g s D):ACalls Tryz.prog false 110 [.bp 5 0] (ZS (XW g d) g st0 (Ej []) d x) fun r H=>r = iv 0/\H=Up (ZK g d) g s (.v (.slice none 0 0)) D x:=by
 refine zU tys_ok Tryz.func110 rfl rfl (Ae rfl) ?_;conv=>whnf
 refine ze9 [1,2,3,4] hm ?_;rintro _ _ ⟨rfl,rfl⟩;conv=>whnf
 repeat' (refine zZ ?_;conv=>whnf)
 apply zW (0) tys_ok mixed (.o [0,1,2,3,4,5,6,7,8,9,10,11,12,13,14,15,16,17,18,19,20] .fin) (by kernel_rfl);conv=>whnf
 try (refine tS ?_;conv=>whnf)
 try (refine tS ?_;conv=>whnf)
 try (refine tS ?_;conv=>whnf)
 all_goals
  repeat' (refine zZ ?_;conv=>whnf)
  exact⟨_,iv 0,Up (ZK g d) g s (.v (.slice none 0 0)) D x,fun _ _ h=>h,zQ (s:= [0,1,2,3,4,5,6]) tA,rfl,rfl⟩
theorem OU (hk:x.kind=1) (hm:ACalls Tryz.prog false 194 [.bp 0 0] (GJ g st0 d) fun r H=>r = iv 0/\H=bwN g s D):ACalls Tryz.prog false 45 [.bp 5 0] (ZS (XW g d) g st0 (Ej []) d x) fun r H=>r = .ag (an7 0 0 [])/\H=Up (ZK g d) g s (.v (.slice none 0 0)) D x:=by
 have h:=SI g d D s x hm;obtain⟨k,h1,h2,h3,h4,h5,h6,h7,h8,h9⟩:=x;obtain rfl:k=1:=hk;refine zU tys_ok Tryz.func45 rfl rfl (Ae rfl) ?_;conv=>whnf
 repeat' (refine zZ ?_;conv=>whnf)
 refine ze9 [0,1,2,3,4,5] h ?_;rintro _ _ ⟨rfl,rfl⟩;conv=>whnf
 repeat' (refine zZ ?_;conv=>whnf)
 exact⟨_, .ag (an7 0 0 []),Up (ZK g d) g s (.v (.slice none 0 0)) D ⟨1,h1,h2,h3,h4,h5,h6,h7,h8,h9⟩,Bg (C3 0 0),zQ (s:= [0,1,2,3,4,5,7]) tA,rfl,rfl⟩
end
theorem ML (g:Geo) (d D:Dk) (s:Stt) (x:Sp) (hz:d.z=d) (hd:d.cells.length<=1000000000/\d.cache.length<=1000000000) (hk:x.kind=1) (hcut:x.cut<=0) (hl:D.left = -1) (hm:ACalls Tryz.prog false 194 [.bp 0 0] (GJ g st0 d) fun r H=>r = iv 0/\H=bwN g s D) :
  ACalls Tryz.prog false 20 [.bp 0 0, .ag (H_ x)] [.box 111 (XW g d)] fun r H=>r = .ag (an7 0 0 [])/\H=Io g D s true [] []:=by
 have c1:=S4 d hd.1 hd.2;have k3:decide (x.cut > 0)=false:=decide_eq_false (by omega);have hdo:=OU g d D s x hk hm;obtain⟨dc,dw,dr,dl⟩:=d;obtain rfl:0=dr:=congrArg Dk.reqs hz;obtain⟨cs,ca,rq,lf⟩:=D;obtain rfl:lf = -1:=hl;obtain⟨k,h1,h2,h3,h4,h5,h6,h7,h8,h9⟩:=x;obtain rfl:k=1:=hk;simp only at k3;refine zU tys_ok Tryz.func20 rfl rfl (Ae rfl) ?_;conv=>whnf
 repeat' (refine zZ ?_;conv=>whnf)
 apply zW (0) tys_ok mixed (.o [0,1,2,3,4,5,6,7,8] .fin) (by kernel_rfl);conv=>whnf
 repeat' (refine zZ ?_;conv=>whnf)
 rw [k3];conv=>whnf
 repeat' (refine zZ ?_;conv=>whnf)
 apply zW (0) tys_ok mixed (.o [0,1,2,3,4,5,6,7,8,10,11,12,13,16,9,14,15,17,18,19] .fin) (by kernel_rfl);conv=>whnf
 (refine zX c1 rfl ?_;rintro _ _ ⟨rfl,rfl⟩)
 conv=>whnf
 repeat' (refine zZ ?_;conv=>whnf)
 refine zh (z6 (cs':=XP g (.bp 3 0) (Ej []) (iA []) st0) 6 rfl ⟨ri,ri,ri,ri,ri,ri,ri,ri,ri,ri,ri,ri,Bv 3 _,Bv 4 _,ri,ri,ri,ri,ri,Bv 1 _,tv⟩) ?_;refine ze9 [0,6,3,4,5,7] hdo ?_;rintro _ _ ⟨rfl,rfl⟩;conv=>whnf
 repeat' (refine zZ ?_;conv=>whnf)
 apply zW (0) tys_ok mixed (.o [0,1,2,3,4,5,6,7,8,9,10,11,12,13,14,15,16,17,18,19,20,21,22,23,24] .fin) (by kernel_rfl);conv=>whnf
 try (refine tS ?_;conv=>whnf)
 try (refine tS ?_;conv=>whnf)
 repeat' (refine zZ ?_;conv=>whnf)
 exact⟨_, .ag (an7 0 0 []),Io g ⟨cs,ca,rq, -1⟩ s true [] [],ri,zK (zO (zC (z6 (cs':=voX g (.ow 4 cs.length) (.ow 8 ca.length) rq (-1) true s (.v (.slice none 0 0)) (BH []) (CJ [])) 0 rfl ⟨ri,ri,ri,ri,ri,ri,ri,ri,ri,ri,ri,ri,ri,ri,ri,ri,ri,ri,ri,ri,ri,ri,ri,ri,Bv 3 _,Bv 3 _,tv⟩) (Gv (d:=⟨cs,ca,rq, -1⟩) (b:=true) 4 8 (by decide) (by decide) rfl rfl rfl))) (s:= [0]) tA,rfl,rfl⟩
theorem Yf (l:List Lck):AV.ltL (l.map DX).flatten 0=true:=by
 rw [CP];intro x hx;obtain⟨e,he,hxe⟩:=BP.1 hx;obtain⟨h,_,rfl⟩:=AI.1 he;simp only [DX,AQ,D1,or_false] at hxe;rcases hxe with rfl | rfl | rfl <;> rfl
theorem Vi {l:List Lck} {y id:Int} {a:Nat} (j:Nat):SubL (((l.map DX ++ [[AV.v (.int .i64 y), .ow a 1,AV.v (.int .i64 (-1))]]).map (List.map (AV.slIn a ([[AV.v (.int .i64 id)]]:List (List AV)).length (.sl 1 ([[AV.v (.int .i64 id)]]:List (List AV)).length fun i=>([[AV.v (.int .i64 id)]]:List (List AV)).getD i [])))).getD j []) (((l ++ [(⟨y, [id], -1⟩:Lck)]).map DX).getD j []):=by
 rw [A0,A0];by_cases e:j<l.length
 ·rw [EB (by rw [Aa,Aa];exact e),EB (by rw [Aa];exact e),AP (d:= []) (by rw [Aa];exact e),AP (d:=lz) e];exact SubL.refl _
 ·by_cases e2:j=l.length
  ·subst e2;rw [Dj (by rw [Aa,Aa];omega),Dj (by rw [Aa];omega),Aa,Aa,B9];show SubL [AV.v (.int .i64 y),AV.slIn a 1 _ (.ow a 1),AV.v (.int .i64 (-1))] _;rw [Js rfl];exact⟨fun _ _ h=>h,fun c u h=>E6 (f:=DC) (l:= [id]) (d:=0) rfl c u h,fun _ _ h=>h,tv⟩
  ·rw [Ab,AF (by simp;omega)];rw [Ab,AF (by simp;omega)];exact SubL.refl _
theorem Ro (l:List Lck) (y id:Int) (h:LkI l y) (hid:0<=id) (hh:GE l y=false):ACalls Tryz.prog false 198 [BH l,iv id,iv y] [] fun r H=>r = .tp [.ow 0 (l.length+1),iv 0]/\H=[.row 216 3 ((l ++ [(⟨y, [id], -1⟩:Lck)]).map DX)]:=by
 have c1:=DW l h.ok;have c2:=F4 l y h;have hlen:=h.len;have hy:=h.yb;have c3:Fn Tryz.prog 280 [iA [],iv id] (fun r=>r = .tp [iv ((0:Nat):Int), .v (.bool false)]):=Mx [] id (Aj _) rfl;have hp:=h.fin.resolve_left (by rw [hh];decide);have c4:=Fc [] [iv id] 0 0 rfl rfl (by decide);unfold P9 at c2;rw [hh,if_neg (by decide),hp,Ah,Aa,C6] at c2;have hib:((-1:Int) == id)=false:=beq_eq_false_iff_ne.2 (by omega);have hE:∀ e,(l.map DX ++ [e]).getD l.length []=e:=fun e=>by rw [Dj (by rw [Aa];omega),Aa,B9];try rfl
 have hS:∀ e e',(l.map DX ++ [e]).set l.length e'=l.map DX ++ [e']:=fun e e'=>by
  rw [C5 _ _ (by rw [Aa];omega),Aa,B9];try rfl
 have hN:∀ e:List AV,l.length+1=(l.map DX ++ [e]).length:=fun e=>by rw [Ah,Aa];try rfl
 refine zJ tys_ok Tryz.func198 rfl rfl (Ae rfl) ?_;conv=>whnf
 refine zY c1 ?_;conv=>whnf
 rw [decide_eq_false (show ¬id<0 by omega)];conv=>whnf
 rw [decide_eq_false (show ¬y<0 by omega)];conv=>whnf
 refine zX c2 rfl ?_;rintro _ _ ⟨rfl,rfl⟩;conv=>whnf
 repeat' (refine zZ ?_;conv=>whnf)
 refine⟨⟨by omega,by omega⟩,?_⟩;conv=>whnf
 rw [Ac];refine⟨⟨rfl,hN _,Br _⟩,?_⟩;conv=>whnf
 rw [hE];conv=>whnf
 refine zV [iA [],iv id] ⟨Bv 1 _,ri,tv⟩ ?_;refine zY c3 ?_;refine⟨⟨rfl,hN _,Br _⟩,?_⟩;conv=>whnf
 rw [hE];refine⟨⟨rfl,hN _,Br _⟩,?_⟩;conv=>whnf
 rw [hE];conv=>whnf
 rw [hib];refine⟨⟨rfl,hN _,Br _⟩,?_⟩;conv=>whnf
 rw [hE];refine⟨⟨rfl,hN _,Br _⟩,?_⟩;conv=>whnf
 rw [hE];conv=>whnf
 refine zh (ConvH.rowo (k:=0) rfl) ?_;refine ACalls.ghost 0 (t:=3) (sz:=1) rfl (by decide) ?_;refine ze9 [2,1] c4 ?_;rintro _ _ ⟨rfl,rfl⟩;refine⟨⟨rfl,hN _,Br _⟩,?_⟩;conv=>whnf
 rw [hE];conv=>whnf
 rw [hS];exact⟨_, .tp [.ow 0 (l.length+1),iv 0],_,fun _ _ h=>h,ND ⟨_,zC (zz 0 3 rfl rfl rfl) (zC (zr (k:=0) rfl (es':=(l ++ [(⟨y, [id], -1⟩:Lck)]).map DX) (m':=0) (by simp) (fun j=>Vi j) (Yf _)) (ConvH.row (k:=0) rfl (Yf _))),rfl⟩ rfl,rfl,rfl⟩
theorem Ih (l:List Lck) (y id:Int) (h:LkI l y) (hid:0<=id) (hh:GE l y=false):Fn Tryz.prog 198 [BH l,iv id,iv y] fun r=>r = .tp [BH (l ++ [(⟨y, [id], -1⟩:Lck)]),iv 0]:=by
 refine(Ro l y id h hid hh).fn ?_;rintro r H ⟨rfl,rfl⟩;refine⟨_,zE _,?_⟩;refine⟨by simp,?_⟩;refine⟨.tp [BH (l ++ [(⟨y, [id], -1⟩:Lck)]),iv 0],BV ⟨fun c u h=>?_,ri,tv⟩,rfl⟩;exact E6 (f:=DX) (d:=lz) (by simp) c u h
@[reducible] def sp (k h lba:Int) (b:List UInt8):Sp:=⟨k,h,lba,b,0,0,0,0,0,0⟩
theorem DH (k h lba:Int):SubL [iv k,iv h,iv lba, .v (.slice none 0 0),iv 0,iv 0,iv 0,iv 0,iv 0,iv 0] (H_ (sp k h lba [])):=⟨ri,ri,ri,Bv 1 _,ri,ri,ri,ri,ri,ri,tv⟩
section
variable {g:Geo} {K:Int} {d:Dk} {M:Md} {b:Bool} {L:List Lck} {l:List Hd}
theorem Vm.n {g:Geo} {K:Int} {d:Dk} {M:Md} (h:Vm g K d M):d.cells.length<=1000000000/\d.cache.length<=1000000000:=⟨by have:=h.gd.ok.n;omega,by have:=h.gd.ok.m;omega⟩
theorem Jb (h:Vm g K d M) (hb:b=true->M.l=[]) (hl:l.length<=1000) (hs:∀ h∈l,I4 h) (hend:freeId l 0=l.length) (ho:(DT l).2.2=0) (q lba:Int) :
  ACalls Tryz.prog false 20 [.bp 0 0, .ag (H_ (sp 2 q lba []))] (Io g d (AO M.a M.l) b L l) fun r H=>∃ d',Vm g K d' M/\r = .ag (an7 0 (DT l).2.1 [])/\H=Io g d' (AO M.a M.l) b L (DT l).1:=by
 have hc:=OV g d.z d.z (AO M.a M.l) (AO M.a M.l) b L l (sp 2 q lba []) (fun o=>o=⟨d.z,AO M.a M.l,b,L,(DT l).1,0,(DT l).2.1, []⟩) rfl ((SK g d.z d.z (AO M.a M.l) (AO M.a M.l) b L l (sp 2 q lba []) hl hs hend ho).mono fun r H ⟨h1,h2⟩=>⟨_,rfl,h1,h2⟩);refine(I8 g d (AO M.a M.l) b L l (sp 2 q lba []) (fun o=>o=⟨d.z,AO M.a M.l,b,L,(DT l).1,0,(DT l).2.1, []⟩) hb h.n ⟨by show (2:Int)<=2;decide,by show (2:Int)<=10;decide⟩ (by show (0:Int)<=0;decide) (hc.mono fun r H ⟨o,h1,h2,h3⟩=>⟨o,h1,by rw [h1];show (0:Int)≠8;decide,by rw [h1];exact h.z.gd.left,h2,h3⟩)).mono ?_;rintro r H ⟨o,rfl,rfl,rfl⟩;exact⟨d.z,h.z,rfl,rfl⟩
theorem Lj (L':List Lck) (hg:Bq g=true) (h:Vm g K d M) (hb:b=true->M.l=[]) (q lba:Int) (bs:List UInt8) (hok:DO l=true) (hl:l.length<=1000) (hs:∀ h∈l,I4 h) (hh:E3 l q=true) (hlba:0<=lba/\lba<g.z*g.d) (h8:bs.length=8) (hf:KC (l.getD (Eb l q) ⟨0, [], []⟩) lba=false) (hend:Ef (l.getD (Eb l q) ⟨0, [], []⟩).lbas lba=(l.getD (Eb l q) ⟨0, [], []⟩).lbas.length) (hw:Fn Tryz.prog 202 [BH L,iv q,iv lba] fun r=>r = .tp [BH L',iv 0]) :
  ACalls Tryz.prog false 20 [.bp 0 0, .ag (H_ (sp 4 q lba bs))] (Io g d (AO M.a M.l) b L l) fun r H=>∃ d',Vm g K d' M/\r = .ag (an7 0 0 [])/\H=Io g d' (AO M.a M.l) b L' (l.set (Eb l q) (W6 (l.getD (Eb l q) ⟨0, [], []⟩) lba bs)):=by
 have hc:=Kr g d.z d.z (AO M.a M.l) (AO M.a M.l) b L l (sp 4 q lba bs) (fun o=>o=⟨d.z,AO M.a M.l,b,L',l.set (Eb l q) (W6 (l.getD (Eb l q) ⟨0, [], []⟩) lba bs),0,0, []⟩) rfl ((SG g d.z d.z (AO M.a M.l) (AO M.a M.l) b L l (sp 4 q lba bs) L' hg hok hl hs hh hlba h8 hf hend hw).mono fun r H ⟨h1,h2⟩=>⟨_,rfl,⟨h1,rfl,rfl⟩,h2⟩);refine(I8 g d (AO M.a M.l) b L l (sp 4 q lba bs) (fun o=>o=⟨d.z,AO M.a M.l,b,L',l.set (Eb l q) (W6 (l.getD (Eb l q) ⟨0, [], []⟩) lba bs),0,0, []⟩) hb h.n ⟨by show (2:Int)<=4;decide,by show (4:Int)<=10;decide⟩ (by show (0:Int)<=0;decide) (hc.mono fun r H ⟨o,h1,h2,h3⟩=>⟨o,h1,by rw [h1];show (0:Int)≠8;decide,by rw [h1];exact h.z.gd.left,h2,h3⟩)).mono ?_;rintro r H ⟨o,rfl,rfl,rfl⟩;exact⟨d.z,h.z,rfl,rfl⟩
theorem MN (L':List Lck) (hg:Bq g=true) (h:Vm g K d M) (hK:K<=4294967294) (hM:M.l=[]) (q lba x1:Int) (bs:List UInt8) (hl:l.length<=1000) (hs:∀ h∈l,I4 h) (hh:E3 l q=true) (hlba:0<=lba/\lba<g.z*g.d) (h8:bs.length=8) (hq:l.getD (Eb l q) ⟨0, [], []⟩=⟨q, [lba], [bs]⟩) (hd:Fn Tryz.prog 287 [BH L,iv q] fun r=>r = .tp [BH L',iv 0]) :
  ACalls Tryz.prog false 20 [.bp 0 0, .ag (H_ (sp 5 q x1 []))] (Io g d (AO M.a M.l) true L l) fun r H=>∃ d' M',Vm g (K+1) d' M'/\M'.m=M.m.set lba.toNat bs/\r = .ag (an7 0 0 [])/\H=Io g d' (AO M'.a M'.l) false L' (Ds l q).1:=by
 have g4:=(A2.1 hg).2.2.2.1;obtain⟨a,ml,F,m⟩:=M;simp only at hM;subst hM;obtain⟨-,V,hV, -⟩:=h.rd;have hz:=h.z;have hc:=NF g d.z d.z (AO a []) (AO a []) true L l (sp 5 q x1 []) (fun o=>∃ d' W,Gd (A7 g) d' (MP F W)/\(∀ w∈W,(g.an<=w.addr/\w.addr<g.an+2*g.sl/\B_ w.bytes=w.addr)/\w.bytes.length<=200)/\o=⟨d',AO a ([] ++ [FU g a [] F lba bs]),false,L',(Ds l q).1,0,0, []⟩) rfl (QD g d.z d.z (AO a []) L l (sp 5 q x1 []) a F K lba bs V L' hg (hz.vo.vol hz.gd) hK hz.gd (fun q=>by have:=h.vo.fb q;exact AW this (by decide)) hV hlba h8 hl hs hh hq hd);refine(I8 g d (AO a []) true L l (sp 5 q x1 []) (fun o=>∃ d' W,Gd (A7 g) d' (MP F W)/\(∀ w∈W,(g.an<=w.addr/\w.addr<g.an+2*g.sl/\B_ w.bytes=w.addr)/\w.bytes.length<=200)/\o=⟨d',AO a ([] ++ [FU g a [] F lba bs]),false,L',(Ds l q).1,0,0, []⟩) (fun _=>rfl) h.n ⟨by show (2:Int)<=5;decide,by show (5:Int)<=10;decide⟩ (by show (0:Int)<=0;decide) (hc.mono fun r H ⟨o,⟨d',W,h1,h2,h3⟩,h4,h5⟩=>⟨o,⟨d',W,h1,h2,h3⟩,by rw [h3];show (0:Int)≠8;decide,by rw [h3];exact h1.left,h4,h5⟩)).mono ?_;rintro r H ⟨o,⟨d',W,h1,h2,rfl⟩,rfl,rfl⟩;exact⟨d',_,hz.cm (M:=⟨a, [],F,m⟩) hg hK hlba h8 (by show (0:Int)+4<=g.sl;omega) h1 h2,rfl,rfl,rfl⟩
theorem RR (L':List Lck) (hg:Bq g=true) (h:Vm g K d M) (q lba:Int) (hl:l.length<=1000) (hs:∀ h∈l,I4 h) (hh:E3 l q=true) (hlba:0<=lba/\lba<g.z*g.d) (hno:(Fd l q lba).2.1=false) (hr:Fn Tryz.prog 198 [BH L,iv q,iv lba] fun r=>r = .tp [BH L',iv 0]) :
  ACalls Tryz.prog false 20 [.bp 0 0, .ag (H_ (sp 3 q lba []))] (Io g d (AO M.a M.l) false L l) fun r H=>∃ d',Vm g K d' M/\r = .ag (an7 0 0 (M.m.getD lba.toNat []))/\H=Io g d' (AO M.a M.l) false L' l:=by
 obtain⟨hZ,hB⟩:=OG hg hlba;obtain⟨-,V,hV,hm⟩:=h.rd;obtain⟨t,hv⟩:=hV _ hZ.1 hZ.2;have hz:=h.z;have hvol:=hz.vo.vol hz.gd;have hsm:=hvol.sm hg;have hval:M.m.getD lba.toNat []=V (lba.tdiv g.d) (lba.tmod g.d):=by
  rw [<-hm _ _ hZ.1 hZ.2 hB.1 hB.2];congr 2;have:=Int.mul_tdiv_add_tmod lba g.d;rw [Int.mul_comm] at this;exact this.symm
 have hc:=I7 g d.z d.z (AO M.a M.l) (AO M.a M.l) false L l (sp 3 q lba []) (fun o=>∃ d',Gd (A7 g) d' M.F/\o=⟨d',AO M.a M.l,false,L',l,0,0,V (lba.tdiv g.d) (lba.tmod g.d)⟩) rfl (Uo g d.z d.z (AO M.a M.l) L l (sp 3 q lba []) M.a M.l M.F t (V (lba.tdiv g.d)) L' hg ⟨by have:=hsm.t.1;exact AW this (by decide),fun t ht=>⟨by have:=(hsm.t.2 t ht).1;omega,fun x hx=>by have:=(hsm.t.2 t ht).2 x hx;omega⟩⟩ hvol.an hz.gd (fun q=>by have:=h.vo.fb q;exact AW this (by decide)) hlba (fun p hp=>by
   obtain⟨t,ht,hx⟩:=Qd hp;have:=(hsm.t.2 t ht).2 _ hx;omega) hv hl hs hh hno hr)
 refine(I8 g d (AO M.a M.l) false L l (sp 3 q lba []) (fun o=>∃ d',Gd (A7 g) d' M.F/\o=⟨d',AO M.a M.l,false,L',l,0,0,V (lba.tdiv g.d) (lba.tmod g.d)⟩) (fun e=>by cases e) h.n ⟨by show (2:Int)<=3;decide,by show (3:Int)<=10;decide⟩ (by show (0:Int)<=0;decide) (hc.mono fun r H ⟨o,⟨d',h1,h3⟩,h4,h5⟩=>⟨o,⟨d',h1,h3⟩,by rw [h3];show (0:Int)≠8;decide,by rw [h3];exact h1.left,h4,h5⟩)).mono ?_;rintro r H ⟨o,⟨d',h1,rfl⟩,rfl,rfl⟩;exact⟨d',⟨h1,h.vo,h.rd⟩,by rw [hval];try rfl,rfl⟩
end
section
variable (g:Geo) (d0 d:Dk) (s0 s:Stt) (b:Bool) (L:List Lck) (l:List Hd) (x:Sp)
end
@[reducible] def aK (g:Geo) (d:Dk):List AB:= [.box 111 (WC g d false st0 (Ej []) (BH []) (CJ []))]
section
variable (g:Geo) (d0 d:Dk) (s0 s:Stt) (b:Bool) (L:List Lck) (l:List Hd) (x:Sp)
end
theorem WB {s:Stt}:∀ b,(b=true->s.txns=[])->∀ c v,Rd (txV b s.txns) c v->Rd (Ej s.txns) c v:=fun b hb c v h=>by
 cases b with
 | true=>rw [hb rfl];exact Bv 4 _ c v h
 | false=>exact h
section
variable {g:Geo} {K:Int} {d:Dk} {M:Md} {b:Bool} {L:List Lck} {l:List Hd}
theorem Ur (h:Vm g K d M) (hb:b=true->M.l=[]) (x:Sp) (e:Int) (he:e≠0) (he8:e≠8) (hk:2<=x.kind/\x.kind<=10) (hcut:x.cut<=0)
  (hc:ACalls Tryz.prog false 45 [.bp 5 0] (Eo g d.z d.z (AO M.a M.l) (AO M.a M.l) b L l x) fun r H=>∃ o:Vout,o=⟨d.z,AO M.a M.l,b,L,l,e,0, []⟩/\r = .ag (an7 o.e o.n o.bytes)/\H=E2 g d.z o.d (AO M.a M.l) o.s o.b o.L o.l x) :
  ACalls Tryz.prog false 20 [.bp 0 0, .ag (H_ x)] (Io g d (AO M.a M.l) b L l) fun r H=>∃ d',Vm g K d' M/\r = .ag (an7 e 0 [])/\H=Io g d' (AO M.a M.l) b L l:=by
 refine(I8 g d (AO M.a M.l) b L l x (fun o=>o=⟨d.z,AO M.a M.l,b,L,l,e,0, []⟩) hb h.n hk hcut (hc.mono fun r H ⟨o,h1,h2,h3⟩=>⟨o,h1,by rw [h1];exact he8,by rw [h1];exact h.z.gd.left,h2,h3⟩)).mono ?_;rintro r H ⟨o,rfl,rfl,rfl⟩;exact⟨d.z,h.z,by rw [if_neg he,if_neg he],rfl⟩
theorem OY (L':List Lck) (h:Vm g K d M) (hb:b=true->M.l=[]) (q lba:Int) (hl:l.length<=1000) (hs:∀ h∈l,I4 h) (hh:E3 l q=true) (hd:Fn Tryz.prog 287 [BH L,iv q] fun r=>r = .tp [BH L',iv 0]) :
  ACalls Tryz.prog false 20 [.bp 0 0, .ag (H_ (sp 6 q lba []))] (Io g d (AO M.a M.l) b L l) fun r H=>∃ d',Vm g K d' M/\r = .ag (an7 0 0 [])/\H=Io g d' (AO M.a M.l) b L' (Ds l q).1:=by
 have hc:=OW g d.z d.z (AO M.a M.l) (AO M.a M.l) b L l (sp 6 q lba []) (fun o=>o=⟨d.z,AO M.a M.l,b,L',(Ds l q).1,0,0, []⟩) rfl ((SL g d.z d.z (AO M.a M.l) (AO M.a M.l) b L l (sp 6 q lba []) L' hl hs hh hd).mono fun r H ⟨h1,h2⟩=>⟨_,rfl,⟨h1,rfl,rfl⟩,h2⟩);refine(I8 g d (AO M.a M.l) b L l (sp 6 q lba []) (fun o=>o=⟨d.z,AO M.a M.l,b,L',(Ds l q).1,0,0, []⟩) hb h.n ⟨by show (2:Int)<=6;decide,by show (6:Int)<=10;decide⟩ (by show (0:Int)<=0;decide) (hc.mono fun r H ⟨o,h1,h2,h3⟩=>⟨o,h1,by rw [h1];show (0:Int)≠8;decide,by rw [h1];exact h.z.gd.left,h2,h3⟩)).mono ?_;rintro r H ⟨o,rfl,rfl,rfl⟩;exact⟨d.z,h.z,rfl,rfl⟩
theorem Ja (L':List Lck) (hg:Bq g=true) (h:Vm g K d M) (hb:b=true->M.l=[]) (q lba:Int) (hl:l.length<=1000) (hs:∀ h∈l,I4 h) (hh:E3 l q=true) (hlba:0<=lba/\lba<g.z*g.d) (hno:(Fd l q lba).2.1=false) (hr:Fn Tryz.prog 198 [BH L,iv q,iv lba] fun r=>r = .tp [BH L',iv 0]) :
  ACalls Tryz.prog false 20 [.bp 0 0, .ag (H_ (sp 3 q lba []))] (Io g d (AO M.a M.l) b L l) fun r H=>∃ d',Vm g K d' M/\r = .ag (an7 0 0 (M.m.getD lba.toNat []))/\H=Io g d' (AO M.a M.l) false L' l:=
 (RR L' hg h q lba hl hs hh hlba hno hr).pre (z6 (cs':=WC g d true (AO M.a M.l) (Ej M.l) (BH L) (CJ l)) 0 rfl (QC (WB b hb)))
end
end
end Go.Proofs.YtpjkcgacjjbikaaGreatDoor.A
namespace Go.Proofs.YtpjkcgacjjbikaaGreatDoor
section
open Go.RowKit
attribute [local go_sem ↓] Go.wp_at_zero Go.wp_at_succ

theorem aa (g c n:Nat) (xs:List Value) (base:Nat) (w:World) (fv:Value) (ho:w.ownsRow base 3 1 (.slice (some ⟨g,0,none⟩) (n+1) c) (n+1) xs) (hn:n<=1000000)
  (hix:Calls Tryz.prog 152 #[.slice (some ⟨g,0,none⟩) (n+1) c,fv] w fun e w'=>e = .returned (.int .i64 n)/\Below w.heap.size w w') :
  Calls Tryz.prog 78 #[.slice (some ⟨g,0,none⟩) (n+1) c,fv] w fun e w'=>∃ v',e = .returned v'/\w'.ownsRow base 3 1 v' n (xs.take n)/\w.grownBy w' (some g)/\v'.ownBlock=some g:=by
 rcases ho.2 with ⟨e,_⟩ | ⟨g',c',cur,e,hbg,hg,hnc,hcm,hcs,ht⟩
 ·cases e
 cases e;have hxl:=ho.1;unfold maxLen at hcm;have mixed:Tryz.prog.follows .mixedOrders=true:=by kernel_rfl
 go_enter Tryz.func78,Tryz.ntmps78
 go_wp2_with fail
 refine hix.mono ?_;rintro e w1 ⟨rfl,hB⟩;have HB:=Lib.hid hB;have Hg:=Lib.hid hg;have Hx:=Lib.hid ht;have hne:¬((n:Int) = -1):=by omega
 have hw:IntKind.i64.wrap ((n:Int)+1)=(n:Int)+1:=IntWalk.i64_in _ (by omega);have hlt:¬((n:Int)+1<((n+1:Nat):Int)):=by omega
 have Yi:(0:Int)<=n:=by omega
 have hb2:(n:Int)<=((n+1:Nat):Int):=by omega
 have hb3:(n:Int)<=c:=by omega
 have hb4:((n+1:Nat):Int)<=c:=by omega
 have hcn:¬c=n:=by omega
 have hglt:=Lib.hid (Aw.1 hg).1;clear hix hB hg ht ho
 go_wp2_with fail
 go_loopw [5,6] (fun k i wr=>k = .int .i64 (n:Int)/\i = .int .i64 ((n:Int)+1)/\Hid (Below w.heap.size w wr)) (fun _ _ _=>0)
 case atStart=>exact⟨rfl,rfl,HB⟩
 case round=>
  obtain⟨rfl,rfl,HS⟩:=hrel;have hgw:wr.heap[g]? = some (.cells cur 3 (0,0)):=(HS.out.block g hglt.out).trans Hg.out;have hcv:=fun ty cc=>K0 (P:=Tryz.prog) wr 30 3 ty (.int .i64 0) 1 Tryz.underlying30 (fun w=>by kernel_rfl) rfl (by simp [Value.cells,Value.oneCell']) g n cc 3 cur hgw (by omega)
  have HG:=Lib.hid hgw;clear hgw
  go_wp2_with (simp only [hcv])
  go_ret
  have hB:=HS.out;refine⟨_,rfl,⟨by rw [Aq,hxl];omega, .inr ⟨g,c,_,rfl,hbg,setRow_heap wr g _ _ 3 _ HG.out,by omega,by unfold maxLen;omega,?_,?_⟩⟩,World.grownBy.trans ⟨hB.os,hB.tape,hB.output,hB.size,fun k hk _=>hB.block k hk⟩ (D6 rfl),rfl⟩
  ·rw [Bw,GC _ _ _ (by show n+1<=cur.toList.length;rw [BC];omega),BC,hcs]
  ·have hl:(cur.toList.take n).length=n:=by rw [Aq,BC,hcs];omega
   rw [QP,List.take_left' (by rw [hl];omega),<-Hx.out,List.take_take];congr 1;omega
end
end Go.Proofs.YtpjkcgacjjbikaaGreatDoor
namespace Go.Proofs.YtpjkcgacjjbikaaGreatDoor.A
section
open Go.RowKit
theorem icF_len:∀ l:List Int,(l.map DC).flatten.length=l.length
 | []=>rfl
 | x::r=>by rw [A5,A8,Ah,icF_len r,Ao,CA];rfl
theorem V1 (l:List Int) (id:Int) (hl:l.length<=1000) (h:l.any (fun n=>n == id)=false):ACalls Tryz.prog false 78 [.ow 0 (l.length+1), .fn 353 [.rp [iv id]]] [.row 3 1 ((l ++ [id]).map DC)] fun r H=>r = .ow 1 l.length/\H=[.dead, .row 3 1 (l.map DC)]:=by
 have hix:=Vj (l ++ [id]) id (by rw [Ah];exact AW (Nat.succ_le_succ hl) (by decide));rw [Er (p:=fun n=>n == id) (l:=l ++ [id]) (k:=l.length) (d:=(0:Int)) (by rw [Ah];exact Br _) (by rw [List.take_left];exact h) (by rw [Dj (Ag _),B9];exact beq_self_eq_true id)] at hix;have hlen:((l ++ [id]).map DC).length=l.length+1:=by rw [Aa,Ah];try rfl
 have hsub:SubL [.sl 1 (l.length+1) fun i=>((l ++ [id]).map DC).getD i [], .fn 353 [.rp [iv id]]] [iA (l ++ [id]), .fn 353 [.rp [iv id]]]:=⟨BY (f:=DC) (l ++ [id]) (by rw [Ah];try rfl) rfl,ri,tv⟩;refine⟨⟨_,Tryz.func78,rfl,rfl⟩,fun w0 M0 c us hs hr=>?_⟩;have hr0:=hr;have hj:([.row 3 1 ((l ++ [id]).map DC)]:List AB)[0]? = some (.row 3 1 ((l ++ [id]).map DC)):=rfl;obtain⟨h1,h2,h3,xs,h4,h5,h6⟩:=hs.blk 0 _ hj;simp only [RdL] at hr;obtain⟨v,us1,rfl,r1,v1,us2,rfl,r2,rfl⟩:=hr;have r1o:=r1;simp only [Rd] at r1;rw [hlen] at h1 h4;have hv:=r1.2.2.2 h1.symm;rcases h4.2 with ⟨_,h0⟩ | ⟨g,cc,cur,q1,q2,q3,q4,q5,q6,q7⟩
 ·omega
 have hv':v = .slice (some ⟨g,0,none⟩) (l.length+1) cc:=hv.trans q1;have hcall:=hix.sub hsub;obtain⟨r,H1,c',rfl,s2,s3,s4,s5,_⟩:=FI (k:=fun a _=>a = .sl 1 (l.length+1) fun i=>((l ++ [id]).map DC).getD i []) hs r1o ⟨hlen.symm,rfl⟩;have s6:Rd (.fn 353 [.rp [iv id]]) c'.closed v1:=Rd.ext _ s4.closed (Rd.cut (c:=c) (c':=c.closed) _ ⟨zM _,fun k hk=>absurd hk (Ap k)⟩ rfl r2);have hc0:=hcall.2 c'.closed [v,v1] rfl s3.lt s3.glob (by simp only [RdL];exact⟨_,_,rfl,s5,_,_,rfl,s6,rfl⟩);rw [show c'.closed.w=c.w from s2] at hc0;have hc1:Calls Tryz.prog 152 #[v,v1] c.w fun e w'=>e = .returned (.int .i64 (l.length:Nat))/\Below c.w.heap.size c.w w':=hc0.mono fun e w' ⟨v,r,e1,e2,e3,e4⟩=>by
  subst e2;simp only [Rd] at e4;subst e4;exact⟨e1,e3⟩
 rw [hv'] at hc1;have:=aa g cc l.length xs c.base c.w v1 (by rw [<-hv',hv];exact h4) (by omega) hc1;rw [hv'];refine this.mono ?_;rintro e' w' ⟨v',rfl,p1,p2,p3⟩;have hl2:(l.map DC).length=l.length:=Aa _;have hob':=L4 p1;have hog:oB (c.rho 0)=some g:=by rw [q1];try rfl
 rw [<-hog] at p2 p3;rw [<-hob'] at p3;obtain⟨s1,s2,s3⟩:=hs.rerow (es':=l.map DC) hj (by rw [hl2];exact p1) p2 (.inl p3) h2 (fun x hx=>by
   obtain⟨y,_,rfl⟩:=AI.1 hx;rfl) (by
   have e:(l.map DC).flatten=(((l ++ [id]).map DC).flatten).take l.length:=by
    rw [A0,AX,List.take_left' (icF_len l)]
   rw [e];exact h5.take _) (fun u hu=>h6 u (Bo hu))
 exact⟨v',_,_,_,rfl,rfl,tA,s1,s2,by rw [<-hl2];exact s3,fun e=>by cases e⟩
theorem LF (x:Lck) (hx:x.reads.length<=1000):ACalls Tryz.prog false 49 [BH [x]] [] fun r H=>r = .ow 0 1/\H=[.rowo 216 3 [[iv x.lba, .ow 1 x.reads.length,iv x.writer]] 2, .row 3 1 (x.reads.map DC)]:=by
 have hc:=IL x.reads (by omega);refine zU tys_ok Tryz.func49 rfl rfl (Ae rfl) ?_;conv=>whnf
 refine zX (Nh [x] (by show 1<=1000000000;decide)) rfl ?_;rintro _ _ ⟨rfl,rfl⟩;conv=>whnf
 refine zR Nat (fun k=>match k with
  | 0=>([(0, .ow 0 1),(7,iv 1),(8,iv 0)], [.rowo 216 3 [DX x] 0])
  | _+1=>([(0, .ow 0 1),(7,iv 1),(8,iv 1)], [.rowo 216 3 [[iv x.lba, .ow 1 x.reads.length,iv x.writer]] 2, .row 3 1 (x.reads.map DC)])) (fun k=>k<=1) (fun k=>1 - k) 0 (Aj _)
  (zK (zO (ConvH.rowo (k:=0) rfl)) (s:= [0]) ⟨tA,⟨⟨rfl,_,rfl⟩,tv⟩,rfl,rfl,rfl,rfl,rfl⟩) ?_
 rintro k hk;cases k with
 | zero=>
  refine⟨⟨by decide,by decide⟩,?_⟩;refine⟨⟨rfl,rfl,by decide⟩,?_⟩;conv=>whnf
  refine zX hc rfl ?_;rintro _ _ ⟨rfl,rfl⟩;refine⟨⟨by decide,by decide⟩,?_⟩;refine⟨⟨rfl,rfl,by decide⟩,?_⟩;exact⟨1,Ag _,by decide,zQ (s:= [0,1]) ⟨tA,⟨⟨rfl,_,rfl⟩,rfl,tv⟩,rfl,rfl,rfl,rfl,rfl⟩⟩
 | succ k=>
  exact⟨.ow 0 1, .ow 0 1, [.rowo 216 3 [[iv x.lba, .ow 1 x.reads.length,iv x.writer]] 2, .row 3 1 (x.reads.map DC)],fun _ _ h=>h,zQ (s:= [0,1]) ⟨tA,⟨⟨rfl,_,rfl⟩,rfl,tv⟩,rfl,rfl,rfl,rfl,rfl⟩,rfl,rfl⟩
def JB (y:Int) (rs:List Int):List Lck:=if 0<rs.length then [⟨y,rs, -1⟩] else []
theorem Tz (y id:Int) (rs:List Int) (hok:Hy [(⟨y,rs ++ [id], -1⟩:Lck)]=true) (hid:0<=id) (h:rs.any (fun n=>n == id)=false):Fn Tryz.prog 287 [BH [(⟨y,rs ++ [id], -1⟩:Lck)],iv id] fun r=>r = .tp [BH (JB y rs),iv 0]:=by
 have c1:=DW [(⟨y,rs ++ [id], -1⟩:Lck)] hok;have hrd:(rs ++ [id]).length<=8:=by
  simp only [Hy,Ad] at hok;have:=Av.1 hok.2.2 ⟨y,rs ++ [id], -1⟩ (Ay.2 rfl);simp only [GB,Ad,decide_eq_true_eq] at this;exact this.1
 have c2:=LF (⟨y,rs ++ [id], -1⟩:Lck) (by show (rs ++ [id]).length<=1000;omega);have hlen:(rs ++ [id]).length=rs.length+1:=by rw [Ah];try rfl
 have c3:=V1 rs id (by omega) h;simp only [hlen] at c2;have hib:((-1:Int) == id)=false:=beq_eq_false_iff_ne.2 (by omega);refine zT Tryz.func287 rfl ?_;conv=>whnf
 refine zY c1 ?_;conv=>whnf
 rw [decide_eq_false (show ¬id<0 by omega)];conv=>whnf
 refine zX c2 rfl ?_;rintro _ _ ⟨rfl,rfl⟩;conv=>whnf
 refine zR Nat (fun k=>match k with
  | 0=>([(3, .rp [iv id]),(6, .ow 2 0),(17, .ow 0 1),(18,iv 1),(19,iv 0)], [.rowo 216 3 [[iv y, .ow 1 (rs.length+1),iv (-1)]] 2, .row 3 1 ((rs ++ [id]).map DC), .row 216 3 []])
  | _+1=>([(3, .rp [iv id]),(6, .ow 0 (JB y rs).length),(18,iv 1),(19,iv 1)], [.row 216 3 ((JB y rs).map DX)])) (fun k=>k<=1) (fun k=>1 - k) 0 (Aj _)
  ⟨_,_,zg 3 0 (y:= .rp [iv id]) (H':= [.dead, .rowo 216 3 [[iv y, .ow 2 (rs.length+1),iv (-1)]] 3, .row 3 1 ((rs ++ [id]).map DC)]) rfl (by (conv=>whnf);exact tA), [(6,216,3)],tA, [1,2,3],⟨tA,⟨⟨rfl,_,rfl⟩,rfl,rfl,tv⟩,rfl,rfl,rfl,rfl,rfl⟩⟩ ?_
 rintro k hk;cases k with
 | zero=>
  conv=>whnf
  repeat' (refine zZ ?_;conv=>whnf)
  refine⟨⟨by decide,by decide⟩,?_⟩;refine⟨⟨rfl,rfl,by decide⟩,?_⟩;conv=>whnf
  refine ze9 [1] c3 ?_;rintro _ _ ⟨rfl,rfl⟩;conv=>whnf
  refine y_ Unit (fun _=>([(3, .rp [iv id]),(6, .ow 1 0),(8, .bp 0 0),(18,iv 1),(19,iv 0)], [.box 216 [iv y,iA rs,iv (-1)], .row 216 3 []])) (fun _=>True) ?_ ?_
  ·conv=>whnf
   rw [hib];exact⟨(),tv,zK (zO (zC (zp 3 4 (cs2:= [iv y, .sl 1 (rs.map DC).length fun i=>(rs.map DC).getD i [],iv (-1)]) rfl rfl (by
    show ([iv y, .ow 4 rs.length,iv (-1)]:List AV).map _=_;simp only [A5,Bp,Js (show rs.length=(rs.map DC).length from (Aa _).symm)];rfl)) (z6 (cs':= [iv y,iA rs,iv (-1)]) 3 rfl ⟨ri,BY (f:=DC) rs (Aa _) rfl,ri,tv⟩))) (s:= [3,2]) tA⟩
  intro _ _;conv=>whnf
  repeat' (refine zZ ?_;conv=>whnf)
  by_cases hz:0<rs.length
  ·have o:JB y rs=[⟨y,rs, -1⟩]:=if_pos hz;rw [show decide ((rs.length:Int) > 0)=true from decide_eq_true (by omega)];conv=>whnf
   repeat' (refine zZ ?_;conv=>whnf)
   refine⟨rfl,?_⟩;refine⟨⟨rfl,by omega⟩,?_⟩;conv=>whnf
   exact⟨1,Ag _,by decide,zQ (s:= [1]) ⟨⟨rfl,by rw [o];try rfl,rfl,rfl,tv⟩,⟨by rw [o];try rfl,tv⟩,rfl,rfl,rfl,rfl,rfl⟩⟩
  ·have o:JB y rs=[]:=if_neg hz;rw [show decide ((rs.length:Int) > 0)=false from decide_eq_false (by omega)];conv=>whnf
   repeat' (refine zZ ?_;conv=>whnf)
   exact⟨1,Ag _,by decide,zQ (s:= [1]) ⟨⟨rfl,by rw [o];try rfl,rfl,rfl,tv⟩,⟨by rw [o];try rfl,tv⟩,rfl,rfl,rfl,rfl,rfl⟩⟩
 | succ k=>
  refine Ai (Aa _).symm ?_;exact⟨_,BV (m:= [BH (JB y rs),iv 0]) ⟨BY (f:=DX) (JB y rs) rfl rfl,ri,tv⟩,rfl⟩
def b8:List UInt8:= [1,2,3,4,5,6,7,8]
def lbX:ByteArray:=⟨#[120]⟩
theorem lab_x8:Ev lbX.data.toList=0:=by decide +kernel
theorem Zi {y:Int} (h:0<=y/\y<=1000000):LkI [] y:=⟨rfl,by decide,(fun x hx=>by cases hx),h, .inr rfl⟩
theorem Yi (i:Int) (b:List (List UInt8)) (hb:b.length<=1000/\∀ x∈b,x.length<=1000000) (a:List Int) (ha:a.length<=1000):∀ h∈ [(⟨i,a,b⟩:Hd)],I4 h:=fun h hh=>by
 rw [Ay] at hh;subst hh;exact⟨ha,hb.1,hb.2⟩
theorem wakes26_fn:Fn Tryz.prog 21 [] fun r=>r = .v (.bool true):=by
 have h1:=RV 0 1 0 0 1;have hg:=Pg 0 1 0 0 1;have hzd:(F_ 0 1 0 0 1).z*(F_ 0 1 0 0 1).d=2:=by decide
 have hbd:4*(F_ 0 1 0 0 1).sl+4*(F_ 0 1 0 0 1).an+16*(F_ 0 1 0 0 1).z*((F_ 0 1 0 0 1).d+(F_ 0 1 0 0 1).sp+4)+8=168:=by decide
 generalize F_ 0 1 0 0 1=g at h1 hg hzd hbd;obtain⟨D,hM,hdk,hlen,hgd,hvo⟩:=UM (lb:=lbX) hg lab_x8;have v0:Vm g 2 D (I2 g lbX):=⟨hgd,hvo,Va hg⟩;have hl0:(I2 g lbX).l=[]:=rfl;have hm0:(I2 g lbX).m=[zero8,zero8]:=by show List.replicate (g.z*g.d).toNat zero8=_;rw [hzd];try rfl
 have c1:=RQ g lbX hg lab_x8 (by decide);have c2:=Yy g (DI g lbX) (sp 2 0 0 []) ⟨by decide,by decide⟩;have c3:=ML g (DI g lbX) D _ (sp 1 0 0 []) rfl ⟨by have:=hdk.n;omega,by have:=hdk.m;omega⟩ rfl (by decide) hgd.left (We g (DI g lbX) D _ hg hdk hlen hM (aq hg lab_x8));obtain⟨M,hMe⟩:∃ M,M=I2 g lbX:=⟨_,rfl⟩;rw [<-hMe] at v0 hl0 hm0 c3;have cw:=JX [] 1 0 (Zi (by decide)) (by decide) rfl;have cd:=PJ [⟨1, [],0⟩] 0 rfl (by decide) (by decide);have cr:=Ih [] 1 0 (Zi (by decide)) (by decide) rfl;have hbs:=IW b8 (by decide);have cb:=SJ g hg;rw [hbd] at cb;have s1:=Jb (b:=true) (L:= []) (l:= []) v0 (fun _=>hl0) (by decide) (fun h hh=>by cases hh) rfl rfl 0 0;simp only [show DT []=([⟨0, [], []⟩],0,0) from rfl] at s1;have hd8:∀ h∈ [(⟨0, [1], [b8]⟩:Hd)],I4 h:=Yi 0 [b8] (by decide) [1] (by decide);have hd0:∀ h∈ [(⟨0, [], []⟩:Hd)],I4 h:=Yi 0 [] ⟨by decide,fun x h=>by cases h⟩ [] (by decide);refine zT Tryz.func21 rfl ?_;conv=>whnf
 refine zY h1 ?_;conv=>whnf
 refine zX c1 rfl ?_;rintro _ _ ⟨rfl,rfl⟩;conv=>whnf
 refine zV [.bp 1 0, .ag (H_ (sp 2 0 0 []))] ⟨ri,Bg (DH 2 0 0),tv⟩ ?_;refine ze9 [1] c2 ?_;rintro _ _ ⟨rfl,rfl⟩;conv=>whnf
 refine zV [.bp 1 0, .ag (H_ (sp 1 0 0 []))] ⟨ri,Bg (DH 1 0 0),tv⟩ ?_;refine ze9 [1] c3 ?_;rintro _ _ ⟨rfl,rfl⟩;conv=>whnf
 refine y_ Unit (fun _=>([(1, .bp 0 0),(2, .bp 1 0),(4,bA b8)],(.box 24 (Bm g))::Io g D (AO M.a M.l) true [] [])) (fun _=>True) ?_ ?_
 ·exact⟨(),tv,zK (zN (zF 4 2 rfl rfl) (z8 4 rfl (KV (L:=b8) rfl rfl))) (s:= [0,1]) tA⟩
 intro _ _;conv=>whnf
 refine zV [.bp 1 0, .ag (H_ (sp 2 0 0 []))] ⟨ri,Bg (DH 2 0 0),tv⟩ ?_;refine ze9 [1] s1 ?_;rintro _ _ ⟨d1,v1,rfl,rfl⟩;have s2:=Lj (b:=true) (L:= []) (l:= [⟨0, [], []⟩]) (ZR [] 1 0) hg v1 (fun _=>hl0) 0 1 b8 rfl (by decide) hd0 rfl ⟨by decide,by rw [hzd];decide⟩ rfl rfl rfl cw;conv=>whnf
 refine ze9 [1] s2 ?_;rintro _ _ ⟨d2,v2,rfl,rfl⟩;have s3:=MN (L:= [⟨1, [],0⟩]) (l:= [⟨0, [1], [b8]⟩]) (DY [⟨1, [],0⟩] 0) hg v2 (by decide) hl0 0 1 0 b8 (by decide) hd8 rfl ⟨by decide,by rw [hzd];decide⟩ rfl rfl cd;conv=>whnf
 refine zV [.bp 1 0, .ag (H_ (sp 5 0 0 []))] ⟨ri,Bg (DH 5 0 0),tv⟩ ?_;refine ze9 [1] s3 ?_;rintro _ _ ⟨d3,M2,v3,hm3,rfl,rfl⟩;have s4:=Jb (b:=false) (L:= []) (l:= []) v3 (fun h=>by cases h) (by decide) (fun h hh=>by cases hh) rfl rfl 0 0;simp only [show DT []=([⟨0, [], []⟩],0,0) from rfl] at s4;conv=>whnf
 refine zV [.bp 1 0, .ag (H_ (sp 2 0 0 []))] ⟨ri,Bg (DH 2 0 0),tv⟩ ?_;refine ze9 [1] s4 ?_;rintro _ _ ⟨d4,v4,rfl,rfl⟩;have s5:=RR (L:= []) (l:= [⟨0, [], []⟩]) ([] ++ [⟨1, [0], -1⟩]) hg v4 0 1 (by decide) hd0 rfl ⟨by decide,by rw [hzd];decide⟩ rfl cr;rw [show M2.m.getD (Int.toNat 1) []=b8 by rw [hm3,hm0];try rfl] at s5;conv=>whnf
 refine zV [.bp 1 0, .ag (H_ (sp 3 0 1 []))] ⟨ri,Bg (DH 3 0 1),tv⟩ ?_;refine ze9 [1] s5 ?_;rintro _ _ ⟨d5,v5,rfl,rfl⟩;conv=>whnf
 refine zY cb ?_;conv=>whnf
 refine zY hbs ?_;exact⟨_,ri,rfl⟩
def Dk.faultX (d:Dk) (kind a frm bit bits:Int):Dk:=if (d.fault kind a frm bit bits).2=0 then (d.fault kind a frm bit bits).1 else dk0

structure Gr where
 f:Int->Gt
 cells:List Cel
 cache:List Wr
instance:CoeFun Gr fun _=>Int->Gt:=⟨Gr.f⟩
structure Gs (n:Int) (d:Dk) (G:Gr):Prop where
 ok:DkOk d
 left:d.left = -1
 len:(d.cells.length:Int)=n
 got:∀ a:Int,0<=a->a<n->d.got a=((G a).bytes,(G a).err)
 cells:d.cells=G.cells
 cache:d.cache=G.cache
theorem Gs.req {n:Int} {d:Dk} {G:Gr} (h:Gs n d G):Gs n d.req G:=⟨h.ok.req,by unfold Dk.req;rw [h.left];try rfl,h.len,h.got,h.cells,h.cache⟩
theorem Gs.read {n:Int} {d:Dk} {G:Gr} (h:Gs n d G) {a:Int} (h0:0<=a) (h1:a<n):d.read a=(d.req,(G a).bytes,(G a).err):=by
 unfold Dk.read;rw [if_neg (by rw [h.left];decide),h.got a h0 h1]
def On (d:Dk):Gr:=⟨fun a=>⟨(d.got a).2,(d.got a).1⟩,d.cells,d.cache⟩
theorem Gs.of {n:Int} {d:Dk} (h:DkOk d) (hl:d.left = -1) (hn:(d.cells.length:Int)=n):Gs n d (On d):=⟨h,hl,hn,fun _ _ _=>rfl,rfl,rfl⟩


@[reducible] def aJ (g:Geo) (t:List Ent) (had l:List (List UInt8)):List AB:= [.box 348 [iv g.d,BX t,GZ had], .row 22 1 (l.map MA)]



structure AtsOk (g:Geo) (l:List Int):Prop where
 pos:0<l.length
 len:l.length<=1000
 at_:∀ i:Nat,i<l.length->0<=l.getD i 0/\l.getD i 0<g.d
 up:∀ i:Nat,i+1<l.length->l.getD i 0<l.getD (i+1) 0
theorem AtsOk.lt {g:Geo} {l:List Int} (h:AtsOk g l):∀ {j k:Nat},j<k->k<l.length->l.getD j 0<l.getD k 0:=fun {j k} hjk hk=>by
 induction k with
 | zero=>omega
 | succ k ih=>
  by_cases e:j=k
  ·rw [e];exact h.up k hk
  ·exact Int.lt_trans (ih (by omega) (by omega)) (h.up k hk)
theorem AtsOk.inj {g:Geo} {l:List Int} (h:AtsOk g l) {j k:Nat} (hj:j<l.length) (hk:k<l.length) (e:l.getD j 0=l.getD k 0):j=k:=by
 rcases Nat.lt_trichotomy j k with q | q | q
 ·have:=h.lt q hk;omega
 ·exact q
 ·have:=h.lt q hj;omega
section
variable {g:Geo} {t:List Ent} {had:List (List UInt8)} {ats:List Int} {bs:List (List UInt8)}
end

theorem Lh {d:Dk} (h:d.left = -1) (a:Int) (b:List UInt8):(d.write a b).2≠8/\(d.write a b).1.left = -1:=by
 have e:d.req.left = -1:=by unfold Dk.req;rw [h];try rfl
 unfold Dk.write;rw [if_neg (by rw [h];decide)];split
 ·exact⟨by show (7:Int)≠8;decide,e⟩
 ·exact⟨by show (0:Int)≠8;decide,e⟩
def XZ (g:Geo) (d:Dk) (x:Rc) (Q:Int):Dk:=((d.write (Ba g 0 Q) (B5 g x 0 Q)).1.write (Ba g 1 Q) (B5 g x 1 Q)).1
def dW (g:Geo) (P:Int) (R:List Rc) (d:Dk):Nat->Dk
 | 0=>d
 | i+1=>XZ g (dW g P R d i) (R.getD i rc0) (E8 g P (i:Nat))
theorem YB {g:Geo} (hg:Bq g=true) {d:Dk} {x:Rc} {Q:Int} (hx:EN g x=true) (hQ:0<=Q/\Q<g.sl) (h:DkOk d) (hl:d.left = -1) (hn:(d.cells.length:Int)=A7 g):DkOk (XZ g d x Q)/\(XZ g d x Q).left = -1/\((XZ g d x Q).cells.length:Int)=A7 g:=by
 have b0:=EA hg hn (.inl rfl) hQ (c:=0);have b1:=EA hg hn (.inr rfl) hQ (c:=1);have h1:=h.write (a:=Ba g 0 Q) (b:=B5 g x 0 Q) (by omega) (Cc hx 0 Q);have l1:=(Lh hl (Ba g 0 Q) (B5 g x 0 Q)).2;have n1:=KR d (Ba g 0 Q) (B5 g x 0 Q);have h2:=h1.write (a:=Ba g 1 Q) (b:=B5 g x 1 Q) (by omega) (Cc hx 1 Q);have l2:=(Lh l1 (Ba g 1 Q) (B5 g x 1 Q)).2;have n2:=KR (d.write (Ba g 0 Q) (B5 g x 0 Q)).1 (Ba g 1 Q) (B5 g x 1 Q);exact⟨h2,l2,by show ((((d.write _ _).1.write _ _).1.cells.length:Nat):Int)=_;omega⟩
theorem Yn {g:Geo} (hg:Bq g=true) {P:Int} {R:List Rc} {n:Nat} (hR:∀ i:Nat,i<n->EN g (R.getD i rc0)=true) (hP:∀ i:Nat,i<n->0<=E8 g P (i:Nat)/\E8 g P (i:Nat)<g.sl) {d:Dk} (h:DkOk d) (hl:d.left = -1) (hn:(d.cells.length:Int)=A7 g):∀ i,i<=n->DkOk (dW g P R d i)/\(dW g P R d i).left = -1/\((dW g P R d i).cells.length:Int)=A7 g
 | 0,_=>⟨h,hl,hn⟩
 | i+1,hi=>by
  obtain⟨q1,q2,q3⟩:=Yn hg hR hP h hl hn i (by omega);exact YB hg (hR i (by omega)) (hP i (by omega)) q1 q2 q3


theorem MJ (d:Dk) (a:Int) (b:List UInt8):(d.write a b).1.cells=d.cells/\∃ W,(d.write a b).1.cache=d.cache ++ W/\∀ w∈W,w.addr=a:=by
 unfold Dk.write;split
 ·simp_all
 ·split
  ·exact⟨rfl, [],(AE _).symm,fun w hw=>by cases hw⟩
  ·exact⟨rfl, [⟨a,b⟩],rfl,fun w hw=>by rw [Ay] at hw;rw [hw]⟩
theorem WZ {g:Geo} (d:Dk) (x:Rc) {Q:Int} (hQ:0<=Q/\Q<g.sl):(XZ g d x Q).cells=d.cells/\∃ W,(XZ g d x Q).cache=d.cache ++ W/\∀ w∈W,g.an<=w.addr/\w.addr<g.an+2*g.sl:=by
 obtain⟨e1,W1,c1,h1⟩:=MJ d (Ba g 0 Q) (B5 g x 0 Q);obtain⟨e2,W2,c2,h2⟩:=MJ (d.write (Ba g 0 Q) (B5 g x 0 Q)).1 (Ba g 1 Q) (B5 g x 1 Q);refine⟨e2.trans e1,W1 ++ W2,by unfold XZ;rw [c2,c1,AA],fun w hw=>?_⟩;rcases Az.1 hw with q | q
 ·rw [h1 w q];exact Hw (.inl rfl) hQ
 ·rw [h2 w q];exact Hw (.inr rfl) hQ
theorem VY {g:Geo} {P:Int} {R:List Rc} {n:Nat} (hP:∀ i:Nat,i<n->0<=E8 g P (i:Nat)/\E8 g P (i:Nat)<g.sl) (d:Dk):∀ i,i<=n->(dW g P R d i).cells=d.cells/\∃ W,(dW g P R d i).cache=d.cache ++ W/\∀ w∈W,g.an<=w.addr/\w.addr<g.an+2*g.sl
 | 0,_=>⟨rfl, [],(AE _).symm,fun w hw=>by cases hw⟩
 | i+1,hi=>by
  obtain⟨e1,W1,c1,h1⟩:=VY (R:=R) hP d i (by omega);obtain⟨e2,W2,c2,h2⟩:=WZ (dW g P R d i) (R.getD i rc0) (hP i (by omega));refine⟨e2.trans e1,W1 ++ W2,by show (XZ g _ _ _).cache=_;rw [c2,c1,AA],fun w hw=>?_⟩
  grind
theorem TQ {d:Dk} {q:Int} (hq:0<=q/\q<d.cells.length) (h:∀ w∈d.cache,0<=w.addr/\w.addr≠q):d.flush.got q=if (d.cells.getD q.toNat cz).state=0 then ((d.cells.getD q.toNat cz).bytes,0) else ([],6):=by
 have e:d.flush.cells=C4 d.cells d.cache:=by
  unfold Dk.flush;rw [allFin_cells];try rfl
 unfold Dk.got;rw [e,show d.flush.cache=[] from rfl];show (if ((C4 d.cells d.cache).getD q.toNat cz).state=0 then (((C4 d.cells d.cache).getD q.toNat cz).bytes,(0:Int)) else ([],6))=_;rw [finL_miss _ _ _ (by omega) fun w hw=>by have:=h w hw;omega]
theorem Gs.after {g:Geo} (hg:Bq g=true) {P:Int} {R:List Rc} {n:Nat} (hR:∀ i:Nat,i<n->EN g (R.getD i rc0)=true) (hP:∀ i:Nat,i<n->0<=E8 g P (i:Nat)/\E8 g P (i:Nat)<g.sl) {d:Dk} {G:Gr} (h:Gs (A7 g) d G) (hc:d.cache=[]):Gs (A7 g) (dW g P R d n).flush (On (dW g P R d n).flush)/\(∀ q,g.an+2*g.sl<=q->q<A7 g->On (dW g P R d n).flush q=G q)/\(dW g P R d n).flush.cache=[]:=by
 obtain⟨g1,g2,g3,g4,g5⟩:=A2.1 hg;obtain⟨h1,h2,h3⟩:=Yn hg hR hP h.ok h.left h.len n (Ag _);obtain⟨e1,W,c1,hW⟩:=VY (R:=R) hP d n (Ag _);rw [hc,Bk] at c1;generalize dW g P R d n=D at *
 have hl:=h.len;refine⟨Gs.of h1.flush ?_ ?_,fun q q1 q2=>?_,rfl⟩
 ·unfold Dk.flush;rw [allFin_cells];show D.req.left = -1;unfold Dk.req
  grind
 ·unfold Dk.flush;rw [allFin_cells];show ((C4 D.cells D.cache).length:Int)=_;rw [finL_len];exact h3
 ·have hq:=h.got q (by omega) q2;have hf:=TQ (d:=D) (q:=q) ⟨by omega,by omega⟩ (by rw [c1];intro w hw;have:=hW w hw;omega);unfold On;simp only;have hd:d.got q=D.flush.got q:=by
   rw [hf,e1];unfold Dk.got;rw [hc];try rfl
  simp_all
theorem Gd.gs {n:Int} {d:Dk} {F:Int->List UInt8} (h:Gd n d F):Gs n d (On d)/\∀ q,0<=q->q<n->On d q=⟨0,F q⟩:=
 ⟨Gs.of h.ok h.left h.len,fun q h0 h1=>by show (⟨_,_⟩:Gt)=_;rw [h.got h0 h1]⟩
section
variable {g:Geo} {s:ByteArray} {b:An} {fill:UInt8} {sizes:List Int} {d:Dk} {bad0 bad1:Int->Bool}
end
structure Sk (k n:Int) (d:Dk) (F:Int->List UInt8) (A:Int->Prop):Prop where
 ok:DkOk d
 left:d.left = -1
 len:(d.cells.length:Int)=n
 cache:d.cache=[]
 cell:∀ a:Int,0<=a->a<n->(d.cells.getD a.toNat cz).bytes=F a/\((d.cells.getD a.toNat cz).state=0/\¬A a\/(d.cells.getD a.toNat cz).state=k/\A a)
theorem Gd.sk {k n:Int} {d:Dk} {F:Int->List UInt8} (h:Gd n d F):Sk k n d F fun _=>False:=⟨h.ok,h.left,h.len,h.cache,fun a h0 h1=>⟨(h.cell a h0 h1).2, .inl ⟨(h.cell a h0 h1).1,id⟩⟩⟩
theorem Sk.fault {k j n:Int} {d:Dk} {F:Int->List UInt8} {A:Int->Prop} (hk:k=1/\j=11\/k=2/\j=12) (h:Sk k n d F A) {q:Int} (hq:0<=q/\q<n):(d.fault j q 0 0 0).2=0/\Sk k n (d.faultX j q 0 0 0) F fun a=>A a\/a=q:=by
 have hl:=h.len;have e:d.fault j q 0 0 0=(Is d q { d.cells.getD q.toNat cz with state:=k },0):=by
  have hc:=h.cell q hq.1 hq.2;unfold Dk.fault;rw [if_neg (by rw [Bool.not_eq_false,AK];omega),if_neg (by rw [h.cache];decide)]
  grind
 have ho:=h.ok.fault j q 0 0 0;unfold Dk.faultX;rw [e] at ho |-
 rw [if_pos rfl];refine⟨rfl,ho.1,h.left,by rw [<-hl];exact congrArg Nat.cast ho.2.1,h.cache,fun a h0 h1=>?_⟩;have hc:=h.cell a h0 h1;show ((d.cells.set q.toNat _).getD a.toNat cz).bytes=_/\_;rw [show (Is d q { d.cells.getD q.toNat cz with state:=k }).cells=d.cells.set q.toNat { d.cells.getD q.toNat cz with state:=k } from rfl,Ov _ _ _ _ (by omega)]
 grind
theorem Sk.gs {k n:Int} {d:Dk} {F:Int->List UInt8} {A:Int->Prop} (hk:k=1\/k=2) (h:Sk k n d F A) {q:Int} (h0:0<=q) (h1:q<n):(¬A q->On d q=⟨0,F q⟩)/\(A q->(On d q).err≠0):=by
 have hc:=h.cell q h0 h1;have e:On d q=⟨(if (d.cells.getD q.toNat cz).state=0 then ((d.cells.getD q.toNat cz).bytes,(0:Int)) else ([],6)).2,(if (d.cells.getD q.toNat cz).state=0 then ((d.cells.getD q.toNat cz).bytes,(0:Int)) else ([],6)).1⟩:=by
  show (⟨(d.got q).2,(d.got q).1⟩:Gt)=_;unfold Dk.got;rw [h.cache];try rfl
 grind
theorem Sk.stuck {n:Int} {d:Dk} {F:Int->List UInt8} {A:Int->Prop} (h:Sk 2 n d F A) {q:Int} (h0:0<=q) (h1:q<n):(A q->decide ((d.cells.getD q.toNat cz).state=2)=true)/\(¬A q->decide ((d.cells.getD q.toNat cz).state=2)=false):=by
 have hc:=h.cell q h0 h1
 grind

def Dk.vf (g:Geo) (d:Dk) (x:Sp):Dk × Int:=
 if (x.kind=14\/x.kind=15)/\(x.addr<0\/(d.cells.length:Int)<=x.addr) then (d,1)
 else if (x.kind=14\/x.kind=15)/\x.addr<g.an+2*g.sl then (d,9)
 else if (d.fault x.kind x.addr x.frm x.bit x.bits).2=0 then d.fault x.kind x.addr x.frm x.bit x.bits else (d,(d.fault x.kind x.addr x.frm x.bit x.bits).2)
theorem YM {y:Int} {x:Lck} (hx:x.lba=y) (hy:0<=y) (h:GB x=true):Hy [x]=true:=by
 subst hx;simp only [Hy,KY,Ga,A5,Bp,C6,AR,BA,h,B6,By,List.range_zero,Bk,List.getD_cons_zero,decide_true,Bool.true_or,decide_eq_true hy];rfl
theorem H6 {y:Int} {x:Lck} (hx:x.lba=y):GE [x] y=true/\Ef ([x].map Lck.lba) y=0:=by
 subst hx;have e:Ef ([x].map Lck.lba) x.lba=0:=by simp [Ef]
 exact⟨by unfold GE;rw [e];simp,e⟩
theorem Tv {y:Int} {x:Lck} (hx:x.lba=y) (hy:0<=y/\y<=1000000) (h:GB x=true):LkI [x] y:=
 ⟨YM hx hy.1 h,by show 1<64;decide,fun z hz=>by rw [Ay] at hz;subst hz;omega,hy, .inl (H6 hx).1⟩
@[reducible] def h00:List Hd:= [⟨0, [], []⟩]
theorem h00_b:∀ h∈h00,I4 h:=fun h hh=>by
 rw [Ay] at hh;subst hh;exact⟨Aj _,Aj _,fun x hx=>by cases hx⟩
section
variable {g:Geo} {K:Int} {d:Dk} {M:Md} {b:Bool}
end
theorem Fn.lendC {P:Program} {f:FuncId} {args args':List AV} {H H2:List AB} {K:AV->Prop} {q:Bool} {k:AV->List AB->Prop} (h:Fn P f args' K) (cv:ConvH H H2) (hs:sealA args H2 fun a _=>a=args') (hk:∀ r,K r->flatV r=true/\k r H):ACalls P q f args H k:=by
 refine⟨h.1,fun w0 M0 c us hs0 hr=>?_⟩;obtain⟨c2,e1,e2,e3⟩:=cv w0 M0 c hs0;obtain⟨l',H',c',rfl,h2,h3,h4,h5,_⟩:=sealA_sound e2 (RdL.ext _ e3 hr) hs;have:=h.2 c'.closed us rfl h3.lt h3.glob h5;rw [show c'.closed.w=c.w from h2.trans e1] at this;refine this.mono ?_;rintro e w' ⟨v,r,rfl,q1,q2,q3⟩;obtain⟨p1,p2⟩:=hs0.grow q2;obtain⟨p3,p4⟩:=hk r q1;exact⟨v,_,r,H,rfl,rfl,p4,p1,p2,Qc p3 q3,fun _=>q2.old⟩
theorem Nd (l:List Lck) (y id:Int) (h:LkI l y) (hid:0<=id) (hh:GE l y=true) (hw:(l.getD (Ef (l.map Lck.lba) y) lz).writer = -1) (hr:(l.getD (Ef (l.map Lck.lba) y) lz).reads.any (fun n=>n != id)=true):Fn Tryz.prog 202 [BH l,iv id,iv y] fun r=>r = .tp [.v (.slice none 0 0),iv 22]:=by
 have c1:=DW l h.ok;have c2:=F4 l y h;have hlen:=h.len;have hy:=h.yb;have hc:=Rm (l.getD (Ef (l.map Lck.lba) y) lz).reads id;unfold P9 at c2;have hp:=Ld hh;obtain⟨p,hpe⟩:∃ p,p=Ef (l.map Lck.lba) y:=⟨_,rfl⟩;rw [hh,if_pos rfl,Aa] at c2;rw [<-hpe] at c2 hp hc hw hr;have hE:(l.map DX).getD p []=DX (l.getD p lz):=AP hp;have hrd:=(h.one _ (AC (d:=lz) hp)).1;replace hc:=hc (by omega);obtain⟨q,hq⟩:∃ q,q=l.getD p lz:=⟨_,rfl⟩;rw [<-hq] at hE hrd hc hw hr;rw [hr] at hc;refine zT Tryz.func202 rfl ?_;conv=>whnf
 refine zY c1 ?_;conv=>whnf
 rw [decide_eq_false (show ¬id<0 by omega)];conv=>whnf
 rw [decide_eq_false (show ¬y<0 by omega)];conv=>whnf
 refine zX c2 rfl ?_;rintro _ _ ⟨rfl,rfl⟩;conv=>whnf
 refine y_ Unit (fun _=>([(4, .rp [iv id]),(8, .ow 0 l.length),(11, .ep 0 l.length p 3 0)], [.row 216 3 (l.map DX)])) (fun _=>True) ?_ ?_
 ·refine⟨⟨by omega,by omega⟩,?_⟩;conv=>whnf
  exact⟨(),tv,zK (zg 4 0 (y:= .rp [iv id]) rfl (by (conv=>whnf);exact tA)) (s:= [1]) tA⟩
 rintro _ -
 obtain⟨qb,qr,qw⟩:=q;simp only at hw hr hrd hc;subst hw;conv=>whnf
 apply zW (0) tys_ok mixed (.o [0,1,2,3,4,5,6,7,8,9,10,11,12,13,14,15,16,17,18,19,20] .fin) (by kernel_rfl);conv=>whnf
 try (first | (refine Ai ⟨rfl,(Aa _).symm,hp⟩ ?_;(conv=>whnf);rw [hE]) | skip;conv=>whnf)
 try (first | (refine Ai ⟨rfl,(Aa _).symm,hp⟩ ?_;(conv=>whnf);rw [hE]) | skip;conv=>whnf)
 try (first | (refine Ai ⟨rfl,(Aa _).symm,hp⟩ ?_;(conv=>whnf);rw [hE]) | skip;conv=>whnf)
 try (first | (refine Ai ⟨rfl,(Aa _).symm,hp⟩ ?_;(conv=>whnf);rw [hE]) | skip;conv=>whnf)
 refine zY hc ?_;exact⟨_,ri,rfl⟩
theorem Ve (l:List Lck) (y id:Int) (h:LkI l y) (hid:0<=id) (hh:GE l y=true) (hw:(l.getD (Ef (l.map Lck.lba) y) lz).writer≠ -1) (hw2:(l.getD (Ef (l.map Lck.lba) y) lz).writer≠id):Fn Tryz.prog 198 [BH l,iv id,iv y] fun r=>r = .tp [.v (.slice none 0 0),iv 22]:=by
 have c1:=DW l h.ok;have c2:=F4 l y h;have hlen:=h.len;have hy:=h.yb;unfold P9 at c2;have hp:=Ld hh;obtain⟨p,hpe⟩:∃ p,p=Ef (l.map Lck.lba) y:=⟨_,rfl⟩;rw [hh,if_pos rfl,Aa] at c2;rw [<-hpe] at c2 hp hw hw2;have hE:(l.map DX).getD p []=DX (l.getD p lz):=AP hp;have hrd:=h.one _ (AC (d:=lz) hp);have c3:=Mx (l.getD p lz).reads id (by have:=hrd.1;omega) hrd.2;obtain⟨q,hq⟩:∃ q,q=l.getD p lz:=⟨_,rfl⟩;rw [<-hq] at hE hw hw2 c3;obtain⟨qb,qr,qw⟩:=q;simp only at hw hw2 c3;refine zT Tryz.func198 rfl ?_;conv=>whnf
 refine zY c1 ?_;conv=>whnf
 rw [decide_eq_false (show ¬id<0 by omega)];conv=>whnf
 rw [decide_eq_false (show ¬y<0 by omega)];conv=>whnf
 refine zX c2 rfl ?_;rintro _ _ ⟨rfl,rfl⟩;conv=>whnf
 repeat' (refine zZ ?_;conv=>whnf)
 refine⟨⟨by omega,by omega⟩,?_⟩;conv=>whnf
 rw [Ac];refine⟨⟨rfl,(Aa _).symm,hp⟩,?_⟩;conv=>whnf
 rw [hE];conv=>whnf
 refine zY c3 ?_;refine⟨⟨rfl,(Aa _).symm,hp⟩,?_⟩;conv=>whnf
 rw [hE];conv=>whnf
 rw [show (qw != -1)=true from bne_iff_ne.2 hw];refine⟨⟨rfl,(Aa _).symm,hp⟩,?_⟩;conv=>whnf
 rw [hE];conv=>whnf
 rw [show (qw != id)=true from bne_iff_ne.2 hw2];exact⟨_,ri,rfl⟩
theorem Vf (l:List Lck) (y id:Int) (h:LkI l y) (hid:0<=id) (hh:GE l y=true) (hw:(l.getD (Ef (l.map Lck.lba) y) lz).writer=id):Fn Tryz.prog 198 [BH l,iv id,iv y] fun r=>r = .tp [BH l,iv 0]:=by
 have c1:=DW l h.ok;have c2:=F4 l y h;have hlen:=h.len;have hy:=h.yb;unfold P9 at c2;have hp:=Ld hh;obtain⟨p,hpe⟩:∃ p,p=Ef (l.map Lck.lba) y:=⟨_,rfl⟩;rw [hh,if_pos rfl,Aa] at c2;rw [<-hpe] at c2 hp hw;have hE:(l.map DX).getD p []=DX (l.getD p lz):=AP hp;have hrd:=h.one _ (AC (d:=lz) hp);have c3:=Mx (l.getD p lz).reads id (by have:=hrd.1;omega) hrd.2;obtain⟨q,hq⟩:∃ q,q=l.getD p lz:=⟨_,rfl⟩;rw [<-hq] at hE hw c3;obtain⟨qb,qr,qw⟩:=q;simp only at hw c3;subst hw;refine zT Tryz.func198 rfl ?_;conv=>whnf
 refine zY c1 ?_;conv=>whnf
 rw [decide_eq_false (show ¬qw<0 by omega)];conv=>whnf
 rw [decide_eq_false (show ¬y<0 by omega)];conv=>whnf
 refine zX c2 rfl ?_;rintro _ _ ⟨rfl,rfl⟩;conv=>whnf
 repeat' (refine zZ ?_;conv=>whnf)
 refine⟨⟨by omega,by omega⟩,?_⟩;conv=>whnf
 rw [Ac];refine⟨⟨rfl,(Aa _).symm,hp⟩,?_⟩;conv=>whnf
 rw [hE];conv=>whnf
 refine zY c3 ?_;refine⟨⟨rfl,(Aa _).symm,hp⟩,?_⟩;conv=>whnf
 rw [hE];conv=>whnf
 rw [show (qw != -1)=true from bne_iff_ne.2 (by omega)];refine⟨⟨rfl,(Aa _).symm,hp⟩,?_⟩;conv=>whnf
 rw [hE];conv=>whnf
 rw [show (qw != qw)=false from bne_self_eq_false _];refine⟨⟨rfl,(Aa _).symm,hp⟩,?_⟩;conv=>whnf
 rw [hE];conv=>whnf
 rw [show (qw == qw)=true from beq_self_eq_true _];refine Ai (Aa _).symm ?_;exact⟨_,BV (m:= [BH l,iv 0]) ⟨BY (f:=DX) l rfl rfl,ri,tv⟩,rfl⟩
theorem Oi (x:Lck) (h:LkI [x] x.lba):ACalls Tryz.prog false 279 [BH [x],iv x.lba] [] fun r H=>r = .tp [.ow 0 1,iv 0, .v (.bool true)]/\H=[.rowo 216 3 [[iv x.lba, .ow 1 x.reads.length,iv x.writer]] 2, .row 3 1 (x.reads.map DC)]:=by
 have hrd:=(h.one x (Ay.2 rfl)).1;have c1:=LF x (by omega);have c2:=Vp [x] x.lba (by show 1<=1000;decide) h.rs h.bd h.yb;rw [(H6 (x:=x) rfl).1,(H6 (x:=x) rfl).2] at c2;have hes:([[iv x.lba, .ow 1 x.reads.length,iv x.writer]]:List (List AV)).map (List.map (AV.slIn 1 (x.reads.map DC).length (.sl 1 (x.reads.map DC).length fun i=>(x.reads.map DC).getD i [])))=[[iv x.lba, .sl 1 (x.reads.map DC).length fun i=>(x.reads.map DC).getD i [],iv x.writer]]:=by
  simp only [A5,Bp,Js (show x.reads.length=(x.reads.map DC).length from (Aa _).symm)];rfl
 have cv:ConvH [AB.rowo 216 3 [[iv x.lba, .ow 1 x.reads.length,iv x.writer]] 2, .row 3 1 (x.reads.map DC)] [.row 216 3 [[iv x.lba, .sl 1 (x.reads.map DC).length fun i=>(x.reads.map DC).getD i [],iv x.writer]], .dead]:=
  zC (zz 0 1 rfl rfl hes) (ConvH.row (k:=0) rfl rfl)
 have tsub:SubL [.sl 3 1 fun i=>([[iv x.lba, .sl 1 (x.reads.map DC).length fun i=>(x.reads.map DC).getD i [],iv x.writer]]:List (List AV)).getD i [],iv x.lba] [BH [x],iv x.lba]:=⟨fun c u h=>yW rfl (fun i hi=>by
  obtain rfl:i=0:=by have hi:i<1:=hi;omega
  exact⟨fun _ _ h=>h,BY (f:=DC) x.reads (Aa _) rfl,fun _ _ h=>h,tv⟩) h,fun _ _ h=>h,tv⟩
 refine zU tys_ok Tryz.func279 rfl rfl (Ae rfl) ?_;conv=>whnf
 refine zX c1 rfl ?_;rintro _ _ ⟨rfl,rfl⟩;conv=>whnf
 refine Fn.lendC (args':= [.sl 3 1 fun i=>([[iv x.lba, .sl 1 (x.reads.map DC).length fun i=>(x.reads.map DC).getD i [],iv x.writer]]:List (List AV)).getD i [],iv x.lba]) (c2.sub tsub) cv tA ?_;rintro _ rfl;refine⟨rfl,?_⟩;exact⟨_, .tp [.ow 0 1,iv 0, .v (.bool true)], [.rowo 216 3 [[iv x.lba, .ow 1 x.reads.length,iv x.writer]] 2, .row 3 1 (x.reads.map DC)],fun _ _ h=>h,zQ (s:= [0,1]) ⟨tA,⟨⟨rfl,_,rfl⟩,rfl,tv⟩,rfl,rfl,rfl,rfl,rfl⟩,rfl,rfl⟩
theorem MD (y id:Int) (rs:List Int) (h:LkI [(⟨y,rs, -1⟩:Lck)] y) (hid:0<=id) (hlt:Ef rs id=rs.length) (h8:rs.length<8):ACalls Tryz.prog false 198 [BH [(⟨y,rs, -1⟩:Lck)],iv id,iv y] [] fun r H=>r = .tp [.ow 0 1,iv 0]/\H=[.row 216 3 [DX ⟨y,rs ++ [id], -1⟩]]:=by
 have c1:=DW [(⟨y,rs, -1⟩:Lck)] h.ok;have c2:=Oi (⟨y,rs, -1⟩:Lck) h;simp only at c2;have hy:=h.yb;have c3:=Mx rs id (by omega) (h.one _ (Ay.2 rfl)).2;rw [hlt,decide_eq_false (Nat.lt_irrefl _),Dd] at c3;have c4:=Fc (rs.map DC) [iv id] rs.length rs.length (Aa _).symm rfl (by omega);have hib:((-1:Int) == id)=false:=beq_eq_false_iff_ne.2 (by omega);refine zJ tys_ok Tryz.func198 rfl rfl (Ae rfl) ?_;conv=>whnf
 refine zY c1 ?_;conv=>whnf
 rw [decide_eq_false (show ¬id<0 by omega)];conv=>whnf
 rw [decide_eq_false (show ¬y<0 by omega)];conv=>whnf
 refine zX c2 rfl ?_;rintro _ _ ⟨rfl,rfl⟩;conv=>whnf
 repeat' (refine zZ ?_;conv=>whnf)
 refine⟨⟨by decide,by decide⟩,?_⟩;refine⟨⟨rfl,rfl,by decide⟩,?_⟩;conv=>whnf
 refine zq (args':= [.sl 1 rs.length fun i=>(rs.map DC).getD i [],iv id]) (c3.sub ⟨BY (f:=DC) rs rfl rfl,fun _ _ h=>h,tv⟩) ⟨(Aa _).symm,rfl⟩ ?_;rintro _ rfl;refine⟨rfl,?_⟩;refine⟨⟨rfl,rfl,by decide⟩,?_⟩;refine⟨⟨rfl,rfl,by decide⟩,?_⟩;conv=>whnf
 rw [hib];refine⟨⟨rfl,rfl,by decide⟩,?_⟩;conv=>whnf
 rw [show decide ((rs.length:Int)>=8)=false from decide_eq_false (by omega)];conv=>whnf
 repeat' (refine zZ ?_;conv=>whnf)
 refine⟨⟨rfl,rfl,by decide⟩,?_⟩;conv=>whnf
 refine ze9 [1,2] c4 ?_;rintro _ _ ⟨rfl,rfl⟩;refine⟨⟨rfl,rfl,by decide⟩,?_⟩;conv=>whnf
 repeat' (refine zZ ?_;conv=>whnf)
 have hm:(rs.map DC ++ [[AV.v (.int .i64 id)]]).length=rs.length+1:=by rw [Ah,Aa];try rfl
 have hes:([[iv y, .ow 3 (rs.length+1),iv (-1)]]:List (List AV)).map (List.map (AV.slIn 3 (rs.map DC ++ [[AV.v (.int .i64 id)]]).length (.sl 1 (rs.map DC ++ [[AV.v (.int .i64 id)]]).length fun i=>(rs.map DC ++ [[AV.v (.int .i64 id)]]).getD i [])))=[[iv y, .sl 1 (rs.map DC ++ [[AV.v (.int .i64 id)]]).length fun i=>(rs.map DC ++ [[AV.v (.int .i64 id)]]).getD i [],iv (-1)]]:=by
  simp only [A5,Bp,Js hm.symm];rfl
 exact⟨_, .tp [.ow 0 1,iv 0],_,fun _ _ h=>h,ND ⟨_,zC (zz 0 3 rfl rfl hes) (zC (zr (k:=0) rfl (es':= [DX ⟨y,rs ++ [id], -1⟩]) (m':=0) rfl (fun j=>by
  cases j with
  | zero=>exact⟨fun _ _ h=>h,BY (f:=DC) (rs ++ [id]) (by rw [hm,Ah];rfl) (by rw [A0];rfl),fun _ _ h=>h,tv⟩
  | succ j=>exact SubL.refl _) rfl) (ConvH.row (k:=0) rfl rfl)),rfl⟩ rfl,rfl,rfl⟩
theorem Ts (y id:Int) (rs:List Int) (h:LkI [(⟨y,rs, -1⟩:Lck)] y) (hid:0<=id) (hlt:Ef rs id=rs.length) (h8:rs.length<8):Fn Tryz.prog 198 [BH [(⟨y,rs, -1⟩:Lck)],iv id,iv y] fun r=>r = .tp [BH [(⟨y,rs ++ [id], -1⟩:Lck)],iv 0]:=by
 refine(MD y id rs h hid hlt h8).fn ?_;rintro r H ⟨rfl,rfl⟩;refine⟨_,zE _,?_⟩;refine⟨rfl,?_⟩;exact⟨.tp [BH [(⟨y,rs ++ [id], -1⟩:Lck)],iv 0],BV ⟨BY (f:=DX) [(⟨y,rs ++ [id], -1⟩:Lck)] rfl rfl,ri,tv⟩,rfl⟩
theorem VC (l:List Hd) (id lba:Int) (hl:l.length<=1000) (hs:∀ h∈l,I4 h) (h:(Fd l id lba).2.1=true):Fn Tryz.prog 199 [CJ l,iv id,iv lba] fun r=>r = .tp [bA (Fd l id lba).1, .v (.bool true),iv 0]:=by
 refine(VB l id lba hl hs h).fn ?_;rintro r H ⟨rfl,rfl⟩;refine⟨_,zE _,?_⟩;refine⟨by simp,?_⟩;refine⟨.tp [bA (Fd l id lba).1, .v (.bool true),iv 0],BV ⟨fun c u h=>?_,ri,ri,tv⟩,rfl⟩;exact E6 (f:=EI) (d:=0) (by simp) c u h
section
variable (g:Geo) (d0 d:Dk) (s0 s:Stt) (b:Bool) (L:List Lck) (l:List Hd) (x:Sp)
theorem OH (hg:Bq g=true) (hl:l.length<=1000) (hs:∀ h∈l,I4 h) (hh:E3 l x.h=true) (hlba:0<=x.lba/\x.lba<g.z*g.d) (h8:x.bytes.length=8) (hf:KC (l.getD (Eb l x.h) ⟨0, [], []⟩) x.lba=false) (hw:Fn Tryz.prog 202 [BH L,iv x.h,iv x.lba] fun r=>r = .tp [.v (.slice none 0 0),iv 22]):ACalls Tryz.prog false 113 [.bp 5 0] (Eo g d0 d s0 s b L l x) fun r H=>r = iv 22/\H=Eo g d0 d s0 s b L l x:=by
 have c1:=FY g d0 d s0 s b L l x hg hl hh hlba;have hid:=Kl hh;have c2:=Ow (l.getD (Eb l x.h) ⟨0, [], []⟩) x.lba (by have:=(hs _ (AC (d:=⟨0, [], []⟩) (HP hh))).1;omega);rw [show (decide (4<=(l.getD (Eb l x.h) ⟨0, [], []⟩).lbas.length)&&!(l.getD (Eb l x.h) ⟨0, [], []⟩).lbas.any fun y=>x.lba == y)=false from hf] at c2;have c3:=Li g d0 d s0 s b L l x (.v (.slice none 0 0)) rfl 22 (by decide);obtain⟨q,hq⟩:∃ q,q=l.getD (Eb l x.h) ⟨0, [], []⟩:=⟨_,rfl⟩;rw [<-hq] at c1 c2 hid;have hn8:((x.bytes.length:Int) != 8)=false:=bne_eq_false_iff_eq.2 (by omega);cases b with
 | true=>
  refine zU tys_ok Tryz.func113 rfl rfl (Ae rfl) ?_;conv=>whnf
  refine ze9 [0,1,2,3,4,5] c1 ?_;rintro _ _ ⟨rfl,rfl⟩;conv=>whnf
  rw [hn8];conv=>whnf
  apply zW (0) tys_ok mixed (.o [0,1,2,3,4,5,6,7] .fin) (by kernel_rfl);conv=>whnf
  refine zY c2 ?_;conv=>whnf
  rw [hid];apply zW (2 ^ 146) tys_ok mixed (.o [0,1,2,3,4,5,6,7,8,9,10,11,12,13,14,15,16,17,18,19] .fin) (by kernel_rfl);conv=>whnf
  refine zY hw ?_;conv=>whnf
  (refine ze9 [0,1,2,3,4,5] c3 ?_;rintro _ _ ⟨rfl,rfl⟩)
  conv=>whnf
  repeat' (refine zZ ?_;conv=>whnf)
  exact⟨_,iv 22,Eo g d0 d s0 s true L l x,fun _ _ h=>h,zQ (s:= [0,1,2,3,4,5]) tA,rfl,rfl⟩
 | false=>
  refine zU tys_ok Tryz.func113 rfl rfl (Ae rfl) ?_;conv=>whnf
  refine ze9 [0,1,2,3,4,5] c1 ?_;rintro _ _ ⟨rfl,rfl⟩;conv=>whnf
  rw [hn8];conv=>whnf
  apply zW (0) tys_ok mixed (.o [0,1,2,3,4,5,6,7] .fin) (by kernel_rfl);conv=>whnf
  refine zY c2 ?_;conv=>whnf
  rw [hid];apply zW (2 ^ 146) tys_ok mixed (.o [0,1,2,3,4,5,6,7,8,9,10,11,12,13,14,15,16,17,18,19] .fin) (by kernel_rfl);conv=>whnf
  refine zY hw ?_;conv=>whnf
  (refine ze9 [0,1,2,3,4,5] c3 ?_;rintro _ _ ⟨rfl,rfl⟩)
  conv=>whnf
  repeat' (refine zZ ?_;conv=>whnf)
  exact⟨_,iv 22,Eo g d0 d s0 s false L l x,fun _ _ h=>h,zQ (s:= [0,1,2,3,4,5]) tA,rfl,rfl⟩
theorem Q9 (hg:Bq g=true) (hl:l.length<=1000) (hh:E3 l x.h=true) (hlba:0<=x.lba/\x.lba<g.z*g.d) (hr:Fn Tryz.prog 198 [BH L,iv x.h,iv x.lba] fun r=>r = .tp [.v (.slice none 0 0),iv 22]):ACalls Tryz.prog false 112 [.bp 5 0] (Eo g d0 d s0 s b L l x) fun r H=>r = .ag (an7 22 0 [])/\H=Eo g d0 d s0 s b L l x:=by
 have c1:=FY g d0 d s0 s b L l x hg hl hh hlba;have hid:=Kl hh;have c2:=Li g d0 d s0 s b L l x (.v (.slice none 0 0)) rfl 22 (by decide);obtain⟨q,hq⟩:∃ q,q=l.getD (Eb l x.h) ⟨0, [], []⟩:=⟨_,rfl⟩;rw [<-hq] at c1 hid;cases b with
 | true=>
  refine zU tys_ok Tryz.func112 rfl rfl (Ae rfl) ?_;conv=>whnf
  refine ze9 [0,1,2,3,4,5] c1 ?_;rintro _ _ ⟨rfl,rfl⟩;conv=>whnf
  rw [hid];repeat' (refine zZ ?_;conv=>whnf)
  apply zW (2 ^ 146) tys_ok mixed (.o [0,1,2,3,4,5,6,7,8,9,10,11,12,13,14,15,16,17,18,19] .fin) (by kernel_rfl);conv=>whnf
  refine zY hr ?_;conv=>whnf
  (refine ze9 [0,1,2,3,4,5] c2 ?_;rintro _ _ ⟨rfl,rfl⟩)
  conv=>whnf
  repeat' (refine zZ ?_;conv=>whnf)
  exact⟨_, .ag (an7 22 0 []),Eo g d0 d s0 s true L l x,Bg (C3 22 0),zQ (s:= [0,1,2,3,4,5]) tA,rfl,rfl⟩
 | false=>
  refine zU tys_ok Tryz.func112 rfl rfl (Ae rfl) ?_;conv=>whnf
  refine ze9 [0,1,2,3,4,5] c1 ?_;rintro _ _ ⟨rfl,rfl⟩;conv=>whnf
  rw [hid];repeat' (refine zZ ?_;conv=>whnf)
  apply zW (2 ^ 146) tys_ok mixed (.o [0,1,2,3,4,5,6,7,8,9,10,11,12,13,14,15,16,17,18,19] .fin) (by kernel_rfl);conv=>whnf
  refine zY hr ?_;conv=>whnf
  (refine ze9 [0,1,2,3,4,5] c2 ?_;rintro _ _ ⟨rfl,rfl⟩)
  conv=>whnf
  repeat' (refine zZ ?_;conv=>whnf)
  exact⟨_, .ag (an7 22 0 []),Eo g d0 d s0 s false L l x,Bg (C3 22 0),zQ (s:= [0,1,2,3,4,5]) tA,rfl,rfl⟩
theorem SH (L':List Lck) (hg:Bq g=true) (hl:l.length<=1000) (hs:∀ h∈l,I4 h) (hh:E3 l x.h=true) (hlba:0<=x.lba/\x.lba<g.z*g.d) (hy:(Fd l x.h x.lba).2.1=true) (hr:Fn Tryz.prog 198 [BH L,iv x.h,iv x.lba] fun r=>r = .tp [BH L',iv 0]):ACalls Tryz.prog false 112 [.bp 5 0] (Eo g d0 d s0 s b L l x) fun r H=>r = .ag (an7 0 0 (Fd l x.h x.lba).1)/\H=Eo g d0 d s0 s b L' l x:=by
 have c1:=FY g d0 d s0 s b L l x hg hl hh hlba;have hid:=Kl hh;have c2:=I5 g d0 d s0 s b L l x L';have c3:=VC l x.h x.lba hl hs hy;generalize (Fd l x.h x.lba).1=bs at c3 |-
 obtain⟨q,hq⟩:∃ q,q=l.getD (Eb l x.h) ⟨0, [], []⟩:=⟨_,rfl⟩;rw [<-hq] at c1 hid;cases b with
 | true=>
  refine zU tys_ok Tryz.func112 rfl rfl (Ae rfl) ?_;conv=>whnf
  refine ze9 [0,1,2,3,4,5] c1 ?_;rintro _ _ ⟨rfl,rfl⟩;conv=>whnf
  rw [hid];repeat' (refine zZ ?_;conv=>whnf)
  apply zW (2 ^ 146) tys_ok mixed (.o [0,1,2,3,4,5,6,7,8,9,10,11,12,13,14,15,16,17,18,19] .fin) (by kernel_rfl);conv=>whnf
  refine zY hr ?_;conv=>whnf
  (refine ze9 [0,1,2,3,4,5] c2 ?_;rintro _ _ ⟨rfl,rfl⟩)
  conv=>whnf
  repeat' (refine zZ ?_;conv=>whnf)
  apply zW (0) tys_ok mixed (.o [0,1,2,3,4,5,6,7,8,9,10,11,12,13,14,15,16,17,18,19,20,21] .fin) (by kernel_rfl);conv=>whnf
  refine zY c3 ?_;conv=>whnf
  repeat' (refine zZ ?_;conv=>whnf)
  exact⟨_, .ag (an7 0 0 bs),Eo g d0 d s0 s true L' l x,Bg (Wv 0 0 _),zQ (s:= [0,1,2,3,4,5]) tA,rfl,rfl⟩
 | false=>
  refine zU tys_ok Tryz.func112 rfl rfl (Ae rfl) ?_;conv=>whnf
  refine ze9 [0,1,2,3,4,5] c1 ?_;rintro _ _ ⟨rfl,rfl⟩;conv=>whnf
  rw [hid];repeat' (refine zZ ?_;conv=>whnf)
  apply zW (2 ^ 146) tys_ok mixed (.o [0,1,2,3,4,5,6,7,8,9,10,11,12,13,14,15,16,17,18,19] .fin) (by kernel_rfl);conv=>whnf
  refine zY hr ?_;conv=>whnf
  (refine ze9 [0,1,2,3,4,5] c2 ?_;rintro _ _ ⟨rfl,rfl⟩)
  conv=>whnf
  repeat' (refine zZ ?_;conv=>whnf)
  apply zW (0) tys_ok mixed (.o [0,1,2,3,4,5,6,7,8,9,10,11,12,13,14,15,16,17,18,19,20,21] .fin) (by kernel_rfl);conv=>whnf
  refine zY c3 ?_;conv=>whnf
  repeat' (refine zZ ?_;conv=>whnf)
  exact⟨_, .ag (an7 0 0 bs),Eo g d0 d s0 s false L' l x,Bg (Wv 0 0 _),zQ (s:= [0,1,2,3,4,5]) tA,rfl,rfl⟩
end
section
variable {g:Geo} {K:Int} {d:Dk} {M:Md} {b:Bool} {L:List Lck} {l:List Hd}
theorem OX (hg:Bq g=true) (h:Vm g K d M) (hb:b=true->M.l=[]) (q lba:Int) (bs:List UInt8) (hl:l.length<=1000) (hs:∀ h∈l,I4 h) (hh:E3 l q=true) (hlba:0<=lba/\lba<g.z*g.d) (h8:bs.length=8) (hf:KC (l.getD (Eb l q) ⟨0, [], []⟩) lba=false) (hw:Fn Tryz.prog 202 [BH L,iv q,iv lba] fun r=>r = .tp [.v (.slice none 0 0),iv 22]) :
  ACalls Tryz.prog false 20 [.bp 0 0, .ag (H_ (sp 4 q lba bs))] (Io g d (AO M.a M.l) b L l) fun r H=>∃ d',Vm g K d' M/\r = .ag (an7 22 0 [])/\H=Io g d' (AO M.a M.l) b L l:=
 Ur h hb (sp 4 q lba bs) 22 (by decide) (by decide) ⟨by show (2:Int)<=4;decide,by show (4:Int)<=10;decide⟩ (by show (0:Int)<=0;decide)
  (Kr _ _ _ _ _ _ _ _ _ (fun o=>o=⟨d.z,AO M.a M.l,b,L,l,22,0, []⟩) rfl ((OH _ _ _ _ _ _ _ _ _ hg hl hs hh hlba h8 hf hw).mono fun r H ⟨h1,h2⟩=>⟨_,rfl,⟨h1,rfl,rfl⟩,h2⟩))
theorem Us (hg:Bq g=true) (h:Vm g K d M) (hb:b=true->M.l=[]) (q lba:Int) (hl:l.length<=1000) (hh:E3 l q=true) (hlba:0<=lba/\lba<g.z*g.d) (hr:Fn Tryz.prog 198 [BH L,iv q,iv lba] fun r=>r = .tp [.v (.slice none 0 0),iv 22]) :
  ACalls Tryz.prog false 20 [.bp 0 0, .ag (H_ (sp 3 q lba []))] (Io g d (AO M.a M.l) b L l) fun r H=>∃ d',Vm g K d' M/\r = .ag (an7 22 0 [])/\H=Io g d' (AO M.a M.l) b L l:=
 Ur h hb (sp 3 q lba []) 22 (by decide) (by decide) ⟨by show (2:Int)<=3;decide,by show (3:Int)<=10;decide⟩ (by show (0:Int)<=0;decide)
  (I7 _ _ _ _ _ _ _ _ _ (fun o=>o=⟨d.z,AO M.a M.l,b,L,l,22,0, []⟩) rfl ((Q9 _ _ _ _ _ _ _ _ _ hg hl hh hlba hr).mono fun r H ⟨h1,h2⟩=>⟨_,rfl,h1,h2⟩))
theorem WD (L':List Lck) (hg:Bq g=true) (h:Vm g K d M) (hb:b=true->M.l=[]) (q lba:Int) (hl:l.length<=1000) (hs:∀ h∈l,I4 h) (hh:E3 l q=true) (hlba:0<=lba/\lba<g.z*g.d) (hy:(Fd l q lba).2.1=true) (hr:Fn Tryz.prog 198 [BH L,iv q,iv lba] fun r=>r = .tp [BH L',iv 0]) :
  ACalls Tryz.prog false 20 [.bp 0 0, .ag (H_ (sp 3 q lba []))] (Io g d (AO M.a M.l) b L l) fun r H=>∃ d',Vm g K d' M/\r = .ag (an7 0 0 (Fd l q lba).1)/\H=Io g d' (AO M.a M.l) b L' l:=by
 have hc:=I7 g d.z d.z (AO M.a M.l) (AO M.a M.l) b L l (sp 3 q lba []) (fun o=>o=⟨d.z,AO M.a M.l,b,L',l,0,0,(Fd l q lba).1⟩) rfl ((SH g d.z d.z (AO M.a M.l) (AO M.a M.l) b L l (sp 3 q lba []) L' hg hl hs hh hlba hy hr).mono fun r H ⟨h1,h2⟩=>⟨_,rfl,h1,h2⟩);refine(I8 g d (AO M.a M.l) b L l (sp 3 q lba []) (fun o=>o=⟨d.z,AO M.a M.l,b,L',l,0,0,(Fd l q lba).1⟩) hb h.n ⟨by show (2:Int)<=3;decide,by show (3:Int)<=10;decide⟩ (by show (0:Int)<=0;decide) (hc.mono fun r H ⟨o,h1,h2,h3⟩=>⟨o,h1,by rw [h1];show (0:Int)≠8;decide,by rw [h1];exact h.z.gd.left,h2,h3⟩)).mono ?_;rintro r H ⟨o,rfl,rfl,rfl⟩;exact⟨d.z,h.z,rfl,rfl⟩
end

theorem lab_e8:Ev (⟨#[]⟩:ByteArray).data.toList=0:=by decide +kernel
@[reducible] def h01:List Hd:= [⟨0, [], []⟩,⟨1, [], []⟩]
@[reducible] def hw1 (A:Int) (b:List UInt8):List Hd:= [⟨0, [A], [b]⟩,⟨1, [], []⟩]
theorem h01_b:∀ h∈h01,I4 h:=fun h hh=>by
 rcases AQ.1 hh with rfl | hh
 ·exact⟨Aj _,Aj _,fun x hx=>by cases hx⟩
 ·rw [Ay] at hh;subst hh;exact⟨Aj _,Aj _,fun x hx=>by cases hx⟩
theorem V7 (i:Int):∀ h∈ [(⟨i, [], []⟩:Hd)],I4 h:=fun h hh=>by
 rw [Ay] at hh;subst hh;exact⟨Aj _,Aj _,fun x hx=>by cases hx⟩
theorem V4 {A:Int} {b:List UInt8} (h8:b.length=8):∀ h∈hw1 A b,I4 h:=fun h hh=>by
 rcases AQ.1 hh with rfl | hh
 ·exact⟨by show 1<=1000;decide,by show 1<=1000;decide,fun x hx=>by rw [Ay] at hx;subst hx;omega⟩
 ·rw [Ay] at hh;subst hh;exact⟨Aj _,Aj _,fun x hx=>by cases hx⟩
theorem ZW {A:Int} (hA:0<=A):KY [A]=true:=by
 simp only [KY,Ga,C6,By,List.range_zero,Bk,AR,BA,List.getD_cons_zero,decide_true,Bool.true_or,B6,decide_eq_true hA]
theorem V3 {A:Int} {b:List UInt8} (hA:0<=A) (h8:b.length=8):DO (hw1 A b)=true:=by
 have e1:IM ⟨0, [A], [b]⟩=true:=by
  simp only [IM,ZW hA,C6,AR,BA,decide_eq_true h8];rfl
 simp only [DO,AR,e1];rfl
theorem X7 {A:Int} {b:List UInt8} (hA:0<=A) (h8:b.length=8):Fd (hw1 A b) 0 A=(b,true,0):=by
 rw [IQ (V3 hA h8) rfl];show (if decide (Ef [A] A<1)&&(([A]:List Int).getD (Ef [A] A) 0 == A) then (([b]:List (List UInt8)).getD (Ef [A] A) [],true,(0:Int)) else ([],false,0))=_;rw [show Ef [A] A=0 by simp [Ef]];simp
theorem Nl {A:Int} {b:List UInt8} (hA:0<=A) (h8:b.length=8):(Ds (hw1 A b) 0).1=[⟨1, [], []⟩]:=by
 unfold Ds;rw [V3 hA h8];try rfl
theorem OT (x:Int) (b:List UInt8) (cm rd:Bool):Fn Tryz.prog 4 [iv x,bA b, .v (.bool cm), .v (.bool rd)] fun r=>r = .v (.bool true):=by
 by_cases h8:b.length=8;rotate_left 1
 ·refine zT Tryz.func4 rfl ?_;conv=>whnf
  rw [show ((b.length:Int) != 8)=true from bne_iff_ne.2 (by omega)];exact⟨_,ri,rfl⟩
 have h1:=RV 1 2 1 4 1;have hg:=Pg 1 2 1 4 1;generalize F_ 1 2 1 4 1=g at h1 hg;obtain⟨D,hM,hdk,hlen,hgd,hvo⟩:=UM (lb:=⟨#[]⟩) hg lab_e8;have v0:Vm g 2 D (I2 g ⟨#[]⟩):=⟨hgd,hvo,Va hg⟩;have hl0:(I2 g ⟨#[]⟩).l=[]:=rfl;have hm0:(I2 g ⟨#[]⟩).m=List.replicate (g.z*g.d).toNat zero8:=rfl;have c1:=RQ g ⟨#[]⟩ hg lab_e8 (by decide);have c3:=ML g (DI g ⟨#[]⟩) D _ (sp 1 0 0 []) rfl ⟨by have:=hdk.n;omega,by have:=hdk.m;omega⟩ rfl (by decide) hgd.left (We g (DI g ⟨#[]⟩) D _ hg hdk hlen hM (aq hg lab_e8));obtain⟨M,hMe⟩:∃ M,M=I2 g ⟨#[]⟩:=⟨_,rfl⟩;rw [<-hMe] at v0 hl0 hm0 c3;have cw:=wakes26_fn;obtain⟨F,hF⟩:∃ F,F=DI g ⟨#[]⟩:=⟨_,rfl⟩;rw [<-hF] at c1 c3;clear hM hdk hlen hgd hvo;obtain⟨g1,g2,g3,g4,g5⟩:=A2.1 hg;have hp:g.z*g.d<=16:=Int.le_trans (BQ g1.2 (by omega)) (by omega);have hp0:0<g.z*g.d:=Int.mul_pos (by omega) (by omega);have hwz:IntKind.u64.wrap (IntKind.i64.wrap (g.z*g.d))=g.z*g.d:=by rw [wi (by omega),IntKind.wrap_u64];omega
 obtain⟨A,hA⟩:∃ A,A=IntKind.i64.wrap ((IntKind.u64.wrap x).tmod (g.z*g.d)):=⟨_,rfl⟩;have hA2:0<=A/\A<g.z*g.d:=by rw [hA];exact EY (x:=x) (by omega) (by omega)
 have hz8:M.m.getD A.toNat []=zero8:=by
  rw [hm0,Ab,CI,if_pos (by omega)];try rfl
 have s1:=Jb (b:=true) (L:= []) (l:= []) v0 (fun _=>hl0) (by decide) (fun h hh=>by cases hh) rfl rfl 0 0;simp only [show DT []=(h00,0,0) from rfl] at s1;have hbb:=IW b (by omega);have hbz:=IW zero8 (by decide);have hbz2:=hbz.sub (args:= [bA zero8, .sl 1 8 fun i=>(List.replicate 8 (List.map AV.v [Value.int IntKind.u8 0])).getD i []]) ⟨fun _ _ h=>h,KV (L:=zero8) rfl rfl,tv⟩;have hr1:GB ⟨A, [0], -1⟩=true:=rfl;have hr2:GB ⟨A, [0,1], -1⟩=true:=rfl;have hr3:GB ⟨A, [],0⟩=true:=rfl;have hf0:∀ q:Hd,q.lbas=[]->KC q A=false:=fun q hq=>by unfold KC;rw [hq];try rfl
 refine zT Tryz.func4 rfl ?_;conv=>whnf
 rw [show ((b.length:Int) != 8)=false from bne_eq_false_iff_eq.2 (by omega)];conv=>whnf
 refine zY h1 ?_;conv=>whnf
 rw [hwz];refine⟨by omega,?_⟩;conv=>whnf
 rw [<-hA];refine zX c1 rfl ?_;rintro _ _ ⟨rfl,rfl⟩;conv=>whnf
 refine zV [.bp 1 0, .ag (H_ (sp 1 0 0 []))] ⟨ri,Bg (DH 1 0 0),tv⟩ ?_;refine ze9 [1] c3 ?_;rintro _ _ ⟨rfl,rfl⟩;conv=>whnf
 refine zV [.bp 1 0, .ag (H_ (sp 2 0 0 []))] ⟨ri,Bg (DH 2 0 0),tv⟩ ?_;refine ze9 [1] s1 ?_;rintro _ _ ⟨d1,v1,rfl,rfl⟩;have s2:=Jb (b:=true) (L:= []) (l:=h00) v1 (fun _=>hl0) (by decide) h00_b rfl rfl 0 0;simp only [show DT h00=(h01,1,0) from rfl] at s2;conv=>whnf
 refine zV [.bp 1 0, .ag (H_ (sp 2 0 0 []))] ⟨ri,Bg (DH 2 0 0),tv⟩ ?_;refine ze9 [1] s2 ?_;rintro _ _ ⟨d2,v2,rfl,rfl⟩;clear c1 c3 s1 s2;refine⟨⟨rfl,by decide,by decide⟩,?_⟩;conv=>whnf
 repeat' (refine zZ ?_;conv=>whnf)
 cases rd with
 | true=>
  conv=>whnf
  repeat' (refine zZ ?_;conv=>whnf)
  have s3:=Ja (b:=true) (L:= []) (l:=h01) [⟨A, [0], -1⟩] hg v2 (fun _=>hl0) 0 A (by decide) h01_b rfl hA2 rfl (Ih [] A 0 (Zi (by omega)) (by decide) rfl);rw [hz8] at s3;refine zV [.bp 1 0, .ag (H_ (sp 3 0 A []))] ⟨ri,Bg (DH 3 0 A),tv⟩ ?_;refine ze9 [1] s3 ?_;rintro _ _ ⟨d3,v3,rfl,rfl⟩;clear s3;have s4:=OX (b:=false) (L:= [⟨A, [0], -1⟩]) (l:=h01) hg v3 (fun e=>by cases e) 1 A b (by decide) h01_b rfl hA2 h8 (hf0 _ rfl) (Nd [⟨A, [0], -1⟩] A 1 (Tv rfl (by omega) hr1) (by decide) (H6 rfl).1 (by rw [(H6 (x:=⟨A, [0], -1⟩) (y:=A) rfl).2];try rfl) (by rw [(H6 (x:=⟨A, [0], -1⟩) (y:=A) rfl).2];try rfl));conv=>whnf
  refine ze9 [1] s4 ?_;rintro _ _ ⟨d4,v4,rfl,rfl⟩;clear s4;have s5:=Ja (b:=false) (L:= [⟨A, [0], -1⟩]) (l:=h01) [⟨A, [0,1], -1⟩] hg v4 (fun e=>by cases e) 1 A (by decide) h01_b rfl hA2 rfl (Ts A 1 [0] (Tv rfl (by omega) hr1) (by decide) rfl (by decide));rw [hz8] at s5;conv=>whnf
  refine zV [.bp 1 0, .ag (H_ (sp 3 1 A []))] ⟨ri,Bg (DH 3 1 A),tv⟩ ?_;refine ze9 [1] s5 ?_;rintro _ _ ⟨d5,v5,rfl,rfl⟩;clear s5;have s6:=OX (b:=false) (L:= [⟨A, [0,1], -1⟩]) (l:=h01) hg v5 (fun e=>by cases e) 0 A b (by decide) h01_b rfl hA2 h8 (hf0 _ rfl) (Nd [⟨A, [0,1], -1⟩] A 0 (Tv rfl (by omega) hr2) (by decide) (H6 rfl).1 (by rw [(H6 (x:=⟨A, [0,1], -1⟩) (y:=A) rfl).2];try rfl) (by rw [(H6 (x:=⟨A, [0,1], -1⟩) (y:=A) rfl).2];try rfl));conv=>whnf
  refine zq (args':= [bA zero8, .sl 1 8 fun i=>(List.replicate 8 (List.map AV.v [Value.int IntKind.u8 0])).getD i []]) hbz2 tA ?_;rintro _ rfl;refine⟨rfl,?_⟩;conv=>whnf
  refine ze9 [1] s6 ?_;rintro _ _ ⟨d6,v6,rfl,rfl⟩;clear s6;have s7:=OY (b:=false) (L:= [⟨A, [0,1], -1⟩]) (l:=h01) (JB A [0]) v6 (fun e=>by cases e) 1 0 (by decide) h01_b rfl (Tz A 1 [0] (YM rfl hA2.1 hr2) (by decide) rfl);rw [show JB A [0]=[⟨A, [0], -1⟩] from rfl,show (Ds h01 1).1=h00 from rfl] at s7;conv=>whnf
  repeat' (refine zZ ?_;conv=>whnf)
  refine zV [.bp 1 0, .ag (H_ (sp 6 1 0 []))] ⟨ri,Bg (DH 6 1 0),tv⟩ ?_;refine ze9 [1] s7 ?_;rintro _ _ ⟨d7,v7,rfl,rfl⟩;clear s7;have hh:=H6 (x:=⟨A, [0], -1⟩) (y:=A) rfl;have s8:=Lj (b:=false) (L:= [⟨A, [0], -1⟩]) (l:=h00) _ hg v7 (fun e=>by cases e) 0 A b rfl (by decide) h00_b rfl hA2 h8 rfl rfl (JX [⟨A, [0], -1⟩] A 0 (Tv rfl (by omega) hr1) (by decide) (by unfold VH;rw [hh.1,hh.2];try rfl));conv=>whnf
  refine ze9 [1] s8 ?_;rintro _ _ ⟨d8,v8,rfl,rfl⟩;conv=>whnf
  refine zY cw ?_;exact⟨_,ri,rfl⟩
 | false=>
  conv=>whnf
  repeat' (refine zZ ?_;conv=>whnf)
  have s3:=Lj (b:=true) (L:= []) (l:=h01) [⟨A, [],0⟩] hg v2 (fun _=>hl0) 0 A b rfl (by decide) h01_b rfl hA2 h8 rfl rfl (JX [] A 0 (Zi (by omega)) (by decide) rfl);rw [show h01.set (Eb h01 0) (W6 (h01.getD (Eb h01 0) ⟨0, [], []⟩) A b)=hw1 A b from rfl] at s3;refine ze9 [1] s3 ?_;rintro _ _ ⟨d3,v3,rfl,rfl⟩;clear s3;have hh:=H6 (x:=⟨A, [],0⟩) (y:=A) rfl;have hl1:(hw1 A b).length<=1000:=by show 2<=1000;decide
  have s4:=Us (b:=true) (L:= [⟨A, [],0⟩]) (l:=hw1 A b) hg v3 (fun _=>hl0) 1 A hl1 rfl hA2 (Ve [⟨A, [],0⟩] A 1 (Tv rfl (by omega) hr3) (by decide) hh.1 (by rw [hh.2];show (0:Int)≠ -1;decide) (by rw [hh.2];show (0:Int)≠1;decide));conv=>whnf
  refine zV [.bp 1 0, .ag (H_ (sp 3 1 A []))] ⟨ri,Bg (DH 3 1 A),tv⟩ ?_;refine ze9 [1] s4 ?_;rintro _ _ ⟨d4,v4,rfl,rfl⟩;clear s4;have hget:=X7 hA2.1 h8;have s5:=WD (b:=true) (L:= [⟨A, [],0⟩]) (l:=hw1 A b) [⟨A, [],0⟩] hg v4 (fun _=>hl0) 0 A hl1 (V4 h8) rfl hA2 (by rw [hget]) (Vf [⟨A, [],0⟩] A 0 (Tv rfl (by omega) hr3) (by decide) hh.1 (by rw [hh.2];try rfl));rw [hget] at s5;conv=>whnf
  refine zV [.bp 1 0, .ag (H_ (sp 3 0 A []))] ⟨ri,Bg (DH 3 0 A),tv⟩ ?_;refine ze9 [1] s5 ?_;rintro _ _ ⟨d5,v5,rfl,rfl⟩;clear s5;have hdr:=PJ [⟨A, [],0⟩] 0 (YM rfl hA2.1 hr3) (by decide) (fun z hz=>by rw [Ay] at hz;subst hz;rfl);rw [show DY [⟨A, [],0⟩] 0=[] from rfl] at hdr;cases cm with
  | true=>
   have s6:=MN (L:= [⟨A, [],0⟩]) (l:=hw1 A b) [] hg v5 (by decide) hl0 0 A 0 b hl1 (V4 h8) rfl hA2 h8 rfl hdr;rw [Nl hA2.1 h8] at s6;conv=>whnf
   repeat' (refine zZ ?_;conv=>whnf)
   refine zV [.bp 1 0, .ag (H_ (sp 5 0 0 []))] ⟨ri,Bg (DH 5 0 0),tv⟩ ?_;refine ze9 [1] s6 ?_;rintro _ _ ⟨d6,M6,v6,hm6,rfl,rfl⟩;have s7:=Ja (b:=false) (L:= []) (l:= [⟨1, [], []⟩]) [⟨A, [1], -1⟩] hg v6 (fun e=>by cases e) 1 A (by decide) (V7 1) rfl hA2 rfl (Ih [] A 1 (Zi (by omega)) (by decide) rfl);rw [show M6.m.getD A.toNat []=b by rw [hm6,hm0,Ab,A3 (by rw [Be];omega)];try rfl] at s7;conv=>whnf
   refine zV [.bp 1 0, .ag (H_ (sp 3 1 A []))] ⟨ri,Bg (DH 3 1 A),tv⟩ ?_;refine ze9 [1] s7 ?_;rintro _ _ ⟨d7,v7,rfl,rfl⟩;conv=>whnf
   refine zY hbb ?_;conv=>whnf
   refine zY hbb ?_;conv=>whnf
   refine zY cw ?_;exact⟨_,ri,rfl⟩
  | false=>
   have s6:=OY (b:=true) (L:= [⟨A, [],0⟩]) (l:=hw1 A b) [] v5 (fun _=>hl0) 0 0 hl1 (V4 h8) rfl hdr;rw [Nl hA2.1 h8] at s6;conv=>whnf
   repeat' (refine zZ ?_;conv=>whnf)
   refine zV [.bp 1 0, .ag (H_ (sp 6 0 0 []))] ⟨ri,Bg (DH 6 0 0),tv⟩ ?_;refine ze9 [1] s6 ?_;rintro _ _ ⟨d6,v6,rfl,rfl⟩;have s7:=Ja (b:=true) (L:= []) (l:= [⟨1, [], []⟩]) [⟨A, [1], -1⟩] hg v6 (fun _=>hl0) 1 A (by decide) (V7 1) rfl hA2 rfl (Ih [] A 1 (Zi (by omega)) (by decide) rfl);rw [hz8] at s7;conv=>whnf
   refine zV [.bp 1 0, .ag (H_ (sp 3 1 A []))] ⟨ri,Bg (DH 3 1 A),tv⟩ ?_;refine ze9 [1] s7 ?_;rintro _ _ ⟨d7,v7,rfl,rfl⟩;conv=>whnf
   refine zY hbb ?_;conv=>whnf
   refine zq (args':= [bA zero8, .sl 1 8 fun i=>(List.replicate 8 (List.map AV.v [Value.int IntKind.u8 0])).getD i []]) hbz2 tA ?_;rintro _ rfl;refine⟨rfl,?_⟩;conv=>whnf
   refine zY cw ?_;exact⟨_,ri,rfl⟩
end
end Go.Proofs.YtpjkcgacjjbikaaGreatDoor.A
namespace Go.Proofs.YtpjkcgacjjbikaaGreatDoor
section
open Go.ChangeShapes Go.WideShapes Go.ChangeAt Go.RowKit
theorem own_none:ownKnob Tryz.prog.godebug=none:=by kernel_rfl
theorem laidOut:laidOutB Tryz.prog=true:=by kernel_rfl

section
variable {H:Type} {enc:TypeId × Value->H}
theorem Vn {f:Func} {s:ChangeSpec} {apart fresh handsOn again:Bool} {W W':World} {args:Array Value} {ds:List (DataW H)} {before:List MemPlace}
  (hW:DataW.Whole enc Tryz.prog f.params.toList s.vars apart W args.toList ds [] before) (hv:s.vars=[]) (hvs:(s.fn H (ds ++ [])).vars=[])
  (hr:f.resultTypes = #[4]) (hfr:(s.fn H (ds ++ [])).results=[.lit (.bool true)]) (hfa:(s.fn H (ds ++ [])).args=ds)
  (hrow:∀ t∈f.params.toList,Tryz.prog.readableRec t=true/\t<Tryz.prog.types.size) (hb:Below W.heap.size W W') :
  s.post enc Tryz.prog f apart fresh handsOn again W args (.bool true) W':=by
 have hlt:∀ p∈before,p.block<W.heap.size:=fun p hp=>hW.lt p hp
 obtain⟨p,q,hA,hV,hpq,hz,hn⟩:=id hW;rw [hv] at hV;obtain⟨-,rfl⟩:=trodVars_none hV;rw [AE] at hpq;subst hpq;have stay:∀ sp:Nat->Bool,(∀ x∈before,sp x.block=true)->DataW.TrodAll enc Tryz.prog W' 0 sp true f.params.toList args.toList ds before:=by
  intro sp hsp;have go:∀ (ts:List TypeId) (vs:List Value) (es:List (DataW H)) (ps:List MemPlace),(∀ t∈ts,Tryz.prog.readableRec t=true/\t<Tryz.prog.types.size)->(∀ x∈ps,x∈before)->
    DataW.TrodAll enc Tryz.prog W 0 (fun _=>true) true ts vs es ps->DataW.TrodAll enc Tryz.prog W' 0 sp true ts vs es ps:=by
   intro ts;induction ts with
   | nil=>
    intro vs es ps _ _ h;cases vs <;> cases es <;> exact h
   | cons t ts ih=>
    intro vs es ps ht hin h;cases vs with
    | nil=>cases es <;> exact h.elim
    | cons v vs=>
     cases es with
     | nil=>exact h.elim
     | cons e es=>
      obtain⟨p1,p2,h1,h2,rfl⟩:=h;exact⟨p1,p2,WideElems.Trod_stays laidOut (ht t (by simp)).1 (ht t (by simp)).2 h1 (fun x hx=>hb.same (hlt x (hin x (by simp [hx])))) (fun x hx=>hsp x (hin x (by simp [hx]))),
       ih vs es p2 (fun t' ht'=>ht t' (by simp [ht'])) (fun x hx=>hin x (by simp [hx])) h2,rfl⟩
  exact go _ _ _ _ hrow (fun x hx=>hx) hA
 have hres:∀ (b:Nat) (sp:Nat->Bool) (hd:Bool),DataW.TrodAll enc Tryz.prog W' b sp hd f.resultTypes.toList ((Value.bool true).resultList f.resultTypes.size) (s.fn H (ds ++ [])).results []:=by
  intro b sp hd;rw [hr,hfr];exact trodAll_mk1 ⟨1,by simp [DataW.trod,Value.cells,Tryz.underlying4]⟩
 have hold:∀ p∈before,(fun b=>decide (b<W.heap.size)) p.block=true:=fun p hp=>by simpa using hlt p hp
 have hvars:∀ sp:Nat->Bool,DataW.TrodVars enc Tryz.prog W' sp s.vars (s.fn H (ds ++ [])).vars []:=by
  intro sp;rw [hv,hvs];exact rfl
 refine⟨ds, [],before, [],before, [],hW,hres _ _ _,by rw [hfa];exact stay _ hold,hvars _,World.keptBut_mono (fun p hp=>⟨hp,?_⟩) (hb.frame (·∈before)),fun _=>?_⟩
 ·exact Or.inr (by simpa using hp)
 ·refine⟨ok_one hr rfl (by simp [Value.okWide,Tryz.underlying4,Cell.okWide,Cell.ok]),_,_,([] ++ before) ++ [],⟨[] ++ before, [],trodAll_append (stay _ (fun _ _=>rfl)) (hres _ _ _),hvars _,rfl,?_,?_⟩,?_⟩
  ·intro b off hp;have hin:MemPlace.cell b off∈before:=by simpa using hp
   rw [hb.frozen (hlt _ hin)];exact hz b off hin
  ·intro ha;have:=hn ha;simpa using this
  ·intro p hp _;simpa using hp
end
abbrev Vs : List (String × DataW Unit) := [("unicode/utf8.acceptRanges", Rows.laid_unicode_utf8_acceptRanges), ("unicode/utf8.first", Rows.laid_unicode_utf8_first)]
noncomputable def JY (os:Os):World:=
 let w0:=World.holding Tryz.prog os ⟨#[], #[], []⟩;let put (h:Array Obj) (g:Nat) (cs:Array Value):Array Obj:=h.modify g fun
  | .cells _ t frozen=> .cells cs t frozen
  | o=>o
 let h1:=put w0.heap 0 (Lib.firstTab.map fun z=>Value.int .u8 z).toArray;let h2:=put h1 1 ((List.range 16).flatMap fun i=> [Value.int .u8 (Lib.accLo i),Value.int .u8 (Lib.accHi i)]).toArray
 { w0 with heap:=h2 }
theorem Vr (os:Os) (args:Array Value):laidMetH Tryz.prog Vs ((JY os).forCall (fun _ _=>0) ⟨#[],args, []⟩).memory:=by
 rw [MakeChecks.laidMetH_plain _ _ _ (by kernel_rfl)];exact(LaidIn.of_run (l:=Vs) [1,0] 8 (by kernel_rfl) (by kernel_rfl) (by kernel_rfl) (by kernel_rfl)).met
theorem first_data:Rows.laid_unicode_utf8_first=Lib.firstData:=by kernel_rfl
theorem accept_data:(Rows.laid_unicode_utf8_acceptRanges:DataW Unit)=Lib.acceptData:=by kernel_rfl
theorem T3 {W:World} (h:laidMetH Tryz.prog Vs W):A.globOk W:=by
 rw [MakeChecks.laidMetH_plain _ _ _ (by kernel_rfl)] at h;have h1:=Lib.laidMet.reads h (.head _);have h2:=Lib.laidMet.reads h (.tail _ (.head _));rw [accept_data] at h1;rw [first_data] at h2;exact utf8Tabs_of_readsT (U8Types.of196 Tryz.laysValid) ⟨by kernel_rfl,by kernel_rfl,by kernel_rfl,by kernel_rfl,by kernel_rfl,by kernel_rfl,by kernel_rfl⟩ h2 h1
end
end Go.Proofs.YtpjkcgacjjbikaaGreatDoor
