/-
Several texts in one.
-/
import Derived.Test.YtpjkcgacjjbikaaGreatDoorPPV1P4
import Derived.Test.YtpjkcgacjjbikaaGreatDoorPPV1P3
import Derived.Test.YtpjkcgacjjbikaaGreatDoorPPV1P2
import Derived.Test.YtpjkcgacjjbikaaGreatDoorPPV1P1
import Derived.Test.YtpjkcgacjjbikaaGreatDoorRows
import Derived.Below
import Derived.ChangeSame
import Derived.Carry
import Derived.Lib.LaidIn
import Derived.Lib.LaidU8T
import Derived.LaidHandle
import Derived.MakeChecks
import Derived.Handed
set_option maxRecDepth 100000
set_option maxHeartbeats 8000000
set_option linter.unusedSimpArgs false
set_option linter.unusedVariables false
set_option linter.deprecated false
namespace Go.Proofs.YtpjkcgacjjbikaaGreatDoor.A
section
open Go.RowKit
theorem LC (l m:List Img) (z w:Int):∀ k,k<=l.length->Dx (l ++ m) z w k=Dx l z w k
 | 0,_=>rfl
 | k+1,hk=>by
  have e:(l ++ m).getD k iz=l.getD k iz:=by
   grind
  rw [Dx,Dx,e,LC l m z w k (by omega)]
theorem Tm (l m:List Img) (z w:Int):∀ k,k<=m.length->Dx (l ++ m) z w (l.length+k)=match Dx m z w k with
  | some i=>some i
  | none=>Dx l z w l.length
 | 0,_=>LC l m z w _ (Ag _)
 | k+1,hk=>by
  have e:(l ++ m).getD (l.length+k) iz=m.getD k iz:=by
   grind
  rw [<-Dp,Dx,Dx,e];split
  ·rfl
  ·exact Tm l m z w k (by omega)
theorem I3 {l:List Img} {z w:Int} (h:∀ x∈l,x.zone≠z):∀ k,k<=l.length->Dx l z w k=none
 | 0,_=>rfl
 | k+1,hk=>by
  rw [Dx,if_neg (fun q=>h _ (AC (by omega)) q.1),I3 h k (by omega)]
def UM (z:Int) (ats:List Int) (bs:List (List UInt8)) (w:Int):Option Img:=(E6 ats bs w.toNat ats.length).map fun b=>⟨z,w,b⟩
theorem MG (z:Int) (ats:List Int) (bs:List (List UInt8)) (m:List Img) {w:Int} (hw:0<=w):∀ k,k<=ats.length->Dx (((List.range ats.length).map fun i=>(⟨z,ats.getD i 0,bs.getD i []⟩:Img)) ++ m) z w k=(E6 ats bs w.toNat k).map fun b=>⟨z,w,b⟩
 | 0,_=>rfl
 | k+1,hk=>by
  have e:(((List.range ats.length).map fun i=>(⟨z,ats.getD i 0,bs.getD i []⟩:Img)) ++ m).getD k iz=⟨z,ats.getD k 0,bs.getD k []⟩:=by
   grind
  rw [Dx,e,E6,MG z ats bs m hw k (by omega)]
  grind
theorem Jc (z:Int) (t:List Ent) (par:List UInt8) (ats:List Int) (bs:List (List UInt8)) (ha:∀ a∈ats,0<=a/\a<255) (w:Int) (hw:w=255\/(-1<=w/\w<255)):Dx (Cx z t par ats bs) z w (Cx z t par ats bs).length=if w=255 then some ⟨z,255,De t⟩ else if w = -1 then some ⟨z, -1,par⟩ else UM z ats bs w:=by
 have hl:=Hk z t par ats bs;have e1:(Cx z t par ats bs).getD (ats.length+1) iz=⟨z,255,De t⟩:=by
  unfold Cx
  grind
 have e0:(Cx z t par ats bs).getD ats.length iz=⟨z, -1,par⟩:=by
  unfold Cx
  grind
 rw [hl,Dx,Dx,e1,e0];by_cases h1:w=255
 ·grind
 ·rw [if_neg (fun q=>h1 q.2.symm),if_neg h1];by_cases h2:w = -1
  ·grind
  ·rw [if_neg (fun q=>h2 q.2.symm),if_neg h2];exact MG z ats bs _ (by omega) _ (Ag _)
def Sh (V:Int->Int->List UInt8) (x:Tx) (z w:Int):List UInt8:=match Dx x.images z w x.images.length with
 | some i=>i.bytes
 | none=>V z w
def Zn (g:Geo) (a:An) (l:List Tx) (F:Int->List UInt8) (x:Tx) (z:Int):Prop:=
 (∀ w,Dx x.images z w x.images.length=none)
 \/∃ t ats bs,Fe g (Bf a l) F z=some t/\ats.length=bs.length/\(∀ b∈bs,b.length=8)/\∀ w,w=255\/(-1<=w/\w<g.d)->Dx x.images z w x.images.length=if w=255 then some ⟨z,255,De (BE g t (CV g (Bf a l) F t z) ats bs x.seq)⟩ else if w = -1 then some ⟨z, -1,EQ g t (CV g (Bf a l) F t z) ats bs g.d.toNat⟩ else UM z ats bs w
theorem Ys {g:Geo} (hg:Bm g=true) {s:Stt} {F:Int->List UInt8} {t:List Ent} {z:Int} {i:Nat} (hi:(i:Int)<g.d):(CV g s F t z).getD i []=Gu g s F t z (i:Nat):=by
 unfold CV Tf
 grind
theorem VG {g:Geo} (hg:Bm g=true) {a:An} {l:List Tx} {x:Tx} (hseq:0<=x.seq/\x.seq<=4294967295) (hl:∀ t∈l,∀ y∈t.images,BV g y=true) {F:Int->List UInt8} {V:Int->Int->List UInt8} (h:VolV g a l F V) (hx:∀ z,0<=z->z<g.z->Zn g a l F x z):VolV g a (l ++ [x]) F (Sh V x):=by
 obtain⟨g1,g2,g3,g4,g5⟩:=Az.1 hg;intro z h0 h1;obtain⟨t,ht⟩:=h z h0 h1;rcases hx z h0 h1 with hn | ⟨t',ats,bs,e1,e2,e3,e4⟩
 ·have hv:∀ w,Sh V x z w=V z w:=fun w=>by unfold Sh;rw [hn w]
  have hf:∀ w,CD (l ++ [x]) z w=CD l z w:=fun w=>by rw [I2,hn w]
  have hvz:Sh V x z=V z:=funext hv;refine⟨t,?_,fun w q1 q2=>by rw [hv];exact ht.len w q1 q2,fun w q1 q2=>by rw [hv];exact ht.ent w q1 q2,fun w q1 q2=>?_,by rw [hvz];exact ht.par⟩
  ·have:=ht.tab;unfold Fe Du at this |-
   show (match CD (l ++ [x]) z 255 with | some p=>_ | none=>match Ct g _ _ (match CD (l ++ [x]) z 255 with | some p=>p.2 | none=>_) with | some t=>some t | none=>Ct g _ _ (match CD (l ++ [x]) z 255 with | some p=>p.2 | none=>_))=_;rw [hf 255];exact this
  ·rw [hf w,hv];exact ht.val w q1 q2
 ·have et:t'=t:=by
   have:=ht.tab
   grind
  subst et;have htok:=Kx ht.tab;have htl:=IS htok;have hhad:∀ i:Nat,(i:Int)<g.d->(CV g (Bf a l) F t' z).getD i []=V z (i:Nat):=fun i hi=>by
   rw [Ys hg hi];exact ht.one ⟨by omega,hi⟩
  have hatN:∀ i:Nat,(i:Int)<g.d->(Eu g (i:Nat)).toNat=i:=fun i hi=>by unfold Eu;rw [if_neg (by omega)];omega
  have hkn:∀ i:Nat,(i:Int)<g.d->FH g t' (CV g (Bf a l) F t' z) i=V z (i:Nat):=fun i hi=>by
   have:=(ht.ent (i:Nat) (by omega) hi).1;rw [hatN i hi] at this;unfold FH;rw [this,if_neg (by decide),hhad i hi,if_pos (by rw [ht.len (i:Nat) (by omega) hi];decide)]
  have hup:∀ i:Nat,(i:Int)<g.d->Sh V x z (i:Nat)=Gv g t' (CV g (Bf a l) F t' z) ats bs i:=fun i hi=>by
   have e:=e4 (i:Nat) (.inr ⟨by omega,hi⟩);rw [if_neg (by omega),if_neg (by omega)] at e;unfold Sh Gv;rw [e,UM,Ac]
   grind
  have hbn:∀ i:Nat,(i:Int)<g.d->(Gv g t' (CV g (Bf a l) F t' z) ats bs i).length=8:=fun i hi=>by
   unfold Gv;cases hp:E6 ats bs i ats.length with
   | some b=>exact J2 e3 (by omega) _ b (Ag _) hp
   | none=>
    show (FH g t' _ i).length=8;rw [hkn i hi];exact ht.len (i:Nat) (by omega) hi
  have hpar:∀ k:Nat,(k:Int)<=g.d->EQ g t' (CV g (Bf a l) F t' z) ats bs k=M9 (Sh V x z) k:=by
   intro k;induction k with
   | zero=>intro _;rfl
   | succ k ih=>
    intro hk;rw [EQ,if_neg (by rw [hbn k (by omega)];decide),ih (by omega),M9,hup k (by omega)]
  have hpv:Sh V x z (-1)=EQ g t' (CV g (Bf a l) F t' z) ats bs g.d.toNat:=by
   have e:=e4 (-1) (.inr ⟨by omega,by omega⟩);rw [if_neg (by omega),if_pos rfl] at e;unfold Sh;rw [e]
  have hhb:∀ b∈CV g (Bf a l) F t' z,b.length=0\/b.length=8:=fun b hb=>by
   unfold CV Tf at hb;rcases Ay.1 hb with q | q
   ·obtain⟨i,hi,rfl⟩:=AL.1 q;exact IR (s:=Bf a l) hl (by have:=AJ.1 hi;omega)
   ·rw [A9] at q;subst q;exact IR (s:=Bf a l) (w:= -1) hl (by decide)
  have hpl:(EQ g t' (CV g (Bf a l) F t' z) ats bs g.d.toNat).length=8:=He hhb e3 (by omega) _;have hwt:=GN (g:=g) (t:=t') (had:=CV g (Bf a l) F t' z) (ats:=ats) (bs:=bs) hg htok (stamp:=x.seq) hseq;have htab:Fe g (Bf a (l ++ [x])) F z=some (BE g t' (CV g (Bf a l) F t' z) ats bs x.seq):=by
   have e:=e4 255 (.inl rfl);rw [if_pos rfl] at e;unfold Fe;show (match CD (l ++ [x]) z 255 with | some p=>CR g p.1.bytes | none=>_)=_;rw [I2,e];exact Im hwt
  have hent:∀ i:Nat,(i:Int)<g.d->(BE g t' (CV g (Bf a l) F t' z) ats bs x.seq).getD i ez=match E6 ats bs i ats.length with
    | some b=>⟨x.seq,(DC b:Nat),false⟩
    | none=>t'.getD i ez:=fun i hi=>by
   unfold BE;rw [Ab,AD (by simp;omega),AW,BG (by omega)];show N4 g t' _ ats bs x.seq i=_;unfold N4
   grind
  have hentp:(BE g t' (CV g (Bf a l) F t' z) ats bs x.seq).getD (Eu g (-1)).toNat ez=⟨x.seq,(DC (Sh V x z (-1)):Nat),false⟩:=by
   rw [show (Eu g (-1)).toNat=g.d.toNat by unfold Eu;rw [if_pos rfl]];unfold BE
   grind
  refine⟨_,htab,fun w q1 q2=>?_,fun w q1 q2=>?_,fun w q1 q2=>?_,?_⟩
  ·by_cases hw:w = -1
   ·grind
   ·obtain⟨i,rfl⟩:∃ i:Nat,w=(i:Nat):=⟨w.toNat,by omega⟩
    grind
  ·by_cases hw:w = -1
   ·grind
   ·obtain⟨i,rfl⟩:∃ i:Nat,w=(i:Nat):=⟨w.toNat,by omega⟩;rw [hatN i q2,hent i q2,hup i q2];unfold Gv;cases hp:E6 ats bs i ats.length with
    | some b=>exact tA
    | none=>
     have:=ht.ent (i:Nat) q1 q2
     grind
  ·rw [I2];have e:=e4 w (.inr ⟨q1,q2⟩);rw [if_neg (by omega)] at e;by_cases hw:w = -1
   ·grind
   ·obtain⟨i,rfl⟩:∃ i:Nat,w=(i:Nat):=⟨w.toNat,by omega⟩;rw [if_neg hw,UM,Ac] at e;rw [e,hatN i q2,hent i q2,hup i q2];unfold Gv;cases hp:E6 ats bs i ats.length with
    | some b=>exact tA
    | none=>
     have:=ht.val (i:Nat) q1 q2
     grind
  ·grind
theorem Y0 {g:Geo} (hg:Bm g=true) {a:An} {l:List Tx} {F:Int->List UInt8} {lba:Int} {b:List UInt8} (hlba:0<=lba/\lba<g.z*g.d) (hb:b.length=8) (ht:(Fe g (Bf a l) F (lba.tdiv g.d)).isSome=true):∀ z,0<=z->z<g.z->Zn g a l F (FK g a l F lba b) z:=by
 obtain⟨g1,g2,g3,g4,g5⟩:=Az.1 hg;intro z h0 h1;obtain⟨t,ht⟩:=C6.1 ht;have hm:0<=lba.tmod g.d/\lba.tmod g.d<g.d:=⟨B9 _ hlba.1,Bu _ (by omega)⟩;have ei:(FK g a l F lba b).images=Cx (lba.tdiv g.d) (BE g t (CV g (Bf a l) F t (lba.tdiv g.d)) [lba.tmod g.d] [b] (a.seq+(l.length:Int))) (EQ g t (CV g (Bf a l) F t (lba.tdiv g.d)) [lba.tmod g.d] [b] g.d.toNat) [lba.tmod g.d] [b]:=by
  show Hi g (Bf a l) F _ lba b=_;unfold Hi;rw [ht]
 by_cases hz:z=lba.tdiv g.d
 ·refine .inr ⟨t, [lba.tmod g.d], [b],by rw [hz];exact ht,rfl,fun x hx=>by rw [A9] at hx;rw [hx];exact hb,fun w hw=>?_⟩;rw [ei,hz];exact Jc _ _ _ _ _ (fun x hx=>by rw [A9] at hx;omega) w (by omega)
 ·refine .inl fun w=>?_
  rw [ei];refine I3 (fun y hy=>?_) _ (Ag _);have:y.zone=lba.tdiv g.d:=by
   unfold Cx at hy
   grind
  omega
theorem Yz {g:Geo} (hg:Bm g=true) {a:An} {l:List Tx} {F:Int->List UInt8} {lba:Int} {b:List UInt8} (hlba:0<=lba/\lba<g.z*g.d) (ht:(Fe g (Bf a l) F (lba.tdiv g.d)).isSome=true) (V:Int->Int->List UInt8) {z w:Int} (hw:0<=w/\w<g.d):Sh V (FK g a l F lba b) z w=if z=lba.tdiv g.d/\w=lba.tmod g.d then b else V z w:=by
 obtain⟨g1,g2,g3,g4,g5⟩:=Az.1 hg;obtain⟨t,ht⟩:=C6.1 ht;have hm:0<=lba.tmod g.d/\lba.tmod g.d<g.d:=⟨B9 _ hlba.1,Bu _ (by omega)⟩;have ei:(FK g a l F lba b).images=Cx (lba.tdiv g.d) (BE g t (CV g (Bf a l) F t (lba.tdiv g.d)) [lba.tmod g.d] [b] (a.seq+(l.length:Int))) (EQ g t (CV g (Bf a l) F t (lba.tdiv g.d)) [lba.tmod g.d] [b] g.d.toNat) [lba.tmod g.d] [b]:=by
  show Hi g (Bf a l) F _ lba b=_;unfold Hi;rw [ht]
 unfold Sh;rw [ei];by_cases hz:z=lba.tdiv g.d
 ·rw [hz,Jc _ _ _ _ _ (fun x hx=>by rw [A9] at hx;omega) w (by omega),if_neg (by omega),if_neg (by omega)];have ep:UM (lba.tdiv g.d) [lba.tmod g.d] [b] w=if lba.tmod g.d=((w.toNat:Nat):Int) then some ⟨lba.tdiv g.d,w,b⟩ else none:=by
   show ((if lba.tmod g.d=((w.toNat:Nat):Int) then some b else none:Option (List UInt8)).map fun b=>(⟨lba.tdiv g.d,w,b⟩:Img))=_
   grind
  grind
 ·rw [if_neg (fun q=>hz q.1),I3 (fun y hy=>?_) _ (Ag _)];have:y.zone=lba.tdiv g.d:=by
   unfold Cx at hy
   grind
  omega
theorem Rq {g:Geo} {b:List UInt8} {t:List Ent} (h:CR g b=some t):t.length=(g.d+1).toNat:=by
 unfold CR at h;split at h
 ·rw [<-Option.some.inj h,entsOf_len]
 ·cases h
theorem Oj {g:Geo} {x:Gt} {q r:Int} {t:List Ent} (h:Ct g x q r=some t):t.length=(g.d+1).toNat:=by
 rw [KG] at h;split at h
 ·exact Rq h
 ·cases h
theorem TN {g:Geo} (hg:Bm g=true) {s:Stt} {F:Int->List UInt8} {z:Int} {t:List Ent} (h:Fe g s F z=some t):(t.length:Int)=g.d+1:=by
 have g5:=Az.1 hg;have:t.length=(g.d+1).toNat:=by
  unfold Fe at h;split at h
  ·exact Rq h
  ·split at h
   ·rename_i q;rw [<-Option.some.inj h];exact Oj q
   ·exact Oj h
 omega
theorem Vs (g:Geo) (s:Stt) (d:Dk) (F:Int->List UInt8) (z w:Int) (t:List Ent) (hg:Bm g=true) (ha:Bz g s.a=true) (h:Gd (A7 g) d F) (hF:∀ a,(F a).length<=100000) (hz:0<=z/\z<g.z) (hw : -1<=w/\w<g.d) (ht:(t.length:Int)=g.d+1) :
  ACalls Tryz.prog false 91 [.bp 0 0,iv z,iv w, .ag [BX t]] (G5 g s d) fun r H=>r = .tp [bA ((DD ⟨0,F (D1 g s.a z w)⟩ (D1 g s.a z w) (t.getD (Eu g w).toNat ez)).getD []),iv 0]/\∃ d',Gd (A7 g) d' F/\H=G5 g s d':=by
 have hadr:=OD g s.a z w hg ha hz hw;obtain⟨sl,e1,e2⟩:=LT hg ha hz (w:=w) hw;have hsl:=Ky hg hz e2;have hat:0<=Eu g w/\Eu g w<=g.d:=by have:=Az.1 hg;unfold Eu;split <;> omega
 have hci:=MO g w;obtain⟨X,hX⟩:∃ X,X=D1 g s.a z w:=⟨_,rfl⟩;rw [<-hX] at hadr e1 |-
 have hcb:=Hq hg;have hrd:=RE g s d F X h (by have:=Az.1 hg;omega);have heb:=ML ⟨0,F X⟩ X (t.getD (Eu g w).toNat ez) (hF _);have ixA:0<=Eu g w/\Eu g w<(t.length:Nat):=by omega
 refine zU tys_ok Tryz.func91 rfl rfl (Af rfl) ?_;conv=>whnf
 apply zJ tys_ok mixed (.o [0,1,2,3,4,5,6,7,8,9,10,11,12,13,14,15,16] .fin) [10,11,15,16,17,18,19,20,21,22,23,24,25,26,27,28,29] (by kernel_rfl)
 ·conv=>whnf
  refine z_ hadr ?_;exact tA
 conv=>whnf
 refine ze9 [0,1,2,3] hrd ?_;rintro _ _ ⟨rfl,d2,hd2,rfl⟩;conv=>whnf
 repeat' (refine zZ ?_;conv=>whnf)
 apply zJ tys_ok mixed (.o [0,1,2,3,4,5,6,7,8,9,10,11,12,13,14,15,16,17] .fin) [13,14,36,37,38,39,40,41,42,43,44,45,46,47,48,49,50,51] (by kernel_rfl)
 ·conv=>whnf
  refine z_ hci ?_;conv=>whnf
  try (refine Ah (by first | omega | exact ixA | exact ixB | (simp;done)) ?_;conv=>whnf)
  refine z_ heb ?_;exact tA
 conv=>whnf
 obtain⟨B,hBe⟩:∃ B,B=(DD ⟨0,F X⟩ X (t.getD (Eu g w).toNat ez)).getD []:=⟨_,rfl⟩;rw [<-hBe];exact⟨.tp [bA B,iv 0], .tp [bA B,iv 0],G5 g s d2,fun _ _ h=>h,zP (s:= [0,1,2,3]) tA,rfl,d2,hd2,rfl⟩
theorem P1 (g:Geo) (a:An) (l:List Tx) (d:Dk) (F:Int->List UInt8) (lba:Int) (t:List Ent) (v:Int->List UInt8) (hg:Bm g=true) (hl:LogB l) (ha:Bz g a=true) (h:Gd (A7 g) d F) (hF:∀ a,(F a).length<=100000) (hb:0<=lba/\lba<g.z*g.d) (hB:∀ p,CD l (lba.tdiv g.d) 255=some p->p.1.bytes.length<=100000) (hv:ZoneV g a l F (lba.tdiv g.d) t v) :
  ACalls Tryz.prog false 40 [.bp 0 0,iv lba] (G5 g (Bf a l) d) fun r H=>r = .tp [bA (v (lba.tmod g.d)),iv 0]/\∃ d',Gd (A7 g) d' F/\H=G5 g (Bf a l) d':=by
 have g5:=Az.1 hg;have h1:=JF g lba hg hb;have hz:0<=lba.tdiv g.d/\lba.tdiv g.d<g.z:=by
  rw [Bp hb.1];exact⟨Df hb.1 (by omega),Dd (by omega) hb.2⟩
 have hA:0<=lba.tmod g.d/\lba.tmod g.d<g.d:=⟨B9 _ hb.1,Bu _ (by omega)⟩;obtain⟨Z,hZ⟩:∃ Z,Z=lba.tdiv g.d:=⟨_,rfl⟩;obtain⟨A,hAe⟩:∃ A,A=lba.tmod g.d:=⟨_,rfl⟩;rw [<-hZ] at h1 hz hB hv;rw [<-hAe] at h1 hA |-
 have ht:=TN hg hv.tab;have h2:=Xa g (Bf a l) d F Z hg hl ha h hF hz hB t hv.tab;have h3:=Mx l Z A hl.n hl.i;have hat:Eu g A=A:=by unfold Eu;rw [if_neg (by omega)]
 have hE:=hv.ent A (by omega) hA.2;have hV:=hv.val A (by omega) hA.2;have hLn:=hv.len A (by omega) hA.2;rw [hat] at hE hV;have ixA:0<=A/\A<(t.length:Nat):=by omega
 cases hL:CD l Z A with
 | some p=>
  rw [hL] at h3 hV;simp only at h3 hV;rw [hV.1] at h3;refine zU tys_ok Tryz.func40 rfl rfl (Af rfl) ?_;conv=>whnf
  refine z_ h1 ?_;conv=>whnf
  refine ze9 [0,1,2,3] h2 ?_;rintro _ _ ⟨rfl,d2,hd2,rfl⟩;conv=>whnf
  repeat' (refine zZ ?_;conv=>whnf)
  refine⟨ixA,?_⟩;conv=>whnf
  rw [show (t.getD A.toNat ⟨0,0,false⟩).lost=false from hE.1];conv=>whnf
  refine z_ h3 ?_;exact⟨.tp [bA (v A),iv 0], .tp [bA (v A),iv 0],G5 g (Bf a l) d2,fun _ _ h=>h,zP (s:= [0,1,2,3]) tA,rfl,d2,hd2,rfl⟩
 | none=>
  rw [hL] at h3 hV;simp only at h3 hV;refine zU tys_ok Tryz.func40 rfl rfl (Af rfl) ?_;conv=>whnf
  refine z_ h1 ?_;conv=>whnf
  refine ze9 [0,1,2,3] h2 ?_;rintro _ _ ⟨rfl,d2,hd2,rfl⟩;have h4:=Vs g (Bf a l) d2 F Z A t hg ha hd2 hF hz (by omega) ht;rw [hat] at h4;change ACalls Tryz.prog false 91 [.bp 0 0,iv Z,iv A, .ag [BX t]] (G5 g (Bf a l) d2) (fun r H=>r = .tp [bA ((DD ⟨0,F (D1 g a Z A)⟩ (D1 g a Z A) (t.getD A.toNat ez)).getD []),iv 0]/\∃ d',Gd (A7 g) d' F/\H=G5 g (Bf a l) d') at h4;rw [hV] at h4;replace h4:ACalls Tryz.prog false 91 [.bp 0 0,iv Z,iv A, .ag [BX t]] (G5 g (Bf a l) d2) (fun r H=>r = .tp [bA (v A),iv 0]/\∃ d',Gd (A7 g) d' F/\H=G5 g (Bf a l) d'):=h4;conv=>whnf
  repeat' (refine zZ ?_;conv=>whnf)
  refine⟨ixA,?_⟩;conv=>whnf
  rw [show (t.getD A.toNat ⟨0,0,false⟩).lost=false from hE.1];conv=>whnf
  refine z_ h3 ?_;conv=>whnf
  refine ze9 [0,1,2,3] h4 ?_;rintro _ _ ⟨rfl,d3,hd3,rfl⟩;conv=>whnf
  rw [show decide (((v A).length:Int) > 0)=true from decide_eq_true (by omega)];exact⟨.tp [bA (v A),iv 0], .tp [bA (v A),iv 0],G5 g (Bf a l) d3,fun _ _ h=>h,zP (s:= [0,1,2,3]) tA,rfl,d3,hd3,rfl⟩
def X4 (g:Geo) (i:Nat):Int:=if (i:Int)=g.d then -1 else (i:Nat)
def Tj (g:Geo) (s:Stt) (F:Int->List UInt8) (t:List Ent) (z:Int) (k:Nat):List (List UInt8):=(List.range k).map fun i=>Gu g s F t z (X4 g i)
theorem WV {g:Geo} (hg:Bm g=true) (s:Stt) (F:Int->List UInt8) (t:List Ent) (z:Int):Tj g s F t z (g.d.toNat+1)=CV g s F t z:=by
 obtain⟨g1,g2,g3,g4,g5⟩:=Az.1 hg;unfold Tj CV Tf;rw [B8,A2,A6,Bx,show X4 g g.d.toNat = -1 by unfold X4;rw [if_pos (by omega)]];congr 1;refine Dt fun i hi=>?_
 have:=AJ.1 hi;unfold X4;rw [if_neg (by omega)]
theorem WU (g:Geo) (s:Stt) (d:Dk) (a:Int) (h:DkOk d) (ha:0<=a/\a<d.cells.length) :
  ACalls Tryz.prog false 162 [.bp 0 0,iv a] (GG g s d) fun r H=>r = .ag (DY ⟨(d.read a).2.2,(d.read a).2.1⟩)/\H=GG g s (d.read a).1:=by
 have hr:=Ps BP d a h.l ha h.m (fun c hc=>by have:=(h.c c hc).2.1;omega) (fun w hw=>by have:=(h.w w hw).2;omega);refine zU tys_ok Tryz.func162 rfl rfl (Af rfl) ?_;conv=>whnf
 refine ze9 [1,2,3] hr ?_;rintro _ _ ⟨rfl,rfl⟩;exact⟨_, .ag (DY ⟨(d.read a).2.2,(d.read a).2.1⟩),GG g s (d.read a).1,fun _ _ h=>h,zP (s:= [0,1,2,3,4]) tA,rfl,rfl⟩
theorem P0 (g:Geo) (s:Stt) (d:Dk) (a:Int) (b:List UInt8) (h:DkOk d) (ha:0<=a/\a<d.cells.length) (hb:b.length<=200) :
  ACalls Tryz.prog false 149 [.bp 0 0,iv a,bA b] (GG g s d) fun r H=>r = .tp [.v (.bool (decide ((d.write a b).2=0))),iv (if (d.write a b).2=8 then 8 else 0)]/\H=GG g s (d.write a b).1:=by
 have hr:=MM BP d a b h.l ha h.m (by omega);have he:(d.write a b).2=8\/(d.write a b).2=7\/(d.write a b).2=0:=by
  unfold Dk.write;split
  ·exact .inl rfl
  ·split
   ·exact .inr (.inl rfl)
   ·exact .inr (.inr rfl)
 generalize d.write a b=q at hr he |-
 obtain⟨d',e⟩:=q;simp only at hr he |-
 refine zU tys_ok Tryz.func149 rfl rfl (Af rfl) ?_;conv=>whnf
 refine ze9 [1,2,3] hr ?_;rintro _ _ ⟨rfl,rfl⟩;rcases he with rfl | rfl | rfl
 all_goals
  exact⟨_,_,GG g s d',fun _ _ h=>h,zP (s:= [0,1,2,3,4]) tA,rfl,rfl⟩
theorem Pe (g:Geo) (s:Stt) (d:Dk) (F:Int->List UInt8) (a:Int) (h:Gd (A7 g) d F) (ha:0<=a/\a<A7 g) :
  ACalls Tryz.prog false 162 [.bp 0 0,iv a] (GG g s d) fun r H=>r = .ag (DY ⟨0,F a⟩)/\∃ d',Gd (A7 g) d' F/\H=GG g s d':=by
 have hr:=WU g s d a h.ok (by rw [h.len];exact ha);rw [h.read ha.1 ha.2] at hr;exact hr.mono fun r H hh=>⟨hh.1,d.req,h.req,hh.2⟩
theorem Vr (g:Geo) (s:Stt) (d:Dk) (F:Int->List UInt8) (z:Int) (hg:Bm g=true) (hl:LogB s.txns) (ha:Bz g s.a=true) (h:Gd (A7 g) d F) (hF:∀ a,(F a).length<=100000) (hz:0<=z/\z<g.z) (hB:∀ p,CD s.txns z 255=some p->p.1.bytes.length<=100000) (t:List Ent) (ht:Fe g s F z=some t) :
    ACalls Tryz.prog false 89 [.bp 0 0,iv z] (GG g s d) fun r H=>r = .tp [.ag [BX t],iv 0]/\∃ d',Gd (A7 g) d' F/\H=GG g s d':=by
  have hf:=J4 s.txns z 255 hl.n hl.i;unfold Fe at ht;cases hL:CD s.txns z 255 with
  | some p=>
    obtain⟨x,q⟩:=p;rw [hL] at hf ht;simp only at hf ht;have hr:=ID g x.bytes (hB _ hL);rw [hg,if_pos rfl,ht] at hr;refine zU tys_ok Tryz.func89 rfl rfl (Af rfl) ?_;conv=>whnf
    refine ze9 [4] hf ?_;rintro _ _ ⟨rfl,rfl⟩;conv=>whnf
    refine z_ hr ?_;exact⟨.tp [.ag [BX t],iv 0], .tp [.ag [BX t],iv 0],GG g s d,fun _ _ h=>h,zP (s:= [0,1,2,3,4]) tA,rfl,d,h,rfl⟩
  | none=>
    rw [hL] at hf ht;simp only at hf ht;have hR:=OG s.a s.txns z (by have:=(RB ha hz).1;omega) hl.n (fun t ht=>(hl.i t ht).1);refine zU tys_ok Tryz.func89 rfl rfl (Af rfl) ?_;conv=>whnf
    refine ze9 [4] hf ?_;rintro _ _ ⟨rfl,rfl⟩;conv=>whnf
    apply zJ tys_ok mixed (.o [0,1,2,3,4,5,6,7,8,9,10,11,12,13,14,15,16] .fin) [11,12,41,42,43,44,45,46,47,48,49,50,51,52,53,54,55] (by kernel_rfl)
    · conv=>whnf
      (refine zk (args':= [.ag (EN s.a), .sl 4 s.txns.length fun i=>(s.txns.map Ia).getD i [],iv z]) (hR.subA ⟨fun _ _ h=>h,C2 (f:=Ia) s.txns rfl rfl,fun _ _ h=>h,tv⟩) ⟨(Aa _).symm,rfl⟩ ?_;rintro _ rfl;refine⟨rfl,?_⟩)
      exact tA
    conv=>whnf
    have htab:∀ k:Nat,k<2->g.an+2*g.sl<=Ba g z (k:Nat)/\Ba g z (k:Nat)<A7 g:=fun k hk=>by have:=P_ hg hz (k:=(k:Nat)) (by omega);omega
    refine zR (Nat × Dk) (fun x=>([(0, .bp 0 0),(1,iv z),(4, .bp 5 0),(11,iv (Du s.a s.txns z)),(56,iv (x.1:Nat))],GG g s x.2 ++ ([.box 145 [.v (.slice none 0 0)]]:List AB))) (fun x=>x.1<=2/\Gd (A7 g) x.2 F/\∀ j:Nat,j<x.1->Ct g ⟨0,F (Ba g z (j:Nat))⟩ (Ba g z (j:Nat)) (Du s.a s.txns z)=none) (fun x=>2 - x.1) (0,d) ⟨Ak _,h,fun j hj=>absurd hj (Ap j)⟩
      (zP (s:= [0,1,2,3,4,5]) tA) ?_
    rintro⟨k,d1⟩ ⟨hk,hd1,hno⟩;simp only at hk hd1 hno;conv=>whnf
    refine AO (fun h6=>?_) (fun h6=>?_) <;> (repeat rw [Ac] at h6) <;> conv=>whnf
    · have hk2:k<2:=by omega
      have hta:=JE g z (k:Nat) hg hz (by omega);obtain⟨q1,q2⟩:=htab k hk2;have hz2:=Az.1 hg;have hrd:=Pe g s d1 F (Ba g z (k:Nat)) hd1 (by omega);have hto:=MJ g ⟨0,F (Ba g z (k:Nat))⟩ (Ba g z (k:Nat)) (Du s.a s.txns z) hg (hF _);repeat' (refine zZ ?_;conv=>whnf)
      refine z_ hta ?_;conv=>whnf
      repeat' (refine zZ ?_;conv=>whnf)
      refine ze9 [0,1,2,3,4] hrd ?_;rintro _ _ ⟨rfl,d2,hd2,rfl⟩;conv=>whnf
      repeat' (refine zZ ?_;conv=>whnf)
      have hGk:∀ u,Ct g ⟨0,F (Ba g z (k:Nat))⟩ (Ba g z (k:Nat)) (Du s.a s.txns z)=some u->u=t:=fun u hu=>by
        match k,hk2 with
        | 0,_=>
          have hu:Ct g ⟨0,F (Ba g z 0)⟩ (Ba g z 0) (Du s.a s.txns z)=some u:=hu;rw [hu] at ht;exact Option.some.inj ht
        | 1,_=>
          have h0:Ct g ⟨0,F (Ba g z 0)⟩ (Ba g z 0) (Du s.a s.txns z)=none:=hno 0 (by decide);have hu:Ct g ⟨0,F (Ba g z 1)⟩ (Ba g z 1) (Du s.a s.txns z)=some u:=hu;rw [h0] at ht;simp only at ht;exact Option.some.inj (hu.symm.trans ht)
      apply zW (0) tys_ok mixed (.o [0,1,2,3,4,5,6] (.two 7 (.o [8,9,10,11,12,13] .fin) 11 (.o [7,8,9,10,12,13] .fin))) (by kernel_rfl);refine Ah ?_ ?_;conv=>whnf
      refine z_ hto ?_;conv=>whnf
      try (refine tS ?_;conv=>whnf)
      rotate_left 1;conv=>whnf
      refine z_ hto ?_;conv=>whnf
      try (refine tS ?_;conv=>whnf)
      rotate_left 1;all_goals
        cases hT:Ct g ⟨0,F (Ba g z (k:Nat))⟩ (Ba g z (k:Nat)) (Du s.a s.txns z)
      all_goals
        conv=>whnf
        first
        | exact⟨(k+1,d2),⟨by show k+1<=2;omega,hd2,fun j hj=>by by_cases e:j=k;exact e ▸ hT;exact hno j (by have:j<k+1:=hj;omega)⟩,by show 2 - (k+1)<2 - k;omega,zP (s:= [0,1,2,3,4,5]) ⟨⟨rfl,rfl,rfl,rfl,AP (by omega),tv⟩,tA,rfl,rfl,rfl,rfl,rfl⟩⟩
        | (rename_i u
           have e:=hGk _ hT;subst e;exact⟨.tp [.ag [BX u],iv 0], .tp [.ag [BX u],iv 0],GG g s d2,fun _ _ h=>h,zP (s:= [0,1,2,3,4]) tA,rfl,d2,hd2,rfl⟩)
    · have ek:k=2:=by omega
      subst ek;have h0:Ct g ⟨0,F (Ba g z 0)⟩ (Ba g z 0) (Du s.a s.txns z)=none:=hno 0 (by decide);have h1:Ct g ⟨0,F (Ba g z 1)⟩ (Ba g z 1) (Du s.a s.txns z)=none:=hno 1 (by decide);rw [h0] at ht;simp only at ht;rw [h1] at ht;cases ht
theorem MP (g:Geo) (s:Stt) (d:Dk) (F:Int->List UInt8) (z w:Int) (t:List Ent) (hg:Bm g=true) (ha:Bz g s.a=true) (h:Gd (A7 g) d F) (hF:∀ a,(F a).length<=100000) (hz:0<=z/\z<g.z) (hw : -1<=w/\w<g.d) (ht:(t.length:Int)=g.d+1) :
  ACalls Tryz.prog false 91 [.bp 0 0,iv z,iv w, .ag [BX t]] (GG g s d) fun r H=>r = .tp [bA ((DD ⟨0,F (D1 g s.a z w)⟩ (D1 g s.a z w) (t.getD (Eu g w).toNat ez)).getD []),iv 0]/\∃ d',Gd (A7 g) d' F/\H=GG g s d':=by
 have hadr:=OD g s.a z w hg ha hz hw;obtain⟨sl,e1,e2⟩:=LT hg ha hz (w:=w) hw;have hsl:=Ky hg hz e2;have hat:0<=Eu g w/\Eu g w<=g.d:=by have:=Az.1 hg;unfold Eu;split <;> omega
 have hci:=MO g w;obtain⟨X,hX⟩:∃ X,X=D1 g s.a z w:=⟨_,rfl⟩;rw [<-hX] at hadr e1 |-
 have hcb:=Hq hg;have hrd:=Pe g s d F X h (by have:=Az.1 hg;omega);have heb:=ML ⟨0,F X⟩ X (t.getD (Eu g w).toNat ez) (hF _);have ixA:0<=Eu g w/\Eu g w<(t.length:Nat):=by omega
 refine zU tys_ok Tryz.func91 rfl rfl (Af rfl) ?_;conv=>whnf
 apply zJ tys_ok mixed (.o [0,1,2,3,4,5,6,7,8,9,10,11,12,13,14,15,16] .fin) [10,11,15,16,17,18,19,20,21,22,23,24,25,26,27,28,29] (by kernel_rfl)
 ·conv=>whnf
  refine z_ hadr ?_;exact tA
 conv=>whnf
 refine ze9 [0,1,2,3,4] hrd ?_;rintro _ _ ⟨rfl,d2,hd2,rfl⟩;conv=>whnf
 repeat' (refine zZ ?_;conv=>whnf)
 apply zJ tys_ok mixed (.o [0,1,2,3,4,5,6,7,8,9,10,11,12,13,14,15,16,17] .fin) [13,14,36,37,38,39,40,41,42,43,44,45,46,47,48,49,50,51] (by kernel_rfl)
 ·conv=>whnf
  refine z_ hci ?_;conv=>whnf
  try (refine Ah (by first | omega | exact ixA | exact ixB | (simp;done)) ?_;conv=>whnf)
  refine z_ heb ?_;exact tA
 conv=>whnf
 obtain⟨B,hBe⟩:∃ B,B=(DD ⟨0,F X⟩ X (t.getD (Eu g w).toNat ez)).getD []:=⟨_,rfl⟩;rw [<-hBe];exact⟨.tp [bA B,iv 0], .tp [bA B,iv 0],GG g s d2,fun _ _ h=>h,zP (s:= [0,1,2,3,4]) tA,rfl,d2,hd2,rfl⟩
theorem Px (g:Geo) (s:Stt) (d:Dk) (F:Int->List UInt8) (z:Int) (hg:Bm g=true) (hl:LogB s.txns) (ha:Bz g s.a=true) (h:Gd (A7 g) d F) (hF:∀ a,(F a).length<=100000) (hz:0<=z/\z<g.z) (hB:∀ p,CD s.txns z 255=some p->p.1.bytes.length<=100000) (t:List Ent) (ht:Fe g s F z=some t) :
  ACalls Tryz.prog false 92 [.bp 0 0,iv z] (GG g s d) fun r H=>r = .tp [.ag [BX t],Hr (CV g s F t z),iv 0]/\∃ d',Gd (A7 g) d' F/\H=GG g s d':=by
 obtain⟨g1,g2,g3,g4,g5⟩:=Az.1 hg;have hT:=Vr g s d F z hg hl ha h hF hz hB t ht;have htn:=TN hg ht;have hd1:IntKind.i64.wrap (g.d+1)=g.d+1:=wi (by omega);refine zU tys_ok Tryz.func92 rfl rfl (Af rfl) ?_;conv=>whnf
 refine ze9 [0,1,2,3,4] hT ?_;rintro _ _ ⟨rfl,d2,hd2,rfl⟩;conv=>whnf
 rw [hd1];refine zR (Nat × Dk) (fun x=>([(0, .bp 0 0),(1,iv z),(4, .bp 5 0),(5, .ow 6 x.1),(27,iv (g.d+1)),(28,iv (x.1:Nat))],GG g s x.2 ++ ([.box 145 [BX t], .row 22 1 ((Tj g s F t z x.1).map L_)]:List AB))) (fun x=>(x.1:Int)<=g.d+1/\Gd (A7 g) x.2 F) (fun x=>g.d.toNat+1 - x.1) (0,d2) ⟨by show ((0:Nat):Int)<=g.d+1;omega,hd2⟩
  ⟨_,_,zr _ _, [(5,22,1)],tA, [0,1,2,3,4,5,6],tA,tA,rfl,rfl,rfl,rfl,rfl⟩ ?_
 rintro⟨k,d1⟩ ⟨hk,hd1⟩;simp only at hk hd1;by_cases hkn:(k:Int)<g.d+1;rotate_left 1
 ·have ek:k=g.d.toNat+1:=by omega
  conv=>whnf
  rw [show decide ((k:Int)<g.d+1)=false from decide_eq_false hkn];conv=>whnf
  repeat' (refine zZ ?_;conv=>whnf)
  have hlen:(CV g s F t z).length=g.d.toNat+1:=by simp [CV,Tf]
  subst ek;exact⟨.tp [.ag [BX t], .ow 6 (CV g s F t z).length,iv 0], .tp [.ag [BX t],Hr (CV g s F t z),iv 0],GG g s d1,Ca (m:= [.ag [BX t], .ow 6 (CV g s F t z).length,iv 0]) ⟨ri,by rw [hlen];exact fun _ _ h=>h,ri,tv⟩,zH (zN (ConvF.sealTp 0 6 (es:=(CV g s F t z).map L_) (by rw [Aa];try rfl) (congrArg (fun L=>some (AB.row 22 1 (List.map L_ L))) (WV hg s F t z))) (zB 0 rfl (Ca (m:= [.ag [BX t],Hr (CV g s F t z),iv 0]) ⟨ri,FL (Aa _) rfl,ri,tv⟩))) (s:= [0,1,2,3,4]) tA,rfl,d1,hd1,rfl⟩
 ·conv=>whnf
  rw [show decide ((k:Int)<g.d+1)=true from decide_eq_true hkn];conv=>whnf
  repeat' (refine zZ ?_;conv=>whnf)
  by_cases hkd:(k:Int)=g.d
  ·rw [show (((k:Nat):Int) == g.d)=true by rw [hkd];simp];have e1:X4 g k=(-1):=by unfold X4;first | rw [if_pos hkd] | rw [if_neg hkd]
   have e2:(Tj g s F t z k).map L_ ++ [L_ (Gu g s F t z (-1))]=(Tj g s F t z (k+1)).map L_:=by rw [<-e1];simp [Tj,B8]
   have hf:=J4 s.txns z (-1) hl.n hl.i;have hlk:(Tj g s F t z k).length=k:=by simp [Tj]
   cases hL:CD s.txns z (-1) with
   | some p=>
    rw [hL] at hf;simp only at hf;have e3:Gu g s F t z (-1)=p.1.bytes:=by unfold Gu;rw [hL]
    rw [e3] at e2;conv=>whnf
    repeat' (refine zZ ?_;conv=>whnf)
    refine ze9 [4] hf ?_;rintro _ _ ⟨rfl,rfl⟩;conv=>whnf
    repeat' (refine zZ ?_;conv=>whnf)
    refine⟨rfl,?_⟩;refine⟨⟨by rw [Aa,hlk],by omega⟩,?_⟩;conv=>whnf
    exact⟨(k+1,d1),⟨by show ((k+1:Nat):Int)<=g.d+1;omega,hd1⟩,by show g.d.toNat+1 - (k+1)<g.d.toNat+1 - k;omega,zP (s:= [0,1,2,3,4,5,6]) ⟨⟨rfl,rfl,rfl,rfl,rfl,AP (by omega),tv⟩,⟨rfl,rfl,rfl,rfl,rfl,rfl,congrArg (fun es=>some (AB.row 22 1 es)) e2,tv⟩,rfl,rfl,rfl,rfl,rfl⟩⟩
   | none=>
    rw [hL] at hf;simp only at hf;have e3:Gu g s F t z (-1)=(DD ⟨0,F (D1 g s.a z (-1))⟩ (D1 g s.a z (-1)) (t.getD (Eu g (-1)).toNat ez)).getD []:=by unfold Gu;rw [hL]
    have hh:=MP g s d1 F z (-1) t hg ha hd1 hF hz (by omega) htn;rw [<-e3] at hh;conv=>whnf
    repeat' (refine zZ ?_;conv=>whnf)
    refine ze9 [4] hf ?_;rintro _ _ ⟨rfl,rfl⟩;conv=>whnf
    repeat' (refine zZ ?_;conv=>whnf)
    refine ze9 [0,1,2,3,4] hh ?_;rintro _ _ ⟨rfl,d3,hd3,rfl⟩;conv=>whnf
    repeat' (refine zZ ?_;conv=>whnf)
    refine⟨rfl,?_⟩;refine⟨⟨by rw [Aa,hlk],by omega⟩,?_⟩;conv=>whnf
    exact⟨(k+1,d3),⟨by show ((k+1:Nat):Int)<=g.d+1;omega,hd3⟩,by show g.d.toNat+1 - (k+1)<g.d.toNat+1 - k;omega,zP (s:= [0,1,2,3,4,5,6]) ⟨⟨rfl,rfl,rfl,rfl,rfl,AP (by omega),tv⟩,⟨rfl,rfl,rfl,rfl,rfl,rfl,congrArg (fun es=>some (AB.row 22 1 es)) e2,tv⟩,rfl,rfl,rfl,rfl,rfl⟩⟩
  ·rw [show (((k:Nat):Int) == g.d)=false from beq_eq_false_iff_ne.2 hkd];have e1:X4 g k=((k:Nat):Int):=by unfold X4;first | rw [if_pos hkd] | rw [if_neg hkd]
   have e2:(Tj g s F t z k).map L_ ++ [L_ (Gu g s F t z ((k:Nat):Int))]=(Tj g s F t z (k+1)).map L_:=by rw [<-e1];simp [Tj,B8]
   have hf:=J4 s.txns z ((k:Nat):Int) hl.n hl.i;have hlk:(Tj g s F t z k).length=k:=by simp [Tj]
   cases hL:CD s.txns z ((k:Nat):Int) with
   | some p=>
    rw [hL] at hf;simp only at hf;have e3:Gu g s F t z ((k:Nat):Int)=p.1.bytes:=by unfold Gu;rw [hL]
    rw [e3] at e2;conv=>whnf
    repeat' (refine zZ ?_;conv=>whnf)
    refine ze9 [4] hf ?_;rintro _ _ ⟨rfl,rfl⟩;conv=>whnf
    repeat' (refine zZ ?_;conv=>whnf)
    refine⟨rfl,?_⟩;refine⟨⟨by rw [Aa,hlk],by omega⟩,?_⟩;conv=>whnf
    exact⟨(k+1,d1),⟨by show ((k+1:Nat):Int)<=g.d+1;omega,hd1⟩,by show g.d.toNat+1 - (k+1)<g.d.toNat+1 - k;omega,zP (s:= [0,1,2,3,4,5,6]) ⟨⟨rfl,rfl,rfl,rfl,rfl,AP (by omega),tv⟩,⟨rfl,rfl,rfl,rfl,rfl,rfl,congrArg (fun es=>some (AB.row 22 1 es)) e2,tv⟩,rfl,rfl,rfl,rfl,rfl⟩⟩
   | none=>
    rw [hL] at hf;simp only at hf;have e3:Gu g s F t z ((k:Nat):Int)=(DD ⟨0,F (D1 g s.a z ((k:Nat):Int))⟩ (D1 g s.a z ((k:Nat):Int)) (t.getD (Eu g ((k:Nat):Int)).toNat ez)).getD []:=by unfold Gu;rw [hL]
    have hh:=MP g s d1 F z ((k:Nat):Int) t hg ha hd1 hF hz (by omega) htn;rw [<-e3] at hh;conv=>whnf
    repeat' (refine zZ ?_;conv=>whnf)
    refine ze9 [4] hf ?_;rintro _ _ ⟨rfl,rfl⟩;conv=>whnf
    repeat' (refine zZ ?_;conv=>whnf)
    refine ze9 [0,1,2,3,4] hh ?_;rintro _ _ ⟨rfl,d3,hd3,rfl⟩;conv=>whnf
    repeat' (refine zZ ?_;conv=>whnf)
    refine⟨rfl,?_⟩;refine⟨⟨by rw [Aa,hlk],by omega⟩,?_⟩;conv=>whnf
    exact⟨(k+1,d3),⟨by show ((k+1:Nat):Int)<=g.d+1;omega,hd3⟩,by show g.d.toNat+1 - (k+1)<g.d.toNat+1 - k;omega,zP (s:= [0,1,2,3,4,5,6]) ⟨⟨rfl,rfl,rfl,rfl,rfl,AP (by omega),tv⟩,⟨rfl,rfl,rfl,rfl,rfl,rfl,congrArg (fun es=>some (AB.row 22 1 es)) e2,tv⟩,rfl,rfl,rfl,rfl,rfl⟩⟩
theorem Vu (g:Geo) (s:Stt) (d:Dk) (x:Rc) (Q:Int) (hg:Bm g=true) (hx:EW g x=true) (hxl:x.img.bytes.length<=100000) (hQ:0<=Q/\Q<g.sl) (h:DkOk d) (hn:(d.cells.length:Int)=A7 g) (h1:(d.write (Bk g 0 Q) (BN g x 0 Q)).2≠8) (h2:((d.write (Bk g 0 Q) (BN g x 0 Q)).1.write (Bk g 1 Q) (BN g x 1 Q)).2≠8) :
  ACalls Tryz.prog false 76 [.bp 0 0, .ag (G_ x),iv Q] (GG g s d) fun r H=>r = .tp [.v (.bool (decide ((d.write (Bk g 0 Q) (BN g x 0 Q)).2=0) || decide (((d.write (Bk g 0 Q) (BN g x 0 Q)).1.write (Bk g 1 Q) (BN g x 1 Q)).2=0))),iv 0]/\H=GG g s ((d.write (Bk g 0 Q) (BN g x 0 Q)).1.write (Bk g 1 Q) (BN g x 1 Q)).1:=by
 have q0:=KY (g:=g) (.inl rfl) hQ (c:=0);have q1:=KY (g:=g) (.inr rfl) hQ (c:=1);have l0:=Lf g 0 Q;have l1:=Lf g 1 Q;have r0:=KT g x 0 Q hxl;have r1:=KT g x 1 Q hxl;rw [hg,q0] at l0;rw [hg,q1] at l1;rw [hx,q0] at r0;rw [hx,q1] at r1;have b0:=Fv hg hn (.inl rfl) hQ (c:=0);have b1:=Fv hg hn (.inr rfl) hQ (c:=1);have c0:=P0 g s d (Bk g 0 Q) (BN g x 0 Q) h (by omega) (Cy hx 0 Q);have hok:=h.write (a:=Bk g 0 Q) (b:=BN g x 0 Q) (by omega) (Cy hx 0 Q);have hlen:(d.write (Bk g 0 Q) (BN g x 0 Q)).1.cells.length=d.cells.length:=Q_ d _ _;have c1:=P0 g s (d.write (Bk g 0 Q) (BN g x 0 Q)).1 (Bk g 1 Q) (BN g x 1 Q) hok (by omega) (Cy hx 1 Q);rw [if_neg h1] at c0;rw [if_neg h2] at c1;generalize (d.write (Bk g 0 Q) (BN g x 0 Q)).1.write (Bk g 1 Q) (BN g x 1 Q)=W2 at c1 |-
 generalize d.write (Bk g 0 Q) (BN g x 0 Q)=W1 at c0 c1 |-
 generalize decide (W1.2=0)=p1 at c0 |-
 generalize decide (W2.2=0)=p2 at c1 |-
 simp only [Bool.and_self,if_true,if_pos] at l0 l1 r0 r1;cases p1 with
 | true=>
  refine zU tys_ok Tryz.func76 rfl rfl (Af rfl) ?_;conv=>whnf
  refine zA 3 ?_;conv=>whnf
  repeat' (refine zZ ?_;conv=>whnf)
  refine z_ l0 ?_;conv=>whnf
  repeat' (refine zZ ?_;conv=>whnf)
  apply zW (0) tys_ok mixed (.o [0,1,2,3,4,5,6,7,8,9,10,11,12] .fin) (by kernel_rfl);conv=>whnf
  refine z_ r0 ?_;conv=>whnf
  repeat' (refine zZ ?_;conv=>whnf)
  refine ze9 [0,1,2,3,4] c0 ?_;rintro _ _ ⟨rfl,rfl⟩;conv=>whnf
  repeat' (refine zZ ?_;conv=>whnf)
  refine z_ l1 ?_;conv=>whnf
  repeat' (refine zZ ?_;conv=>whnf)
  apply zW (0) tys_ok mixed (.o [0,1,2,3,4,5,6,7,8,9,10,11,12] .fin) (by kernel_rfl);conv=>whnf
  refine z_ r1 ?_;conv=>whnf
  repeat' (refine zZ ?_;conv=>whnf)
  refine ze9 [0,1,2,3,4] c1 ?_;rintro _ _ ⟨rfl,rfl⟩;conv=>whnf
  repeat' (refine zZ ?_;conv=>whnf)
  exact⟨_, .tp [.v (.bool true),iv 0],GG g s W2.1,fun _ _ h=>h,zP (s:= [0,1,2,3,4]) tA,rfl,rfl⟩
 | false=>
  refine zU tys_ok Tryz.func76 rfl rfl (Af rfl) ?_;conv=>whnf
  refine zA 3 ?_;conv=>whnf
  repeat' (refine zZ ?_;conv=>whnf)
  refine z_ l0 ?_;conv=>whnf
  repeat' (refine zZ ?_;conv=>whnf)
  apply zW (0) tys_ok mixed (.o [0,1,2,3,4,5,6,7,8,9,10,11,12] .fin) (by kernel_rfl);conv=>whnf
  refine z_ r0 ?_;conv=>whnf
  repeat' (refine zZ ?_;conv=>whnf)
  refine ze9 [0,1,2,3,4] c0 ?_;rintro _ _ ⟨rfl,rfl⟩;conv=>whnf
  repeat' (refine zZ ?_;conv=>whnf)
  refine z_ l1 ?_;conv=>whnf
  repeat' (refine zZ ?_;conv=>whnf)
  apply zW (0) tys_ok mixed (.o [0,1,2,3,4,5,6,7,8,9,10,11,12] .fin) (by kernel_rfl);conv=>whnf
  refine z_ r1 ?_;conv=>whnf
  repeat' (refine zZ ?_;conv=>whnf)
  refine ze9 [0,1,2,3,4] c1 ?_;rintro _ _ ⟨rfl,rfl⟩;conv=>whnf
  repeat' (refine zZ ?_;conv=>whnf)
  exact⟨_, .tp [.v (.bool p2),iv 0],GG g s W2.1,fun _ _ h=>h,zP (s:= [0,1,2,3,4]) tA,rfl,rfl⟩
theorem Xc (g:Geo) (s:Stt) (d:Dk) (lba:Int) (b:List UInt8) (hg:Bm g=true) (hl:s.txns.length<=1000) (hlba:0<=lba/\lba<g.z*g.d) (hb:b.length=8) :
  ACalls Tryz.prog false 72 [.bp 0 0,iA [lba],Hr [b]] (GG g s d) fun r H=>r = iv (if s.only then 15 else if 4 > g.sl - D_ s.txns then 21 else 0)/\H=GG g s d:=by
 obtain⟨g1,g2,g3,g4,g5⟩:=Az.1 hg;have hun:=GP s.txns s.txns.length;have hn:=S0 g lba hg hlba;have hu:=Mq s.txns (by omega);have tsub:SubL [.sl 4 s.txns.length fun i=>(s.txns.map Ia).getD i []] [DW s.txns]:=⟨C2 (f:=Ia) s.txns rfl rfl,tv⟩;refine zU tys_ok Tryz.func72 rfl rfl (Af rfl) ?_;conv=>whnf
 refine zA 2 ?_;conv=>whnf
 repeat' (refine zZ ?_;conv=>whnf)
 refine⟨in01,?_⟩;conv=>whnf
 repeat' (refine zZ ?_;conv=>whnf)
 refine zx tys_ok mixed [0,1,2,3,4,5,6,7,8,9,10,11,12,13,14,15,16,17,18] (by kernel_rfl) ?_;conv=>whnf
 rw [show ((([b].getD (Int.toNat 0) []).length:Int) != 8)=false from bne_eq_false_iff_eq.2 (by show ((b.length:Nat):Int)=8;omega)];conv=>whnf
 repeat' (refine zZ ?_;conv=>whnf)
 refine z_ hn ?_;conv=>whnf
 cases ho:s.only with
 | true=>
  exact⟨_,iv 15,GG g s d,fun _ _ h=>h,zP (s:= [0,1,2,3,4]) tA,rfl,rfl⟩
 | false=>
  conv=>whnf
  apply zJ tys_ok mixed (.o [0,1,2,3,4,5,6,7,8,9,10,11,12,13,14] .fin) [72,73,74,75,76,77,78,79,80,81,82,83,84,85,86] (by kernel_rfl)
  ·conv=>whnf
   (refine zk (args':= [.sl 4 s.txns.length fun i=>(s.txns.map Ia).getD i []]) (hu.subA tsub) ⟨(Aa _).symm,rfl⟩ ?_;rintro _ rfl;refine⟨rfl,?_⟩)
   exact tA
  conv=>whnf
  rw [wi (show -9223372036854775808<=g.sl - D_ s.txns/\g.sl - D_ s.txns<=9223372036854775807 by unfold D_;omega)];by_cases hfull:(4:Int) > g.sl - D_ s.txns
  ·rw [decide_eq_true hfull,if_pos hfull];exact⟨_,iv 21,GG g s d,fun _ _ h=>h,zP (s:= [0,1,2,3,4]) tA,rfl,rfl⟩
  ·rw [decide_eq_false hfull,if_neg hfull];exact⟨_,iv 0,GG g s d,fun _ _ h=>h,zP (s:= [0,1,2,3,4]) tA,rfl,rfl⟩
theorem QO (g:Geo) (s:Stt) (d:Dk) (F:Int->List UInt8) (lba S:Int) (b:List UInt8) (hg:Bm g=true) (hl:LogB s.txns) (ha:Bz g s.a=true) (h:Gd (A7 g) d F) (hF:∀ a,(F a).length<=100000) (hlba:0<=lba/\lba<g.z*g.d) (hb:b.length=8) (hS:0<=S/\S<=4294967295) (hB:∀ p,CD s.txns (lba.tdiv g.d) 255=some p->p.1.bytes.length<=100000) (t:List Ent) (ht:Fe g s F (lba.tdiv g.d)=some t) (h8:∀ x∈CV g s F t (lba.tdiv g.d),x.length=8) (hlo:∀ i,i<t.length->(t.getD i ez).lost=false) :
  ACalls Tryz.prog false 74 [.bp 0 0,iA [lba],Hr [b],iv S] (GG g s d) fun r H=>r = .tp [Ec (Hi g s F S lba b),iv 0]/\∃ d',Gd (A7 g) d' F/\H=GG g s d':=by
 obtain⟨g1,g2,g3,g4,g5⟩:=Az.1 hg;obtain⟨Z,hZ⟩:∃ Z,Z=lba.tdiv g.d:=⟨_,rfl⟩;obtain⟨A,hA⟩:∃ A,A=lba.tmod g.d:=⟨_,rfl⟩;have hZ2:0<=Z/\Z<g.z:=by
  rw [hZ,Bp hlba.1];exact⟨Df hlba.1 (by omega),Dd (by omega) hlba.2⟩
 have hA2:0<=A/\A<g.d:=by
  rw [hA];exact⟨B9 _ hlba.1,Bu _ (by omega)⟩
 have hdiv:IntKind.i64.wrap (([lba].getD (Int.toNat 0) 0).tdiv g.d)=Z:=by
  rw [hZ];exact wi (by have:=hZ2;rw [hZ] at this;show -9223372036854775808<=lba.tdiv g.d/\lba.tdiv g.d<=9223372036854775807;omega)
 have hL:Hi g s F S lba b=Cx Z (BE g t (CV g s F t Z) [A] [b] S) (EQ g t (CV g s F t Z) [A] [b] g.d.toNat) [A] [b]:=by
  rw [Hi,<-hZ,<-hA];rw [<-hZ] at ht;rw [ht]
 rw [hL];rw [<-hZ] at ht h8 hB;obtain⟨L,hL⟩:∃ L,L=Cx Z (BE g t (CV g s F t Z) [A] [b] S) (EQ g t (CV g s F t Z) [A] [b] g.d.toNat) [A] [b]:=⟨_,rfl⟩;rw [<-hL];have hL3:L.length=3:=by rw [hL,Hk];try rfl
 have htok:=Kx ht;have h01:∀ x∈ [b],x.length=8:=fun x hx=>by rw [A9] at hx;rw [hx];exact hb
 have hpl:(EQ g t (CV g s F t Z) [A] [b] g.d.toNat).length=8:=He (fun x hx=> .inr (h8 x hx)) h01 (show [A].length<= [b].length from Ag 1) _;have hwr:=Qb g t (CV g s F t Z) A b S hg htok (by simp [CV,Tf];omega) h8 hlo hA2 hb hS;have him:=Oo g Z (BE g t (CV g s F t Z) [A] [b] S) (EQ g t (CV g s F t Z) [A] [b] g.d.toNat) A b hg hZ2 (GN hg htok hS) hpl hA2 hb;rw [<-hL] at him;refine zU tys_ok Tryz.func74 rfl rfl (Af rfl) ?_;conv=>whnf
 refine zR (Nat × Dk × Bool) (fun x=>([(0, .bp 0 0),(1,iA [lba]),(2,Hr [b]),(3,iv S),(10,YZ L x.2.2),(27,iv g.z),(28,iv (x.1:Nat))],GG g s x.2.1)) (fun x=>(x.1:Int)<=g.z/\Gd (A7 g) x.2.1 F/\(x.2.2=true↔Z<(x.1:Int))) (fun x=>g.z.toNat - x.1) (0,d,false) ⟨by show ((0:Nat):Int)<=g.z;omega,h,⟨fun q=>(by cases q),fun q=>absurd q (by show ¬Z<((0:Nat):Int);omega)⟩⟩
  (zP (s:= [0,1,2,3,4]) tA) ?_
 rintro⟨k,d1,p⟩ ⟨hk,hd1,hpz⟩;simp only at hk hd1 hpz;by_cases hkz:(k:Int)<g.z;rotate_left 1
 ·obtain rfl:p=true:=hpz.2 (by omega);conv=>whnf
  rw [decide_eq_false hkz];conv=>whnf
  repeat' (refine zZ ?_;conv=>whnf)
  exact⟨_, .tp [Ec L,iv 0],GG g s d1,fun _ _ h=>h,zP (s:= [0,1,2,3,4]) tA,rfl,d1,hd1,rfl⟩
 by_cases he:(k:Int)=Z;rotate_left 1
 ·conv=>whnf
  rw [decide_eq_true hkz];conv=>whnf
  repeat' (refine zZ ?_;conv=>whnf)
  refine zA 2 ?_;conv=>whnf
  repeat' (refine zZ ?_;conv=>whnf)
  refine⟨in01,?_⟩;conv=>whnf
  repeat' (refine zZ ?_;conv=>whnf)
  refine⟨by omega,?_⟩;conv=>whnf
  rw [hdiv,show (Z == (k:Int))=false from beq_eq_false_iff_ne.2 fun q=>he q.symm];conv=>whnf
  repeat' (refine zZ ?_;conv=>whnf)
  cases p
  ·exact⟨(k+1,d1,false),⟨by show ((k+1:Nat):Int)<=g.z;omega,hd1,⟨fun q=>by have:=hpz.1 q;show Z<((k+1:Nat):Int);omega,fun q=>hpz.2 (by have:Z<((k+1:Nat):Int):=q;omega)⟩⟩,by show g.z.toNat - (k+1)<g.z.toNat - k;omega,zP (s:= [0,1,2,3,4]) ⟨⟨rfl,rfl,rfl,rfl,rfl,rfl,AP (by omega),tv⟩,tA,rfl,rfl,rfl,rfl,rfl⟩⟩
  ·exact⟨(k+1,d1,true),⟨by show ((k+1:Nat):Int)<=g.z;omega,hd1,⟨fun q=>by have:=hpz.1 q;show Z<((k+1:Nat):Int);omega,fun q=>hpz.2 (by have:Z<((k+1:Nat):Int):=q;omega)⟩⟩,by show g.z.toNat - (k+1)<g.z.toNat - k;omega,zP (s:= [0,1,2,3,4]) ⟨⟨rfl,rfl,rfl,rfl,rfl,rfl,AP (by omega),tv⟩,tA,rfl,rfl,rfl,rfl,rfl⟩⟩
 ·obtain rfl:p=false:=by
   cases p with
   | false=>rfl
   | true=>exact absurd (hpz.1 rfl) (by omega)
  have hgat:=Px g s d1 F Z hg hl ha hd1 hF hZ2 hB t ht;conv=>whnf
  rw [decide_eq_true hkz];conv=>whnf
  repeat' (refine zZ ?_;conv=>whnf)
  refine zR (Nat × Bool) (fun i=>([(0, .bp 0 0),(1,iA [lba]),(2,Hr [b]),(3,iv S),(10, .v (.slice none 0 0)),(11,iv (k:Nat)),(12,Z9 A i.2),(13,ZX b i.2),(27,iv g.z),(28,iv (k:Nat)),(31,iA [lba]),(32,iv 1),(33,iv (i.1:Nat))],GG g s d1)) (fun i=>i.1<=1/\(i.2=true↔i.1=1)) (fun i=>1 - i.1) (0,false) ⟨by show 0<=1;omega,by decide⟩
   (zP (s:= [0,1,2,3,4]) tA) ?_
  rintro⟨i,q⟩ ⟨hi,hq⟩;simp only at hi hq;by_cases hi1:i=1;rotate_left 1
  ·obtain rfl:i=0:=by omega
   obtain rfl:q=false:=by
    cases q with
    | false=>rfl
    | true=>exact absurd (hq.1 rfl) (by decide)
   have ixA:(0:Int)<=0/\(0:Int)<(([b]:List (List UInt8)).length:Nat):=in01;conv=>whnf
   repeat' (refine zZ ?_;conv=>whnf)
   refine⟨in01,?_⟩;conv=>whnf
   repeat' (refine zZ ?_;conv=>whnf)
   refine⟨by omega,?_⟩;conv=>whnf
   rw [show IntKind.i64.wrap (([lba].getD (((0:Nat):Int)).toNat 0).tdiv g.d)=Z from hdiv,show (Z == (k:Int))=true from beq_iff_eq.2 he.symm];conv=>whnf
   repeat' (refine zZ ?_;conv=>whnf)
   apply zW (16384) tys_ok mixed (.o [0,1,2,3,4,5,6,7,10,11,12,13] (.two 8 (.two 9 (.o [14,15,16,17,18] .fin) 14 (.two 9 (.o [15,16,17,18] .fin) 15 (.o [9,16,17,18] .fin))) 14 (.two 8 (.two 9 (.o [15,16,17,18] .fin) 15 (.o [9,16,17,18] .fin)) 15 (.o [8,9,16,17,18] .fin)))) (by kernel_rfl);conv=>whnf
   try (refine tI ?_;conv=>whnf)
   try (refine tI ?_;conv=>whnf)
   refine Ah ?_ ?_;refine Ah ?_ ?_;conv=>whnf
   try (refine tJ ?_;conv=>whnf)
   try (refine tK ?_;conv=>whnf)
   try (refine tJ ?_;conv=>whnf)
   try (refine tK ?_;conv=>whnf)
   rotate_left 1;refine Ah ?_ ?_;conv=>whnf
   try (refine tJ ?_;conv=>whnf)
   try (refine tK ?_;conv=>whnf)
   try (refine tJ ?_;conv=>whnf)
   try (refine tK ?_;conv=>whnf)
   rotate_left 1;conv=>whnf
   try (refine tJ ?_;conv=>whnf)
   try (refine tK ?_;conv=>whnf)
   try (refine tJ ?_;conv=>whnf)
   try (refine tK ?_;conv=>whnf)
   rotate_left 1;refine Ah ?_ ?_;refine Ah ?_ ?_;conv=>whnf
   try (refine tJ ?_;conv=>whnf)
   try (refine tK ?_;conv=>whnf)
   try (refine tJ ?_;conv=>whnf)
   try (refine tK ?_;conv=>whnf)
   rotate_left 1;conv=>whnf
   try (refine tJ ?_;conv=>whnf)
   try (refine tK ?_;conv=>whnf)
   try (refine tJ ?_;conv=>whnf)
   try (refine tK ?_;conv=>whnf)
   rotate_left 1;conv=>whnf
   try (refine tJ ?_;conv=>whnf)
   try (refine tK ?_;conv=>whnf)
   try (refine tJ ?_;conv=>whnf)
   try (refine tK ?_;conv=>whnf)
   rotate_left 1;all_goals
    conv=>whnf
    first
    | exact⟨(1,true),⟨by show 1<=1;omega,by decide⟩,by show 1 - 1<1 - 0;omega,zH (zN (zI 12 6 rfl rfl) (zN (zB 12 rfl (FX (L:= [A]) rfl (by rw [hA];rfl))) (zN (zI 13 7 rfl rfl) (zB 13 rfl (FL (L:= [b]) rfl rfl))))) (s:= [0,1,2,3,4]) tA⟩
    | exact⟨(1,true),⟨by show 1<=1;omega,by decide⟩,by show 1 - 1<1 - 0;omega,zH (zN (zI 12 6 rfl rfl) (zN (zB 12 rfl (FX (L:= [A]) rfl (by rw [hA];rfl))) (zN (zI 13 8 rfl rfl) (zB 13 rfl (FL (L:= [b]) rfl rfl))))) (s:= [0,1,2,3,4]) tA⟩
    | exact⟨(1,true),⟨by show 1<=1;omega,by decide⟩,by show 1 - 1<1 - 0;omega,zH (zN (zI 12 7 rfl rfl) (zN (zB 12 rfl (FX (L:= [A]) rfl (by rw [hA];rfl))) (zN (zI 13 6 rfl rfl) (zB 13 rfl (FL (L:= [b]) rfl rfl))))) (s:= [0,1,2,3,4]) tA⟩
    | exact⟨(1,true),⟨by show 1<=1;omega,by decide⟩,by show 1 - 1<1 - 0;omega,zH (zN (zI 12 7 rfl rfl) (zN (zB 12 rfl (FX (L:= [A]) rfl (by rw [hA];rfl))) (zN (zI 13 8 rfl rfl) (zB 13 rfl (FL (L:= [b]) rfl rfl))))) (s:= [0,1,2,3,4]) tA⟩
    | exact⟨(1,true),⟨by show 1<=1;omega,by decide⟩,by show 1 - 1<1 - 0;omega,zH (zN (zI 12 8 rfl rfl) (zN (zB 12 rfl (FX (L:= [A]) rfl (by rw [hA];rfl))) (zN (zI 13 6 rfl rfl) (zB 13 rfl (FL (L:= [b]) rfl rfl))))) (s:= [0,1,2,3,4]) tA⟩
    | exact⟨(1,true),⟨by show 1<=1;omega,by decide⟩,by show 1 - 1<1 - 0;omega,zH (zN (zI 12 8 rfl rfl) (zN (zB 12 rfl (FX (L:= [A]) rfl (by rw [hA];rfl))) (zN (zI 13 7 rfl rfl) (zB 13 rfl (FL (L:= [b]) rfl rfl))))) (s:= [0,1,2,3,4]) tA⟩
    | fail
  subst hi1;obtain rfl:q=true:=hq.2 rfl;conv=>whnf
  repeat' (refine zZ ?_;conv=>whnf)
  rw [he];refine ze9 [0,1,2,3,4] hgat ?_;rintro _ _ ⟨rfl,d2,hd2,rfl⟩;conv=>whnf
  repeat' (refine zZ ?_;conv=>whnf)
  apply zW (0) tys_ok mixed (.o [0,1,2,3,4,5,6,7,8] (.two 9 (.o [10,11,12,13,14,15,16,17] .fin) 14 (.o [9,10,11,12,13,15,16,17] .fin))) (by kernel_rfl);refine Ah ?_ ?_;conv=>whnf
  refine z_ hwr ?_;conv=>whnf
  try (refine tS ?_;conv=>whnf)
  rotate_left 1;conv=>whnf
  refine z_ hwr ?_;conv=>whnf
  try (refine tS ?_;conv=>whnf)
  rotate_left 1;all_goals
   conv=>whnf
   repeat' (refine zZ ?_;conv=>whnf)
   apply zW (0) tys_ok mixed (.o [0,1,2,3,4,5,6,7,8,9,10,11,12,13,14] .fin) (by kernel_rfl);conv=>whnf
   refine z_ him ?_;conv=>whnf
   all_goals
    conv=>whnf
    repeat' (refine zZ ?_;conv=>whnf)
    refine⟨by omega,?_⟩;conv=>whnf
    exact⟨(k+1,d2,true),⟨by show ((k+1:Nat):Int)<=g.z;omega,hd2,⟨fun _=>by show Z<((k+1:Nat):Int);omega,fun _=>rfl⟩⟩,by show g.z.toNat - (k+1)<g.z.toNat - k;omega,zH (zN (zI 10 7 (congrArg (AV.ow 7) (by rw [Aa,CE])) rfl) (zB 10 rfl (Wh rfl (by rw [Aa,CE])))) (s:= [0,1,2,3,4]) ⟨⟨rfl,rfl,rfl,rfl,rfl,rfl,by rw [<-he];exact AP (by omega),tv⟩,tA,rfl,rfl,rfl,rfl,rfl⟩⟩
theorem VolV.far {g:Geo} (hg:Bm g=true) {a:An} (ha:Bz g a=true) {l:List Tx} {F F':Int->List UInt8} {V:Int->Int->List UInt8} (h:VolV g a l F V) (e:∀ q,g.an+2*g.sl<=q->F' q=F q):VolV g a l F' V:=by
 obtain⟨g1,g2,g3,g4,g5⟩:=Az.1 hg;intro z h0 h1;obtain⟨t,hz⟩:=h z h0 h1;refine⟨t,⟨?_,hz.len,hz.ent,fun w hw hw2=>?_,hz.par⟩⟩
 ·have:=hz.tab;unfold Fe at this |-
  rw [e (Ba g z 0) (by unfold Ba;omega),e (Ba g z 1) (by unfold Ba;omega)];omega
 ·have:=hz.val w hw hw2;obtain⟨sl,e1,e2⟩:=LT hg ha ⟨h0,h1⟩ (w:=w) ⟨hw,hw2⟩;have hsl:=Ky hg ⟨h0,h1⟩ e2
  grind
theorem RO {g:Geo} (hg:Bm g=true) {a:An} {l:List Tx} {F:Int->List UInt8} {lba:Int} {b:List UInt8} (himg:∀ t∈l,∀ x∈t.images,BV g x=true) (hs:0<=a.seq+(l.length:Int)/\a.seq+(l.length:Int)<=4294967295) (hlba:0<=lba/\lba<g.z*g.d) (hb:b.length=8) (ht:(Fe g (Bf a l) F (lba.tdiv g.d)).isSome=true):(FK g a l F lba b).images.length=3/\(∀ x∈(FK g a l F lba b).images,BV g x=true)/\OneTab (FK g a l F lba b).images:=by
 obtain⟨g1,g2,g3,g4,g5⟩:=Az.1 hg;obtain⟨t,ht⟩:=C6.1 ht;have ei:(FK g a l F lba b).images=Cx (lba.tdiv g.d) (BE g t (CV g (Bf a l) F t (lba.tdiv g.d)) [lba.tmod g.d] [b] (a.seq+(l.length:Int))) (EQ g t (CV g (Bf a l) F t (lba.tdiv g.d)) [lba.tmod g.d] [b] g.d.toNat) [lba.tmod g.d] [b]:=by
  show Hi g (Bf a l) F _ lba b=_;unfold Hi;rw [ht]
 have htok:=Kx ht;obtain⟨Z,hZ⟩:∃ Z,Z=lba.tdiv g.d:=⟨_,rfl⟩;obtain⟨A,hA⟩:∃ A,A=lba.tmod g.d:=⟨_,rfl⟩;have hZ2:0<=Z/\Z<g.z:=by
  rw [hZ,Bp hlba.1];exact⟨Df hlba.1 (by omega),Dd (by omega) hlba.2⟩
 have hA2:0<=A/\A<g.d:=by
  rw [hA];exact⟨B9 _ hlba.1,Bu _ (by omega)⟩
 rw [<-hZ,<-hA] at ei;have hadlen:∀ x∈CV g (Bf a l) F t Z,x.length=0\/x.length=8:=fun x hx=>by
  have himg:∀ t∈(Bf a l).txns,∀ x∈t.images,BV g x=true:=himg;rcases Ay.1 hx with q | q
  ·obtain⟨i,hi,rfl⟩:=AL.1 q;exact IR himg (by have:=AJ.1 hi;omega)
  ·rw [A9] at q;rw [q];exact IR himg (by decide)
 have h01:∀ x∈ [b],x.length=8:=fun x hx=>by rw [A9] at hx;rw [hx];exact hb
 have hA3:∀ x∈ [A],0<=x/\x<g.d:=fun x hx=>by rw [A9] at hx;rw [hx];exact hA2
 rw [ei];refine⟨by rw [Hk];try rfl,fun x hx=>?_,?_⟩
 ·exact(Q6 hg hZ2 (GN hg htok (by omega)) (He hadlen h01 (show [A].length<= [b].length from Ag 1) _) hA3 h01 (Ag 1) x hx).1
 ·exact OW (l:= []) hg List.Pairwise.nil (fun x hx=>by cases hx) hA3
def Zw (g:Geo) (M:Md):Prop:=(M.m.length:Int)=g.z*g.d/\∃ V,VolV g M.a M.l M.F V/\∀ z w,0<=z->z<g.z->0<=w->w<g.d->M.m.getD (z*g.d+w).toNat []=V z w
theorem ZH {g:Geo} (hg:Bm g=true) {z w:Int} (h0:0<=z) (h1:z<g.z) (h2:0<=w) (h3:w<g.d):0<=z*g.d+w/\z*g.d+w<g.z*g.d:=by
 obtain⟨g1,g2,g3,g4,g5⟩:=Az.1 hg;have e1:0<=z*g.d:=C_ h0 (by omega);have e2:(z+1)*g.d<=g.z*g.d:=Cb (by omega) (by omega)
 grind
theorem Zf {g:Geo} (hg:Bm g=true) {K:Int} (hK:K<=4294967294) {D:Dk} {M M':Md} {lba:Int} {b:List UInt8} (hlba:0<=lba/\lba<g.z*g.d) (hb:b.length=8) (hv:Vol g K D (Bf M.a M.l)) (h:Zw g M) (hc:ZZ g M lba b M'):Zw g M'/\Vol g (K+1) D (Bf M'.a M'.l):=by
 obtain⟨g1,g2,g3,g4,g5⟩:=Az.1 hg;rcases hc with ⟨hu,ht,W,hW,rfl⟩ | ⟨-,rfl⟩
 rotate_left 1
 ·exact⟨h,⟨hv.gd,hv.an,hv.ring,hv.rest,by have:=hv.gen;omega,by have:=hv.seq;omega,hv.one⟩⟩
 obtain⟨a,l,F,m⟩:=M;obtain⟨hm,V,hV,hr⟩:=h;simp only at hu ht hW hm hV hr;have ha:Bz g a=true:=hv.an;obtain⟨a1,a2,a3,a4⟩:=Ji ha;have hseq:a.seq+l.length<=K:=hv.seq;have himg:∀ t∈l,∀ x∈t.images,BV g x=true:=fun t ht=>Av.1 (Fo hv.ring t ht).1
 obtain⟨c1,c2,c3⟩:=RO hg (F:=F) himg (by omega) hlba hb ht;refine⟨⟨?_,Sh V (FK g a l F lba b),?_,fun z w h0 h1 h2 h3=>?_⟩,?_⟩
 ·grind
 ·have q:=VG hg (x:=FK g a l F lba b) (by show 0<=a.seq+(l.length:Int)/\a.seq+(l.length:Int)<=4294967295;omega) himg hV (Y0 hg hlba hb ht);exact q.far hg ha fun p hp=>Of (by omega) _ _ rfl fun w hw e=>by have:=(hW w hw).1;omega
 ·rw [Yz hg hlba ht V ⟨h2,h3⟩];show (m.set lba.toNat b).getD (z*g.d+w).toNat []=_;have hz:=ZH hg h0 h1 h2 h3;have hdm:g.d*lba.tdiv g.d+lba.tmod g.d=lba:=Int.mul_tdiv_add_tmod lba g.d;rw [Ab,List.getElem?_set];by_cases e:z=lba.tdiv g.d/\w=lba.tmod g.d
  ·rw [if_pos e,if_pos (by rw [e.1,e.2,Int.mul_comm,hdm]),if_pos (by omega)];try rfl
  ·rw [if_neg e,if_neg fun q=>e ?_,<-Ab]
   ·grind
   ·have q2:lba=z*g.d+w:=by omega
    have e1:lba.tdiv g.d=lba / g.d:=Bp hlba.1;have e2:lba / g.d=z:=by
     rw [q2,Int.add_comm,Int.add_mul_ediv_right _ _ (by omega),Int.ediv_eq_zero_of_lt h2 h3,Int.zero_add]
    grind
 ·exact hv.add hg hK (d':=D) hv.gd (x:=FK g a l F lba b) rfl rfl (by show (2:Int)<=4;omega) (by show (4:Int)<=g.sl - D_ l;omega) (by show (4:Int)=_;rw [c1];try rfl) c2 c3
theorem Pm {l:List Tx} {z w:Int} {p:Img × Int} (h:CD l z w=some p):∃ t∈l,p.1∈t.images:=by
 have e:CD l z w=_:=Jd l z w l.length;rw [e] at h;cases hA:FE l z w l.length with
 | none=>rw [hA] at h;cases h
 | some q=>
  obtain⟨k,i⟩:=q;obtain⟨h1,h2⟩:=Ho hA;rw [hA] at h;obtain rfl:=Option.some.inj h;exact⟨_,AC h1,AC h2⟩
theorem VT (g:Geo) (seq epoch:Int) (l:List Img) (hl:l.length<=100000) (hb:∀ x∈l,x.bytes.length<=100000):Fn Tryz.prog 75 [.ag (Bi g),iv seq,iv epoch,Ec l] fun r=>r = .tp [Ro (if Kq g seq epoch l=0 then EZ seq epoch l else []),iv (Kq g seq epoch l)]:=by
 have nilr:∀ c v n,n≠0->Kq g seq epoch l=n->Rd (.tp [.v (.slice none 0 0),iv n]) c v->Rd (.tp [Ro (if Kq g seq epoch l=0 then EZ seq epoch l else []),iv (Kq g seq epoch l)]) c v:=by
  intro c v n hn he h;rw [if_neg (by rw [he];exact hn),he];simp only [Rd,RdL] at h |-
  obtain⟨xs,rfl,a,_,rfl,h1,h2⟩:=h;exact⟨_,rfl,a,_,rfl,Bl _ _ _ _ (by simpa [Rd] using h1),h2⟩
 obtain⟨z,d,sp,sl,an⟩:=g;refine zT Tryz.func75 rfl ?_;conv=>whnf
 repeat' (first | (refine Aj (fun h=>?_) (fun h=>?_) <;> (try simp at h) <;> conv=>whnf) | (refine z_ (Cr z d sp sl an) ?_;conv=>whnf) | (refine z_ (Il _ _ _) ?_;conv=>whnf))
 iterate 3 (exact⟨_,fun c v h=>nilr c v 1 (by decide) (by simp [Kq, *]) h,rfl⟩)
 rename_i h1 h2;have ht0:(Bm ⟨z,d,sp,sl,an⟩&&(Dq seq 0 4294967295&&Dq epoch 0 4294967295))=true:=by simp [*]
 clear h h1 h2;refine zQ Nat (fun k=>([(1,iv seq),(2,iv epoch),(3,Ec l),(4, .bp 0 0),(29,Ec l),(30,iv l.length),(31,iv k)], [.box 24 (Bi ⟨z,d,sp,sl,an⟩)])) (fun k=>k<=l.length/\∀ i,i<k->BV ⟨z,d,sp,sl,an⟩ (l.getD i ⟨0,0, []⟩)=true) (fun k=>l.length - k) 0 ⟨Ak _,by simp⟩ ⟨[],tv,tA,tA,rfl,rfl,rfl⟩ ?_;rintro k ⟨hk,hI⟩;conv=>whnf
 refine Aj (fun h2=>?_) (fun h2=>?_) <;> simp at h2 <;> conv=>whnf
 ·refine⟨by first | omega | (refine⟨rfl,?_,?_⟩ <;> first | omega | (simp only [Aa];done) | (simp only [Aa];omega)) | (simp only [Aa];omega),?_⟩;conv=>whnf
  refine z7 (JB ⟨z,d,sp,sl,an⟩ (l.getD k ⟨0,0, []⟩) (hb _ (AC h2))) rfl ?_;rintro _ rfl;conv=>whnf
  refine Aj (fun h3=>?_) (fun h3=>?_) <;> conv=>whnf
  ·refine⟨_,fun c v h=>nilr c v 1 (by decide) ?_ h,rfl⟩;have:l.all (BV ⟨z,d,sp,sl,an⟩)=false:=by
    rw [<-CQ];intro hh;have:=Av.1 hh _ (AC (d:=⟨0,0, []⟩) h2);rw [this] at h3;simp at h3
   simp [Kq,ht0,this]
  ·refine⟨k+1,⟨by omega,fun i hi=>?_⟩,by omega, [],tv,⟨rfl,rfl,rfl,rfl,rfl,rfl,AP (by omega),tv⟩,tA,rfl,rfl,rfl⟩;rcases BR i k with h | h
   ·exact hI i h
   ·obtain rfl:i=k:=by omega
    cases hq:BV ⟨z,d,sp,sl,an⟩ (l.getD i ⟨0,0, []⟩) with
    | true=>rfl
    | false=>rw [hq] at h3;simp at h3
 ·have ht1:l.all (BV ⟨z,d,sp,sl,an⟩)=true:=by
   rw [Av];intro x hx;obtain⟨i,hi,rfl⟩:=List.getElem_of_mem hx;have:=hI i (by omega);rwa [Ab,Ae hi] at this
  clear hI;refine z_ (Il _ _ _) ?_;conv=>whnf
  refine Aj (fun h3=>?_) (fun h3=>?_) <;> simp at h3 <;> conv=>whnf
  ·exact⟨_,fun c v h=>nilr c v 2 (by decide) (by simp [Kq,ht0,ht1,h3]) h,rfl⟩
  have ht2:Kq ⟨z,d,sp,sl,an⟩ seq epoch l=0:=by simp [Kq,ht0,ht1,h3]
  clear nilr;rw [wi (by omega)];refine zQ Nat (fun k=>([(1,iv seq),(2,iv epoch),(13,iv (l.length+1)),(12, .ow 1 k),(47,Ec l),(48,iv l.length),(49,iv k)], [.dead, .row 141 8 ((Iw seq epoch (l.length+1) k l).map G_)])) (fun k=>k<=l.length) (fun k=>l.length - k) 0 (Ak _) ⟨[(12,141,8)],tA,tA,tA,rfl,rfl,rfl⟩ ?_;rintro k hk;have hlk:=IV seq epoch (l.length+1) k l;conv=>whnf
  refine Aj (fun h2=>?_) (fun h2=>?_) <;> simp at h2 <;> conv=>whnf
  ·refine⟨by first | omega | (refine⟨rfl,?_,?_⟩ <;> first | omega | (simp only [Aa];done) | (simp only [Aa];omega)) | (simp only [Aa];omega),?_⟩;conv=>whnf
   refine z7 (BP (l.getD k ⟨0,0, []⟩).bytes (by have:=hb _ (AC (d:=⟨0,0, []⟩) h2);omega)) rfl ?_;rintro _ rfl;refine⟨rfl,?_⟩;conv=>whnf
   refine⟨⟨by rw [Aa,hlk];omega,by omega⟩,?_⟩;refine⟨k+1,by omega,by omega, [],tv,⟨rfl,rfl,rfl,rfl,rfl,rfl,AP (by omega),tv⟩,⟨YL ?_,tv⟩,rfl,rfl,rfl⟩;rw [Q3 _ _ _ h2];try rfl
  ·obtain rfl:k=l.length:=by omega
   rw [wi (by omega),show (l.length:Int)+1 - 1=l.length by omega];refine⟨rfl,?_⟩;conv=>whnf
   refine⟨⟨by rw [Aa,hlk];omega,by omega⟩,?_⟩;conv=>whnf
   refine⟨by rw [Ai,Aa,hlk];simp,?_⟩;refine⟨_,fun c v h=>?_,rfl⟩;rw [ht2,if_pos rfl];simp only [Rd,RdL] at h |-
   obtain⟨xs,rfl,a,_,rfl,h1,h2⟩:=h;exact⟨_,rfl,a,_,rfl,Rd.sub (sz:=8) (KS seq epoch l).symm (Uf seq epoch l) (by simp only [Rd];exact h1),h2⟩
@[reducible] def delX (lba:Int):AV:= .fn 79 [.rp [iA [lba]]]
theorem WM (lba:Int):Fn Tryz.prog 152 [iA [],delX lba] fun r=>r = iv (-1):=by
 refine zT Tryz.func152 rfl ?_;conv=>whnf
 refine zA 1 ?_;conv=>whnf
 repeat' (refine zZ ?_;conv=>whnf)
 exact⟨_,ri,rfl⟩
theorem Vp (lba:Int):Fn Tryz.prog 78 [iA [],delX lba] fun r=>r=iA []:=by
 have h1:=WM lba;refine zT Tryz.func78 rfl ?_;conv=>whnf
 refine z_ h1 ?_;exact⟨_,ri,rfl⟩
theorem XN {g:Geo} {seq epoch:Int} {l:List Img} (hg:Bm g=true) (h1:Dq seq 0 4294967295=true) (h2:Dq epoch 0 4294967295=true) (h3:l.all (BV g)=true) (h4:Dq l.length 1 29=true):Kq g seq epoch l=0:=by
 simp [Kq,hg,h1,h2,h3,h4]
theorem T1 (g:Geo) (s:Stt) (d:Dk) (F:Int->List UInt8) (W:List Wr) (x:Rc) (Q:Int) (hg:Bm g=true) (hx:EW g x=true) (hxl:x.img.bytes.length<=100000) (hQ:0<=Q/\Q<g.sl) (h:Gw (A7 g) d F W) (hW:W.length<1900) :
  ACalls Tryz.prog false 76 [.bp 0 0, .ag (G_ x),iv Q] (GG g s d) fun r H=>r = .tp [.v (.bool true),iv 0]/\∃ d',Gw (A7 g) d' F ((W ++ [⟨Bk g 0 Q,BN g x 0 Q⟩]) ++ [⟨Bk g 1 Q,BN g x 1 Q⟩])/\H=GG g s d':=by
 have b0:=Fv hg h.len (.inl rfl) hQ (c:=0);have b1:=Fv hg h.len (.inr rfl) hQ (c:=1);have hl:=h.len;obtain⟨e0,w0⟩:=h.write (a:=Bk g 0 Q) (b:=BN g x 0 Q) (by omega) b0.1 (by omega) (Cy hx 0 Q);obtain⟨e1,w1⟩:=w0.write (a:=Bk g 1 Q) (b:=BN g x 1 Q) (by simp;omega) b1.1 (by omega) (Cy hx 1 Q);have hc:=Vu g s d x Q hg hx hxl hQ h.ok h.len (by rw [e0];decide) (by rw [e1];decide);rw [e0] at hc;exact hc.mono fun r H ⟨h1,h2⟩=>⟨h1,_,w1,h2⟩
theorem XP {H:List AB} {t:TypeId} {g:Geo} {s:Stt} {T:List Tx} {es:List (List AV)} {n:Nat} (hj:H[0]? = some (.box t (Xg g (.bp 1 0) (.ow 4 n) (iA s.lost) s))) (hk:H[4]? = some (.row 170 4 es)) (hn:n=T.length) (he:es=T.map Ia):ConvH H ((H.set 4 .dead).set 0 (.box t (Y2 g (.bp 1 0) { s with txns:=T }))):=by
 subst hn he;have h4:4<H.length:=(Aq.1 hk).1;have e:=zm (H:=H) 0 4 (cs2:=Xg g (.bp 1 0) (.sl 4 (T.map Ia).length fun i=>(T.map Ia).getD i []) (iA s.lost) s) hj hk (by simp only [A6,Bx,Ni (Aa _).symm];rfl);have q:=zz (H:=(H.set 4 .dead).set 0 (.box t (Xg g (.bp 1 0) (.sl 4 (T.map Ia).length fun i=>(T.map Ia).getD i []) (iA s.lost) s))) 0 (t:=t) (cs':=Y2 g (.bp 1 0) { s with txns:=T }) (A0 (by rw [Bg];omega)) ⟨ri,ri,ri,ri,ri,ri,ri,ri,ri,ri,ri,ri,ri,C2 (f:=Ia) T (Aa _) rfl,ri,ri,ri,ri,ri,ri,tv⟩;rw [List.set_set] at q;exact e.trans q
@[reducible] def ZP (g:Geo) (s:Stt) (d:Dk):List AB:= [.box 99 (Y2 g (.bp 1 0) s), .box 119 (K7 (.ow 2 d.cells.length) (.ow 5 d.cache.length) d.reqs d.left), .row 68 3 (d.cells.map Cg), .dead, .dead, .row 152 2 (d.cache.map GI)]
@[reducible] def conH (g:Geo) (s:Stt) (d:Dk) (lba:Int):List AB:=GG g s d ++ [.box 30 [iA [lba]]]
theorem Yy (g:Geo) (a:An) (l:List Tx) (d:Dk) (F:Int->List UInt8) (K lba:Int) (b:List UInt8) (V:Int->Int->List UInt8) (hg:Bm g=true) (hv:Vol g K d (Bf a l)) (hK:K<=4294967294) (h:Gd (A7 g) d F) (hF:∀ a,(F a).length<=100000) (hV:VolV g a l F V) (hlba:0<=lba/\lba<g.z*g.d) (hb:b.length=8) (hroom:4<=g.sl - D_ l) :
  ACalls Tryz.prog false 36 [.bp 0 0,iA [lba],Hr [b]] (GG g (Bf a l) d) fun r H=>r = iv 0/\∃ d' W,Gd (A7 g) d' (Mj F W)/\(∀ w∈W,(g.an<=w.addr/\w.addr<g.an+2*g.sl/\BZ w.bytes=w.addr)/\w.bytes.length<=200)/\Vol g (K+1) d' (Bf a (l ++ [FK g a l F lba b]))/\H=ZP g (Bf a (l ++ [FK g a l F lba b])) d':=by
 obtain⟨g1,g2,g3,g4,g5⟩:=Az.1 hg;have hsm:=hv.sm hg;have ha:Bz g a=true:=hv.an;have hring:CJ g l a.seq a.pos g.sl=true:=hv.ring;have hl30:l.length<=30:=hsm.t.1;have hlb:LogB (Bf a l).txns:=⟨by have:=hsm.t.1;omega,fun t ht=>⟨by have:=(hsm.t.2 t ht).1;omega,fun x hx=>by have:=(hsm.t.2 t ht).2 x hx;omega⟩⟩;have hun:=GP l l.length;obtain⟨a1,a2,a3,a4⟩:=Ji ha;have hseq:a.seq+l.length<=K:=hv.seq;have hZ2:0<=lba.tdiv g.d/\lba.tdiv g.d<g.z:=by
  rw [Bp hlba.1];exact⟨Df hlba.1 (by omega),Dd (by omega) hlba.2⟩
 obtain⟨t,hz⟩:=hV _ hZ2.1 hZ2.2;have htab:Fe g (Bf a l) F (lba.tdiv g.d)=some t:=hz.tab;have hB:∀ p,CD (Bf a l).txns (lba.tdiv g.d) 255=some p->p.1.bytes.length<=100000:=fun p hp=>by
  obtain⟨t,ht,hx⟩:=Pm hp;have:=(hsm.t.2 t ht).2 _ hx;omega
 have h8:∀ x∈CV g (Bf a l) F t (lba.tdiv g.d),x.length=8:=fun x hx=>by
  rcases Ay.1 hx with q | q
  ·obtain⟨i,hi,rfl⟩:=AL.1 q;have:=AJ.1 hi;rw [hz.one ⟨by omega,by omega⟩];exact hz.len _ (by omega) (by omega)
  ·rw [A9] at q;rw [q,hz.one ⟨by omega,by omega⟩];exact hz.len _ (by omega) (by omega)
 have htok:=Kx htab;have htl:=IS htok;have hlo:∀ i,i<t.length->(t.getD i ez).lost=false:=fun i hi=>by
  by_cases hd:(i:Int)<g.d
  ·have:=(hz.ent (i:Nat) (by omega) hd).1;rwa [show (Eu g (i:Nat)).toNat=i by unfold Eu;rw [if_neg (by omega)];omega] at this
  ·have:=(hz.ent (-1) (by omega) (by omega)).1;rwa [show (Eu g (-1)).toNat=i by unfold Eu;rw [if_pos rfl];omega] at this
 have tsub:SubL [.ag (Bi g), .ag (EN a), .sl 4 l.length fun i=>(l.map Ia).getD i []] [.ag (Bi g), .ag (EN a),DW l]:=⟨ri,ri,C2 (f:=Ia) l rfl rfl,tv⟩;have hmay:=Xc g (Bf a l) d lba b hg (by show l.length<=1000;omega) hlba hb;rw [show (Bf a l).only=false from rfl,if_neg (by decide),show (Bf a l).txns=l from rfl,if_neg (by omega)] at hmay;have hnext:=S2 g a l hg ha hring (by omega) (fun t ht=>⟨by have:=(hsm.t.2 t ht).1;omega,fun x hx=>by have:=(hsm.t.2 t ht).2 x hx;omega⟩) (by have:=(LP hg ha).1;omega) (by have:=(LP hg ha).2.1;omega) (by omega);obtain⟨S,hS⟩:∃ S,S=a.seq+(l.length:Int):=⟨_,rfl⟩;obtain⟨P,hP⟩:∃ P,P=(a.pos+D_ l).tmod g.sl:=⟨_,rfl⟩;have himg:=QO g (Bf a l) d F lba S b hg hlb ha h hF hlba hb (by omega) hB t htab h8 hlo;rw [<-hS,<-hP] at hnext;obtain⟨L,hL⟩:∃ L,L=Hi g (Bf a l) F S lba b:=⟨_,rfl⟩;rw [<-hL] at himg;have hcm:FK g a l F lba b=⟨S,P,4,L⟩:=by rw [hL,hS,hP];try rfl
 obtain⟨hL3,hLok,hL1⟩:=RO hg (a:=a) (l:=l) (F:=F) (fun t ht=>Av.1 (Fo hring t ht).1) (by omega) hlba hb (by rw [htab];try rfl);rw [hcm] at hL3 hLok hL1 |-
 simp only at hL3 hLok hL1;have hep:0<=a.epoch/\a.epoch<=4294967295:=by
  have:=ha;simp only [Bz,Bb,BT,BD,Ad,decide_eq_true_eq,AK] at this;omega
 have hLb:∀ x∈L,x.bytes.length<=45:=fun x hx=>JA hg (hLok x hx)
 have hrec:=VT g S a.epoch L (by omega) fun x hx=>by have:=hLb x hx;omega
 have hS1:Dq S 0 4294967295=true:=AK.2 (by omega);rw [XN hg hS1 (AK.2 hep) (Av.2 hLok) (by rw [hL3];decide),if_pos rfl] at hrec;obtain⟨R,hR⟩:∃ R,R=EZ S a.epoch L:=⟨_,rfl⟩;have hRl:R.length=4:=by rw [hR,KS,hL3]
 have hRok:∀ k:Nat,k<4->EW g (R.getD k rc0)=true/\(R.getD k rc0).img.bytes.length<=100000:=fun k hk=>by
  rw [hR,S3 _ _ _ (by omega)];split
  ·rename_i q;exact⟨Wn hg hS1 (AK.2 hep) (hLok _ (AC (d:=⟨0,0, []⟩) q)) q hL3,by have:=hLb _ (AC (d:=(⟨0,0, []⟩:Img)) q);show (L.getD k _).bytes.length<=_;omega⟩
  ·rw [show k=L.length by omega];exact⟨Wm hg hS1 (AK.2 hep) hL3,Ak _⟩
 rw [<-hR] at hrec;refine zU tys_ok Tryz.func36 rfl rfl (Af rfl) ?_;conv=>whnf
 refine ze9 [0,1,2,3,4] hmay ?_;rintro _ _ ⟨rfl,rfl⟩;conv=>whnf
 apply zW (0) tys_ok mixed (.o [0,1,2,3,4,5,6,7,8,9,10,11,12,13,14,15,16,17,18,19,20,21] .fin) (by kernel_rfl);conv=>whnf
 (refine zk (args':= [.ag (Bi g), .ag (EN a), .sl 4 l.length fun i=>(l.map Ia).getD i []]) (hnext.subA tsub) ⟨(Aa _).symm,rfl⟩ ?_;rintro _ rfl;refine⟨rfl,?_⟩)
 conv=>whnf
 refine ze9 [0,1,2,3,4] himg ?_;rintro _ _ ⟨rfl,d1,hd1,rfl⟩;conv=>whnf
 repeat' (refine zZ ?_;conv=>whnf)
 apply zW (0) tys_ok mixed (.o [0,1,2,3,4,5,6,7,8,9,10,11,12,13,14,15,16,17] .fin) (by kernel_rfl);conv=>whnf
 refine z_ hrec ?_;conv=>whnf
 refine zR (Nat × Dk × List Wr) (fun x=>([(0, .bp 0 0),(4, .bp 5 0),(8,iv P),(9,iv S),(10,Ec L),(11,Ro R),(73,Ro R),(74,iv R.length),(75,iv (x.1:Nat))],conH g (Bf a l) x.2.1 lba)) (fun x=>x.1<=4/\Gw (A7 g) x.2.1 F x.2.2/\x.2.2.length=2*x.1/\∀ w∈x.2.2,(g.an<=w.addr/\w.addr<g.an+2*g.sl/\BZ w.bytes=w.addr)/\w.bytes.length<=200) (fun x=>4 - x.1) (0,d1, []) ⟨by show 0<=4;omega,hd1,rfl,fun w hw=>by cases hw⟩
  (zP (s:= [0,1,2,3,4,5]) tA) ?_
 rintro⟨i,d2,W⟩ ⟨hi,hW,hWl,hWb⟩;simp only at hi hW hWl hWb;by_cases hi4:i<4
 ·obtain⟨Q,hQ⟩:∃ Q,Q=GD g P (i:Nat):=⟨_,rfl⟩;have hQ2:=Om hg (pos:=P) (at_:=(i:Nat)) (by rw [hP];exact⟨B9 _ (by unfold D_;omega),Bu _ (by omega)⟩) (by omega);rw [<-hQ] at hQ2;obtain⟨X,hX⟩:∃ X,X=R.getD i rc0:=⟨_,rfl⟩;have hXok:=hRok i hi4;rw [<-hX] at hXok;subst hX;have c0:=Lh (g:=g) (.inl rfl) hQ2 (c:=0);have c1:=Lh (g:=g) (.inr rfl) hQ2 (c:=1);have hbo:=T1 g (Bf a l) d2 F W (R.getD i rc0) Q hg hXok.1 hXok.2 hQ2 hW (by omega);have hW2:∀ w∈(W ++ [⟨Bk g 0 Q,BN g (R.getD i rc0) 0 Q⟩]) ++ [⟨Bk g 1 Q,BN g (R.getD i rc0) 1 Q⟩],(g.an<=w.addr/\w.addr<g.an+2*g.sl/\BZ w.bytes=w.addr)/\w.bytes.length<=200:=fun w hw=>by
   rcases Ay.1 hw with q | q
   ·rcases Ay.1 q with q | q
    ·exact hWb w q
    ·rw [A9] at q;rw [q];exact⟨⟨c0.1,c0.2,Pz hg hXok.1 (.inl rfl) hQ2⟩,Cy hXok.1 0 Q⟩
   ·rw [A9] at q;rw [q];exact⟨⟨c1.1,c1.2,Pz hg hXok.1 (.inr rfl) hQ2⟩,Cy hXok.1 1 Q⟩
  conv=>whnf
  rw [show decide ((i:Int)<(R.length:Nat))=true from decide_eq_true (by omega)];conv=>whnf
  repeat' (refine zZ ?_;conv=>whnf)
  refine⟨⟨by omega,by omega⟩,?_⟩;conv=>whnf
  rw [Ac];repeat' (refine zZ ?_;conv=>whnf)
  apply zW (2 ^ 139) tys_ok mixed (.o [0,1,2,3,4,5,6,7,8,9,10,11,12,13,14,15,16] .fin) (by kernel_rfl);conv=>whnf
  try (refine tI ?_;conv=>whnf)
  (rw [show (IntKind.i64.wrap (P+(i:Nat))).tmod g.sl=Q from hQ.symm];refine ze9 [0,1,2,3,4] hbo ?_;rintro _ _ ⟨rfl,d3,hd3,rfl⟩)
  conv=>whnf
  conv=>whnf
  repeat' (refine zZ ?_;conv=>whnf)
  exact⟨(i+1,d3,(W ++ [⟨Bk g 0 Q,BN g (R.getD i rc0) 0 Q⟩]) ++ [⟨Bk g 1 Q,BN g (R.getD i rc0) 1 Q⟩]),⟨by show i+1<=4;omega,hd3,by show ((W ++ [_]) ++ [_]).length=2*(i+1);simp;omega,hW2⟩,by show 4 - (i+1)<4 - i;omega,zP (s:= [0,1,2,3,4,5]) ⟨⟨rfl,rfl,rfl,rfl,rfl,rfl,rfl,rfl,AP (by omega),tv⟩,tA,rfl,rfl,rfl,rfl,rfl⟩⟩
 ·have ei:i=4:=by omega
  subst ei;have hok1:=hW.ok;have hfl:=I4 d2 hok1.l hok1.m fun w hw=>(hok1.w w hw).1
  rw [if_neg (by rw [hW.left];decide),if_neg (by rw [hW.left];decide)] at hfl;have hdel:=Vp lba;conv=>whnf
  rw [show decide (((4:Nat):Int)<(R.length:Nat))=false from decide_eq_false (by omega)];conv=>whnf
  repeat' (refine zZ ?_;conv=>whnf)
  refine ze9 [1,2,3] hfl ?_;rintro _ _ ⟨rfl,rfl⟩;conv=>whnf
  repeat' (refine zZ ?_;conv=>whnf)
  refine⟨rfl,?_⟩;conv=>whnf
  refine Ah ⟨by rw [Aa],by show l.length+1<=1000000000;omega⟩ ?_;conv=>whnf
  repeat' (refine zZ ?_;conv=>whnf)
  refine z_ hdel ?_;conv=>whnf
  have hv2:=hv.add hg hK (d':=d2.flush) ⟨_,hW.flush⟩ (x:=⟨S,P,4,L⟩) hS hP (by show (2:Int)<=4;omega) (by show (4:Int)<=g.sl - D_ l;omega) (by show (4:Int)=(L.length:Int)+1;omega) hLok hL1;have e4:((R.length:Nat):Int)=4:=by omega
  rw [e4];exact⟨_,iv 0,ZP g (Bf a (l ++ [⟨S,P,4,L⟩])) d2.flush,fun _ _ h=>h,zH (zO (XP (T:=l ++ [⟨S,P,4,L⟩]) rfl rfl (by rw [Ai];try rfl) (by rw [A2];try rfl))) (s:= [0,1,2,3,4,6]) tA,rfl,d2.flush,W,hW.flush,hWb,hv2,rfl⟩
theorem R0 {c1:Ctx} {l:List AV} {us:List Value} {j k:Nat} (hx:RdL l c1 us) (hj:l[j]? = some (.v (.slice none 0 0))) (q:Rd (.ow k 0) c1 (.slice none 0 0)):RdL (l.set j (.ow k 0)) c1 us:=by
 obtain⟨v,h5,h6⟩:=hx.get hj;simp only [Rd] at h6;subst h6;have h7:=hx.set (i:=j) q;have e:us.set j (.slice none 0 0)=us:=by
  obtain⟨hlt,h8⟩:=Aq.1 h5;have:=@List.set_getElem_self _ us _ hlt;rw [h8] at this;exact this
 rwa [e] at h7
theorem ConvH.ghost {H:List AB} (k j:Nat) {bt t:TypeId} {sz:Nat} {cs:List AV} (hk:H[k]? = some (.box bt cs)) (hj:cs[j]? = some (.v (.slice none 0 0))) (hz:0<sz):ConvH H (H.set k (.box bt (cs.set j (.ow H.length 0))) ++ [.row t sz []]):=by
 intro w0 M0 c hs;obtain⟨q1,q2,q3⟩:=hs.newrow (Below.refl _ _) (t:=t) (es:= []) (v:= .slice none 0 0) (xs:= []) hz (by simp) (World.ownsRow_nil _ _ _ _) (by simp) (by simp [RdL]);have hkl:=(Aq.1 hk).1;have hk':(H ++ [AB.row t sz []])[k]? = some (.box bt cs):=by rw [AD hkl];exact hk
 have q1':=q1.rebox hk' (cs':=cs.set j (.ow H.length 0)) (fun xs hx=>R0 hx hj q3);rw [List.set_append_left _ _ hkl] at q1';exact⟨c.new c.w (.slice none 0 0) 0,rfl,q1',q2⟩
theorem ACalls.ghost {P:Program} {q:Bool} {f:FuncId} {args:List AV} {H:List AB} {K:AV->List AB->Prop} (j:Nat) {t:TypeId} {sz:Nat} (hj:args[j]? = some (.v (.slice none 0 0))) (hz:0<sz) (h:ACalls P q f (args.set j (.ow H.length 0)) (H ++ [.row t sz []]) K):ACalls P q f args H K:=by
 refine⟨h.go,fun w0 M0 c us hs hr=>?_⟩;obtain⟨q1,q2,q3⟩:=hs.newrow (Below.refl _ _) (t:=t) (es:= []) (v:= .slice none 0 0) (xs:= []) hz (by simp) (World.ownsRow_nil _ _ _ _) (by simp) (by simp [RdL]);have:=h.calls w0 M0 _ us q1 (R0 (RdL.ext _ q2 hr) hj q3);refine this.mono ?_;rintro e w' ⟨v,c',r,H2,rfl,rfl,p1,p2,p3,p4,p5⟩;exact⟨v,c',r,H2,rfl,rfl,p1,p2,q2.trans p3,p4,p5⟩
@[reducible] def txV:Bool->List Tx->AV
 | true,_=> .v (.slice none 0 0)
 | false,l=>DW l
structure Sp where
 kind:Int
 h:Int
 lba:Int
 bytes:List UInt8
 addr:Int
 frm:Int
 bit:Int
 bits:Int
 cut:Int
 keep:Int
@[reducible] def Nf (x:Sp):List AV:= [iv x.kind,iv x.h,iv x.lba,bA x.bytes,iv x.addr,iv x.frm,iv x.bit,iv x.bits,iv x.cut,iv x.keep]
@[reducible] def XJ (g:Geo) (d:Dk) (on:Bool) (s:Stt) (tx lk hd:AV):List AV:= [iv g.z,iv g.d,iv g.sp,iv g.sl,iv g.an,Py d.cells,MX d.cache,iv d.reqs,iv d.left, .v (.bool on),iv s.a.gen,iv s.a.epoch,iv s.a.pos,iv s.a.seq,iv s.a.last, .v (.string s.a.label),GK s.a.homes,tx, .v (.bool s.only),iv s.cursor,iv s.found,iv s.fixed,iv s.moved,iA s.lost,lk,hd]
@[reducible] def Xn (g:Geo) (d:Dk):List AV:= [iv g.z,iv g.d,iv g.sp,iv g.sl,iv g.an,Py d.cells,MX d.cache,iv d.reqs,iv d.left, .v (.bool false),iv 0,iv 0,iv 0,iv 0,iv 0, .v (.string ⟨#[]⟩), .v (.slice none 0 0), .v (.slice none 0 0), .v (.bool false),iv 0,iv 0,iv 0,iv 0, .v (.slice none 0 0), .v (.slice none 0 0), .v (.slice none 0 0)]
@[reducible] def Zy (vol:List AV) (g:Geo) (s:Stt) (tx:AV) (d:Dk) (x:Sp):List AB:= [.box 111 vol, .box 99 (Xg g (.bp 2 0) tx (iA s.lost) s), .box 119 (K7 (.ow 3 d.cells.length) (.ow 4 d.cache.length) d.reqs d.left), .row 68 3 (d.cells.map Cg), .row 152 2 (d.cache.map GI), .box 116 (.bp 0 0:: .bp 1 0::Nf x)]
@[reducible] def TG (vol:List AV) (g:Geo) (s:Stt) (tx:AV) (d:Dk) (x:Sp):List AB:= [.box 111 vol, .box 99 (Xg g (.bp 2 0) tx (iA s.lost) s), .box 119 (K7 (.ow 3 d.cells.length) (.ow 6 d.cache.length) d.reqs d.left), .row 68 3 (d.cells.map Cg), .dead, .box 116 (.bp 0 0:: .bp 1 0::Nf x), .row 152 2 (d.cache.map GI)]
@[reducible] def an7 (e n:Int) (b:List UInt8):List AV:= [iv e,iv n,bA b,iv 0,iv 0,iv 0,iA []]
theorem Ds (e n:Int):SubL [iv e,iv n, .v (.slice none 0 0),iv 0,iv 0,iv 0, .v (.slice none 0 0)] (an7 e n []):=⟨ri,ri,Bl 1 _,ri,ri,ri,Bl 1 _,tv⟩
theorem Zm (e n:Int) (b:List UInt8):SubL [iv e,iv n,bA b,iv 0,iv 0,iv 0, .v (.slice none 0 0)] (an7 e n b):=⟨ri,ri,ri,ri,ri,ri,Bl 1 _,tv⟩
theorem VP (g:Geo) (lb:ByteArray) (hg:Bm g=true) (hs:Et lb.data.toList=0) (hl:lb.size<=1000000):ACalls Tryz.prog false 19 [.ag (Bi g), .v (.string lb)] [] fun r H=>r = .tp [.bp 0 0,iv 0]/\H=[.box 111 (Xn g (DS g lb))]:=by
 have hf:=Tl g lb hg hs hl;refine zU tys_ok Tryz.func19 rfl rfl (Af rfl) ?_;conv=>whnf
 refine z_ hf ?_;exact⟨_, .tp [.bp 0 0,iv 0], [.box 111 (Xn g (DS g lb))],fun _ _ h=>h,zP (s:= [2]) tA,rfl,rfl⟩
theorem Sd (g:Geo) (hg:Bm g=true):Fn Tryz.prog 47 [.ag (Bi g)] fun r=>r = .tp [iv (4*g.sl+4*g.an+16*g.z*(g.d+g.sp+4)+8),iv 0]:=by
 have hG:Fn Tryz.prog 118 [.ag (Bi g)] fun r=>r = .v (Em (Bm g)):=Cr g.z g.d g.sp g.sl g.an
 rw [hg] at hG;obtain⟨g1,g2,g3,g4,g5⟩:=Az.1 hg;have hb:0<=16*g.z*(g.d+g.sp+4)/\16*g.z*(g.d+g.sp+4)<=64*10:=⟨C_ (by omega) (by omega),Int.mul_le_mul (by omega) (by omega) (by omega) (by omega)⟩;refine zT Tryz.func47 rfl ?_;conv=>whnf
 refine z_ hG ?_;exact⟨_,ri,by
  rw [wi (n:=4*g.sl) (by omega),wi (n:=4*g.an) (by omega),wi (n:=4*g.sl+4*g.an) (by omega),wi (n:=16*g.z) (by omega),wi (n:=g.d+g.sp) (by omega),wi (n:=g.d+g.sp+4) (by omega),wi (n:=16*g.z*(g.d+g.sp+4)) (by omega),wi (n:=4*g.sl+4*g.an+16*g.z*(g.d+g.sp+4)) (by omega),wi (n:=4*g.sl+4*g.an+16*g.z*(g.d+g.sp+4)+8) (by omega)]⟩
@[reducible] def Gg (g:Geo) (d0 d:Dk) (s0 s:Stt) (b:Bool) (L:List Lck) (l:List Hd) (x:Sp):List AB:=Zy (XJ g d0 true s0 (DW s0.txns) (C0 L) (CU l)) g s (txV b s.txns) d x
@[reducible] def Fc (g:Geo) (d0 d:Dk) (s0 s:Stt) (b:Bool) (L:List Lck) (l:List Hd) (x:Sp):List AB:=TG (XJ g d0 true s0 (DW s0.txns) (C0 L) (CU l)) g s (txV b s.txns) d x
section
variable (g:Geo) (d0 d:Dk) (s0 s:Stt) (b:Bool) (L:List Lck) (l:List Hd) (x:Sp)
theorem KB (hl:l.length<=1000) (hh:FZ l x.h=true):ACalls Tryz.prog false 204 [.bp 5 0] (Gg g d0 d s0 s b L l x) fun r H=>r = .tp [.ag (DZ (l.getD (E4 l x.h) ⟨0, [], []⟩)),iv 0]/\H=Gg g d0 d s0 s b L l x:=by
 have ha:=NA l x.h (by omega);rw [hh,if_pos rfl] at ha;have hlt:=JM hh;obtain⟨p,hp⟩:∃ p,p=E4 l x.h:=⟨_,rfl⟩;rw [<-hp] at ha hlt |-
 cases b with
 | true=>
  refine zU tys_ok Tryz.func204 rfl rfl (Af rfl) ?_;conv=>whnf
  apply zW (0) tys_ok mixed (.o [0,1,2,3,4,5,6,7,8,9,10,11,12,13,14,15,16,17] .fin) (by kernel_rfl);conv=>whnf
  refine z_ ha ?_;refine⟨⟨by omega,by omega⟩,?_⟩;conv=>whnf
  rw [Ac];exact⟨_, .tp [.ag (DZ (l.getD p ⟨0, [], []⟩)),iv 0],Gg g d0 d s0 s true L l x,fun _ _ h=>h,zP (s:= [0,1,2,3,4,5]) tA,rfl,rfl⟩
 | false=>
  refine zU tys_ok Tryz.func204 rfl rfl (Af rfl) ?_;conv=>whnf
  apply zW (0) tys_ok mixed (.o [0,1,2,3,4,5,6,7,8,9,10,11,12,13,14,15,16,17] .fin) (by kernel_rfl);conv=>whnf
  refine z_ ha ?_;refine⟨⟨by omega,by omega⟩,?_⟩;conv=>whnf
  rw [Ac];exact⟨_, .tp [.ag (DZ (l.getD p ⟨0, [], []⟩)),iv 0],Gg g d0 d s0 s false L l x,fun _ _ h=>h,zP (s:= [0,1,2,3,4,5]) tA,rfl,rfl⟩
theorem Mg (hg:Bm g=true) (hl:l.length<=1000) (hh:FZ l x.h=true) (hlba:0<=x.lba/\x.lba<g.z*g.d):ACalls Tryz.prog false 196 [.bp 5 0] (Gg g d0 d s0 s b L l x) fun r H=>r = .tp [.ag (DZ (l.getD (E4 l x.h) ⟨0, [], []⟩)),iv 0]/\H=Gg g d0 d s0 s b L l x:=by
 have c1:=KB g d0 d s0 s b L l x hl hh;have c2:=JF g x.lba hg hlba;cases b with
 | true=>
  refine zU tys_ok Tryz.func196 rfl rfl (Af rfl) ?_;conv=>whnf
  refine ze9 [0,1,2,3,4,5] c1 ?_;rintro _ _ ⟨rfl,rfl⟩;conv=>whnf
  apply zW (0) tys_ok mixed (.o [0,1,2,3,4,5,6,7,8,9,10,11,12,13,14,15,16,17,18,19] .fin) (by kernel_rfl);conv=>whnf
  refine z_ c2 ?_;conv=>whnf
  repeat' (refine zZ ?_;conv=>whnf)
  exact⟨_, .tp [.ag (DZ (l.getD (E4 l x.h) ⟨0, [], []⟩)),iv 0],Gg g d0 d s0 s true L l x,fun _ _ h=>h,zP (s:= [0,1,2,3,4,5]) tA,rfl,rfl⟩
 | false=>
  refine zU tys_ok Tryz.func196 rfl rfl (Af rfl) ?_;conv=>whnf
  refine ze9 [0,1,2,3,4,5] c1 ?_;rintro _ _ ⟨rfl,rfl⟩;conv=>whnf
  apply zW (0) tys_ok mixed (.o [0,1,2,3,4,5,6,7,8,9,10,11,12,13,14,15,16,17,18,19] .fin) (by kernel_rfl);conv=>whnf
  refine z_ c2 ?_;conv=>whnf
  repeat' (refine zZ ?_;conv=>whnf)
  exact⟨_, .tp [.ag (DZ (l.getD (E4 l x.h) ⟨0, [], []⟩)),iv 0],Gg g d0 d s0 s false L l x,fun _ _ h=>h,zP (s:= [0,1,2,3,4,5]) tA,rfl,rfl⟩
theorem KA (L':List Lck):ACalls Tryz.prog false 197 [.bp 5 0,C0 L',iv 0] (Gg g d0 d s0 s b L l x) fun r H=>r = iv 0/\H=Gg g d0 d s0 s b L' l x:=by
 cases b with
 | true=>
  refine zU tys_ok Tryz.func197 rfl rfl (Af rfl) ?_;exact⟨_,iv 0,Gg g d0 d s0 s true L' l x,fun _ _ h=>h,zP (s:= [0,1,2,3,4,5]) tA,rfl,rfl⟩
 | false=>
  refine zU tys_ok Tryz.func197 rfl rfl (Af rfl) ?_;exact⟨_,iv 0,Gg g d0 d s0 s false L' l x,fun _ _ h=>h,zP (s:= [0,1,2,3,4,5]) tA,rfl,rfl⟩
end
theorem WF (n id:Int):Fn Tryz.prog 353 [iv n, .rp [iv id]] fun r=>r = .v (.bool (n == id)):=by
 refine zT Tryz.func353 rfl ?_;exact⟨_,ri,rfl⟩
theorem Yn (l:List Int) (id:Int) (hl:l.length<=1000000):Fn Tryz.prog 152 [iA l, .fn 353 [.rp [iv id]]] fun r=>r = iv (M7 (fun n=>n == id) l):=by
 refine zT Tryz.func152 rfl ?_;conv=>whnf
 refine zQ Nat (fun k=>([(0,iA l),(1, .fn 353 [.rp [iv id]]),(7,iv l.length),(8,iv k)], [])) (fun k=>k<=l.length/\(l.take k).any (fun n=>n == id)=false) (fun k=>l.length - k) 0 ⟨Ak _,by simp⟩ ⟨[],tv,tA,tv,rfl,rfl,rfl⟩ ?_;rintro k ⟨hk,hI⟩;conv=>whnf
 refine Aj (fun h2=>?_) (fun h2=>?_) <;> simp at h2 <;> conv=>whnf
 ·refine⟨by first | omega | (refine⟨rfl,?_,?_⟩ <;> first | omega | (simp only [Aa];done) | (simp only [Aa];omega)) | (simp only [Aa];omega),?_⟩;conv=>whnf
  refine z_ (WF (l.getD k 0) id) ?_;conv=>whnf
  refine Aj (fun h3=>?_) (fun h3=>?_) <;> conv=>whnf
  ·exact⟨_,ri,by rw [Ey (d:=0) h2 hI (by first | exact h3 | (rw [Ac] at h3;exact h3) | simpa using h3)]⟩
  ·refine⟨k+1,⟨by omega,Ch (d:=0) h2 hI (by first | exact h3 | (rw [Ac] at h3;exact h3) | simpa using h3)⟩,by omega, [],tv,⟨rfl,rfl,rfl,AP (by omega),tv⟩,tv,rfl,rfl,rfl⟩
 ·exact⟨_,ri,by rw [At h2] at hI;rw [Dv hI]⟩
theorem WG (l:List Int) (id:Int) (hl:l.length<=1000000) (h:l.any (fun n=>n == id)=false):Fn Tryz.prog 78 [iA l, .fn 353 [.rp [iv id]]] fun r=>r=iA l:=by
 have h1:=Yn l id hl;rw [Dv h] at h1;refine zT Tryz.func78 rfl ?_;conv=>whnf
 refine z_ h1 ?_;exact⟨_,ri,rfl⟩
def DV (l:List Lck) (id:Int):List Lck:=(l.map fun x=>if x.writer=id then (⟨x.lba,x.reads, -1⟩:Lck) else x).filter fun x=>decide (0<x.reads.length) || (x.writer != -1)
theorem QJ {l:List Lck} {id:Int} {k:Nat} (hk:k<l.length):DV (l.take (k+1)) id=DV (l.take k) id ++ DV [l.getD k lz] id:=by
 unfold DV;rw [AF hk,A2,List.filter_append];congr 2;rw [Ab,Ae hk];try rfl
theorem Tt (l:List Lck) (id:Int):(DV l id).length<=l.length:=by
 unfold DV;exact AX (List.length_filter_le _ _) (by rw [Aa];exact Ag _)
theorem U8 (l:List Lck) (id:Int) (hok:Li l=true) (hid:0<=id) (hn:∀ x∈l,x.reads.any (fun n=>n == id)=false):Fn Tryz.prog 287 [C0 l,iv id] fun r=>r = .tp [C0 (DV l id),iv 0]:=by
 have c1:=It l hok;have hok2:=hok;simp only [Li,Ad,decide_eq_true_eq] at hok2;have hlen:=hok2.1;have hrd:∀ x∈l,x.reads.length<=8:=fun x hx=>by
  have:=Av.1 hok2.2.2 x hx;simp only [J7,Ad,decide_eq_true_eq] at this;exact this.1
 have c2:=Ld l (by omega) fun x hx=>by have:=hrd x hx;omega
 refine zT Tryz.func287 rfl ?_;conv=>whnf
 refine z_ c1 ?_;conv=>whnf
 rw [decide_eq_false (show ¬id<0 by omega)];conv=>whnf
 refine zX c2 rfl ?_;rintro _ _ ⟨rfl,rfl⟩;conv=>whnf
 refine zR Nat (fun k=>([(3, .rp [iv id]),(6, .ow 1 (DV (l.take k) id).length),(17, .ow 0 l.length),(18,iv l.length),(19,iv k)], [.row 216 3 (l.map E3), .row 216 3 ((DV (l.take k) id).map E3)])) (fun k=>k<=l.length) (fun k=>l.length - k) 0 (Ak _)
  ⟨_,_,ConvF.cap 3 0 (y:= .rp [iv id]) (H':= [.dead, .row 216 3 (l.map E3)]) rfl (by (conv=>whnf);exact tA), [(6,216,3)],tA, [1,2],tA⟩ ?_
 rintro k hk;conv=>whnf
 refine AO (fun h2=>?_) (fun h2=>?_) <;> (repeat rw [Ac] at h2) <;> conv=>whnf
 ·have hk':k<l.length:=by omega
  have hE:(l.map E3).getD (k:Int).toNat []=E3 (l.getD k lz):=by rw [Ac];exact AQ hk'
  have hm:=AC (d:=lz) hk';have hdl:=WG (l.getD k lz).reads id (by have:=hrd _ hm;omega) (hn _ hm);have hds:=QJ (id:=id) hk';have hdn:=Tt (l.take k) id;rw [Ar] at hdn;obtain⟨q,hq⟩:∃ q,q=l.getD k lz:=⟨_,rfl⟩;rw [<-hq] at hE hdl hds;obtain⟨qb,qr,qw⟩:=q;repeat' (refine zZ ?_;conv=>whnf)
  refine⟨⟨by omega,by omega⟩,?_⟩;conv=>whnf
  refine Ah ⟨rfl,(Aa _).symm,by rw [Ac];exact hk'⟩ ?_;conv=>whnf
  rw [hE];conv=>whnf
  refine z_ hdl ?_;conv=>whnf
  repeat' (refine zZ ?_;conv=>whnf)
  by_cases e1:qw=id
  ·rw [show ((⟨qb,qr,qw⟩:Lck).writer == id)=true from beq_iff_eq.2 e1];conv=>whnf
   by_cases e2:0<qr.length
   ·have o:DV [⟨qb,qr,qw⟩] id=[⟨qb,qr, -1⟩]:=by simp [DV,e1,e2]
    rw [show decide (((⟨qb,qr,qw⟩:Lck).reads.length:Int) > 0)=true from decide_eq_true (by show 0<(qr.length:Int);omega)];conv=>whnf
    repeat' (refine zZ ?_;conv=>whnf)
    refine⟨rfl,?_⟩;refine⟨⟨by rw [Aa],by omega⟩,?_⟩;conv=>whnf
    exact⟨k+1,hk',by omega,zP (s:= [0,1]) ⟨⟨rfl,by rw [hds,o,Ai];try rfl,rfl,rfl,AP (by omega),tv⟩,⟨rfl,by rw [hds,o,A2];try rfl,tv⟩,rfl,rfl,rfl,rfl,rfl⟩⟩
   ·have o:DV [⟨qb,qr,qw⟩] id=[]:=by simp [DV,e1,e2]
    rw [show decide (((⟨qb,qr,qw⟩:Lck).reads.length:Int) > 0)=false from decide_eq_false (by show ¬0<(qr.length:Int);omega)];conv=>whnf
    repeat' (refine zZ ?_;conv=>whnf)
    exact⟨k+1,hk',by omega,zP (s:= [0,1]) ⟨⟨rfl,by rw [hds,o,AG];try rfl,rfl,rfl,AP (by omega),tv⟩,⟨rfl,by rw [hds,o,AG];try rfl,tv⟩,rfl,rfl,rfl,rfl,rfl⟩⟩
  ·rw [show ((⟨qb,qr,qw⟩:Lck).writer == id)=false from beq_eq_false_iff_ne.2 e1];conv=>whnf
   by_cases e2:0<qr.length
   ·have o:DV [⟨qb,qr,qw⟩] id=[⟨qb,qr,qw⟩]:=by simp [DV,e1,e2]
    rw [show decide (((⟨qb,qr,qw⟩:Lck).reads.length:Int) > 0)=true from decide_eq_true (by show 0<(qr.length:Int);omega)];conv=>whnf
    repeat' (refine zZ ?_;conv=>whnf)
    refine⟨rfl,?_⟩;refine⟨⟨by rw [Aa],by omega⟩,?_⟩;conv=>whnf
    exact⟨k+1,hk',by omega,zP (s:= [0,1]) ⟨⟨rfl,by rw [hds,o,Ai];try rfl,rfl,rfl,AP (by omega),tv⟩,⟨rfl,by rw [hds,o,A2];try rfl,tv⟩,rfl,rfl,rfl,rfl,rfl⟩⟩
   ·rw [show decide (((⟨qb,qr,qw⟩:Lck).reads.length:Int) > 0)=false from decide_eq_false (by show ¬0<(qr.length:Int);omega)];conv=>whnf
    by_cases e3:qw = -1
    ·have o:DV [⟨qb,qr,qw⟩] id=[]:=by simp [DV,e2,e3]
     rw [show ((⟨qb,qr,qw⟩:Lck).writer != -1)=false from bne_eq_false_iff_eq.2 e3];conv=>whnf
     repeat' (refine zZ ?_;conv=>whnf)
     exact⟨k+1,hk',by omega,zP (s:= [0,1]) ⟨⟨rfl,by rw [hds,o,AG];try rfl,rfl,rfl,AP (by omega),tv⟩,⟨rfl,by rw [hds,o,AG];try rfl,tv⟩,rfl,rfl,rfl,rfl,rfl⟩⟩
    ·have o:DV [⟨qb,qr,qw⟩] id=[⟨qb,qr,qw⟩]:=by simp [DV,e1,e2,e3]
     rw [show ((⟨qb,qr,qw⟩:Lck).writer != -1)=true from bne_iff_ne.2 e3];conv=>whnf
     repeat' (refine zZ ?_;conv=>whnf)
     refine⟨rfl,?_⟩;refine⟨⟨by rw [Aa],by omega⟩,?_⟩;conv=>whnf
     exact⟨k+1,hk',by omega,zP (s:= [0,1]) ⟨⟨rfl,by rw [hds,o,Ai];try rfl,rfl,rfl,AP (by omega),tv⟩,⟨rfl,by rw [hds,o,A2];try rfl,tv⟩,rfl,rfl,rfl,rfl,rfl⟩⟩
 ·have e:k=l.length:=by omega
  subst e;rw [A3];refine Ah (Aa _).symm ?_;exact⟨_,Ca (m:= [C0 (DV l id),iv 0]) ⟨C2 (f:=E3) (DV l id) rfl rfl,ri,tv⟩,rfl⟩
theorem V7 {l:List Hd} {id:Int} (h:FZ l id=true):(l.getD (E4 l id) ⟨0, [], []⟩).id=id:=by
 have h1:=JM h;have h2:(l[E4 l id].id == id)=true:=List.findIdx_getElem (p:=fun h:Hd=>h.id == id) (xs:=l) (w:=h1);rw [Ab,Ae h1];exact eq_of_beq h2
section
variable (g:Geo) (d0 d:Dk) (s0 s:Stt) (b:Bool) (L:List Lck) (l:List Hd) (x:Sp)
theorem Se (hl:l.length<=1000) (hs:∀ h∈l,NT h) (hend:freeId l 0=l.length) (ho:(Eb l).2.2=0):ACalls Tryz.prog false 111 [.bp 5 0] (Gg g d0 d s0 s b L l x) fun r H=>r = .ag (an7 0 (Eb l).2.1 [])/\H=Gg g d0 d s0 s b L (Eb l).1 x:=by
 have c1:=UQ l hl hs hend;rw [ho] at c1;obtain⟨n,hn⟩:∃ n,n=(Eb l).2.1:=⟨_,rfl⟩;obtain⟨m,hm⟩:∃ m,m=(Eb l).1:=⟨_,rfl⟩;rw [<-hn,<-hm] at c1 |-
 cases b with
 | true=>
  refine zU tys_ok Tryz.func111 rfl rfl (Af rfl) ?_;conv=>whnf
  refine z_ c1 ?_;exact⟨_, .ag (an7 0 n []),Gg g d0 d s0 s true L m x,B7 (Ds 0 n),zP (s:= [0,1,2,3,4,5]) tA,rfl,rfl⟩
 | false=>
  refine zU tys_ok Tryz.func111 rfl rfl (Af rfl) ?_;conv=>whnf
  refine z_ c1 ?_;exact⟨_, .ag (an7 0 n []),Gg g d0 d s0 s false L m x,B7 (Ds 0 n),zP (s:= [0,1,2,3,4,5]) tA,rfl,rfl⟩
theorem Sc (L':List Lck) (id:Int) (hl:l.length<=1000) (hs:∀ h∈l,NT h) (hd:Fn Tryz.prog 287 [C0 L,iv id] fun r=>r = .tp [C0 L',iv 0]):ACalls Tryz.prog false 205 [.bp 0 0,iv id] (Gg g d0 d s0 s b L l x) fun r H=>r = .tp []/\H=Gg g d0 d s0 s b L' (EH l id).1 x:=by
 have c1:=Te l id hl hs;generalize EH l id=q at c1 |-
 obtain⟨m,h,e⟩:=q;simp only at c1 |-
 cases b with
 | true=>
  refine zU tys_ok Tryz.func205 rfl rfl (Af rfl) ?_;conv=>whnf
  refine z_ c1 ?_;conv=>whnf
  refine z_ hd ?_;exact⟨_, .tp [],Gg g d0 d s0 s true L' m x,fun _ _ h=>h,zP (s:= [0,1,2,3,4,5]) tA,rfl,rfl⟩
 | false=>
  refine zU tys_ok Tryz.func205 rfl rfl (Af rfl) ?_;conv=>whnf
  refine z_ c1 ?_;conv=>whnf
  refine z_ hd ?_;exact⟨_, .tp [],Gg g d0 d s0 s false L' m x,fun _ _ h=>h,zP (s:= [0,1,2,3,4,5]) tA,rfl,rfl⟩
theorem RZ (L':List Lck) (hg:Bm g=true) (hok:Ed l=true) (hl:l.length<=1000) (hs:∀ h∈l,NT h) (hh:FZ l x.h=true) (hlba:0<=x.lba/\x.lba<g.z*g.d) (h8:x.bytes.length=8) (hf:RH (l.getD (E4 l x.h) ⟨0, [], []⟩) x.lba=false) (hend:FB (l.getD (E4 l x.h) ⟨0, [], []⟩).lbas x.lba=(l.getD (E4 l x.h) ⟨0, [], []⟩).lbas.length) (hw:Fn Tryz.prog 202 [C0 L,iv x.h,iv x.lba] fun r=>r = .tp [C0 L',iv 0]):ACalls Tryz.prog false 113 [.bp 5 0] (Gg g d0 d s0 s b L l x) fun r H=>r = iv 0/\H=Gg g d0 d s0 s b L' (l.set (E4 l x.h) (VO (l.getD (E4 l x.h) ⟨0, [], []⟩) x.lba x.bytes)) x:=by
 have c1:=Mg g d0 d s0 s b L l x hg hl hh hlba;have hid:=V7 hh;have c2:=RG (l.getD (E4 l x.h) ⟨0, [], []⟩) x.lba (by have:=(hs _ (AC (d:=⟨0, [], []⟩) (JM hh))).1;omega);rw [show (decide (4<=(l.getD (E4 l x.h) ⟨0, [], []⟩).lbas.length)&&!(l.getD (E4 l x.h) ⟨0, [], []⟩).lbas.any fun y=>x.lba == y)=false from hf] at c2;have c3:=KA g d0 d s0 s b L l x L';have c4:=WP l x.h x.lba x.bytes hl hs hok hh (by omega) h8 hf hend;generalize l.set (E4 l x.h) (VO (l.getD (E4 l x.h) ⟨0, [], []⟩) x.lba x.bytes)=m at c4 |-
 obtain⟨q,hq⟩:∃ q,q=l.getD (E4 l x.h) ⟨0, [], []⟩:=⟨_,rfl⟩;rw [<-hq] at c1 c2 hid;have hn8:((x.bytes.length:Int) != 8)=false:=bne_eq_false_iff_eq.2 (by omega);cases b with
 | true=>
  refine zU tys_ok Tryz.func113 rfl rfl (Af rfl) ?_;conv=>whnf
  refine ze9 [0,1,2,3,4,5] c1 ?_;rintro _ _ ⟨rfl,rfl⟩;conv=>whnf
  rw [hn8];conv=>whnf
  apply zW (0) tys_ok mixed (.o [0,1,2,3,4,5,6,7] .fin) (by kernel_rfl);conv=>whnf
  refine z_ c2 ?_;conv=>whnf
  rw [hid];apply zW (2 ^ 146) tys_ok mixed (.o [0,1,2,3,4,5,6,7,8,9,10,11,12,13,14,15,16,17,18,19] .fin) (by kernel_rfl);conv=>whnf
  refine z_ hw ?_;conv=>whnf
  (refine ze9 [0,1,2,3,4,5] c3 ?_;rintro _ _ ⟨rfl,rfl⟩)
  conv=>whnf
  repeat' (refine zZ ?_;conv=>whnf)
  apply zW (0) tys_ok mixed (.o [0,1,2,3,4,5,6,7,8,9,10,11,12,13,14,15,16,17,18,19,20,21,22,23,24,25,26,27,28,29,30] .fin) (by kernel_rfl);conv=>whnf
  refine z_ c4 ?_;conv=>whnf
  try (refine tS ?_;conv=>whnf)
  exact⟨_,iv 0,Gg g d0 d s0 s true L' m x,fun _ _ h=>h,zP (s:= [0,1,2,3,4,5]) tA,rfl,rfl⟩
 | false=>
  refine zU tys_ok Tryz.func113 rfl rfl (Af rfl) ?_;conv=>whnf
  refine ze9 [0,1,2,3,4,5] c1 ?_;rintro _ _ ⟨rfl,rfl⟩;conv=>whnf
  rw [hn8];conv=>whnf
  apply zW (0) tys_ok mixed (.o [0,1,2,3,4,5,6,7] .fin) (by kernel_rfl);conv=>whnf
  refine z_ c2 ?_;conv=>whnf
  rw [hid];apply zW (2 ^ 146) tys_ok mixed (.o [0,1,2,3,4,5,6,7,8,9,10,11,12,13,14,15,16,17,18,19] .fin) (by kernel_rfl);conv=>whnf
  refine z_ hw ?_;conv=>whnf
  (refine ze9 [0,1,2,3,4,5] c3 ?_;rintro _ _ ⟨rfl,rfl⟩)
  conv=>whnf
  repeat' (refine zZ ?_;conv=>whnf)
  apply zW (0) tys_ok mixed (.o [0,1,2,3,4,5,6,7,8,9,10,11,12,13,14,15,16,17,18,19,20,21,22,23,24,25,26,27,28,29,30] .fin) (by kernel_rfl);conv=>whnf
  refine z_ c4 ?_;conv=>whnf
  try (refine tS ?_;conv=>whnf)
  exact⟨_,iv 0,Gg g d0 d s0 s false L' m x,fun _ _ h=>h,zP (s:= [0,1,2,3,4,5]) tA,rfl,rfl⟩
end
def KX (g:Geo) (lb:ByteArray) (c:An) (q:Int):List UInt8:=if q<0 then ((CB (DS g lb).cells (AR g c)).getD (-1 - q).toNat cz).old else if q<g.an then Dn c q else FJ g lb q
theorem Ww {g:Geo} {lb:ByteArray} (hg:Bm g=true) (hs:Et lb.data.toList=0):∃ D,J5 g (DS g lb)=(D,0,Bf (DT (BK g lb) 0) [])/\DkOk (DS g lb)/\((DS g lb).cells.length:Int)=A7 g/\Vol g 2 D (Bf (DT (BK g lb) 0) [])/\Gd (A7 g) D (KX g lb (DT (BK g lb) 0)):=by
 obtain⟨g1,g2,g3,g4,g5⟩:=Az.1 hg;have hf:=JH (g:=g) (s:=lb) hg;have hb:=JI (g:=g) (s:=lb) hg hs;have hdk:DkOk (DS g lb):=WW hg hb;have hcg:=Ef hg;have hsc:=Ow hg (b:=BK g lb) rfl (by show ¬(1:Int) - 1<0;decide) hf;have hm:=N5 hg hdk hf.len hf.cache (by show (-1:Int)<0;decide) (Uv hg hb hf) hsc (by show (1:Int)≠_;decide) (by show (0:Int)≠_;decide) (fun w hw=>by cases hw) (Ak _);have hna:=EU g (DT (BK g lb) ([]:List Tx).length);rw [UY hf _ (fun w hw=>by
  simp only [AR,AL,AJ] at hw;obtain⟨i,hi,rfl⟩:=hw;exact⟨by show (0:Int)<=(i:Nat);omega,by show ((i:Nat):Int)<_;omega⟩),if_neg (by omega),if_neg (by omega)] at hm
 have hn:=OK (n:=0) hb (by show (1:Int)≠_;decide) (by show (0:Int)≠_;decide) (by show (1:Int)+0 - 1<=_;decide);have hfin:=Ta (r:=((DS g lb).tick (Lb g [])).reqs) (l:=(DS g lb).left) hg (c:=DT (BK g lb) ([]:List Tx).length) hf;have hD:DkOk ⟨CB (CB (DS g lb).cells []) (AR g (DT (BK g lb) 0)), [],((DS g lb).tick (Lb g [])).reqs,(DS g lb).left⟩:=by
  have h1:=hdk.adv (Lb g []);rw [Jm _ (R3 hdk (by show (-1:Int)<0;decide) _)] at h1;have h2:=h1.allFin (AR g (DT (BK g lb) 0)) fun w hw=>(LQ hg hn hf.len w hw).2
  rw [allFin_cells] at h2;exact h2
 have hgd:Gd (A7 g) _ (KX g lb (DT (BK g lb) 0)):=⟨hD,rfl,hfin.len,hfin.cache,fun a h0 h1=>by
  unfold KX;rw [if_neg (by omega)];exact hfin.cell a h0 h1,fun a h0 h1=>by
  unfold KX;rw [if_pos (by omega),show -1 - (-1 - a)=a by omega];try rfl⟩
 exact⟨_,hm,hdk,hf.len,⟨⟨_,hgd⟩,hn,rfl,tA,(by show (1:Int)+1<=2;decide),(by show (1:Int)+(0:Nat)<=2;decide),fun t ht=>by cases ht⟩,hgd⟩
def Jn (g:Geo) (lb:ByteArray):Md:=⟨DT (BK g lb) 0, [],Kl (A7 g) (KX g lb (DT (BK g lb) 0)),List.replicate (g.z*g.d).toNat zero8⟩
theorem Yb {g:Geo} {lb:ByteArray} (hg:Bm g=true) (hs:Et lb.data.toList=0):∃ D,J5 g (DS g lb)=(D,0,Bf (Jn g lb).a (Jn g lb).l)/\DkOk (DS g lb)/\((DS g lb).cells.length:Int)=A7 g/\Gd (A7 g) D (Jn g lb).F/\Vo g 2 (Jn g lb):=by
 obtain⟨D,h1,h2,h3,h4,h5⟩:=Ww hg hs;obtain⟨q1,q2⟩:=h5.clip;refine⟨D,h1,h2,h3,q1,Vo.of (d:=D) (M:=Jn g lb) ⟨⟨_,q1⟩,h4.an,h4.ring,h4.rest,h4.gen,h4.seq,h4.one⟩ q2 ?_⟩;obtain⟨g1,g2,g3,g4,g5⟩:=Az.1 hg;have:0<=g.z*g.d:=C_ (by omega) (by omega);show (((List.replicate (g.z*g.d).toNat zero8).length:Nat):Int)=_;rw [Bh];omega
theorem U0 {g:Geo} {lb:ByteArray} (hg:Bm g=true):VolV g (Jn g lb).a (Jn g lb).l (Jn g lb).F fun _ _=>zero8:=by
 obtain⟨g1,g2,g3,g4,g5⟩:=Az.1 hg;intro z h0 h1;obtain⟨k,rfl⟩:∃ k:Nat,z=(k:Nat):=⟨z.toNat,by omega⟩;have hcb:=Hq hg;have hpb:=Hb hg;have ht0:=Rg hg;have hzh:((Jn g lb).a.homes.getD k ⟨[],0,0⟩)=⟨(List.range (g.d+1).toNat).map Int.ofNat,g.d+1,0⟩:=by
  show (List.replicate g.z.toNat _).getD k _=_;rw [Ab,List.getElem?_replicate,if_pos (by omega)];try rfl
 have hF:∀ q,g.an+2*g.sl<=q->q<A7 g->(Jn g lb).F q=FJ g lb q:=fun q hq hq2=>by
  show Kl (A7 g) (KX g lb _) q=_;rw [Xd (by omega) hq2];unfold KX;rw [if_neg (by omega)];exact if_neg (by omega)
 have hti:=P_ hg (z:=(k:Nat)) (k:=0) ⟨h0,h1⟩ (by omega);have htab:Fe g (Bf (Jn g lb).a (Jn g lb).l) (Jn g lb).F (k:Nat)=some (E2 g):=by
  have hroot:Du (Jn g lb).a (Jn g lb).l (k:Nat)=0:=by
   show ((Jn g lb).a.homes.getD ((k:Nat):Int).toNat ⟨[],0,0⟩).root=0;rw [Ac,hzh]
  show (match Ct g ⟨0,(Jn g lb).F (Ba g (k:Nat) 0)⟩ (Ba g (k:Nat) 0) (Du (Jn g lb).a (Jn g lb).l (k:Nat)) with | some t=>some t | none=>_)=_;have e:=Ph (g:=g) (s:=lb) (z:=k) (k:=0) (by omega) h1 (by omega);rw [hroot,hF _ hti.1 hti.2.2,show Ba g ((k:Nat):Int) (0:Int)=Ba g (k:Nat) ((0:Nat):Int) from rfl,e,Sq ⟨by show 0<=Ba g (k:Nat) 0;omega,by show Ba g (k:Nat) 0<=65535;omega,by omega,by omega,by rw [EO];unfold E2;rw [Bh];omega⟩,Im ht0]
 have hent:∀ w, -1<=w->w<g.d->(E2 g).getD (Eu g w).toNat ez=ent0:=fun w hw hw2=>by
  have hat:0<=Eu g w/\Eu g w<=g.d:=by unfold Eu;split <;> omega
  unfold E2;rw [Ab,List.getElem?_replicate,if_pos (by omega)];try rfl
 refine⟨E2 g,htab,fun _ _ _=>rfl,fun w hw hw2=>?_,fun w hw hw2=>?_,(fold_zero _).symm⟩
 ·rw [hent w hw hw2];exact tA
 ·show DD ⟨0,(Jn g lb).F (D1 g (Jn g lb).a (k:Nat) w)⟩ (D1 g (Jn g lb).a (k:Nat) w) ((E2 g).getD (Eu g w).toNat ez)=some zero8;have hat:0<=Eu g w/\Eu g w<=g.d:=by unfold Eu;split <;> omega
  have hadr:D1 g (Jn g lb).a (k:Nat) w=Cu g (k:Nat) ((Eu g w).toNat:Nat):=by
   unfold D1;rw [Ac,hzh];congr 1;rw [AQ (d:=0) (by simp;omega),Ab,BG (by omega)];try rfl
  have hsl:=Ky hg (z:=(k:Nat)) (s:=((Eu g w).toNat:Nat)) ⟨h0,h1⟩ (by unfold CF;omega);rw [hadr,hF _ (by omega) hsl.2,MB (by omega) (by omega) (by omega),hent w hw hw2];exact T2 ⟨by omega,by omega,by omega,by omega,by decide⟩ rfl rfl rfl
theorem Ye {g:Geo} {lb:ByteArray} (hg:Bm g=true):Zw g (Jn g lb):=by
 obtain⟨g1,g2,g3,g4,g5⟩:=Az.1 hg;have hn:0<=g.z*g.d:=C_ (by omega) (by omega);refine⟨?_,_,U0 hg,fun z w h0 h1 h2 h3=>?_⟩
 ·show (((List.replicate (g.z*g.d).toNat zero8).length:Nat):Int)=_;rw [Bh];omega
 ·have:=ZH hg h0 h1 h2 h3;show (List.replicate (g.z*g.d).toNat zero8).getD _ []=zero8;rw [Ab,List.getElem?_replicate,if_pos (by omega)];try rfl
theorem U6 {g:Geo} {a:An} {seq left:Int} (hg:Bm g=true):E7 g a ⟨0,BN g zeroC 0 0⟩ ⟨0,BN g zeroC 1 0⟩ 0 seq 0 0 left=(zeroC, [],2):=by
 obtain⟨g1,g2,g3,g4,g5⟩:=Az.1 hg;have h0:Fa zeroC a seq 0 0 left=false:=decide_eq_false fun h=>h.1 rfl
 unfold E7;rw [Jv hg (Eo hg) (KY (.inl rfl) ⟨by omega,by omega⟩),Jv hg (Eo hg) (KY (.inr rfl) ⟨by omega,by omega⟩)];show FA (some zeroC) (some zeroC) (Fa zeroC a seq 0 0 left) (Fa zeroC a seq 0 0 left)=_;rw [h0];try rfl
theorem Uh (g:Geo) (a:An) (x y:List Gt) (pos seq left:Int) (hp:pos=0) (hg:Bm g=true) (ha:Bz g a=true) (hl:a.label.size<=1000000) (hh:a.homes.length<=1000000) (hx:x.length=g.sl) (hy:y.length=g.sl) (h0:x.getD 0 gz=⟨0,BN g zeroC 0 0⟩) (h1:y.getD 0 gz=⟨0,BN g zeroC 1 0⟩) :
  ACalls Tryz.prog false 376 [.bp 0 0,iv 0,iv 0] [.box 443 (Y9 g a x y pos seq left (.v (.slice none 0 0)))]
   fun r H=>r = .tp [.ag (G_ zeroC),iv 2, .v (.slice none 0 0)]/\H=[.box 443 (Y9 g a x y pos seq left (.v (.slice none 0 0)))]:=by
 subst hp;obtain⟨g1,g2,g3,g4,g5⟩:=Az.1 hg;have b0:(BN g zeroC 0 0).length<=100000:=by have:=Cy (Eo hg) 0 0;omega
 have b1:(BN g zeroC 1 0).length<=100000:=by have:=Cy (Eo hg) 1 0;omega
 have lk:=WB (g:=g) (a:=a) (x:=⟨0,BN g zeroC 0 0⟩) (y:=⟨0,BN g zeroC 1 0⟩) (slot:=0) (seq:=seq) (at_:=0) (of_:=0) (left:=left) hl hh b0 b1 hg ha (AK.2 (by omega)) (U6 hg);have w0:(IntKind.i64.wrap (0+0)).tmod g.sl=0:=by rw [show IntKind.i64.wrap (0+0)=0 from rfl,Int.zero_tmod]
 rw [<-h0,<-h1] at lk;refine zU tys_ok Tryz.func376 rfl rfl (Af rfl) ?_;conv=>whnf
 conv=>whnf
 refine zM tys_ok mixed (by kernel_rfl) ?_;refine⟨by omega,?_⟩;conv=>whnf
 rw [w0];apply zJ tys_ok mixed (.o [0,1,2,3,4,5,6,7,8,9,10,11,12,13,14,15,16,17,18,19,20,21,22,23,24,25,26,27,28,29,30,31,32] (.two 33 (.o [34,35,36,37,38,39,40,41,42,43] .fin) 39 (.o [33,34,35,36,37,38,40,41,42,43] .fin))) [10,11,12,13,33,34,35,36,37,38,39,40,41,42,43,44,45,46,47,48,49,50,51,52,53,54,55,56,57,58,59,60,61,62,63,64,65,66,67,68,69,70,71] (by kernel_rfl)
 ·conv=>whnf
  try (refine Ah (by first | omega | exact ixA | exact ixB | (simp;done)) ?_;conv=>whnf)
  try (refine Ah (by first | omega | exact ixA | exact ixB | (simp;done)) ?_;conv=>whnf)
  refine Ah ?_ ?_
  ·conv=>whnf
   refine z_ lk ?_;conv=>whnf
   try (refine tS ?_;conv=>whnf)
   exact tA
  ·conv=>whnf
   refine z_ lk ?_;conv=>whnf
   try (refine tS ?_;conv=>whnf)
   exact tA
 conv=>whnf
 refine zA 1 ?_;conv=>whnf
 repeat' (refine zZ ?_;conv=>whnf)
 exact⟨_, .tp [.ag (G_ zeroC),iv 2, .v (.slice none 0 0)], [.box 443 (Y9 g a x y 0 seq left (.v (.slice none 0 0)))],fun _ _ h=>h,zP (s:= [0]) tA,rfl,rfl⟩
theorem TM (g:Geo) (a:An) (x y:List Gt) (pos seq left:Int) (hp:pos=0) (hg:Bm g=true) (ha:Bz g a=true) (hl:a.label.size<=1000000) (hh:a.homes.length<=1000000) (hx:x.length=g.sl) (hy:y.length=g.sl) (h0:x.getD 0 gz=⟨0,BN g zeroC 0 0⟩) (h1:y.getD 0 gz=⟨0,BN g zeroC 1 0⟩) :
  ACalls Tryz.prog false 331 [.bp 0 0] [.box 443 (Y9 g a x y pos seq left (.v (.slice none 0 0)))]
   fun r H=>r = .tp [.ag [iv 0,iv 0,iv 0, .v (.slice none 0 0)],iv 2]/\H=[.box 443 (Y9 g a x y pos seq left (.v (.slice none 0 0)))]:=by
 subst hp;have rc0:=Uh g a x y 0 seq left rfl hg ha hl hh hx hy h0 h1;refine zU tys_ok Tryz.func331 rfl rfl (Af rfl) ?_;conv=>whnf
 conv=>whnf
 refine ze9 [0] rc0 ?_;rintro _ _ ⟨rfl,rfl⟩;exact⟨_, .tp [.ag [iv 0,iv 0,iv 0, .v (.slice none 0 0)],iv 2], [.box 443 (Y9 g a x y 0 seq left (.v (.slice none 0 0)))],fun _ _ h=>h,zP (s:= [0]) tA,rfl,rfl⟩
theorem Sw (g:Geo) (a:An) (x y:List Gt) (hg:Bm g=true) (ha:Bz g a=true) (hl:a.label.size<=1000000) (hh:a.homes.length<=1000000) (hp:a.pos=0) (hq:¬a.seq - 1<a.last) (hq1:1<=a.seq) (hq2:a.seq<=4294967295) (hx:(x.length:Int)=g.sl) (hy:(y.length:Int)=g.sl) (h0:x.getD 0 gz=⟨0,BN g zeroC 0 0⟩) (h1:y.getD 0 gz=⟨0,BN g zeroC 1 0⟩) :
  Fn Tryz.prog 274 [.ag (Bi g), .ag (EN a),Fx x,Fx y] fun r=>r = .tp [.v (.slice none 0 0), .v (.slice none 0 0),iv 0]:=by
 obtain⟨g1,g2,g3,g4,g5⟩:=Az.1 hg;have s1:=Gf g a hl hh;rw [hg,ha] at s1;have tx:=TM g a x y a.pos a.seq g.sl hp hg ha hl hh hx hy h0 h1;have w1:IntKind.i64.wrap (a.seq - 1)=a.seq - 1:=wi (by omega);refine zT Tryz.func274 rfl ?_;conv=>whnf
 refine z_ s1 ?_;conv=>whnf
 rw [show ((x.length:Int) != g.sl)=false from bne_eq_false_iff_eq.2 hx];conv=>whnf
 rw [show ((y.length:Int) != g.sl)=false from bne_eq_false_iff_eq.2 hy];conv=>whnf
 refine zA 1 ?_;conv=>whnf
 rw [show decide (g.sl > 0)=true from decide_eq_true (by omega)];conv=>whnf
 rw [show decide (a.seq<=4294967295)=true from decide_eq_true hq2];conv=>whnf
 refine ze9 [2] tx ?_;rintro _ _ ⟨rfl,rfl⟩;conv=>whnf
 repeat' (refine zZ ?_;conv=>whnf)
 refine zM tys_ok mixed (by kernel_rfl) ?_;conv=>whnf
 rw [w1,decide_eq_false hq];conv=>whnf
 refine zM tys_ok mixed (by kernel_rfl) ?_;exact⟨_,ri,rfl⟩
theorem NZ {g:Geo} (hg:Bm g=true) {lba:Int} (hlba:0<=lba/\lba<g.z*g.d):(0<=lba.tdiv g.d/\lba.tdiv g.d<g.z)/\0<=lba.tmod g.d/\lba.tmod g.d<g.d:=by
 obtain⟨g1,g2,g3,g4,g5⟩:=Az.1 hg;rw [Bp hlba.1];exact⟨⟨Df hlba.1 (by omega),Dd (by omega) hlba.2⟩,B9 _ hlba.1,Bu _ (by omega)⟩
def Dk.z (d:Dk):Dk:={ d with reqs:=0 }
theorem DkOk.z {d:Dk} (h:DkOk d):DkOk d.z:=⟨h.n,h.m,⟨C8 _,by show (0:Int)<=_;decide⟩,h.l,h.c,h.w⟩
theorem Gd.z {n:Int} {d:Dk} {F:Int->List UInt8} (h:Gd n d F):Gd n d.z F:=⟨h.ok.z,h.left,h.len,h.cache,h.cell,h.old⟩
theorem ZS {g:Geo} {lb:ByteArray} (hg:Bm g=true) (hs:Et lb.data.toList=0):∀ a j,FQ g (B3 (DS g lb) (Di g))=some (a,j)->GT g a (B3 ((DS g lb).adv g.an.toNat) (BC g 0)) (B3 ((DS g lb).adv g.an.toNat) (BC g 1))=([], [],0)/\Fn Tryz.prog 274 [.ag (Bi g), .ag (EN a),Fx (B3 ((DS g lb).adv g.an.toNat) (BC g 0)),Fx (B3 ((DS g lb).adv g.an.toNat) (BC g 1))] fun r=>r = .tp [.v (.slice none 0 0), .v (.slice none 0 0),iv 0]:=fun a j hp=>by
 obtain⟨g1,g2,g3,g4,g5⟩:=Az.1 hg;have hf:=JH (g:=g) (s:=lb) hg;have hb:=JI (g:=g) (s:=lb) hg hs;rw [Uv hg hb hf] at hp;obtain⟨rfl, -⟩:=Prod.mk.inj (Option.some.inj hp);have hsm:=EV g.an.toNat (DS g lb);have h3:Holds ((DS g lb).adv g.an.toNat) (A7 g) (FJ g lb):=⟨by rw [hsm.1];exact hf.len,hsm.2.trans hf.cache,by rw [hsm.1];exact hf.cell⟩;have hl:∀ c,((B3 ((DS g lb).adv g.an.toNat) (BC g c)).length:Int)=g.sl:=fun c=>by rw [DB,D6];omega
 have e:∀ c,c=0\/c=1->(B3 ((DS g lb).adv g.an.toNat) (BC g c)).getD 0 gz=⟨0,BN g zeroC c 0⟩:=fun c hc=>by
  rw [Lu h3 _ (M4 hg hc)];unfold BC;rw [List.map_map,Ab,AW,BG (by omega)];show (⟨0,FJ g lb (Bk g c ((0:Nat):Int))⟩:Gt)=_;rw [Jb hc (by omega)];try rfl
 have hk:=DA hg hb 0 (Ak _);exact⟨Ow hg rfl (by show ¬(1:Int) - 1<0;decide) h3,Sw g _ _ _ hg hb (by have:=hk.2.2.2.1;omega) (by have:=hk.2.1;omega) rfl (by show ¬(1:Int) - 1<0;decide) (by show (1:Int)<=1;decide) (by show (1:Int)<=4294967295;decide) (hl 0) (hl 1) (e 0 (.inl rfl)) (e 1 (.inr rfl))⟩
structure Vm (g:Geo) (K:Int) (d:Dk) (M:Md):Prop where
 gd:Gd (A7 g) d M.F
 vo:Vo g K M
 rd:Zw g M
theorem Vm.z {g:Geo} {K:Int} {d:Dk} {M:Md} (h:Vm g K d M):Vm g K d.z M:=⟨h.gd.z,h.vo,h.rd⟩
theorem Vm.cm {g:Geo} {K:Int} {d d':Dk} {M:Md} {lba:Int} {b:List UInt8} {W:List Wr} (hg:Bm g=true) (hK:K<=4294967294) (hlba:0<=lba/\lba<g.z*g.d) (hb:b.length=8) (h:Vm g K d M) (hroom:D_ M.l+4<=g.sl) (hd:Gd (A7 g) d' (Mj M.F W)) (hW:∀ w∈W,(g.an<=w.addr/\w.addr<g.an+2*g.sl/\BZ w.bytes=w.addr)/\w.bytes.length<=200):Vm g (K+1) d' ⟨M.a,M.l ++ [FK g M.a M.l M.F lba b],Mj M.F W,M.m.set lba.toNat b⟩:=by
 have hz:0<=lba.tdiv g.d/\lba.tdiv g.d<g.z:=(NZ hg hlba).1;obtain⟨-,V,hV, -⟩:=h.rd;obtain⟨t,hz⟩:=hV _ hz.1 hz.2;obtain⟨c1,c2⟩:=Zf hg hK hlba hb (h.vo.vol h.gd) h.rd (.inl ⟨hroom,by rw [hz.tab];try rfl,W,hW,rfl⟩);exact⟨hd,Vo.of (d:=d') ⟨⟨_,hd⟩,c2.an,c2.ring,c2.rest,c2.gen,c2.seq,c2.one⟩ (PU h.vo.fb fun w hw=>(hW w hw).2) (by show (((M.m.set lba.toNat b).length:Nat):Int)=_;rw [Bg];exact h.vo.m),c1⟩
structure Vout where
 d:Dk
 s:Stt
 b:Bool
 L:List Lck
 l:List Hd
 e:Int
 n:Int
 bytes:List UInt8
@[reducible] def LW (g:Geo) (d:Dk) (s:Stt) (b:Bool) (L:List Lck) (l:List Hd):List AB:= [.box 111 (XJ g d true s (txV b s.txns) (C0 L) (CU l))]
@[reducible] def voX (g:Geo) (c1 c2:AV) (rq lf:Int) (on:Bool) (s:Stt) (tx lk hd:AV):List AV:= [iv g.z,iv g.d,iv g.sp,iv g.sl,iv g.an,c1,c2,iv rq,iv lf, .v (.bool on),iv s.a.gen,iv s.a.epoch,iv s.a.pos,iv s.a.seq,iv s.a.last, .v (.string s.a.label),GK s.a.homes,tx, .v (.bool s.only),iv s.cursor,iv s.found,iv s.fixed,iv s.moved,iA s.lost,lk,hd]
theorem TF {g:Geo} {c1 c2:AV} {rq lf:Int} {on:Bool} {s:Stt} {lk hd tx tx':AV} (h:∀ c v,Rd tx c v->Rd tx' c v):SubL (voX g c1 c2 rq lf on s tx lk hd) (voX g c1 c2 rq lf on s tx' lk hd):=⟨ri,ri,ri,ri,ri,ri,ri,ri,ri,ri,ri,ri,ri,ri,ri,ri,ri,h,ri,ri,ri,ri,ri,ri,ri,ri,tv⟩
@[reducible] def Zo (g:Geo) (d:Dk) (j:Nat) (on:Bool) (s:Stt) (tx lk hd:AV):List AV:=voX g (.sl 3 (d.cells.map Cg).length fun k=>(d.cells.map Cg).getD k []) (.ow j d.cache.length) d.reqs d.left on s tx lk hd
@[reducible] def Zz (g:Geo) (d:Dk) (on:Bool) (s:Stt) (tx lk hd:AV):List AV:=voX g (.sl 3 (d.cells.map Cg).length fun k=>(d.cells.map Cg).getD k []) (.sl 2 (d.cache.map GI).length fun k=>(d.cache.map GI).getD k []) d.reqs d.left on s tx lk hd
theorem Gh {H:List AB} {t:TypeId} {g:Geo} {d:Dk} {on b:Bool} {s:Stt} {L:List Lck} {l:List Hd} (i j:Nat) (hij:i≠j) (hj0:0≠j) (h0:H[0]? = some (.box t (voX g (.ow i d.cells.length) (.ow j d.cache.length) d.reqs d.left on s (txV b s.txns) (C0 L) (CU l)))) (hi:H[i]? = some (.row 68 3 (d.cells.map Cg))) (hj:H[j]? = some (.row 152 2 (d.cache.map GI))) :
  ConvH H (((((H.set i .dead).set 0 (.box t (Zo g d j on s (txV b s.txns) (C0 L) (CU l)))).set j .dead).set 0 (.box t (Zz g d on s (txV b s.txns) (C0 L) (CU l)))).set 0 (.box t (XJ g d on s (txV b s.txns) (C0 L) (CU l)))):=by
 have hl0:0<H.length:=(Aq.1 h0).1;have c1:=zm (H:=H) 0 i (cs2:=Zo g d j on s (txV b s.txns) (C0 L) (CU l)) h0 hi (by
  simp only [A6,Bx,Ni (Aa _).symm,H5 (Ne.symm hij)];cases b <;> rfl)
 have c2:=zm (H:=(H.set i .dead).set 0 (.box t (Zo g d j on s (txV b s.txns) (C0 L) (CU l)))) 0 j (cs:=Zo g d j on s (txV b s.txns) (C0 L) (CU l)) (cs2:=Zz g d on s (txV b s.txns) (C0 L) (CU l)) (by rw [A0 (by simpa using hl0)]) (by rw [A4 hj0,A4 hij];exact hj) (by
  simp only [A6,Bx,Ni (Aa _).symm];cases b <;> rfl)
 exact c1.trans (c2.trans (zz (cs:=Zz g d on s (txV b s.txns) (C0 L) (CU l)) (cs':=XJ g d on s (txV b s.txns) (C0 L) (CU l)) 0 (by rw [A0 (by simpa using hl0)]) ⟨ri,ri,ri,ri,ri,C2 (f:=Cg) d.cells (Aa _) rfl,C2 (f:=GI) d.cache (Aa _) rfl,ri,ri,ri,ri,ri,ri,ri,ri,ri,ri,ri,ri,ri,ri,ri,ri,ri,ri,ri,tv⟩))
theorem Nb (g:Geo) (d:Dk) (s:Stt) (b:Bool) (L:List Lck) (l:List Hd) (x:Sp) (P:Vout->Prop) (hb:b=true->s.txns=[]) (hd:d.cells.length<=1000000000/\d.cache.length<=1000000000) (hk:2<=x.kind/\x.kind<=10) (hcut:x.cut<=0)
  (hdoes:ACalls Tryz.prog false 45 [.bp 5 0] (Gg g d.z d.z s s b L l x) fun r H=>∃ o,P o/\o.e≠8/\o.d.left = -1/\r = .ag (an7 o.e o.n o.bytes)/\H=Fc g d.z o.d s o.s o.b o.L o.l x) :
  ACalls Tryz.prog false 20 [.bp 0 0, .ag (Nf x)] (LW g d s b L l) fun r H=>∃ o,P o/\r = .ag (an7 o.e (if o.e=0 then o.n else 0) (if o.e=0 then o.bytes else []))/\H=LW g o.d o.s o.b o.L o.l:=by
 have c1:=RN d.z hd.1 hd.2;have htx:∀ b,(b=true->s.txns=[])->∀ c v,Rd (txV b s.txns) c v->Rd (DW s.txns) c v:=fun b hb c v h=>by
  cases b with
  | true=>rw [hb rfl];exact Bl 4 _ c v h
  | false=>exact h
 have k1:decide (x.kind>=11)=false:=decide_eq_false (by omega);have k2:(x.kind == 1)=false:=beq_eq_false_iff_ne.2 (by omega);have k3:decide (x.cut > 0)=false:=decide_eq_false (by omega);cases b with
 | true=>
  refine zU tys_ok Tryz.func20 rfl rfl (Af rfl) ?_;conv=>whnf
  rw [k1];conv=>whnf
  repeat' (refine zZ ?_;conv=>whnf)
  apply zW (0) tys_ok mixed (.o [0,1,2,3,4,5,6,7,8] .fin) (by kernel_rfl);conv=>whnf
  rw [k2];conv=>whnf
  repeat' (refine zZ ?_;conv=>whnf)
  rw [k3];conv=>whnf
  repeat' (refine zZ ?_;conv=>whnf)
  apply zW (0) tys_ok mixed (.o [0,1,2,3,4,5,6,7,8,10,11,12,13,16,9,14,15,17,18,19] .fin) (by kernel_rfl);conv=>whnf
  (refine zX c1 rfl ?_;rintro _ _ ⟨rfl,rfl⟩)
  conv=>whnf
  repeat' (refine zZ ?_;conv=>whnf)
  refine zh (zz (cs':=XJ g d.z true s (DW s.txns) (C0 L) (CU l)) 0 rfl (TF (htx true hb))) ?_;refine ze9 [0,6,3,4,5,7] hdoes ?_;rintro _ _ ⟨o,ho,he8,hleft,rfl,rfl⟩;obtain⟨⟨cs,ca,rq,lf⟩,s1,b1,L1,l1,e,n,bs⟩:=o;obtain rfl:lf = -1:=hleft;simp only at he8;have k8:(e == 8)=false:=beq_eq_false_iff_ne.2 he8;cases b1 with
  | true=>
   conv=>whnf
   repeat' (refine zZ ?_;conv=>whnf)
   apply zW (0) tys_ok mixed (.o [0,1,2,3,4,5,6,7,8,9,10,11,12,13,14,15,16,17,18,19,20,21,22,23,24] .fin) (by kernel_rfl);conv=>whnf
   try (refine tS ?_;conv=>whnf)
   try (refine tS ?_;conv=>whnf)
   repeat' (refine zZ ?_;conv=>whnf)
   rw [k8];conv=>whnf
   repeat' (refine zZ ?_;conv=>whnf)
   by_cases he0:e=0
   ·subst he0;conv=>whnf
    repeat' (refine zZ ?_;conv=>whnf)
    exact⟨_, .ag (an7 0 n bs),LW g ⟨cs,ca,rq, -1⟩ s1 true L1 l1,fun _ _ h=>h,zH (zO (Gh (d:=⟨cs,ca,rq, -1⟩) (b:=true) 4 8 (by decide) (by decide) rfl rfl rfl)) (s:= [0]) tA,⟨⟨cs,ca,rq, -1⟩,s1,true,L1,l1,0,n,bs⟩,ho,rfl,rfl⟩
   ·rw [show (e != 0)=true from bne_iff_ne.2 he0];conv=>whnf
    repeat' (refine zZ ?_;conv=>whnf)
    exact⟨_, .ag (an7 e 0 []),LW g ⟨cs,ca,rq, -1⟩ s1 true L1 l1,B7 (Ds e 0),zH (zO (Gh (d:=⟨cs,ca,rq, -1⟩) (b:=true) 4 8 (by decide) (by decide) rfl rfl rfl)) (s:= [0]) tA,⟨⟨cs,ca,rq, -1⟩,s1,true,L1,l1,e,n,bs⟩,ho,by rw [if_neg he0,if_neg he0],rfl⟩
  | false=>
   conv=>whnf
   repeat' (refine zZ ?_;conv=>whnf)
   apply zW (0) tys_ok mixed (.o [0,1,2,3,4,5,6,7,8,9,10,11,12,13,14,15,16,17,18,19,20,21,22,23,24] .fin) (by kernel_rfl);conv=>whnf
   try (refine tS ?_;conv=>whnf)
   try (refine tS ?_;conv=>whnf)
   repeat' (refine zZ ?_;conv=>whnf)
   rw [k8];conv=>whnf
   repeat' (refine zZ ?_;conv=>whnf)
   by_cases he0:e=0
   ·subst he0;conv=>whnf
    repeat' (refine zZ ?_;conv=>whnf)
    exact⟨_, .ag (an7 0 n bs),LW g ⟨cs,ca,rq, -1⟩ s1 false L1 l1,fun _ _ h=>h,zH (zO (Gh (d:=⟨cs,ca,rq, -1⟩) (b:=false) 4 8 (by decide) (by decide) rfl rfl rfl)) (s:= [0]) tA,⟨⟨cs,ca,rq, -1⟩,s1,false,L1,l1,0,n,bs⟩,ho,rfl,rfl⟩
   ·rw [show (e != 0)=true from bne_iff_ne.2 he0];conv=>whnf
    repeat' (refine zZ ?_;conv=>whnf)
    exact⟨_, .ag (an7 e 0 []),LW g ⟨cs,ca,rq, -1⟩ s1 false L1 l1,B7 (Ds e 0),zH (zO (Gh (d:=⟨cs,ca,rq, -1⟩) (b:=false) 4 8 (by decide) (by decide) rfl rfl rfl)) (s:= [0]) tA,⟨⟨cs,ca,rq, -1⟩,s1,false,L1,l1,e,n,bs⟩,ho,by rw [if_neg he0,if_neg he0],rfl⟩
 | false=>
  refine zU tys_ok Tryz.func20 rfl rfl (Af rfl) ?_;conv=>whnf
  rw [k1];conv=>whnf
  repeat' (refine zZ ?_;conv=>whnf)
  apply zW (0) tys_ok mixed (.o [0,1,2,3,4,5,6,7,8] .fin) (by kernel_rfl);conv=>whnf
  rw [k2];conv=>whnf
  repeat' (refine zZ ?_;conv=>whnf)
  rw [k3];conv=>whnf
  repeat' (refine zZ ?_;conv=>whnf)
  apply zW (0) tys_ok mixed (.o [0,1,2,3,4,5,6,7,8,10,11,12,13,16,9,14,15,17,18,19] .fin) (by kernel_rfl);conv=>whnf
  (refine zX c1 rfl ?_;rintro _ _ ⟨rfl,rfl⟩)
  conv=>whnf
  repeat' (refine zZ ?_;conv=>whnf)
  refine zh (zz (cs':=XJ g d.z true s (DW s.txns) (C0 L) (CU l)) 0 rfl (TF (htx false hb))) ?_;refine ze9 [0,6,3,4,5,7] hdoes ?_;rintro _ _ ⟨o,ho,he8,hleft,rfl,rfl⟩;obtain⟨⟨cs,ca,rq,lf⟩,s1,b1,L1,l1,e,n,bs⟩:=o;obtain rfl:lf = -1:=hleft;simp only at he8;have k8:(e == 8)=false:=beq_eq_false_iff_ne.2 he8;cases b1 with
  | true=>
   conv=>whnf
   repeat' (refine zZ ?_;conv=>whnf)
   apply zW (0) tys_ok mixed (.o [0,1,2,3,4,5,6,7,8,9,10,11,12,13,14,15,16,17,18,19,20,21,22,23,24] .fin) (by kernel_rfl);conv=>whnf
   try (refine tS ?_;conv=>whnf)
   try (refine tS ?_;conv=>whnf)
   repeat' (refine zZ ?_;conv=>whnf)
   rw [k8];conv=>whnf
   repeat' (refine zZ ?_;conv=>whnf)
   by_cases he0:e=0
   ·subst he0;conv=>whnf
    repeat' (refine zZ ?_;conv=>whnf)
    exact⟨_, .ag (an7 0 n bs),LW g ⟨cs,ca,rq, -1⟩ s1 true L1 l1,fun _ _ h=>h,zH (zO (Gh (d:=⟨cs,ca,rq, -1⟩) (b:=true) 4 8 (by decide) (by decide) rfl rfl rfl)) (s:= [0]) tA,⟨⟨cs,ca,rq, -1⟩,s1,true,L1,l1,0,n,bs⟩,ho,rfl,rfl⟩
   ·rw [show (e != 0)=true from bne_iff_ne.2 he0];conv=>whnf
    repeat' (refine zZ ?_;conv=>whnf)
    exact⟨_, .ag (an7 e 0 []),LW g ⟨cs,ca,rq, -1⟩ s1 true L1 l1,B7 (Ds e 0),zH (zO (Gh (d:=⟨cs,ca,rq, -1⟩) (b:=true) 4 8 (by decide) (by decide) rfl rfl rfl)) (s:= [0]) tA,⟨⟨cs,ca,rq, -1⟩,s1,true,L1,l1,e,n,bs⟩,ho,by rw [if_neg he0,if_neg he0],rfl⟩
  | false=>
   conv=>whnf
   repeat' (refine zZ ?_;conv=>whnf)
   apply zW (0) tys_ok mixed (.o [0,1,2,3,4,5,6,7,8,9,10,11,12,13,14,15,16,17,18,19,20,21,22,23,24] .fin) (by kernel_rfl);conv=>whnf
   try (refine tS ?_;conv=>whnf)
   try (refine tS ?_;conv=>whnf)
   repeat' (refine zZ ?_;conv=>whnf)
   rw [k8];conv=>whnf
   repeat' (refine zZ ?_;conv=>whnf)
   by_cases he0:e=0
   ·subst he0;conv=>whnf
    repeat' (refine zZ ?_;conv=>whnf)
    exact⟨_, .ag (an7 0 n bs),LW g ⟨cs,ca,rq, -1⟩ s1 false L1 l1,fun _ _ h=>h,zH (zO (Gh (d:=⟨cs,ca,rq, -1⟩) (b:=false) 4 8 (by decide) (by decide) rfl rfl rfl)) (s:= [0]) tA,⟨⟨cs,ca,rq, -1⟩,s1,false,L1,l1,0,n,bs⟩,ho,rfl,rfl⟩
   ·rw [show (e != 0)=true from bne_iff_ne.2 he0];conv=>whnf
    repeat' (refine zZ ?_;conv=>whnf)
    exact⟨_, .ag (an7 e 0 []),LW g ⟨cs,ca,rq, -1⟩ s1 false L1 l1,B7 (Ds e 0),zH (zO (Gh (d:=⟨cs,ca,rq, -1⟩) (b:=false) 4 8 (by decide) (by decide) rfl rfl rfl)) (s:= [0]) tA,⟨⟨cs,ca,rq, -1⟩,s1,false,L1,l1,e,n,bs⟩,ho,by rw [if_neg he0,if_neg he0],rfl⟩
section
variable (g:Geo) (d0 d:Dk) (s0 s:Stt) (b:Bool) (L:List Lck) (l:List Hd) (x:Sp) (P:Vout->Prop)
theorem Oc (hk:x.kind=2) (h:ACalls Tryz.prog false 111 [.bp 5 0] (Gg g d0 d s0 s b L l x) fun r H=>∃ o:Vout,P o/\r = .ag (an7 o.e o.n o.bytes)/\H=Gg g d0 o.d s0 o.s o.b o.L o.l x):ACalls Tryz.prog false 45 [.bp 5 0] (Gg g d0 d s0 s b L l x) fun r H=>∃ o:Vout,P o/\r = .ag (an7 o.e o.n o.bytes)/\H=Fc g d0 o.d s0 o.s o.b o.L o.l x:=by
 obtain⟨k,h1,h2,h3,h4,h5,h6,h7,h8,h9⟩:=x;obtain rfl:k=2:=hk;cases b with
 | true=>
  refine zU tys_ok Tryz.func45 rfl rfl (Af rfl) ?_;conv=>whnf
  repeat' (refine zZ ?_;conv=>whnf)
  refine ze9 [0,1,2,3,4,5] h ?_;rintro _ _ ⟨o,ho,rfl,rfl⟩;obtain⟨d1,s1,b1,L1,l1,e,n,bs⟩:=o;cases b1 with
  | true=>
   exact⟨_, .ag (an7 e n bs),Fc g d0 d1 s0 s1 true L1 l1 ⟨2,h1,h2,h3,h4,h5,h6,h7,h8,h9⟩,fun _ _ h=>h,zH (zO (zE 2 4 (by decide) rfl rfl)) (s:= [0,1,2,3,4,5,7]) tA,⟨d1,s1,true,L1,l1,e,n,bs⟩,ho,rfl,rfl⟩
  | false=>
   exact⟨_, .ag (an7 e n bs),Fc g d0 d1 s0 s1 false L1 l1 ⟨2,h1,h2,h3,h4,h5,h6,h7,h8,h9⟩,fun _ _ h=>h,zH (zO (zE 2 4 (by decide) rfl rfl)) (s:= [0,1,2,3,4,5,7]) tA,⟨d1,s1,false,L1,l1,e,n,bs⟩,ho,rfl,rfl⟩
 | false=>
  refine zU tys_ok Tryz.func45 rfl rfl (Af rfl) ?_;conv=>whnf
  repeat' (refine zZ ?_;conv=>whnf)
  refine ze9 [0,1,2,3,4,5] h ?_;rintro _ _ ⟨o,ho,rfl,rfl⟩;obtain⟨d1,s1,b1,L1,l1,e,n,bs⟩:=o;cases b1 with
  | true=>
   exact⟨_, .ag (an7 e n bs),Fc g d0 d1 s0 s1 true L1 l1 ⟨2,h1,h2,h3,h4,h5,h6,h7,h8,h9⟩,fun _ _ h=>h,zH (zO (zE 2 4 (by decide) rfl rfl)) (s:= [0,1,2,3,4,5,7]) tA,⟨d1,s1,true,L1,l1,e,n,bs⟩,ho,rfl,rfl⟩
  | false=>
   exact⟨_, .ag (an7 e n bs),Fc g d0 d1 s0 s1 false L1 l1 ⟨2,h1,h2,h3,h4,h5,h6,h7,h8,h9⟩,fun _ _ h=>h,zH (zO (zE 2 4 (by decide) rfl rfl)) (s:= [0,1,2,3,4,5,7]) tA,⟨d1,s1,false,L1,l1,e,n,bs⟩,ho,rfl,rfl⟩
theorem PS (hk:x.kind=3) (h:ACalls Tryz.prog false 112 [.bp 5 0] (Gg g d0 d s0 s b L l x) fun r H=>∃ o:Vout,P o/\r = .ag (an7 o.e o.n o.bytes)/\H=Gg g d0 o.d s0 o.s o.b o.L o.l x):ACalls Tryz.prog false 45 [.bp 5 0] (Gg g d0 d s0 s b L l x) fun r H=>∃ o:Vout,P o/\r = .ag (an7 o.e o.n o.bytes)/\H=Fc g d0 o.d s0 o.s o.b o.L o.l x:=by
 obtain⟨k,h1,h2,h3,h4,h5,h6,h7,h8,h9⟩:=x;obtain rfl:k=3:=hk;cases b with
 | true=>
  refine zU tys_ok Tryz.func45 rfl rfl (Af rfl) ?_;conv=>whnf
  repeat' (refine zZ ?_;conv=>whnf)
  refine ze9 [0,1,2,3,4,5] h ?_;rintro _ _ ⟨o,ho,rfl,rfl⟩;obtain⟨d1,s1,b1,L1,l1,e,n,bs⟩:=o;cases b1 with
  | true=>
   exact⟨_, .ag (an7 e n bs),Fc g d0 d1 s0 s1 true L1 l1 ⟨3,h1,h2,h3,h4,h5,h6,h7,h8,h9⟩,fun _ _ h=>h,zH (zO (zE 2 4 (by decide) rfl rfl)) (s:= [0,1,2,3,4,5,7]) tA,⟨d1,s1,true,L1,l1,e,n,bs⟩,ho,rfl,rfl⟩
  | false=>
   exact⟨_, .ag (an7 e n bs),Fc g d0 d1 s0 s1 false L1 l1 ⟨3,h1,h2,h3,h4,h5,h6,h7,h8,h9⟩,fun _ _ h=>h,zH (zO (zE 2 4 (by decide) rfl rfl)) (s:= [0,1,2,3,4,5,7]) tA,⟨d1,s1,false,L1,l1,e,n,bs⟩,ho,rfl,rfl⟩
 | false=>
  refine zU tys_ok Tryz.func45 rfl rfl (Af rfl) ?_;conv=>whnf
  repeat' (refine zZ ?_;conv=>whnf)
  refine ze9 [0,1,2,3,4,5] h ?_;rintro _ _ ⟨o,ho,rfl,rfl⟩;obtain⟨d1,s1,b1,L1,l1,e,n,bs⟩:=o;cases b1 with
  | true=>
   exact⟨_, .ag (an7 e n bs),Fc g d0 d1 s0 s1 true L1 l1 ⟨3,h1,h2,h3,h4,h5,h6,h7,h8,h9⟩,fun _ _ h=>h,zH (zO (zE 2 4 (by decide) rfl rfl)) (s:= [0,1,2,3,4,5,7]) tA,⟨d1,s1,true,L1,l1,e,n,bs⟩,ho,rfl,rfl⟩
  | false=>
   exact⟨_, .ag (an7 e n bs),Fc g d0 d1 s0 s1 false L1 l1 ⟨3,h1,h2,h3,h4,h5,h6,h7,h8,h9⟩,fun _ _ h=>h,zH (zO (zE 2 4 (by decide) rfl rfl)) (s:= [0,1,2,3,4,5,7]) tA,⟨d1,s1,false,L1,l1,e,n,bs⟩,ho,rfl,rfl⟩
theorem Oa (hk:x.kind=4) (h:ACalls Tryz.prog false 113 [.bp 5 0] (Gg g d0 d s0 s b L l x) fun r H=>∃ o:Vout,P o/\(r = iv o.e/\o.n=0/\o.bytes=[])/\H=Gg g d0 o.d s0 o.s o.b o.L o.l x):ACalls Tryz.prog false 45 [.bp 5 0] (Gg g d0 d s0 s b L l x) fun r H=>∃ o:Vout,P o/\r = .ag (an7 o.e o.n o.bytes)/\H=Fc g d0 o.d s0 o.s o.b o.L o.l x:=by
 obtain⟨k,h1,h2,h3,h4,h5,h6,h7,h8,h9⟩:=x;obtain rfl:k=4:=hk;cases b with
 | true=>
  refine zU tys_ok Tryz.func45 rfl rfl (Af rfl) ?_;conv=>whnf
  repeat' (refine zZ ?_;conv=>whnf)
  refine ze9 [0,1,2,3,4,5] h ?_;rintro _ _ ⟨o,ho,⟨rfl,hn,hb⟩,rfl⟩;obtain⟨d1,s1,b1,L1,l1,e,n,bs⟩:=o;obtain rfl:n=0:=hn;obtain rfl:bs=[]:=hb;cases b1 with
  | true=>
   exact⟨_, .ag (an7 e 0 []),Fc g d0 d1 s0 s1 true L1 l1 ⟨4,h1,h2,h3,h4,h5,h6,h7,h8,h9⟩,B7 (Ds e 0),zH (zO (zE 2 4 (by decide) rfl rfl)) (s:= [0,1,2,3,4,5,7]) tA,⟨d1,s1,true,L1,l1,e,0, []⟩,ho,rfl,rfl⟩
  | false=>
   exact⟨_, .ag (an7 e 0 []),Fc g d0 d1 s0 s1 false L1 l1 ⟨4,h1,h2,h3,h4,h5,h6,h7,h8,h9⟩,B7 (Ds e 0),zH (zO (zE 2 4 (by decide) rfl rfl)) (s:= [0,1,2,3,4,5,7]) tA,⟨d1,s1,false,L1,l1,e,0, []⟩,ho,rfl,rfl⟩
 | false=>
  refine zU tys_ok Tryz.func45 rfl rfl (Af rfl) ?_;conv=>whnf
  repeat' (refine zZ ?_;conv=>whnf)
  refine ze9 [0,1,2,3,4,5] h ?_;rintro _ _ ⟨o,ho,⟨rfl,hn,hb⟩,rfl⟩;obtain⟨d1,s1,b1,L1,l1,e,n,bs⟩:=o;obtain rfl:n=0:=hn;obtain rfl:bs=[]:=hb;cases b1 with
  | true=>
   exact⟨_, .ag (an7 e 0 []),Fc g d0 d1 s0 s1 true L1 l1 ⟨4,h1,h2,h3,h4,h5,h6,h7,h8,h9⟩,B7 (Ds e 0),zH (zO (zE 2 4 (by decide) rfl rfl)) (s:= [0,1,2,3,4,5,7]) tA,⟨d1,s1,true,L1,l1,e,0, []⟩,ho,rfl,rfl⟩
  | false=>
   exact⟨_, .ag (an7 e 0 []),Fc g d0 d1 s0 s1 false L1 l1 ⟨4,h1,h2,h3,h4,h5,h6,h7,h8,h9⟩,B7 (Ds e 0),zH (zO (zE 2 4 (by decide) rfl rfl)) (s:= [0,1,2,3,4,5,7]) tA,⟨d1,s1,false,L1,l1,e,0, []⟩,ho,rfl,rfl⟩
theorem Na (hk:x.kind=5) (h:ACalls Tryz.prog false 114 [.bp 5 0] (Gg g d0 d s0 s b L l x) fun r H=>∃ o:Vout,P o/\(r = iv o.e/\o.n=0/\o.bytes=[])/\H=Fc g d0 o.d s0 o.s o.b o.L o.l x):ACalls Tryz.prog false 45 [.bp 5 0] (Gg g d0 d s0 s b L l x) fun r H=>∃ o:Vout,P o/\r = .ag (an7 o.e o.n o.bytes)/\H=Fc g d0 o.d s0 o.s o.b o.L o.l x:=by
 obtain⟨k,h1,h2,h3,h4,h5,h6,h7,h8,h9⟩:=x;obtain rfl:k=5:=hk;cases b with
 | true=>
  refine zU tys_ok Tryz.func45 rfl rfl (Af rfl) ?_;conv=>whnf
  repeat' (refine zZ ?_;conv=>whnf)
  refine ze9 [0,1,2,3,4,5] h ?_;rintro _ _ ⟨o,ho,⟨rfl,hn,hb⟩,rfl⟩;obtain⟨d1,s1,b1,L1,l1,e,n,bs⟩:=o;obtain rfl:n=0:=hn;obtain rfl:bs=[]:=hb;cases b1 with
  | true=>
   exact⟨_, .ag (an7 e 0 []),Fc g d0 d1 s0 s1 true L1 l1 ⟨5,h1,h2,h3,h4,h5,h6,h7,h8,h9⟩,B7 (Ds e 0),zP (s:= [0,1,2,3,4,5,7]) tA,⟨d1,s1,true,L1,l1,e,0, []⟩,ho,rfl,rfl⟩
  | false=>
   exact⟨_, .ag (an7 e 0 []),Fc g d0 d1 s0 s1 false L1 l1 ⟨5,h1,h2,h3,h4,h5,h6,h7,h8,h9⟩,B7 (Ds e 0),zP (s:= [0,1,2,3,4,5,7]) tA,⟨d1,s1,false,L1,l1,e,0, []⟩,ho,rfl,rfl⟩
 | false=>
  refine zU tys_ok Tryz.func45 rfl rfl (Af rfl) ?_;conv=>whnf
  repeat' (refine zZ ?_;conv=>whnf)
  refine ze9 [0,1,2,3,4,5] h ?_;rintro _ _ ⟨o,ho,⟨rfl,hn,hb⟩,rfl⟩;obtain⟨d1,s1,b1,L1,l1,e,n,bs⟩:=o;obtain rfl:n=0:=hn;obtain rfl:bs=[]:=hb;cases b1 with
  | true=>
   exact⟨_, .ag (an7 e 0 []),Fc g d0 d1 s0 s1 true L1 l1 ⟨5,h1,h2,h3,h4,h5,h6,h7,h8,h9⟩,B7 (Ds e 0),zP (s:= [0,1,2,3,4,5,7]) tA,⟨d1,s1,true,L1,l1,e,0, []⟩,ho,rfl,rfl⟩
  | false=>
   exact⟨_, .ag (an7 e 0 []),Fc g d0 d1 s0 s1 false L1 l1 ⟨5,h1,h2,h3,h4,h5,h6,h7,h8,h9⟩,B7 (Ds e 0),zP (s:= [0,1,2,3,4,5,7]) tA,⟨d1,s1,false,L1,l1,e,0, []⟩,ho,rfl,rfl⟩
end
section
variable (g:Geo) (d0 d:Dk) (s0:Stt) (L:List Lck) (l:List Hd) (x:Sp)
theorem PT (a:An) (F:Int->List UInt8) (K lba:Int) (bs:List UInt8) (V:Int->Int->List UInt8) (L':List Lck) (hg:Bm g=true) (hv:Vol g K d (Bf a [])) (hK:K<=4294967294) (h:Gd (A7 g) d F) (hF:∀ a,(F a).length<=100000) (hV:VolV g a [] F V) (hlba:0<=lba/\lba<g.z*g.d) (h8:bs.length=8)
  (hl:l.length<=1000) (hs:∀ h∈l,NT h) (hh:FZ l x.h=true) (hq:l.getD (E4 l x.h) ⟨0, [], []⟩=⟨x.h, [lba], [bs]⟩) (hd:Fn Tryz.prog 287 [C0 L,iv x.h] fun r=>r = .tp [C0 L',iv 0]) :
  ACalls Tryz.prog false 114 [.bp 5 0] (Gg g d0 d s0 (Bf a []) true L l x) fun r H=>∃ o:Vout,(∃ d' W,Gd (A7 g) d' (Mj F W)/\(∀ w∈W,(g.an<=w.addr/\w.addr<g.an+2*g.sl/\BZ w.bytes=w.addr)/\w.bytes.length<=200)/\o=⟨d',Bf a ([] ++ [FK g a [] F lba bs]),false,L',(EH l x.h).1,0,0, []⟩)/\(r = iv o.e/\o.n=0/\o.bytes=[])/\H=Fc g d0 o.d s0 o.s o.b o.L o.l x:=by
 have g4:=(Az.1 hg).2.2.2.1;have c1:=KB g d0 d s0 (Bf a []) true L l x hl hh;rw [hq] at c1;have hc:=Yy g a [] d F K lba bs V hg hv hK h hF hV hlba h8 (by show 4<=g.sl - 0;omega);have c2:=fun d1 s1=>Sc g d0 d1 s0 s1 false L l x L' x.h hl hs hd
 generalize (EH l x.h).1=m at c2 |-
 refine zU tys_ok Tryz.func114 rfl rfl (Af rfl) ?_;conv=>whnf
 refine ze9 [0,1,2,3,4,5] c1 ?_;rintro _ _ ⟨rfl,rfl⟩;conv=>whnf
 repeat' (refine zZ ?_;conv=>whnf)
 apply zW (2 ^ 136) tys_ok mixed (.o [0,1,2,3,4,5,6,7,8,9] .fin) (by kernel_rfl);conv=>whnf
 (refine zh (ConvH.ghost 1 13 (t:=170) (sz:=4) rfl rfl (by decide)) ?_;refine ze9 [1,2,3,4,7] hc ?_;rintro _ _ ⟨rfl,d1,W,hd1,hW,hv1,rfl⟩)
 conv=>whnf
 repeat' (refine zZ ?_;conv=>whnf)
 have c2:=c2 d1 (Bf a ([] ++ [FK g a [] F lba bs]));obtain⟨T,hT⟩:∃ T,T=[] ++ [FK g a [] F lba bs]:=⟨_,rfl⟩;rw [<-hT] at c2 |-
 apply zW (2 ^ 134) tys_ok mixed (.o [0,1,2,3,4,5,6] .fin) (by kernel_rfl);conv=>whnf
 (refine ze9 [0,1,2,3,8,5] c2 ?_;rintro _ _ ⟨rfl,rfl⟩)
 conv=>whnf
 repeat' (refine zZ ?_;conv=>whnf)
 exact⟨_,iv 0,Fc g d0 d1 s0 (Bf a T) false L' m x,fun _ _ h=>h,zP (s:= [0,1,2,3,4,5,8]) tA,⟨d1,Bf a T,false,L',m,0,0, []⟩,⟨d1,W,hd1,hW,by rw [hT]⟩,tA,rfl⟩
theorem TE (a:An) (T:List Tx) (F:Int->List UInt8) (t:List Ent) (v:Int->List UInt8) (L':List Lck) (hg:Bm g=true) (hT:LogB T) (ha:Bz g a=true) (h:Gd (A7 g) d F) (hF:∀ a,(F a).length<=100000) (hlba:0<=x.lba/\x.lba<g.z*g.d) (hB:∀ p,CD T (x.lba.tdiv g.d) 255=some p->p.1.bytes.length<=100000) (hv:ZoneV g a T F (x.lba.tdiv g.d) t v)
  (hl:l.length<=1000) (hs:∀ h∈l,NT h) (hh:FZ l x.h=true) (hno:(NF l x.h x.lba).2.1=false) (hr:Fn Tryz.prog 198 [C0 L,iv x.h,iv x.lba] fun r=>r = .tp [C0 L',iv 0]) :
  ACalls Tryz.prog false 112 [.bp 5 0] (Gg g d0 d s0 (Bf a T) false L l x) fun r H=>∃ o:Vout,(∃ d',Gd (A7 g) d' F/\o=⟨d',Bf a T,false,L',l,0,0,v (x.lba.tmod g.d)⟩)/\r = .ag (an7 o.e o.n o.bytes)/\H=Gg g d0 o.d s0 o.s o.b o.L o.l x:=by
 have c1:=Mg g d0 d s0 (Bf a T) false L l x hg hl hh hlba;have hid:=V7 hh;have c2:=KA g d0 d s0 (Bf a T) false L l x L';have c3:=Tc l x.h x.lba hl hs hno;have c4:=X9 [] x.lba (Ak _);have c5:=P1 g a T d F x.lba t v hg hT ha h hF hlba hB hv;obtain⟨q,hq⟩:∃ q,q=l.getD (E4 l x.h) ⟨0, [], []⟩:=⟨_,rfl⟩;rw [<-hq] at c1 hid;generalize (NF l x.h x.lba).2.2=e3 at c3;refine zU tys_ok Tryz.func112 rfl rfl (Af rfl) ?_;conv=>whnf
 refine ze9 [0,1,2,3,4,5] c1 ?_;rintro _ _ ⟨rfl,rfl⟩;conv=>whnf
 rw [hid];repeat' (refine zZ ?_;conv=>whnf)
 apply zW (2 ^ 146) tys_ok mixed (.o [0,1,2,3,4,5,6,7,8,9,10,11,12,13,14,15,16,17,18,19] .fin) (by kernel_rfl);conv=>whnf
 refine z_ hr ?_;conv=>whnf
 (refine ze9 [0,1,2,3,4,5] c2 ?_;rintro _ _ ⟨rfl,rfl⟩)
 conv=>whnf
 repeat' (refine zZ ?_;conv=>whnf)
 apply zW (0) tys_ok mixed (.o [0,1,2,3,4,5,6,7,8,9,10,11,12,13,14,15,16,17,18,19,20,21] .fin) (by kernel_rfl);conv=>whnf
 refine z_ c3 ?_;conv=>whnf
 repeat' (refine zZ ?_;conv=>whnf)
 apply zW (0) tys_ok mixed (.o [0,1,2,3,4,5,6,7,8,9,10,11,12,13,14,15] .fin) (by kernel_rfl);conv=>whnf
 refine z_ c4 ?_;conv=>whnf
 repeat' (refine zZ ?_;conv=>whnf)
 apply zW (2 ^ 137) tys_ok mixed (.o [0,1,2,3,4,5,6,7,8,9,10,11,12,13,14] .fin) (by kernel_rfl);conv=>whnf
 (refine ze9 [1,2,3,4] c5 ?_;rintro _ _ ⟨rfl,d1,hd1,rfl⟩)
 conv=>whnf
 repeat' (refine zZ ?_;conv=>whnf)
 exact⟨_, .ag (an7 0 0 (v (x.lba.tmod g.d))),Gg g d0 d1 s0 (Bf a T) false L' l x,B7 (Zm 0 0 _),zP (s:= [0,1,2,3,4,5]) tA,⟨d1,Bf a T,false,L',l,0,0,_⟩,⟨d1,hd1,rfl⟩,rfl,rfl⟩
end
theorem XK (g:Geo) (d:Dk) (x:Sp) (hk:2<=x.kind/\x.kind<=10):ACalls Tryz.prog false 20 [.bp 0 0, .ag (Nf x)] [.box 111 (Xn g d)] fun r H=>r = .ag (an7 16 0 [])/\H=[.box 111 (Xn g d)]:=by
 have k1:decide (x.kind>=11)=false:=decide_eq_false (by omega);have k2:(x.kind == 1)=false:=beq_eq_false_iff_ne.2 (by omega);refine zU tys_ok Tryz.func20 rfl rfl (Af rfl) ?_;conv=>whnf
 rw [k1];conv=>whnf
 repeat' (refine zZ ?_;conv=>whnf)
 apply zW (0) tys_ok mixed (.o [0,1,2,3,4,5,6,7,8] .fin) (by kernel_rfl);conv=>whnf
 rw [k2];conv=>whnf
 repeat' (refine zZ ?_;conv=>whnf)
 exact⟨_, .ag (an7 16 0 []), [.box 111 (Xn g d)],B7 (Ds 16 0),zP (s:= [0]) tA,rfl,rfl⟩
@[reducible] def Zp (g:Geo) (d:Dk):List AV:= [iv g.z,iv g.d,iv g.sp,iv g.sl,iv g.an,Py d.cells,MX d.cache,iv d.reqs,iv d.left, .v (.bool true),iv 0,iv 0,iv 0,iv 0,iv 0, .v (.string ⟨#[]⟩), .v (.slice none 0 0), .v (.slice none 0 0), .v (.bool false),iv 0,iv 0,iv 0,iv 0, .v (.slice none 0 0), .v (.slice none 0 0), .v (.slice none 0 0)]
section
variable (g:Geo) (d D:Dk) (s:Stt) (x:Sp)
theorem Sa (hm:ACalls Tryz.prog false 194 [.bp 0 0] (G5 g st0 d) fun r H=>r = iv 0/\H=bwN g s D):ACalls Tryz.prog false 110 [.bp 5 0] (Zy (Xn g d) g st0 (DW []) d x) fun r H=>r = iv 0/\H=TG (Zp g d) g s (.v (.slice none 0 0)) D x:=by
 refine zU tys_ok Tryz.func110 rfl rfl (Af rfl) ?_;conv=>whnf
 refine ze9 [1,2,3,4] hm ?_;rintro _ _ ⟨rfl,rfl⟩;conv=>whnf
 repeat' (refine zZ ?_;conv=>whnf)
 apply zW (0) tys_ok mixed (.o [0,1,2,3,4,5,6,7,8,9,10,11,12,13,14,15,16,17,18,19,20] .fin) (by kernel_rfl);conv=>whnf
 try (refine tS ?_;conv=>whnf)
 try (refine tS ?_;conv=>whnf)
 try (refine tS ?_;conv=>whnf)
 all_goals
  repeat' (refine zZ ?_;conv=>whnf)
  exact⟨_,iv 0,TG (Zp g d) g s (.v (.slice none 0 0)) D x,fun _ _ h=>h,zP (s:= [0,1,2,3,4,5,6]) tA,rfl,rfl⟩
theorem Ob (hk:x.kind=1) (hm:ACalls Tryz.prog false 194 [.bp 0 0] (G5 g st0 d) fun r H=>r = iv 0/\H=bwN g s D):ACalls Tryz.prog false 45 [.bp 5 0] (Zy (Xn g d) g st0 (DW []) d x) fun r H=>r = .ag (an7 0 0 [])/\H=TG (Zp g d) g s (.v (.slice none 0 0)) D x:=by
 have h:=Sa g d D s x hm;obtain⟨k,h1,h2,h3,h4,h5,h6,h7,h8,h9⟩:=x;obtain rfl:k=1:=hk;refine zU tys_ok Tryz.func45 rfl rfl (Af rfl) ?_;conv=>whnf
 repeat' (refine zZ ?_;conv=>whnf)
 refine ze9 [0,1,2,3,4,5] h ?_;rintro _ _ ⟨rfl,rfl⟩;conv=>whnf
 repeat' (refine zZ ?_;conv=>whnf)
 exact⟨_, .ag (an7 0 0 []),TG (Zp g d) g s (.v (.slice none 0 0)) D ⟨1,h1,h2,h3,h4,h5,h6,h7,h8,h9⟩,B7 (Ds 0 0),zP (s:= [0,1,2,3,4,5,7]) tA,rfl,rfl⟩
end
theorem Sb (g:Geo) (d D:Dk) (s:Stt) (x:Sp) (hz:d.z=d) (hd:d.cells.length<=1000000000/\d.cache.length<=1000000000) (hk:x.kind=1) (hcut:x.cut<=0) (hl:D.left = -1) (hm:ACalls Tryz.prog false 194 [.bp 0 0] (G5 g st0 d) fun r H=>r = iv 0/\H=bwN g s D) :
  ACalls Tryz.prog false 20 [.bp 0 0, .ag (Nf x)] [.box 111 (Xn g d)] fun r H=>r = .ag (an7 0 0 [])/\H=LW g D s true [] []:=by
 have c1:=RN d hd.1 hd.2;have k3:decide (x.cut > 0)=false:=decide_eq_false (by omega);have hdo:=Ob g d D s x hk hm;obtain⟨dc,dw,dr,dl⟩:=d;obtain rfl:0=dr:=congrArg Dk.reqs hz;obtain⟨cs,ca,rq,lf⟩:=D;obtain rfl:lf = -1:=hl;obtain⟨k,h1,h2,h3,h4,h5,h6,h7,h8,h9⟩:=x;obtain rfl:k=1:=hk;simp only at k3;refine zU tys_ok Tryz.func20 rfl rfl (Af rfl) ?_;conv=>whnf
 repeat' (refine zZ ?_;conv=>whnf)
 apply zW (0) tys_ok mixed (.o [0,1,2,3,4,5,6,7,8] .fin) (by kernel_rfl);conv=>whnf
 repeat' (refine zZ ?_;conv=>whnf)
 rw [k3];conv=>whnf
 repeat' (refine zZ ?_;conv=>whnf)
 apply zW (0) tys_ok mixed (.o [0,1,2,3,4,5,6,7,8,10,11,12,13,16,9,14,15,17,18,19] .fin) (by kernel_rfl);conv=>whnf
 (refine zX c1 rfl ?_;rintro _ _ ⟨rfl,rfl⟩)
 conv=>whnf
 repeat' (refine zZ ?_;conv=>whnf)
 refine zh (zz (cs':=Xg g (.bp 3 0) (DW []) (iA []) st0) 6 rfl ⟨ri,ri,ri,ri,ri,ri,ri,ri,ri,ri,ri,ri,Bl 3 _,Bl 4 _,ri,ri,ri,ri,ri,Bl 1 _,tv⟩) ?_;refine ze9 [0,6,3,4,5,7] hdo ?_;rintro _ _ ⟨rfl,rfl⟩;conv=>whnf
 repeat' (refine zZ ?_;conv=>whnf)
 apply zW (0) tys_ok mixed (.o [0,1,2,3,4,5,6,7,8,9,10,11,12,13,14,15,16,17,18,19,20,21,22,23,24] .fin) (by kernel_rfl);conv=>whnf
 try (refine tS ?_;conv=>whnf)
 try (refine tS ?_;conv=>whnf)
 repeat' (refine zZ ?_;conv=>whnf)
 exact⟨_, .ag (an7 0 0 []),LW g ⟨cs,ca,rq, -1⟩ s true [] [],ri,zH (zO (zy (zz (cs':=voX g (.ow 4 cs.length) (.ow 8 ca.length) rq (-1) true s (.v (.slice none 0 0)) (C0 []) (CU [])) 0 rfl ⟨ri,ri,ri,ri,ri,ri,ri,ri,ri,ri,ri,ri,ri,ri,ri,ri,ri,ri,ri,ri,ri,ri,ri,ri,Bl 3 _,Bl 3 _,tv⟩) (Gh (d:=⟨cs,ca,rq, -1⟩) (b:=true) 4 8 (by decide) (by decide) rfl rfl rfl))) (s:= [0]) tA,rfl,rfl⟩
theorem Xw (l:List Lck):AV.ltL (l.map E3).flatten 0=true:=by
 rw [CK];intro x hx;obtain⟨e,he,hxe⟩:=BM.1 hx;obtain⟨h,_,rfl⟩:=AL.1 he;simp only [E3,AT,Dy,or_false] at hxe;rcases hxe with rfl | rfl | rfl <;> rfl
theorem U7 {l:List Lck} {y id:Int} {a:Nat} (j:Nat):SubL (((l.map E3 ++ [[AV.v (.int .i64 y), .ow a 1,AV.v (.int .i64 (-1))]]).map (List.map (AV.slIn a ([[AV.v (.int .i64 id)]]:List (List AV)).length (.sl 1 ([[AV.v (.int .i64 id)]]:List (List AV)).length fun i=>([[AV.v (.int .i64 id)]]:List (List AV)).getD i [])))).getD j []) (((l ++ [(⟨y, [id], -1⟩:Lck)]).map E3).getD j []):=by
 rw [A2,A2];by_cases e:j<l.length
 ·rw [Ez (by rw [Aa,Aa];exact e),Ez (by rw [Aa];exact e),AQ (d:= []) (by rw [Aa];exact e),AQ (d:=lz) e];exact SubL.refl _
 ·by_cases e2:j=l.length
  ·subst e2;rw [Dw (by rw [Aa,Aa];omega),Dw (by rw [Aa];omega),Aa,Aa,BA];show SubL [AV.v (.int .i64 y),AV.slIn a 1 _ (.ow a 1),AV.v (.int .i64 (-1))] _;rw [Ru rfl];exact⟨fun _ _ h=>h,fun c u h=>EK (f:=I7) (l:= [id]) (d:=0) rfl c u h,fun _ _ h=>h,tv⟩
  ·rw [Ab,AE (by simp;omega)];rw [Ab,AE (by simp;omega)];exact SubL.refl _
theorem Qz (l:List Lck) (y id:Int) (h:LkI l y) (hid:0<=id) (hh:IY l y=false):ACalls Tryz.prog false 198 [C0 l,iv id,iv y] [] fun r H=>r = .tp [.ow 0 (l.length+1),iv 0]/\H=[.row 216 3 ((l ++ [(⟨y, [id], -1⟩:Lck)]).map E3)]:=by
 have c1:=It l h.ok;have c2:=Le l y h;have hlen:=h.len;have hy:=h.yb;have c3:Fn Tryz.prog 280 [iA [],iv id] (fun r=>r = .tp [iv ((0:Nat):Int), .v (.bool false)]):=Vw [] id (Ak _) rfl;have hp:=h.fin.resolve_left (by rw [hh];decide);have c4:=FD [] [iv id] 0 0 rfl rfl (by decide);unfold Ul at c2;rw [hh,if_neg (by decide),hp,Ai,Aa,List.length_singleton] at c2;have hib:((-1:Int) == id)=false:=beq_eq_false_iff_ne.2 (by omega);have hE:∀ e,(l.map E3 ++ [e]).getD l.length []=e:=fun e=>by rw [Dw (by rw [Aa];omega),Aa,BA];try rfl
 have hS:∀ e e',(l.map E3 ++ [e]).set l.length e'=l.map E3 ++ [e']:=fun e e'=>by
  rw [C3 _ _ (by rw [Aa];omega),Aa,BA];try rfl
 have hN:∀ e:List AV,l.length+1=(l.map E3 ++ [e]).length:=fun e=>by rw [Ai,Aa];try rfl
 refine zG tys_ok Tryz.func198 rfl rfl (Af rfl) ?_;conv=>whnf
 refine z_ c1 ?_;conv=>whnf
 rw [decide_eq_false (show ¬id<0 by omega)];conv=>whnf
 rw [decide_eq_false (show ¬y<0 by omega)];conv=>whnf
 refine zX c2 rfl ?_;rintro _ _ ⟨rfl,rfl⟩;conv=>whnf
 repeat' (refine zZ ?_;conv=>whnf)
 refine⟨⟨by omega,by omega⟩,?_⟩;conv=>whnf
 rw [Ac];refine⟨⟨rfl,hN _,Bq _⟩,?_⟩;conv=>whnf
 rw [hE];conv=>whnf
 refine zV [iA [],iv id] ⟨Bl 1 _,ri,tv⟩ ?_;refine z_ c3 ?_;refine⟨⟨rfl,hN _,Bq _⟩,?_⟩;conv=>whnf
 rw [hE];refine⟨⟨rfl,hN _,Bq _⟩,?_⟩;conv=>whnf
 rw [hE];conv=>whnf
 rw [hib];refine⟨⟨rfl,hN _,Bq _⟩,?_⟩;conv=>whnf
 rw [hE];refine⟨⟨rfl,hN _,Bq _⟩,?_⟩;conv=>whnf
 rw [hE];conv=>whnf
 refine zh (ConvH.rowo (k:=0) rfl) ?_;refine ACalls.ghost 0 (t:=3) (sz:=1) rfl (by decide) ?_;refine ze9 [2,1] c4 ?_;rintro _ _ ⟨rfl,rfl⟩;refine⟨⟨rfl,hN _,Bq _⟩,?_⟩;conv=>whnf
 rw [hE];conv=>whnf
 rw [hS];exact⟨_, .tp [.ow 0 (l.length+1),iv 0],_,fun _ _ h=>h,Ra ⟨_,zy (zu 0 3 rfl rfl rfl) (zy (zn (k:=0) rfl (es':=(l ++ [(⟨y, [id], -1⟩:Lck)]).map E3) (m':=0) (by simp) (fun j=>U7 j) (Xw _)) (ConvH.row (k:=0) rfl (Xw _))),rfl⟩ rfl,rfl,rfl⟩
theorem SH (l:List Lck) (y id:Int) (h:LkI l y) (hid:0<=id) (hh:IY l y=false):Fn Tryz.prog 198 [C0 l,iv id,iv y] fun r=>r = .tp [C0 (l ++ [(⟨y, [id], -1⟩:Lck)]),iv 0]:=by
 refine(Qz l y id h hid hh).fn ?_;rintro r H ⟨rfl,rfl⟩;refine⟨_,zD _,?_⟩;refine⟨by simp,?_⟩;refine⟨.tp [C0 (l ++ [(⟨y, [id], -1⟩:Lck)]),iv 0],Ca ⟨fun c u h=>?_,ri,tv⟩,rfl⟩;exact EK (f:=E3) (d:=lz) (by simp) c u h
@[reducible] def sp (k h lba:Int) (b:List UInt8):Sp:=⟨k,h,lba,b,0,0,0,0,0,0⟩
theorem Jt (k h lba:Int):SubL [iv k,iv h,iv lba, .v (.slice none 0 0),iv 0,iv 0,iv 0,iv 0,iv 0,iv 0] (Nf (sp k h lba [])):=⟨ri,ri,ri,Bl 1 _,ri,ri,ri,ri,ri,ri,tv⟩
section
variable {g:Geo} {K:Int} {d:Dk} {M:Md} {b:Bool} {L:List Lck} {l:List Hd}
theorem Vm.n {g:Geo} {K:Int} {d:Dk} {M:Md} (h:Vm g K d M):d.cells.length<=1000000000/\d.cache.length<=1000000000:=⟨by have:=h.gd.ok.n;omega,by have:=h.gd.ok.m;omega⟩
theorem Od (h:Vm g K d M) (hb:b=true->M.l=[]) (hl:l.length<=1000) (hs:∀ h∈l,NT h) (hend:freeId l 0=l.length) (ho:(Eb l).2.2=0) (q lba:Int) :
  ACalls Tryz.prog false 20 [.bp 0 0, .ag (Nf (sp 2 q lba []))] (LW g d (Bf M.a M.l) b L l) fun r H=>∃ d',Vm g K d' M/\r = .ag (an7 0 (Eb l).2.1 [])/\H=LW g d' (Bf M.a M.l) b L (Eb l).1:=by
 have hc:=Oc g d.z d.z (Bf M.a M.l) (Bf M.a M.l) b L l (sp 2 q lba []) (fun o=>o=⟨d.z,Bf M.a M.l,b,L,(Eb l).1,0,(Eb l).2.1, []⟩) rfl ((Se g d.z d.z (Bf M.a M.l) (Bf M.a M.l) b L l (sp 2 q lba []) hl hs hend ho).mono fun r H ⟨h1,h2⟩=>⟨_,rfl,h1,h2⟩);refine(Nb g d (Bf M.a M.l) b L l (sp 2 q lba []) (fun o=>o=⟨d.z,Bf M.a M.l,b,L,(Eb l).1,0,(Eb l).2.1, []⟩) hb h.n ⟨by show (2:Int)<=2;decide,by show (2:Int)<=10;decide⟩ (by show (0:Int)<=0;decide) (hc.mono fun r H ⟨o,h1,h2,h3⟩=>⟨o,h1,by rw [h1];show (0:Int)≠8;decide,by rw [h1];exact h.z.gd.left,h2,h3⟩)).mono ?_;rintro r H ⟨o,rfl,rfl,rfl⟩;exact⟨d.z,h.z,rfl,rfl⟩
theorem TI (L':List Lck) (hg:Bm g=true) (h:Vm g K d M) (hb:b=true->M.l=[]) (q lba:Int) (bs:List UInt8) (hok:Ed l=true) (hl:l.length<=1000) (hs:∀ h∈l,NT h) (hh:FZ l q=true) (hlba:0<=lba/\lba<g.z*g.d) (h8:bs.length=8) (hf:RH (l.getD (E4 l q) ⟨0, [], []⟩) lba=false) (hend:FB (l.getD (E4 l q) ⟨0, [], []⟩).lbas lba=(l.getD (E4 l q) ⟨0, [], []⟩).lbas.length) (hw:Fn Tryz.prog 202 [C0 L,iv q,iv lba] fun r=>r = .tp [C0 L',iv 0]) :
  ACalls Tryz.prog false 20 [.bp 0 0, .ag (Nf (sp 4 q lba bs))] (LW g d (Bf M.a M.l) b L l) fun r H=>∃ d',Vm g K d' M/\r = .ag (an7 0 0 [])/\H=LW g d' (Bf M.a M.l) b L' (l.set (E4 l q) (VO (l.getD (E4 l q) ⟨0, [], []⟩) lba bs)):=by
 have hc:=Oa g d.z d.z (Bf M.a M.l) (Bf M.a M.l) b L l (sp 4 q lba bs) (fun o=>o=⟨d.z,Bf M.a M.l,b,L',l.set (E4 l q) (VO (l.getD (E4 l q) ⟨0, [], []⟩) lba bs),0,0, []⟩) rfl ((RZ g d.z d.z (Bf M.a M.l) (Bf M.a M.l) b L l (sp 4 q lba bs) L' hg hok hl hs hh hlba h8 hf hend hw).mono fun r H ⟨h1,h2⟩=>⟨_,rfl,⟨h1,rfl,rfl⟩,h2⟩);refine(Nb g d (Bf M.a M.l) b L l (sp 4 q lba bs) (fun o=>o=⟨d.z,Bf M.a M.l,b,L',l.set (E4 l q) (VO (l.getD (E4 l q) ⟨0, [], []⟩) lba bs),0,0, []⟩) hb h.n ⟨by show (2:Int)<=4;decide,by show (4:Int)<=10;decide⟩ (by show (0:Int)<=0;decide) (hc.mono fun r H ⟨o,h1,h2,h3⟩=>⟨o,h1,by rw [h1];show (0:Int)≠8;decide,by rw [h1];exact h.z.gd.left,h2,h3⟩)).mono ?_;rintro r H ⟨o,rfl,rfl,rfl⟩;exact⟨d.z,h.z,rfl,rfl⟩
theorem Sf (L':List Lck) (hg:Bm g=true) (h:Vm g K d M) (hK:K<=4294967294) (hM:M.l=[]) (q lba x1:Int) (bs:List UInt8) (hl:l.length<=1000) (hs:∀ h∈l,NT h) (hh:FZ l q=true) (hlba:0<=lba/\lba<g.z*g.d) (h8:bs.length=8) (hq:l.getD (E4 l q) ⟨0, [], []⟩=⟨q, [lba], [bs]⟩) (hd:Fn Tryz.prog 287 [C0 L,iv q] fun r=>r = .tp [C0 L',iv 0]) :
  ACalls Tryz.prog false 20 [.bp 0 0, .ag (Nf (sp 5 q x1 []))] (LW g d (Bf M.a M.l) true L l) fun r H=>∃ d' M',Vm g (K+1) d' M'/\M'.m=M.m.set lba.toNat bs/\r = .ag (an7 0 0 [])/\H=LW g d' (Bf M'.a M'.l) false L' (EH l q).1:=by
 have g4:=(Az.1 hg).2.2.2.1;obtain⟨a,ml,F,m⟩:=M;simp only at hM;subst hM;obtain⟨-,V,hV, -⟩:=h.rd;have hz:=h.z;have hc:=Na g d.z d.z (Bf a []) (Bf a []) true L l (sp 5 q x1 []) (fun o=>∃ d' W,Gd (A7 g) d' (Mj F W)/\(∀ w∈W,(g.an<=w.addr/\w.addr<g.an+2*g.sl/\BZ w.bytes=w.addr)/\w.bytes.length<=200)/\o=⟨d',Bf a ([] ++ [FK g a [] F lba bs]),false,L',(EH l q).1,0,0, []⟩) rfl (PT g d.z d.z (Bf a []) L l (sp 5 q x1 []) a F K lba bs V L' hg (hz.vo.vol hz.gd) hK hz.gd (fun q=>by have:=h.vo.fb q;exact AX this (by decide)) hV hlba h8 hl hs hh hq hd);refine(Nb g d (Bf a []) true L l (sp 5 q x1 []) (fun o=>∃ d' W,Gd (A7 g) d' (Mj F W)/\(∀ w∈W,(g.an<=w.addr/\w.addr<g.an+2*g.sl/\BZ w.bytes=w.addr)/\w.bytes.length<=200)/\o=⟨d',Bf a ([] ++ [FK g a [] F lba bs]),false,L',(EH l q).1,0,0, []⟩) (fun _=>rfl) h.n ⟨by show (2:Int)<=5;decide,by show (5:Int)<=10;decide⟩ (by show (0:Int)<=0;decide) (hc.mono fun r H ⟨o,⟨d',W,h1,h2,h3⟩,h4,h5⟩=>⟨o,⟨d',W,h1,h2,h3⟩,by rw [h3];show (0:Int)≠8;decide,by rw [h3];exact h1.left,h4,h5⟩)).mono ?_;rintro r H ⟨o,⟨d',W,h1,h2,rfl⟩,rfl,rfl⟩;exact⟨d',_,hz.cm (M:=⟨a, [],F,m⟩) hg hK hlba h8 (by show (0:Int)+4<=g.sl;omega) h1 h2,rfl,rfl,rfl⟩
theorem VQ (L':List Lck) (hg:Bm g=true) (h:Vm g K d M) (q lba:Int) (hl:l.length<=1000) (hs:∀ h∈l,NT h) (hh:FZ l q=true) (hlba:0<=lba/\lba<g.z*g.d) (hno:(NF l q lba).2.1=false) (hr:Fn Tryz.prog 198 [C0 L,iv q,iv lba] fun r=>r = .tp [C0 L',iv 0]) :
  ACalls Tryz.prog false 20 [.bp 0 0, .ag (Nf (sp 3 q lba []))] (LW g d (Bf M.a M.l) false L l) fun r H=>∃ d',Vm g K d' M/\r = .ag (an7 0 0 (M.m.getD lba.toNat []))/\H=LW g d' (Bf M.a M.l) false L' l:=by
 obtain⟨hZ,hB⟩:=NZ hg hlba;obtain⟨-,V,hV,hm⟩:=h.rd;obtain⟨t,hv⟩:=hV _ hZ.1 hZ.2;have hz:=h.z;have hvol:=hz.vo.vol hz.gd;have hsm:=hvol.sm hg;have hval:M.m.getD lba.toNat []=V (lba.tdiv g.d) (lba.tmod g.d):=by
  rw [<-hm _ _ hZ.1 hZ.2 hB.1 hB.2];congr 2;have:=Int.mul_tdiv_add_tmod lba g.d;rw [Int.mul_comm] at this;exact this.symm
 have hc:=PS g d.z d.z (Bf M.a M.l) (Bf M.a M.l) false L l (sp 3 q lba []) (fun o=>∃ d',Gd (A7 g) d' M.F/\o=⟨d',Bf M.a M.l,false,L',l,0,0,V (lba.tdiv g.d) (lba.tmod g.d)⟩) rfl (TE g d.z d.z (Bf M.a M.l) L l (sp 3 q lba []) M.a M.l M.F t (V (lba.tdiv g.d)) L' hg ⟨by have:=hsm.t.1;exact AX this (by decide),fun t ht=>⟨by have:=(hsm.t.2 t ht).1;omega,fun x hx=>by have:=(hsm.t.2 t ht).2 x hx;omega⟩⟩ hvol.an hz.gd (fun q=>by have:=h.vo.fb q;exact AX this (by decide)) hlba (fun p hp=>by
   obtain⟨t,ht,hx⟩:=Pm hp;have:=(hsm.t.2 t ht).2 _ hx;omega) hv hl hs hh hno hr)
 refine(Nb g d (Bf M.a M.l) false L l (sp 3 q lba []) (fun o=>∃ d',Gd (A7 g) d' M.F/\o=⟨d',Bf M.a M.l,false,L',l,0,0,V (lba.tdiv g.d) (lba.tmod g.d)⟩) (fun e=>by cases e) h.n ⟨by show (2:Int)<=3;decide,by show (3:Int)<=10;decide⟩ (by show (0:Int)<=0;decide) (hc.mono fun r H ⟨o,⟨d',h1,h3⟩,h4,h5⟩=>⟨o,⟨d',h1,h3⟩,by rw [h3];show (0:Int)≠8;decide,by rw [h3];exact h1.left,h4,h5⟩)).mono ?_;rintro r H ⟨o,⟨d',h1,rfl⟩,rfl,rfl⟩;exact⟨d',⟨h1,h.vo,h.rd⟩,by rw [hval];try rfl,rfl⟩
end
def b8:List UInt8:= [1,2,3,4,5,6,7,8]
def lbX:ByteArray:=⟨#[120]⟩
theorem lab_x8:Et lbX.data.toList=0:=by decide +kernel
theorem ZN {y:Int} (h:0<=y/\y<=1000000):LkI [] y:=⟨rfl,by decide,(fun x hx=>by cases hx),h, .inr rfl⟩
theorem Yr (i:Int) (b:List (List UInt8)) (hb:b.length<=1000/\∀ x∈b,x.length<=1000000) (a:List Int) (ha:a.length<=1000):∀ h∈ [(⟨i,a,b⟩:Hd)],NT h:=fun h hh=>by
 rw [A9] at hh;subst hh;exact⟨ha,hb.1,hb.2⟩
theorem wakes26_fn:Fn Tryz.prog 21 [] fun r=>r = .v (.bool true):=by
 have h1:=VX 0 1 0 0 1;have hg:=TU 0 1 0 0 1;have hzd:(GB 0 1 0 0 1).z*(GB 0 1 0 0 1).d=2:=by decide
 have hbd:4*(GB 0 1 0 0 1).sl+4*(GB 0 1 0 0 1).an+16*(GB 0 1 0 0 1).z*((GB 0 1 0 0 1).d+(GB 0 1 0 0 1).sp+4)+8=168:=by decide
 generalize GB 0 1 0 0 1=g at h1 hg hzd hbd;obtain⟨D,hM,hdk,hlen,hgd,hvo⟩:=Yb (lb:=lbX) hg lab_x8;have v0:Vm g 2 D (Jn g lbX):=⟨hgd,hvo,Ye hg⟩;have hl0:(Jn g lbX).l=[]:=rfl;have hm0:(Jn g lbX).m=[zero8,zero8]:=by show List.replicate (g.z*g.d).toNat zero8=_;rw [hzd];try rfl
 have c1:=VP g lbX hg lab_x8 (by decide);have c2:=XK g (DS g lbX) (sp 2 0 0 []) ⟨by decide,by decide⟩;have c3:=Sb g (DS g lbX) D _ (sp 1 0 0 []) rfl ⟨by have:=hdk.n;omega,by have:=hdk.m;omega⟩ rfl (by decide) hgd.left (Y3 g (DS g lbX) D _ hg hdk hlen hM (ZS hg lab_x8));obtain⟨M,hMe⟩:∃ M,M=Jn g lbX:=⟨_,rfl⟩;rw [<-hMe] at v0 hl0 hm0 c3;have cw:=SF [] 1 0 (ZN (by decide)) (by decide) rfl;have cd:=U8 [⟨1, [],0⟩] 0 rfl (by decide) (by decide);have cr:=SH [] 1 0 (ZN (by decide)) (by decide) rfl;have hbs:=QQ b8 (by decide);have cb:=Sd g hg;rw [hbd] at cb;have s1:=Od (b:=true) (L:= []) (l:= []) v0 (fun _=>hl0) (by decide) (fun h hh=>by cases hh) rfl rfl 0 0;simp only [show Eb []=([⟨0, [], []⟩],0,0) from rfl] at s1;have hd8:∀ h∈ [(⟨0, [1], [b8]⟩:Hd)],NT h:=Yr 0 [b8] (by decide) [1] (by decide);have hd0:∀ h∈ [(⟨0, [], []⟩:Hd)],NT h:=Yr 0 [] ⟨by decide,fun x h=>by cases h⟩ [] (by decide);refine zT Tryz.func21 rfl ?_;conv=>whnf
 refine z_ h1 ?_;conv=>whnf
 refine zX c1 rfl ?_;rintro _ _ ⟨rfl,rfl⟩;conv=>whnf
 refine zV [.bp 1 0, .ag (Nf (sp 2 0 0 []))] ⟨ri,B7 (Jt 2 0 0),tv⟩ ?_;refine ze9 [1] c2 ?_;rintro _ _ ⟨rfl,rfl⟩;conv=>whnf
 refine zV [.bp 1 0, .ag (Nf (sp 1 0 0 []))] ⟨ri,B7 (Jt 1 0 0),tv⟩ ?_;refine ze9 [1] c3 ?_;rintro _ _ ⟨rfl,rfl⟩;conv=>whnf
 refine aSeq.cutR Unit (fun _=>([(1, .bp 0 0),(2, .bp 1 0),(4,bA b8)],(.box 24 (Bi g))::LW g D (Bf M.a M.l) true [] [])) (fun _=>True) ?_ ?_
 ·exact⟨(),tv,zH (zN (zI 4 2 rfl rfl) (zB 4 rfl (Nd (L:=b8) rfl rfl))) (s:= [0,1]) tA⟩
 intro _ _;conv=>whnf
 refine zV [.bp 1 0, .ag (Nf (sp 2 0 0 []))] ⟨ri,B7 (Jt 2 0 0),tv⟩ ?_;refine ze9 [1] s1 ?_;rintro _ _ ⟨d1,v1,rfl,rfl⟩;have s2:=TI (b:=true) (L:= []) (l:= [⟨0, [], []⟩]) (Zx [] 1 0) hg v1 (fun _=>hl0) 0 1 b8 rfl (by decide) hd0 rfl ⟨by decide,by rw [hzd];decide⟩ rfl rfl rfl cw;conv=>whnf
 refine ze9 [1] s2 ?_;rintro _ _ ⟨d2,v2,rfl,rfl⟩;have s3:=Sf (L:= [⟨1, [],0⟩]) (l:= [⟨0, [1], [b8]⟩]) (DV [⟨1, [],0⟩] 0) hg v2 (by decide) hl0 0 1 0 b8 (by decide) hd8 rfl ⟨by decide,by rw [hzd];decide⟩ rfl rfl cd;conv=>whnf
 refine zV [.bp 1 0, .ag (Nf (sp 5 0 0 []))] ⟨ri,B7 (Jt 5 0 0),tv⟩ ?_;refine ze9 [1] s3 ?_;rintro _ _ ⟨d3,M2,v3,hm3,rfl,rfl⟩;have s4:=Od (b:=false) (L:= []) (l:= []) v3 (fun h=>by cases h) (by decide) (fun h hh=>by cases hh) rfl rfl 0 0;simp only [show Eb []=([⟨0, [], []⟩],0,0) from rfl] at s4;conv=>whnf
 refine zV [.bp 1 0, .ag (Nf (sp 2 0 0 []))] ⟨ri,B7 (Jt 2 0 0),tv⟩ ?_;refine ze9 [1] s4 ?_;rintro _ _ ⟨d4,v4,rfl,rfl⟩;have s5:=VQ (L:= []) (l:= [⟨0, [], []⟩]) ([] ++ [⟨1, [0], -1⟩]) hg v4 0 1 (by decide) hd0 rfl ⟨by decide,by rw [hzd];decide⟩ rfl cr;rw [show M2.m.getD (Int.toNat 1) []=b8 by rw [hm3,hm0];try rfl] at s5;conv=>whnf
 refine zV [.bp 1 0, .ag (Nf (sp 3 0 1 []))] ⟨ri,B7 (Jt 3 0 1),tv⟩ ?_;refine ze9 [1] s5 ?_;rintro _ _ ⟨d5,v5,rfl,rfl⟩;conv=>whnf
 refine z_ cb ?_;conv=>whnf
 refine z_ hbs ?_;exact⟨_,ri,rfl⟩
end
section
open Go.RowKit Go.ChangeShapes Go.WideShapes Go.ChangeAt Go.Deep
theorem YS {H:Type} {enc:TypeId × Value->H} {w:World}:OpenE enc w 63 10 fun L=>∃ x,L=Nf x:=
 (SC [fI,fI,fI,fBy,fI,fI,fI,fI,fI,fI] Tryz.underlying63 (by kernel_rfl) (by kernel_rfl)).mono fun L h=>by
  obtain⟨_,_,rfl,⟨a,rfl,_⟩,_,_,rfl,⟨b,rfl,_⟩,_,_,rfl,⟨c,rfl,_⟩,_,_,rfl,⟨d,rfl⟩,_,_,rfl,⟨e,rfl,_⟩,_,_,rfl,⟨f,rfl,_⟩,_,_,rfl,⟨g,rfl,_⟩,_,_,rfl,⟨h,rfl,_⟩,_,_,rfl,⟨i,rfl,_⟩,_,_,rfl,⟨j,rfl,_⟩,rfl⟩:=h;exact⟨⟨a,b,c,d,e,f,g,h,i,j⟩,rfl⟩
@[reducible] def stN:List AV:= [iv 0,iv 0,iv 0,iv 0,iv 0, .v (.string ⟨#[]⟩), .v (.slice none 0 0), .v (.slice none 0 0), .v (.bool false),iv 0,iv 0,iv 0,iv 0, .v (.slice none 0 0)]
theorem vn_state:Fn Tryz.prog 25 [.v (.pointer none)] fun r=>r = .tp [.ag stN, .v (.bool false)]:=by
 refine zT Tryz.func25 rfl ?_;exact⟨_,ri,rfl⟩
theorem vn_open:Fn Tryz.prog 24 [.v (.pointer none)] fun r=>r = .tp [.v (.slice none 0 0), .v (.slice none 0 0)]:=by
 refine zT Tryz.func24 rfl ?_;exact⟨_,ri,rfl⟩
theorem vn_disk:Fn Tryz.prog 22 [.v (.pointer none)] fun r=>r = .ag [.v (.slice none 0 0), .v (.slice none 0 0),iv 0,iv 0]:=by
 refine zT Tryz.func22 rfl ?_;exact⟨_,ri,rfl⟩
theorem YG (x:Sp):Fn Tryz.prog 20 [.v (.pointer none), .ag (Nf x)] fun r=>r = .ag [iv 1,iv 0, .v (.slice none 0 0),iv 0,iv 0,iv 0, .v (.slice none 0 0)]:=by
 refine zT Tryz.func20 rfl ?_;exact⟨_,ri,rfl⟩
theorem kstate_n:Fn Tryz.prog 26 [.ag stN, .ag stN] fun r=>r = .v (.bool true):=by
 have h:=SQ st0 st0 (by decide) (by simp [st0,an0]) (by decide) (by decide) (by simp [st0]);rw [decide_eq_true rfl] at h;exact h.sub ⟨B7 st0_sub,B7 st0_sub,tv⟩
theorem PR (x:Sp):Fn Tryz.prog 9 [.ag (Nf x)] fun r=>r = .v (.bool true):=by
 have c1:=vn_state;have c2:=vn_open;have c3:=YG x;have c4:=vn_disk;have c5:=kstate_n;have c6:=wakes26_fn;refine zT Tryz.func9 rfl ?_;conv=>whnf
 refine AO (fun h0=>?_) (fun h0=>?_) <;> (repeat rw [Ac] at h0) <;> conv=>whnf
 ·exact⟨_,ri,rfl⟩
 ·refine z_ c1 ?_;conv=>whnf
  refine z_ c2 ?_;conv=>whnf
  refine z_ c3 ?_;conv=>whnf
  refine z_ c4 ?_;conv=>whnf
  refine z_ c5 ?_;conv=>whnf
  refine z_ c6 ?_;exact⟨_,ri,rfl⟩
end
end Go.Proofs.YtpjkcgacjjbikaaGreatDoor.A
namespace Go.Proofs.YtpjkcgacjjbikaaGreatDoor
section
open Go.ChangeShapes Go.WideShapes Go.ChangeAt Go.RowKit
theorem own_none:ownKnob Tryz.prog.godebug=none:=by kernel_rfl
theorem laidOut:laidOutB Tryz.prog=true:=by kernel_rfl

section
variable {H:Type} {enc:TypeId × Value->H}
theorem UB {f:Func} {s:ChangeSpec} {apart fresh handsOn again:Bool} {W W':World} {args:Array Value} {ds:List (DataW H)} {before:List MemPlace}
  (hW:DataW.Whole enc Tryz.prog f.params.toList s.vars apart W args.toList ds [] before) (hv:s.vars=[]) (hvs:(s.fn H (ds ++ [])).vars=[])
  (hr:f.resultTypes = #[4]) (hfr:(s.fn H (ds ++ [])).results=[.lit (.bool true)]) (hfa:(s.fn H (ds ++ [])).args=ds)
  (hrow:∀ t∈f.params.toList,Tryz.prog.readableRec t=true/\t<Tryz.prog.types.size) (hb:Below W.heap.size W W') :
  s.post enc Tryz.prog f apart fresh handsOn again W args (.bool true) W':=by
 have hlt:∀ p∈before,p.block<W.heap.size:=fun p hp=>hW.lt p hp
 obtain⟨p,q,hA,hV,hpq,hz,hn⟩:=id hW;rw [hv] at hV;obtain⟨-,rfl⟩:=trodVars_none hV;rw [AG] at hpq;subst hpq;have stay:∀ sp:Nat->Bool,(∀ x∈before,sp x.block=true)->DataW.TrodAll enc Tryz.prog W' 0 sp true f.params.toList args.toList ds before:=by
  intro sp hsp;have go:∀ (ts:List TypeId) (vs:List Value) (es:List (DataW H)) (ps:List MemPlace),(∀ t∈ts,Tryz.prog.readableRec t=true/\t<Tryz.prog.types.size)->(∀ x∈ps,x∈before)->
    DataW.TrodAll enc Tryz.prog W 0 (fun _=>true) true ts vs es ps->DataW.TrodAll enc Tryz.prog W' 0 sp true ts vs es ps:=by
   intro ts;induction ts with
   | nil=>
    intro vs es ps _ _ h;cases vs <;> cases es <;> exact h
   | cons t ts ih=>
    intro vs es ps ht hin h;cases vs with
    | nil=>cases es <;> exact h.elim
    | cons v vs=>
     cases es with
     | nil=>exact h.elim
     | cons e es=>
      obtain⟨p1,p2,h1,h2,rfl⟩:=h;exact⟨p1,p2,WideElems.Trod_stays laidOut (ht t (by simp)).1 (ht t (by simp)).2 h1 (fun x hx=>hb.same (hlt x (hin x (by simp [hx])))) (fun x hx=>hsp x (hin x (by simp [hx]))),
       ih vs es p2 (fun t' ht'=>ht t' (by simp [ht'])) (fun x hx=>hin x (by simp [hx])) h2,rfl⟩
  exact go _ _ _ _ hrow (fun x hx=>hx) hA
 have hres:∀ (b:Nat) (sp:Nat->Bool) (hd:Bool),DataW.TrodAll enc Tryz.prog W' b sp hd f.resultTypes.toList ((Value.bool true).resultList f.resultTypes.size) (s.fn H (ds ++ [])).results []:=by
  intro b sp hd;rw [hr,hfr];exact trodAll_mk1 ⟨1,by simp [DataW.trod,Value.cells,Tryz.underlying4]⟩
 have hold:∀ p∈before,(fun b=>decide (b<W.heap.size)) p.block=true:=fun p hp=>by simpa using hlt p hp
 have hvars:∀ sp:Nat->Bool,DataW.TrodVars enc Tryz.prog W' sp s.vars (s.fn H (ds ++ [])).vars []:=by
  intro sp;rw [hv,hvs];exact rfl
 refine⟨ds, [],before, [],before, [],hW,hres _ _ _,by rw [hfa];exact stay _ hold,hvars _,World.keptBut_mono (fun p hp=>⟨hp,?_⟩) (hb.frame (·∈before)),fun _=>?_⟩
 ·exact Or.inr (by simpa using hp)
 ·refine⟨ok_one hr rfl (by simp [Value.okWide,Tryz.underlying4,Cell.okWide,Cell.ok]),_,_,([] ++ before) ++ [],⟨[] ++ before, [],trodAll_append (stay _ (fun _ _=>rfl)) (hres _ _ _),hvars _,rfl,?_,?_⟩,?_⟩
  ·intro b off hp;have hin:MemPlace.cell b off∈before:=by simpa using hp
   rw [hb.frozen (hlt _ hin)];exact hz b off hin
  ·intro ha;have:=hn ha;simpa using this
  ·intro p hp _;simpa using hp
end
abbrev UE : List (String × DataW Unit) := [("unicode/utf8.acceptRanges", Rows.laid_unicode_utf8_acceptRanges), ("unicode/utf8.first", Rows.laid_unicode_utf8_first)]
noncomputable def J8 (os:Os):World:=
 let w0:=World.holding Tryz.prog os ⟨#[], #[], []⟩;let put (h:Array Obj) (g:Nat) (cs:Array Value):Array Obj:=h.modify g fun
  | .cells _ t frozen=> .cells cs t frozen
  | o=>o
 let h1:=put w0.heap 0 (Lib.firstTab.map fun z=>Value.int .u8 z).toArray;let h2:=put h1 1 ((List.range 16).flatMap fun i=> [Value.int .u8 (Lib.accLo i),Value.int .u8 (Lib.accHi i)]).toArray
 { w0 with heap:=h2 }
theorem UD (os:Os) (args:Array Value):laidMetH Tryz.prog UE ((J8 os).forCall (fun _ _=>0) ⟨#[],args, []⟩).memory:=by
 rw [MakeChecks.laidMetH_plain _ _ _ (by kernel_rfl)];exact(LaidIn.of_run (l:=UE) [1,0] 8 (by kernel_rfl) (by kernel_rfl) (by kernel_rfl) (by kernel_rfl)).met
theorem first_data:Rows.laid_unicode_utf8_first=Lib.firstData:=by kernel_rfl
theorem accept_data:(Rows.laid_unicode_utf8_acceptRanges:DataW Unit)=Lib.acceptData:=by kernel_rfl
theorem SO {W:World} (h:laidMetH Tryz.prog UE W):A.globOk W:=by
 rw [MakeChecks.laidMetH_plain _ _ _ (by kernel_rfl)] at h;have h1:=Lib.laidMet.reads h (.head _);have h2:=Lib.laidMet.reads h (.tail _ (.head _));rw [accept_data] at h1;rw [first_data] at h2;exact utf8Tabs_of_readsT (U8Types.of196 Tryz.laysValid) ⟨by kernel_rfl,by kernel_rfl,by kernel_rfl,by kernel_rfl,by kernel_rfl,by kernel_rfl,by kernel_rfl⟩ h2 h1
end
end Go.Proofs.YtpjkcgacjjbikaaGreatDoor
