/-
Several texts in one.
-/
import Derived.Test.YtpjkcgacjjbikaaGreatDoorPPC4P5
import Derived.Test.YtpjkcgacjjbikaaGreatDoorPPC4P4
import Derived.Test.YtpjkcgacjjbikaaGreatDoorPPC4P2
import Derived.Test.YtpjkcgacjjbikaaGreatDoorPPC4P1
import Derived.Test.YtpjkcgacjjbikaaGreatDoorPPC4P3
import Derived.Test.YtpjkcgacjjbikaaGreatDoorRows
import Derived.Below
import Derived.ChangeSame
import Derived.Carry
import Derived.Lib.LaidIn
import Derived.Lib.LaidU8T
import Derived.LaidHandle
import Derived.MakeChecks
import Derived.Handed
set_option maxRecDepth 100000
set_option maxHeartbeats 8000000
set_option linter.unusedSimpArgs false
set_option linter.unusedVariables false
set_option linter.deprecated false
namespace Go.Proofs.YtpjkcgacjjbikaaGreatDoor.A
section
open Go.RowKit
def Eg (g:Geo) (t:List Ent) (had:List (List UInt8)) (ats:List Int) (bs:List (List UInt8)) (k:Nat):List (List UInt8):=((List.range k).map (Fk g t had ats bs)).filter fun b=>decide (b.length≠0)
section
variable {g:Geo} {t:List Ent} {had:List (List UInt8)} {ats:List Int} {bs:List (List UInt8)}
theorem LC (k:Nat):Eg g t had ats bs (k+1)=Eg g t had ats bs k ++ if (Fk g t had ats bs k).length=0 then [] else [Fk g t had ats bs k]:=by
 unfold Eg;rw [Bp,A8,List.filter_append,List.map_singleton];congr 1;by_cases h:(Fk g t had ats bs k).length=0
 ·rw [if_pos h,List.filter_cons,if_neg (by simp [Be h])];try rfl
 ·rw [if_neg h,List.filter_cons,if_pos (decide_eq_true h)];try rfl
theorem stayG_xor:∀ k,Gn (Eg g t had ats bs k)=D3 g t had ats bs k
 | 0=>rfl
 | k+1=>by
  have ih:=stayG_xor k;rw [LC,D3];unfold Gn at ih |-
  rw [BR,ih];split <;> rfl
theorem Xy (h8:∀ b∈had,b.length=0\/b.length=8) (hb:∀ b∈bs,b.length=8) (hl:ats.length<=bs.length) (k:Nat):(Eg g t had ats bs k).length<=k/\∀ b∈Eg g t had ats bs k,b.length=8:=by
 refine⟨by unfold Eg;exact Bo (List.length_filter_le _ _) (by simp),fun b hq=>?_⟩;unfold Eg at hq;obtain⟨h1,h2⟩:=List.mem_filter.1 hq;obtain⟨i, -,rfl⟩:=AQ.1 h1;rcases L_ (g:=g) (t:=t) (had:=had) (ats:=ats) (bs:=bs) h8 hb hl i with e | e
 ·exact absurd e (of_decide_eq_true h2)
 ·exact e
end
theorem QM (g:Geo) (t:List Ent) (had:List (List UInt8)) (ats:List Int) (bs:List (List UInt8)) (stamp:Int) (hg:Bq g=true) (ht:FK g t=true) (hh:(had.length:Int)=g.d+1) (h8:∀ b∈had,b.length=0\/b.length=8) (hA:AtsOk g ats) (hn:ats.length=bs.length) (hb:∀ b∈bs,b.length=8) (hs:0<=stamp/\stamp<=4294967295) :
  Fn Tryz.prog 145 [.ag (AK g), .ag [Bm t],E7 had,iA ats,E7 bs,iv stamp] fun r=>r = .tp [.ag [Bm (Bl g t had ats bs stamp)],bA (D3 g t had ats bs g.d.toNat),iv 0]:=by
 obtain⟨g1,g2,g3,g4,g5⟩:=Aq.1 hg;have W:=Gy ht;have hc:=hA.len;have hz:=UY g t had hg ht hh h8;have hr:=KC g ats hA;have hw:=J_ bs (by omega) hb;have I:=SX t (by omega);have l1:(JR g t had had.length).length=had.length:=by simp [JR]
 have l2:(JQ g t had had.length).length=had.length:=by simp [JQ]
 refine zR Tryz.func145 rfl ?_;conv=>whnf
 refine zY hz ?_;conv=>whnf
 refine zY hr ?_;conv=>whnf
 rw [show decide (stamp<0)=false from decide_eq_false (by omega)];conv=>whnf
 rw [show decide (stamp > 4294967295)=false from decide_eq_false (by omega)];conv=>whnf
 rw [show (((bs.length:Nat):Int) != ((ats.length:Nat):Int))=false from bne_eq_false_iff_eq.2 (by rw [hn])];conv=>whnf
 refine zY hw ?_;conv=>whnf
 refine zW I rfl ?_;rintro _ _ ⟨rfl,rfl⟩;conv=>whnf
 refine zU Nat (fun i=>([(3,iA ats),(4,E7 bs),(5,iv stamp),(6, .bp 0 0),(12, .bp 2 0),(15,E7 (JR g t had had.length)),(16,aA (JQ g t had had.length)),(17, .ow 4 (Eg g t had ats bs i).length),(62,iv g.d),(63,iv (i:Nat))], [.box 24 (AK g), .box 145 [Bm t], .box 145 [.ow 3 t.length], .row 189 3 ((DI g t had ats bs stamp i).map Cf), .row 22 1 ((Eg g t had ats bs i).map Fm)])) (fun i=>i<=g.d.toNat) (fun i=>g.d.toNat - i) 0 (Aj _)
  ⟨_,_,zC _ _, [(17,22,1)],tA, [0,1,2,3,4],tA,tA,rfl,rfl,rfl,rfl,rfl⟩ ?_
 intro i hi;obtain⟨X,J⟩:=Xy (g:=g) (t:=t) (had:=had) (ats:=ats) (bs:=bs) h8 hb (by omega) i;by_cases Z:i<g.d.toNat
 ·have C:i<t.length:=by omega
  have ha:i<had.length:=by omega
  have O:=X5 ats (i:Nat) (by omega);have u:=J7 g t had ats bs stamp (Nat.le_of_lt C);have j:=LC (g:=g) (t:=t) (had:=had) (ats:=ats) (bs:=bs) i;conv=>whnf
  rw [show decide ((i:Int)<g.d)=true from decide_eq_true (by omega)];conv=>whnf
  repeat' (refine zZ ?_;conv=>whnf)
  refine zH O rfl ?_;rintro _ ⟨n,rfl,⟨rfl,L⟩ | ⟨k,hk,rfl,N⟩⟩
  ·have hp:=PA (bs:=bs) ats.length L;have hN:Fk g t had ats bs i=BO g t had i:=by unfold Fk;rw [hp]
   have hE:Ia g t had ats bs stamp i=if (BO g t had i).length=0 then { t.getD i ez with lost:=true } else t.getD i ez:=by unfold Ia;rw [hN,hp]
   rw [hN] at j;conv=>whnf
   repeat' (refine zZ ?_;conv=>whnf)
   refine Ad ⟨by omega,by rw [l2];omega⟩ ?_;conv=>whnf
   rw [show (JQ g t had had.length).getD ((i:Nat):Int).toNat false=decide (0<(BO g t had i).length) by rw [Aa,JQ,Ac,Bb,Bz (by omega)];try rfl];by_cases hq:0<(BO g t had i).length
   ·rw [decide_eq_true hq];rw [if_neg (by omega)] at hE j;conv=>whnf
    repeat' (refine zZ ?_;conv=>whnf)
    refine Ad ⟨by omega,by rw [l1];omega⟩ ?_;conv=>whnf
    rw [show (JR g t had had.length).getD ((i:Nat):Int).toNat []=BO g t had i by rw [Aa,JR,Ac,Bb,Bz (by omega)];try rfl];refine⟨rfl,?_⟩;refine⟨⟨by rw [Ab],by omega⟩,?_⟩;conv=>whnf
    exact⟨i+1,by omega,by omega,zS (s:= [0,1,2,3,4]) ⟨⟨rfl,rfl,rfl,rfl,rfl,rfl,rfl,congrArg (AV.ow 4) (show (Eg g t had ats bs i).length+1=(Eg g t had ats bs (i+1)).length by rw [j,Ai];try rfl),rfl,AG (by omega),tv⟩,⟨rfl,rfl,rfl,congrArg (fun z=>some (AB.row 189 3 z)) (show (DI g t had ats bs stamp i).map Cf=(DI g t had ats bs stamp (i+1)).map Cf by rw [<-GI g t had ats bs stamp C,hE,VP g t had ats bs stamp C]),congrArg (fun z=>some (AB.row 22 1 z)) (show (Eg g t had ats bs i).map Fm ++ [Fm (BO g t had i)]=(Eg g t had ats bs (i+1)).map Fm by rw [j,A8];try rfl),tv⟩,rfl,rfl,rfl,rfl,rfl⟩⟩
   ·rw [decide_eq_false hq];rw [if_pos (by omega)] at hE j;conv=>whnf
    repeat' (refine zZ ?_;conv=>whnf)
    refine⟨⟨by omega,by omega⟩,?_⟩;refine⟨⟨rfl,by rw [Ab,u],by omega⟩,?_⟩;rw [Aa,show ((DI g t had ats bs stamp i).map Cf).getD i []=Cf ((DI g t had ats bs stamp i).getD i ez) from AY (by omega),show (DI g t had ats bs stamp i).getD i ez=t.getD i ez by rw [DI,Ac,AN (by simp),Ab,BQ,CH,BC,CU,<-Ac]];conv=>whnf
    repeat' (refine zZ ?_;conv=>whnf)
    exact⟨i+1,by omega,by omega,zS (s:= [0,1,2,3,4]) ⟨⟨rfl,rfl,rfl,rfl,rfl,rfl,rfl,congrArg (AV.ow 4) (show (Eg g t had ats bs i).length=(Eg g t had ats bs (i+1)).length by rw [j,AR]),rfl,AG (by omega),tv⟩,⟨rfl,rfl,rfl,congrArg (fun z=>some (AB.row 189 3 z)) (show ((DI g t had ats bs stamp i).map Cf).set i (Cf { t.getD i ez with lost:=true })=(DI g t had ats bs stamp (i+1)).map Cf by rw [<-BI,<-hE,GI g t had ats bs stamp C]),congrArg (fun z=>some (AB.row 22 1 (List.map Fm z))) (show Eg g t had ats bs i=Eg g t had ats bs (i+1) by rw [j,AR]),tv⟩,rfl,rfl,rfl,rfl,rfl⟩⟩
  ·have hp:=PB hA (bs:=bs) hk N ats.length hk (Ah _);have hN:Fk g t had ats bs i=bs.getD k []:=by unfold Fk;rw [hp]
   have V:=hb _ (A3 (d:=([]:List UInt8)) (show k<bs.length by omega));have hE:Ia g t had ats bs stamp i=⟨stamp,(C3 (bs.getD k []):Nat),false⟩:=by unfold Ia;rw [hN,hp,if_neg (by omega)]
   have em:=Qg stamp (bs.getD k []) hs V;have ixA:(0:Int)<=(k:Nat)/\((k:Nat):Int)<(bs.length:Nat):=by omega
   rw [hN,if_neg (by omega)] at j;conv=>whnf
   repeat' (refine zZ ?_;conv=>whnf)
   rw [show decide (((k:Nat):Int)>=0)=true from decide_eq_true (by omega)];conv=>whnf
   apply zX (0) tys_ok mixed (.o [0,1,2,3,4,5,6,7,8,9,10,11,12,13] .fin) (by kernel_rfl);conv=>whnf
   try (refine tI ?_;conv=>whnf)
   (rw [Aa];refine zY em ?_)
   conv=>whnf
   try (refine tI ?_;conv=>whnf)
   try (refine tS ?_;conv=>whnf)
   all_goals rw [show ((DI g t had ats bs stamp i).map Cf).getD (((i:Nat):Int)).toNat []=Cf ((DI g t had ats bs stamp i).getD i ez) by rw [Aa];exact AY (by omega)]
   all_goals
    conv=>whnf
    repeat' (refine zZ ?_;conv=>whnf)
    refine⟨ixA,?_⟩;conv=>whnf
    rw [Aa k];refine⟨rfl,?_⟩;refine⟨⟨by rw [Ab],by omega⟩,?_⟩;conv=>whnf
    exact⟨i+1,by omega,by omega,zS (s:= [0,1,2,3,4]) ⟨⟨rfl,rfl,rfl,rfl,rfl,rfl,rfl,congrArg (AV.ow 4) (show (Eg g t had ats bs i).length+1=(Eg g t had ats bs (i+1)).length by rw [j,Ai];try rfl),rfl,AG (by omega),tv⟩,⟨rfl,rfl,rfl,congrArg (fun z=>some (AB.row 189 3 z)) (show ((DI g t had ats bs stamp i).map Cf).set (((i:Nat):Int)).toNat (Cf ⟨stamp,(C3 (bs.getD k []):Nat),false⟩)=(DI g t had ats bs stamp (i+1)).map Cf by rw [Aa,<-BI,<-hE,GI g t had ats bs stamp C]),congrArg (fun z=>some (AB.row 22 1 z)) (show (Eg g t had ats bs i).map Fm ++ [Fm (bs.getD k [])]=(Eg g t had ats bs (i+1)).map Fm by rw [j,A8];try rfl),tv⟩,rfl,rfl,rfl,rfl,rfl⟩⟩
 ·have ei:i=g.d.toNat:=by omega
  subst ei;have G:=NY (Eg g t had ats bs g.d.toNat) (by omega) J;rw [stayG_xor] at G;have K:(D3 g t had ats bs g.d.toNat).length=8:=EB h8 hb (by omega) _;have he:=Qg stamp (D3 g t had ats bs g.d.toNat) hs K;conv=>whnf
  rw [show decide (((g.d.toNat:Nat):Int)<g.d)=false from decide_eq_false (by omega)];conv=>whnf
  repeat' (refine zZ ?_;conv=>whnf)
  refine Fn.shut (args':= [.sl 1 (Eg g t had ats bs g.d.toNat).length fun i=>((Eg g t had ats bs g.d.toNat).map Fm).getD i [],iv 8]) (G.subA ⟨D6 rfl rfl,fun _ _ h=>h,tv⟩) ⟨by rw [Ab],rfl,?_⟩;rintro _ rfl;conv=>whnf
  apply zX (0) tys_ok mixed (.o [0,1,2,3,4,5,6,7,8,9,10,11] .fin) (by kernel_rfl);conv=>whnf
  refine zY he ?_;conv=>whnf
  try (refine tI ?_;conv=>whnf)
  try (refine tS ?_;conv=>whnf)
  have F:g.d.toNat<t.length:=by omega
  have u:=J7 g t had ats bs stamp (Nat.le_of_lt F);have eW:(DI g t had ats bs stamp g.d.toNat).set g.d.toNat ⟨stamp,(C3 (D3 g t had ats bs g.d.toNat):Nat),false⟩=Bl g t had ats bs stamp:=by
   rw [J6 g t had ats bs stamp F,Bl,AC (by omega)]
  have U:((DI g t had ats bs stamp g.d.toNat).map Cf).getD g.d.toNat []=Cf ((DI g t had ats bs stamp g.d.toNat).getD g.d.toNat ez):=AY (by omega);have eR:((DI g t had ats bs stamp g.d.toNat).map Cf).set g.d.toNat (Cf ⟨stamp,(C3 (D3 g t had ats bs g.d.toNat):Nat),false⟩)=(Bl g t had ats bs stamp).map Cf:=by rw [<-BI,eW]
  have eN:(Bl g t had ats bs stamp).length=t.length:=by simp [Bl];omega
  all_goals
   refine⟨⟨rfl,by rw [Ab,u],F⟩,?_⟩;rw [U];refine⟨(by rw [AX,Ab,u]),?_⟩;exact⟨.tp [.ag [Bm (Bl g t had ats bs stamp)],bA (D3 g t had ats bs g.d.toNat),iv 0],BN ⟨Bf ⟨AU (f:=Cf) (Bl g t had ats bs stamp) eN.symm eR,tv⟩,ri,ri,tv⟩,rfl⟩
theorem Pk (g:Geo) (z:Int) (t:List Ent) (par:List UInt8) (ats:List Int) (bs:List (List UInt8)) (hg:Bq g=true) (hz:0<=z/\z<g.z) (ht:FK g t=true) (hp:par.length=8) (hA:AtsOk g ats) (hn:ats.length=bs.length) (hb:∀ b∈bs,b.length=8) :
  Fn Tryz.prog 146 [.ag (AK g),iv z, .ag [Bm t],bA par,iA ats,E7 bs] fun r=>r = .tp [D2 (B_ z t par ats bs),iv 0]:=by
 obtain⟨g1,g2,g3,g4,g5⟩:=Aq.1 hg;have C:=Gy ht;have F:=hA.len;have h1:=BL par (by omega);have h3:=Na g t (by omega);rw [ht,if_pos rfl] at h3;have hr:=KC g ats hA;have hw:=J_ bs (by omega) hb;have j:=J_ [par] (show 1<=1000000 by decide) (fun x hx=>by rw [A2] at hx;rw [hx];exact hp);obtain⟨I,hI⟩:∃ I:List Img,I=(List.range ats.length).map fun i=>⟨z,ats.getD i 0,bs.getD i []⟩:=⟨_,rfl⟩
 have h:I.length=ats.length:=by rw [hI,Ab,BQ]
 refine zR Tryz.func146 rfl ?_;conv=>whnf
 refine zY h3 ?_;conv=>whnf
 rw [show decide (z<0)=false from decide_eq_false (by omega)];conv=>whnf
 rw [show decide (z>=g.z)=false from decide_eq_false (by omega)];conv=>whnf
 refine zY hr ?_;conv=>whnf
 rw [show (((bs.length:Nat):Int) != ((ats.length:Nat):Int))=false from bne_eq_false_iff_eq.2 (by rw [hn])];conv=>whnf
 refine zY hw ?_;conv=>whnf
 refine zq (args':= [.sl 1 1 fun i=>([Fm par]:List (List AV)).getD i []]) (j.subA ⟨D6 (L:= [par]) rfl rfl,tv⟩) tA ?_;rintro _ rfl;refine⟨rfl,?_⟩;conv=>whnf
 refine zU Nat (fun k=>([(1,iv z),(3,bA par),(5,E7 bs),(14,bA (CM t)),(16, .ow 2 k),(61,iA ats),(62,iv (ats.length:Nat)),(63,iv (k:Nat))], [.box 24 (AK g), .box 145 [Bm t], .row 139 3 ((I.take k).map Dz)])) (fun k=>k<=ats.length) (fun k=>ats.length - k) 0 (Aj _)
  ⟨_,_,zC _ _, [(16,139,3)],tA, [0,1,3],tA,tA,rfl,rfl,rfl,rfl,rfl⟩ ?_
 intro k hk;by_cases u:k<ats.length
 ·have h2:=BL (bs.getD k []) (by have:=hb _ (A3 (d:=([]:List UInt8)) (show k<bs.length by omega));omega);have e1:(I.take k).map Dz ++ [Dz ⟨z,ats.getD k 0,bs.getD k []⟩]=(I.take (k+1)).map Dz:=by
   have e:I[k]? = some ⟨z,ats.getD k 0,bs.getD k []⟩:=by rw [hI,Bb,Bz u];try rfl
   rw [Ba,e,A8];try rfl
  conv=>whnf
  rw [show decide (((k:Nat):Int)<((ats.length:Nat):Int))=true from decide_eq_true (by omega)];conv=>whnf
  repeat' (refine zZ ?_;conv=>whnf)
  refine⟨⟨by omega,by omega⟩,?_⟩;conv=>whnf
  repeat' (refine zZ ?_;conv=>whnf)
  refine⟨⟨by omega,by omega⟩,?_⟩;conv=>whnf
  rw [Aa];refine zY h2 ?_;refine⟨rfl,?_⟩;conv=>whnf
  refine Ad ⟨by rw [Ab,As,h];omega,by omega⟩ ?_;exact⟨k+1,by omega,by omega,zS (s:= [0,1,2]) ⟨⟨rfl,rfl,rfl,rfl,rfl,rfl,rfl,AG (by omega),tv⟩,⟨rfl,rfl,congrArg (fun es=>some (AB.row 139 3 es)) e1,tv⟩,rfl,rfl,rfl,rfl,rfl⟩⟩
 ·have ek:k=ats.length:=by omega
  subst ek;conv=>whnf
  rw [show decide (((ats.length:Nat):Int)<((ats.length:Nat):Int))=false from decide_eq_false (by omega)];conv=>whnf
  repeat' (refine zZ ?_;conv=>whnf)
  rw [show I.take ats.length=I by rw [<-h,Aw]];refine zY h1 ?_;refine⟨rfl,?_⟩;refine⟨⟨by rw [Ab,h],by omega⟩,?_⟩;conv=>whnf
  refine Ad (by rw [Ai,Ab,h];try rfl) ?_;conv=>whnf
  exact⟨.tp [D2 (B_ z t par ats bs),iv 0],BN ⟨AU (f:=Dz) (B_ z t par ats bs) (DY z t par ats bs).symm (by unfold B_;rw [<-hI,A8];try rfl),ri,tv⟩,rfl⟩
theorem WR (g:Geo) (s:Stt) (d:Dk) (x:Rc) (Q:Int) (hg:Bq g=true) (hx:Gm g x=true) (f:x.img.bytes.length<=100000) (hQ:0<=Q/\Q<g.sl) (h:DkOk d) (hn:(d.cells.length:Int)=Ar g) (h1:(d.write (Bi g 0 Q) (BF g x 0 Q)).2≠8) (h2:((d.write (Bi g 0 Q) (BF g x 0 Q)).1.write (Bi g 1 Q) (BF g x 1 Q)).2≠8) :
  ACalls Tryz.prog false 76 [.bp 0 0, .ag (J3 x),iv Q] (FM g s d) fun r H=>r = .tp [.v (.bool (decide ((d.write (Bi g 0 Q) (BF g x 0 Q)).2=0) || decide (((d.write (Bi g 0 Q) (BF g x 0 Q)).1.write (Bi g 1 Q) (BF g x 1 Q)).2=0))),iv 0]/\H=FM g s ((d.write (Bi g 0 Q) (BF g x 0 Q)).1.write (Bi g 1 Q) (BF g x 1 Q)).1:=by
 have q0:=HZ (g:=g) (.inl rfl) hQ (c:=0);have q1:=HZ (g:=g) (.inr rfl) hQ (c:=1);have l0:=Rz g 0 Q;have l1:=Rz g 1 Q;have r0:=P4 g x 0 Q f;have r1:=P4 g x 1 Q f;rw [hg,q0] at l0;rw [hg,q1] at l1;rw [hx,q0] at r0;rw [hx,q1] at r1;have b0:=EC hg hn (.inl rfl) hQ (c:=0);have b1:=EC hg hn (.inr rfl) hQ (c:=1);have c0:=Qt g s d (Bi g 0 Q) (BF g x 0 Q) h (by omega) (C4 hx 0 Q);have i:=h.write (a:=Bi g 0 Q) (b:=BF g x 0 Q) (by omega) (C4 hx 0 Q);have j:(d.write (Bi g 0 Q) (BF g x 0 Q)).1.cells.length=d.cells.length:=Le d _ _;have c1:=Qt g s (d.write (Bi g 0 Q) (BF g x 0 Q)).1 (Bi g 1 Q) (BF g x 1 Q) i (by omega) (C4 hx 1 Q);rw [if_neg h1] at c0;rw [if_neg h2] at c1;generalize (d.write (Bi g 0 Q) (BF g x 0 Q)).1.write (Bi g 1 Q) (BF g x 1 Q)=W2 at c1 |-
 generalize d.write (Bi g 0 Q) (BF g x 0 Q)=W1 at c0 c1 |-
 generalize decide (W1.2=0)=p1 at c0 |-
 generalize decide (W2.2=0)=p2 at c1 |-
 simp only [Bool.and_self,if_true,if_pos] at l0 l1 r0 r1;cases p1 with
 | true=>
  refine zT tys_ok Tryz.func76 rfl rfl (Ae rfl) ?_;conv=>whnf
  refine zG 3 ?_;conv=>whnf
  repeat' (refine zZ ?_;conv=>whnf)
  refine zY l0 ?_;conv=>whnf
  repeat' (refine zZ ?_;conv=>whnf)
  apply zX (0) tys_ok mixed (.o [0,1,2,3,4,5,6,7,8,9,10,11,12] .fin) (by kernel_rfl);conv=>whnf
  refine zY r0 ?_;conv=>whnf
  repeat' (refine zZ ?_;conv=>whnf)
  refine ze9 [0,1,2,3,4] c0 ?_;rintro _ _ ⟨rfl,rfl⟩;conv=>whnf
  repeat' (refine zZ ?_;conv=>whnf)
  refine zY l1 ?_;conv=>whnf
  repeat' (refine zZ ?_;conv=>whnf)
  apply zX (0) tys_ok mixed (.o [0,1,2,3,4,5,6,7,8,9,10,11,12] .fin) (by kernel_rfl);conv=>whnf
  refine zY r1 ?_;conv=>whnf
  repeat' (refine zZ ?_;conv=>whnf)
  refine ze9 [0,1,2,3,4] c1 ?_;rintro _ _ ⟨rfl,rfl⟩;conv=>whnf
  repeat' (refine zZ ?_;conv=>whnf)
  exact⟨_, .tp [.v (.bool true),iv 0],FM g s W2.1,fun _ _ h=>h,zS (s:= [0,1,2,3,4]) tA,rfl,rfl⟩
 | false=>
  refine zT tys_ok Tryz.func76 rfl rfl (Ae rfl) ?_;conv=>whnf
  refine zG 3 ?_;conv=>whnf
  repeat' (refine zZ ?_;conv=>whnf)
  refine zY l0 ?_;conv=>whnf
  repeat' (refine zZ ?_;conv=>whnf)
  apply zX (0) tys_ok mixed (.o [0,1,2,3,4,5,6,7,8,9,10,11,12] .fin) (by kernel_rfl);conv=>whnf
  refine zY r0 ?_;conv=>whnf
  repeat' (refine zZ ?_;conv=>whnf)
  refine ze9 [0,1,2,3,4] c0 ?_;rintro _ _ ⟨rfl,rfl⟩;conv=>whnf
  repeat' (refine zZ ?_;conv=>whnf)
  refine zY l1 ?_;conv=>whnf
  repeat' (refine zZ ?_;conv=>whnf)
  apply zX (0) tys_ok mixed (.o [0,1,2,3,4,5,6,7,8,9,10,11,12] .fin) (by kernel_rfl);conv=>whnf
  refine zY r1 ?_;conv=>whnf
  repeat' (refine zZ ?_;conv=>whnf)
  refine ze9 [0,1,2,3,4] c1 ?_;rintro _ _ ⟨rfl,rfl⟩;conv=>whnf
  repeat' (refine zZ ?_;conv=>whnf)
  exact⟨_, .tp [.v (.bool p2),iv 0],FM g s W2.1,fun _ _ h=>h,zS (s:= [0,1,2,3,4]) tA,rfl,rfl⟩
theorem Yt (g:Geo) (s:Stt) (d:Dk) (lba:Int) (b:List UInt8) (hg:Bq g=true) (hl:s.txns.length<=1000) (u:0<=lba/\lba<g.z*g.d) (hb:b.length=8) :
  ACalls Tryz.prog false 72 [.bp 0 0,iA [lba],E7 [b]] (FM g s d) fun r H=>r = iv (if s.only then 15 else if 4 > g.sl - Cw s.txns then 21 else 0)/\H=FM g s d:=by
 obtain⟨g1,g2,g3,g4,g5⟩:=Aq.1 hg;have C:=E8 s.txns s.txns.length;have hn:=Tn g lba hg u;have hu:=Nk s.txns (by omega);have tsub:SubL [.sl 4 s.txns.length fun i=>(s.txns.map CG).getD i []] [CS s.txns]:=⟨AU (f:=CG) s.txns rfl rfl,tv⟩;refine zT tys_ok Tryz.func72 rfl rfl (Ae rfl) ?_;conv=>whnf
 refine zG 2 ?_;conv=>whnf
 repeat' (refine zZ ?_;conv=>whnf)
 refine⟨in01,?_⟩;conv=>whnf
 repeat' (refine zZ ?_;conv=>whnf)
 refine zA tys_ok mixed [0,1,2,3,4,5,6,7,8,9,10,11,12,13,14,15,16,17,18] (by kernel_rfl) ?_;conv=>whnf
 rw [show ((([b].getD (Int.toNat 0) []).length:Int) != 8)=false from bne_eq_false_iff_eq.2 (by show ((b.length:Nat):Int)=8;omega)];conv=>whnf
 repeat' (refine zZ ?_;conv=>whnf)
 refine zY hn ?_;conv=>whnf
 cases ho:s.only with
 | true=>
  exact⟨_,iv 15,FM g s d,fun _ _ h=>h,zS (s:= [0,1,2,3,4]) tA,rfl,rfl⟩
 | false=>
  conv=>whnf
  apply zP tys_ok mixed (.o [0,1,2,3,4,5,6,7,8,9,10,11,12,13,14] .fin) [72,73,74,75,76,77,78,79,80,81,82,83,84,85,86] (by kernel_rfl)
  ·conv=>whnf
   (refine zq (args':= [.sl 4 s.txns.length fun i=>(s.txns.map CG).getD i []]) (hu.subA tsub) ⟨(Ab _).symm,rfl⟩ ?_;rintro _ rfl;refine⟨rfl,?_⟩)
   exact tA
  conv=>whnf
  rw [wi (show -9223372036854775808<=g.sl - Cw s.txns/\g.sl - Cw s.txns<=9223372036854775807 by unfold Cw;omega)];by_cases j:(4:Int) > g.sl - Cw s.txns
  ·rw [decide_eq_true j,if_pos j];exact⟨_,iv 21,FM g s d,fun _ _ h=>h,zS (s:= [0,1,2,3,4]) tA,rfl,rfl⟩
  ·rw [decide_eq_false j,if_neg j];exact⟨_,iv 0,FM g s d,fun _ _ h=>h,zS (s:= [0,1,2,3,4]) tA,rfl,rfl⟩
theorem ZK {g:Geo} {A:Int} (h:0<=A/\A<g.d):AtsOk g [A]:=⟨Nat.zero_lt_one,(by show 1<=1000;decide),fun i hi=>by
 obtain rfl:i=0:=Nat.lt_one_iff.1 hi;exact h,fun i hi=>absurd hi (by show ¬i+1<1;omega)⟩
def Fe (g:Geo) (s:Stt) (G:Gr) (seq lba:Int) (b:List UInt8):List Img:=match FO g s G (lba.tdiv g.d) with
 | some t=>B_ (lba.tdiv g.d) (Bl g t (Ff g s G t (lba.tdiv g.d)) [lba.tmod g.d] [b] seq) (D3 g t (Ff g s G t (lba.tdiv g.d)) [lba.tmod g.d] [b] g.d.toNat) [lba.tmod g.d] [b]
 | none=> []
theorem Qr (g:Geo) (s:Stt) (d:Dk) (G:Gr) (lba S:Int) (b:List UInt8) (hg:Bq g=true) (hl:LogB s.txns) (ha:Bj g s.a=true) (h:Gs (Ar g) d G) (V:∀ t∈s.txns,∀ x∈t.images,Bn g x=true) (hF:∀ a,(G a).bytes.length<=100000) (h8:∀ a,(G a).err≠8) (j:0<=lba/\lba<g.z*g.d) (hb:b.length=8) (hS:0<=S/\S<=4294967295) (hB:∀ p,CB s.txns (lba.tdiv g.d) 255=some p->p.1.bytes.length<=100000/\(Ce g p.1.bytes).isSome=true) (t:List Ent) (ht:FO g s G (lba.tdiv g.d)=some t) :
  ACalls Tryz.prog false 74 [.bp 0 0,iA [lba],E7 [b],iv S] (FM g s d) fun r H=>r = .tp [D2 (Fe g s G S lba b),iv 0]/\∃ d',Gs (Ar g) d' G/\H=FM g s d':=by
 obtain⟨g1,g2,g3,g4,g5⟩:=Aq.1 hg;obtain⟨Z,hZ⟩:∃ Z,Z=lba.tdiv g.d:=⟨_,rfl⟩;obtain⟨A,hA⟩:∃ A,A=lba.tmod g.d:=⟨_,rfl⟩;have J:0<=Z/\Z<g.z:=by
  rw [hZ,AO j.1];exact⟨C6 j.1 (by omega),BZ (by omega) j.2⟩
 have hf:0<=A/\A<g.d:=by
  rw [hA];exact⟨Bw _ j.1,AZ _ (by omega)⟩
 have I:IntKind.i64.wrap (([lba].getD (Int.toNat 0) 0).tdiv g.d)=Z:=by
  rw [hZ];exact wi (by have:=J;rw [hZ] at this;show -9223372036854775808<=lba.tdiv g.d/\lba.tdiv g.d<=9223372036854775807;omega)
 have hL:Fe g s G S lba b=B_ Z (Bl g t (Ff g s G t Z) [A] [b] S) (D3 g t (Ff g s G t Z) [A] [b] g.d.toNat) [A] [b]:=by
  rw [Fe,<-hZ,<-hA];rw [<-hZ] at ht;rw [ht]
 rw [hL];rw [<-hZ] at ht hB;obtain⟨L,hL⟩:∃ L,L=B_ Z (Bl g t (Ff g s G t Z) [A] [b] S) (D3 g t (Ff g s G t Z) [A] [b] g.d.toNat) [A] [b]:=⟨_,rfl⟩;rw [<-hL];have hh:L.length=3:=by rw [hL,DY];try rfl
 have C:=Lg ht;have K:∀ x∈ [b],x.length=8:=fun x hx=>by rw [A2] at hx;rw [hx];exact hb
 obtain⟨k1,k2⟩:=Mn hg (s:=s) (G:=G) (t:=t) (z:=Z) V;have U:AtsOk g [A]:=ZK hf;have X:(D3 g t (Ff g s G t Z) [A] [b] g.d.toNat).length=8:=EB k2 K (show [A].length<= [b].length from Ah 1) _;have N:=QM g t (Ff g s G t Z) [A] [b] S hg C k1 k2 U rfl K hS;have O:=Pk g Z (Bl g t (Ff g s G t Z) [A] [b] S) (D3 g t (Ff g s G t Z) [A] [b] g.d.toNat) [A] [b] hg J (En hg C hS) X U rfl K;rw [<-hL] at O;refine zT tys_ok Tryz.func74 rfl rfl (Ae rfl) ?_;conv=>whnf
 refine zU (Nat × Dk × Bool) (fun x=>([(0, .bp 0 0),(1,iA [lba]),(2,E7 [b]),(3,iv S),(10,YC L x.2.2),(27,iv g.z),(28,iv (x.1:Nat))],FM g s x.2.1)) (fun x=>(x.1:Int)<=g.z/\Gs (Ar g) x.2.1 G/\(x.2.2=true↔Z<(x.1:Int))) (fun x=>g.z.toNat - x.1) (0,d,false) ⟨by show ((0:Nat):Int)<=g.z;omega,h,⟨fun q=>(by cases q),fun q=>absurd q (by show ¬Z<((0:Nat):Int);omega)⟩⟩
  (zS (s:= [0,1,2,3,4]) tA) ?_
 rintro⟨k,d1,p⟩ ⟨hk,u,f⟩;simp only at hk u f;by_cases F:(k:Int)<g.z;rotate_left 1
 ·obtain rfl:p=true:=f.2 (by omega);conv=>whnf
  rw [decide_eq_false F];conv=>whnf
  repeat' (refine zZ ?_;conv=>whnf)
  exact⟨_, .tp [D2 L,iv 0],FM g s d1,fun _ _ h=>h,zS (s:= [0,1,2,3,4]) tA,rfl,d1,u,rfl⟩
 by_cases he:(k:Int)=Z;rotate_left 1
 ·conv=>whnf
  rw [decide_eq_true F];conv=>whnf
  repeat' (refine zZ ?_;conv=>whnf)
  refine zG 2 ?_;conv=>whnf
  repeat' (refine zZ ?_;conv=>whnf)
  refine⟨in01,?_⟩;conv=>whnf
  repeat' (refine zZ ?_;conv=>whnf)
  refine⟨by omega,?_⟩;conv=>whnf
  rw [I,show (Z == (k:Int))=false from beq_eq_false_iff_ne.2 fun q=>he q.symm];conv=>whnf
  repeat' (refine zZ ?_;conv=>whnf)
  cases p
  ·exact⟨(k+1,d1,false),⟨by show ((k+1:Nat):Int)<=g.z;omega,u,⟨fun q=>by have:=f.1 q;show Z<((k+1:Nat):Int);omega,fun q=>f.2 (by have:Z<((k+1:Nat):Int):=q;omega)⟩⟩,by show g.z.toNat - (k+1)<g.z.toNat - k;omega,zS (s:= [0,1,2,3,4]) ⟨⟨rfl,rfl,rfl,rfl,rfl,rfl,AG (by omega),tv⟩,tA,rfl,rfl,rfl,rfl,rfl⟩⟩
  ·exact⟨(k+1,d1,true),⟨by show ((k+1:Nat):Int)<=g.z;omega,u,⟨fun q=>by have:=f.1 q;show Z<((k+1:Nat):Int);omega,fun q=>f.2 (by have:Z<((k+1:Nat):Int):=q;omega)⟩⟩,by show g.z.toNat - (k+1)<g.z.toNat - k;omega,zS (s:= [0,1,2,3,4]) ⟨⟨rfl,rfl,rfl,rfl,rfl,rfl,AG (by omega),tv⟩,tA,rfl,rfl,rfl,rfl,rfl⟩⟩
 ·obtain rfl:p=false:=by
   cases p with
   | false=>rfl
   | true=>exact absurd (f.1 rfl) (by omega)
  have W:=KS g s d1 G Z hg hl ha u hF h8 J hB t ht;conv=>whnf
  rw [decide_eq_true F];conv=>whnf
  repeat' (refine zZ ?_;conv=>whnf)
  refine zU (Nat × Bool) (fun i=>([(0, .bp 0 0),(1,iA [lba]),(2,E7 [b]),(3,iv S),(10, .v (.slice none 0 0)),(11,iv (k:Nat)),(12,aB A i.2),(13,bm b i.2),(27,iv g.z),(28,iv (k:Nat)),(31,iA [lba]),(32,iv 1),(33,iv (i.1:Nat))],FM g s d1)) (fun i=>i.1<=1/\(i.2=true↔i.1=1)) (fun i=>1 - i.1) (0,false) ⟨by show 0<=1;omega,by decide⟩
   (zS (s:= [0,1,2,3,4]) tA) ?_
  rintro⟨i,q⟩ ⟨hi,hq⟩;simp only at hi hq;by_cases hc:i=1;rotate_left 1
  ·obtain rfl:i=0:=by omega
   obtain rfl:q=false:=by
    cases q with
    | false=>rfl
    | true=>exact absurd (hq.1 rfl) (by decide)
   have ixA:(0:Int)<=0/\(0:Int)<(([b]:List (List UInt8)).length:Nat):=in01;conv=>whnf
   repeat' (refine zZ ?_;conv=>whnf)
   refine⟨in01,?_⟩;conv=>whnf
   repeat' (refine zZ ?_;conv=>whnf)
   refine⟨by omega,?_⟩;conv=>whnf
   rw [show IntKind.i64.wrap (([lba].getD (((0:Nat):Int)).toNat 0).tdiv g.d)=Z from I,show (Z == (k:Int))=true from beq_iff_eq.2 he.symm];conv=>whnf
   repeat' (refine zZ ?_;conv=>whnf)
   apply zX (16384) tys_ok mixed (.o [0,1,2,3,4,5,6,7,10,11,12,13] (.two 8 (.two 9 (.o [14,15,16,17,18] .fin) 14 (.two 9 (.o [15,16,17,18] .fin) 15 (.o [9,16,17,18] .fin))) 14 (.two 8 (.two 9 (.o [15,16,17,18] .fin) 15 (.o [9,16,17,18] .fin)) 15 (.o [8,9,16,17,18] .fin)))) (by kernel_rfl);conv=>whnf
   try (refine tI ?_;conv=>whnf)
   try (refine tI ?_;conv=>whnf)
   refine Ad ?_ ?_;refine Ad ?_ ?_;conv=>whnf
   try (refine tJ ?_;conv=>whnf)
   try (refine tK ?_;conv=>whnf)
   try (refine tJ ?_;conv=>whnf)
   try (refine tK ?_;conv=>whnf)
   rotate_left 1;refine Ad ?_ ?_;conv=>whnf
   try (refine tJ ?_;conv=>whnf)
   try (refine tK ?_;conv=>whnf)
   try (refine tJ ?_;conv=>whnf)
   try (refine tK ?_;conv=>whnf)
   rotate_left 1;conv=>whnf
   try (refine tJ ?_;conv=>whnf)
   try (refine tK ?_;conv=>whnf)
   try (refine tJ ?_;conv=>whnf)
   try (refine tK ?_;conv=>whnf)
   rotate_left 1;refine Ad ?_ ?_;refine Ad ?_ ?_;conv=>whnf
   try (refine tJ ?_;conv=>whnf)
   try (refine tK ?_;conv=>whnf)
   try (refine tJ ?_;conv=>whnf)
   try (refine tK ?_;conv=>whnf)
   rotate_left 1;conv=>whnf
   try (refine tJ ?_;conv=>whnf)
   try (refine tK ?_;conv=>whnf)
   try (refine tJ ?_;conv=>whnf)
   try (refine tK ?_;conv=>whnf)
   rotate_left 1;conv=>whnf
   try (refine tJ ?_;conv=>whnf)
   try (refine tK ?_;conv=>whnf)
   try (refine tJ ?_;conv=>whnf)
   try (refine tK ?_;conv=>whnf)
   rotate_left 1;all_goals
    conv=>whnf
    first
    | exact⟨(1,true),⟨by show 1<=1;omega,by decide⟩,by show 1 - 1<1 - 0;omega,zI (zQ (zN 12 6 rfl rfl) (zQ (zK 12 rfl (DB (L:= [A]) rfl (by rw [hA];rfl))) (zQ (zN 13 7 rfl rfl) (zK 13 rfl (D6 (L:= [b]) rfl rfl))))) (s:= [0,1,2,3,4]) tA⟩
    | exact⟨(1,true),⟨by show 1<=1;omega,by decide⟩,by show 1 - 1<1 - 0;omega,zI (zQ (zN 12 6 rfl rfl) (zQ (zK 12 rfl (DB (L:= [A]) rfl (by rw [hA];rfl))) (zQ (zN 13 8 rfl rfl) (zK 13 rfl (D6 (L:= [b]) rfl rfl))))) (s:= [0,1,2,3,4]) tA⟩
    | exact⟨(1,true),⟨by show 1<=1;omega,by decide⟩,by show 1 - 1<1 - 0;omega,zI (zQ (zN 12 7 rfl rfl) (zQ (zK 12 rfl (DB (L:= [A]) rfl (by rw [hA];rfl))) (zQ (zN 13 6 rfl rfl) (zK 13 rfl (D6 (L:= [b]) rfl rfl))))) (s:= [0,1,2,3,4]) tA⟩
    | exact⟨(1,true),⟨by show 1<=1;omega,by decide⟩,by show 1 - 1<1 - 0;omega,zI (zQ (zN 12 7 rfl rfl) (zQ (zK 12 rfl (DB (L:= [A]) rfl (by rw [hA];rfl))) (zQ (zN 13 8 rfl rfl) (zK 13 rfl (D6 (L:= [b]) rfl rfl))))) (s:= [0,1,2,3,4]) tA⟩
    | exact⟨(1,true),⟨by show 1<=1;omega,by decide⟩,by show 1 - 1<1 - 0;omega,zI (zQ (zN 12 8 rfl rfl) (zQ (zK 12 rfl (DB (L:= [A]) rfl (by rw [hA];rfl))) (zQ (zN 13 6 rfl rfl) (zK 13 rfl (D6 (L:= [b]) rfl rfl))))) (s:= [0,1,2,3,4]) tA⟩
    | exact⟨(1,true),⟨by show 1<=1;omega,by decide⟩,by show 1 - 1<1 - 0;omega,zI (zQ (zN 12 8 rfl rfl) (zQ (zK 12 rfl (DB (L:= [A]) rfl (by rw [hA];rfl))) (zQ (zN 13 7 rfl rfl) (zK 13 rfl (D6 (L:= [b]) rfl rfl))))) (s:= [0,1,2,3,4]) tA⟩
    | fail
  subst hc;obtain rfl:q=true:=hq.2 rfl;conv=>whnf
  repeat' (refine zZ ?_;conv=>whnf)
  rw [he];refine ze9 [0,1,2,3,4] W ?_;rintro _ _ ⟨rfl,d2,hd,rfl⟩;conv=>whnf
  repeat' (refine zZ ?_;conv=>whnf)
  apply zX (0) tys_ok mixed (.o [0,1,2,3,4,5,6,7,8] (.two 9 (.o [10,11,12,13,14,15,16,17] .fin) 14 (.o [9,10,11,12,13,15,16,17] .fin))) (by kernel_rfl);refine Ad ?_ ?_;conv=>whnf
  refine zY N ?_;conv=>whnf
  try (refine tS ?_;conv=>whnf)
  rotate_left 1;conv=>whnf
  refine zY N ?_;conv=>whnf
  try (refine tS ?_;conv=>whnf)
  rotate_left 1;all_goals
   conv=>whnf
   repeat' (refine zZ ?_;conv=>whnf)
   apply zX (0) tys_ok mixed (.o [0,1,2,3,4,5,6,7,8,9,10,11,12,13,14] .fin) (by kernel_rfl);conv=>whnf
   refine zY O ?_;conv=>whnf
   all_goals
    conv=>whnf
    repeat' (refine zZ ?_;conv=>whnf)
    refine⟨by omega,?_⟩;conv=>whnf
    exact⟨(k+1,d2,true),⟨by show ((k+1:Nat):Int)<=g.z;omega,hd,⟨fun _=>by show Z<((k+1:Nat):Int);omega,fun _=>rfl⟩⟩,by show g.z.toNat - (k+1)<g.z.toNat - k;omega,zI (zQ (zN 10 7 (congrArg (AV.ow 7) (by rw [Ab,BQ])) rfl) (zK 10 rfl (Sq rfl (by rw [Ab,BQ])))) (s:= [0,1,2,3,4]) ⟨⟨rfl,rfl,rfl,rfl,rfl,rfl,by rw [<-he];exact AG (by omega),tv⟩,tA,rfl,rfl,rfl,rfl,rfl⟩⟩
theorem VolV.far {g:Geo} (hg:Bq g=true) {a:An} (ha:Bj g a=true) {l:List Tx} {F F':Int->List UInt8} {V:Int->Int->List UInt8} (h:VolV g a l F V) (e:∀ q,g.an+2*g.sl<=q->F' q=F q):VolV g a l F' V:=by
 obtain⟨g1,g2,g3,g4,g5⟩:=Aq.1 hg;intro z h0 h1;obtain⟨t,hz⟩:=h z h0 h1;refine⟨t,⟨?_,hz.len,hz.ent,fun w hw hw2=>?_,hz.par⟩⟩
 ·have:=hz.tab;unfold ER at this |-
  rw [e (AM g z 0) (by unfold AM;omega),e (AM g z 1) (by unfold AM;omega)];omega
 ·have:=hz.val w hw hw2;obtain⟨sl,e1,e2⟩:=FJ hg ha ⟨h0,h1⟩ (w:=w) ⟨hw,hw2⟩;have f:=EV hg ⟨h0,h1⟩ e2
  grind
theorem Yu {g:Geo} (hg:Bq g=true) {a:An} {l:List Tx} {F:Int->List UInt8} {lba:Int} {b:List UInt8} (h:∀ t∈l,∀ x∈t.images,Bn g x=true) (hs:0<=a.seq+(l.length:Int)/\a.seq+(l.length:Int)<=4294967295) (f:0<=lba/\lba<g.z*g.d) (hb:b.length=8) (ht:(ER g (AF a l) F (lba.tdiv g.d)).isSome=true):(Gk g a l F lba b).images.length=3/\(∀ x∈(Gk g a l F lba b).images,Bn g x=true)/\OneTab (Gk g a l F lba b).images:=by
 obtain⟨g1,g2,g3,g4,g5⟩:=Aq.1 hg;obtain⟨t,ht⟩:=Cg.1 ht;have ei:(Gk g a l F lba b).images=B_ (lba.tdiv g.d) (Bl g t (D0 g (AF a l) F t (lba.tdiv g.d)) [lba.tmod g.d] [b] (a.seq+(l.length:Int))) (D3 g t (D0 g (AF a l) F t (lba.tdiv g.d)) [lba.tmod g.d] [b] g.d.toNat) [lba.tmod g.d] [b]:=by
  show G0 g (AF a l) F _ lba b=_;unfold G0;rw [ht]
 have G:=Jm ht;obtain⟨Z,hZ⟩:∃ Z,Z=lba.tdiv g.d:=⟨_,rfl⟩;obtain⟨A,hA⟩:∃ A,A=lba.tmod g.d:=⟨_,rfl⟩;have I:0<=Z/\Z<g.z:=by
  rw [hZ,AO f.1];exact⟨C6 f.1 (by omega),BZ (by omega) f.2⟩
 have J:0<=A/\A<g.d:=by
  rw [hA];exact⟨Bw _ f.1,AZ _ (by omega)⟩
 rw [<-hZ,<-hA] at ei;have j:∀ x∈D0 g (AF a l) F t Z,x.length=0\/x.length=8:=fun x hx=>by
  have h:∀ t∈(AF a l).txns,∀ x∈t.images,Bn g x=true:=h;rcases A6.1 hx with q | q
  ·obtain⟨i,hi,rfl⟩:=AQ.1 q;exact GJ h (by have:=AS.1 hi;omega)
  ·rw [A2] at q;rw [q];exact GJ h (by decide)
 have C:∀ x∈ [b],x.length=8:=fun x hx=>by rw [A2] at hx;rw [hx];exact hb
 have u:∀ x∈ [A],0<=x/\x<g.d:=fun x hx=>by rw [A2] at hx;rw [hx];exact J
 rw [ei];refine⟨by rw [DY];try rfl,fun x hx=>?_,?_⟩
 ·exact(IY hg I (En hg G (by omega)) (EB j C (show [A].length<= [b].length from Ah 1) _) u C (Ah 1) x hx).1
 ·exact Ii (l:= []) hg List.Pairwise.nil (fun x hx=>by cases hx) u
def aK (g:Geo) (M:Md):Prop:=(M.m.length:Int)=g.z*g.d/\∃ V,VolV g M.a M.l M.F V/\∀ z w,0<=z->z<g.z->0<=w->w<g.d->M.m.getD (z*g.d+w).toNat []=V z w
theorem aY {g:Geo} (hg:Bq g=true) {z w:Int} (h0:0<=z) (h1:z<g.z) (h2:0<=w) (h3:w<g.d):0<=z*g.d+w/\z*g.d+w<g.z*g.d:=by
 obtain⟨g1,g2,g3,g4,g5⟩:=Aq.1 hg;have e1:0<=z*g.d:=Da h0 (by omega);have e2:(z+1)*g.d<=g.z*g.d:=Cq (by omega) (by omega)
 grind
theorem Zu {g:Geo} (hg:Bq g=true):aK g (Ee g):=by
 obtain⟨g1,g2,g3,g4,g5⟩:=Aq.1 hg;have hn:0<=g.z*g.d:=Da (by omega) (by omega);refine⟨?_,_,Mc hg,fun z w h0 h1 h2 h3=>?_⟩
 ·show (((List.replicate (g.z*g.d).toNat zero8).length:Nat):Int)=_
  grind
 ·have:=aY hg h0 h1 h2 h3;show (List.replicate (g.z*g.d).toNat zero8).getD _ []=zero8
  grind
theorem a8 {g:Geo} (hg:Bq g=true) {K:Int} (hK:K<=4294967294) {D:Dk} {M M':Md} {lba:Int} {b:List UInt8} (f:0<=lba/\lba<g.z*g.d) (hb:b.length=8) (hv:Vol g K D (AF M.a M.l)) (h:aK g M) (hc:aX g M lba b M'):aK g M'/\Vol g (K+1) D (AF M'.a M'.l):=by
 obtain⟨g1,g2,g3,g4,g5⟩:=Aq.1 hg;rcases hc with ⟨hu,ht,W,hW,rfl⟩ | ⟨-,rfl⟩
 rotate_left 1
 ·exact⟨h,⟨hv.gd,hv.an,hv.ring,hv.rest,by have:=hv.gen;omega,by have:=hv.seq;omega,hv.one⟩⟩
 obtain⟨a,l,F,m⟩:=M;obtain⟨hm,V,hV,hr⟩:=h;simp only at hu ht hW hm hV hr;have ha:Bj g a=true:=hv.an;obtain⟨a1,a2,a3,a4⟩:=DD ha;have u:a.seq+l.length<=K:=hv.seq;have i:∀ t∈l,∀ x∈t.images,Bn g x=true:=fun t ht=>Av.1 (Dj hv.ring t ht).1
 obtain⟨c1,c2,c3⟩:=Yu hg (F:=F) i (by omega) f hb ht;refine⟨⟨?_,ST V (Gk g a l F lba b),?_,fun z w h0 h1 h2 h3=>?_⟩,?_⟩
 ·grind
 ·have q:=Xm hg (x:=Gk g a l F lba b) (by show 0<=a.seq+(l.length:Int)/\a.seq+(l.length:Int)<=4294967295;omega) i hV (ZE hg f hb ht);exact q.far hg ha fun p hp=>Pd (by omega) _ _ rfl fun w hw e=>by have:=(hW w hw).1;omega
 ·rw [ZC hg f ht V ⟨h2,h3⟩];show (m.set lba.toNat b).getD (z*g.d+w).toNat []=_;have hz:=aY hg h0 h1 h2 h3;have j:g.d*lba.tdiv g.d+lba.tmod g.d=lba:=Int.mul_tdiv_add_tmod lba g.d;rw [Ac,List.getElem?_set];by_cases e:z=lba.tdiv g.d/\w=lba.tmod g.d
  ·rw [if_pos e,if_pos (by rw [e.1,e.2,Int.mul_comm,j]),if_pos (by omega)];try rfl
  ·rw [if_neg e,if_neg fun q=>e ?_,<-Ac]
   ·grind
   ·have q2:lba=z*g.d+w:=by omega
    have e1:lba.tdiv g.d=lba / g.d:=AO f.1;have e2:lba / g.d=z:=by
     rw [q2,Int.add_comm,Int.add_mul_ediv_right _ _ (by omega),Int.ediv_eq_zero_of_lt h2 h3,Int.zero_add]
    grind
 ·exact hv.add hg hK (d':=D) hv.gd (x:=Gk g a l F lba b) rfl rfl (by show (2:Int)<=4;omega) (by show (4:Int)<=g.sl - Cw l;omega) (by show (4:Int)=_;rw [c1];try rfl) c2 c3

theorem Xt (g:Geo) (seq epoch:Int) (l:List Img) (hl:l.length<=100000) (hb:∀ x∈l,x.bytes.length<=100000):Fn Tryz.prog 75 [.ag (AK g),iv seq,iv epoch,D2 l] fun r=>r = .tp [LO (if KX g seq epoch l=0 then CF seq epoch l else []),iv (KX g seq epoch l)]:=by
 have nilr:∀ c v n,n≠0->KX g seq epoch l=n->Rd (.tp [.v (.slice none 0 0),iv n]) c v->Rd (.tp [LO (if KX g seq epoch l=0 then CF seq epoch l else []),iv (KX g seq epoch l)]) c v:=by
  intro c v n hn he h;rw [if_neg (by rw [he];exact hn),he];simp only [Rd,RdL] at h |-
  obtain⟨xs,rfl,a,_,rfl,h1,h2⟩:=h;exact⟨_,rfl,a,_,rfl,Bg _ _ _ _ (by simpa [Rd] using h1),h2⟩
 obtain⟨z,d,sp,sl,an⟩:=g;refine zR Tryz.func75 rfl ?_;conv=>whnf
 repeat' (first | (refine Am (fun h=>?_) (fun h=>?_) <;> (try simp at h) <;> conv=>whnf) | (refine zY (DS z d sp sl an) ?_;conv=>whnf) | (refine zY (IL _ _ _) ?_;conv=>whnf))
 iterate 3 (exact⟨_,fun c v h=>nilr c v 1 (by decide) (by simp [KX, *]) h,rfl⟩)
 rename_i h1 h2;have f:(Bq ⟨z,d,sp,sl,an⟩&&(CQ seq 0 4294967295&&CQ epoch 0 4294967295))=true:=by simp [*]
 clear h h1 h2;refine zM Nat (fun k=>([(1,iv seq),(2,iv epoch),(3,D2 l),(4, .bp 0 0),(29,D2 l),(30,iv l.length),(31,iv k)], [.box 24 (AK ⟨z,d,sp,sl,an⟩)])) (fun k=>k<=l.length/\∀ i,i<k->Bn ⟨z,d,sp,sl,an⟩ (l.getD i ⟨0,0, []⟩)=true) (fun k=>l.length - k) 0 ⟨Aj _,by simp⟩ ⟨[],tv,tA,tA,rfl,rfl,rfl⟩ ?_;rintro k ⟨hk,hI⟩;conv=>whnf
 refine Am (fun h2=>?_) (fun h2=>?_) <;> simp at h2 <;> conv=>whnf
 ·refine⟨by first | omega | (refine⟨rfl,?_,?_⟩ <;> first | omega | (simp only [Ab];done) | (simp only [Ab];omega)) | (simp only [Ab];omega),?_⟩;conv=>whnf
  refine zH (Kq ⟨z,d,sp,sl,an⟩ (l.getD k ⟨0,0, []⟩) (hb _ (A3 h2))) rfl ?_;rintro _ rfl;conv=>whnf
  refine Am (fun h3=>?_) (fun h3=>?_) <;> conv=>whnf
  ·refine⟨_,fun c v h=>nilr c v 1 (by decide) ?_ h,rfl⟩;have:l.all (Bn ⟨z,d,sp,sl,an⟩)=false:=by
    rw [<-BM];intro hh;have:=Av.1 hh _ (A3 (d:=⟨0,0, []⟩) h2);rw [this] at h3;simp at h3
   simp [KX,f,this]
  ·refine⟨k+1,⟨by omega,fun i hi=>?_⟩,by omega, [],tv,⟨rfl,rfl,rfl,rfl,rfl,rfl,AG (by omega),tv⟩,tA,rfl,rfl,rfl⟩;rcases Cd i k with h | h
   ·exact hI i h
   ·obtain rfl:i=k:=by omega
    cases hq:Bn ⟨z,d,sp,sl,an⟩ (l.getD i ⟨0,0, []⟩) with
    | true=>rfl
    | false=>rw [hq] at h3;simp at h3
 ·have u:l.all (Bn ⟨z,d,sp,sl,an⟩)=true:=by
   rw [Av];intro x hx;obtain⟨i,hi,rfl⟩:=List.getElem_of_mem hx;have:=hI i (by omega);rwa [Ac,Ag hi] at this
  clear hI;refine zY (IL _ _ _) ?_;conv=>whnf
  refine Am (fun h3=>?_) (fun h3=>?_) <;> simp at h3 <;> conv=>whnf
  ·exact⟨_,fun c v h=>nilr c v 2 (by decide) (by simp [KX,f,u,h3]) h,rfl⟩
  have C:KX ⟨z,d,sp,sl,an⟩ seq epoch l=0:=by simp [KX,f,u,h3]
  clear nilr;rw [wi (by omega)];refine zM Nat (fun k=>([(1,iv seq),(2,iv epoch),(13,iv (l.length+1)),(12, .ow 1 k),(47,D2 l),(48,iv l.length),(49,iv k)], [.dead, .row 141 8 ((IB seq epoch (l.length+1) k l).map J3)])) (fun k=>k<=l.length) (fun k=>l.length - k) 0 (Aj _) ⟨[(12,141,8)],tA,tA,tA,rfl,rfl,rfl⟩ ?_;rintro k hk;have j:=Ih seq epoch (l.length+1) k l;conv=>whnf
  refine Am (fun h2=>?_) (fun h2=>?_) <;> simp at h2 <;> conv=>whnf
  ·refine⟨by first | omega | (refine⟨rfl,?_,?_⟩ <;> first | omega | (simp only [Ab];done) | (simp only [Ab];omega)) | (simp only [Ab];omega),?_⟩;conv=>whnf
   refine zH (BL (l.getD k ⟨0,0, []⟩).bytes (by have:=hb _ (A3 (d:=⟨0,0, []⟩) h2);omega)) rfl ?_;rintro _ rfl;refine⟨rfl,?_⟩;conv=>whnf
   refine⟨⟨by rw [Ab,j];omega,by omega⟩,?_⟩;refine⟨k+1,by omega,by omega, [],tv,⟨rfl,rfl,rfl,rfl,rfl,rfl,AG (by omega),tv⟩,⟨Y9 ?_,tv⟩,rfl,rfl,rfl⟩;rw [Mk _ _ _ h2];try rfl
  ·obtain rfl:k=l.length:=by omega
   rw [wi (by omega),show (l.length:Int)+1 - 1=l.length by omega];refine⟨rfl,?_⟩;conv=>whnf
   refine⟨⟨by rw [Ab,j];omega,by omega⟩,?_⟩;conv=>whnf
   refine⟨by rw [Ai,Ab,j];simp,?_⟩;refine⟨_,fun c v h=>?_,rfl⟩;rw [C,if_pos rfl];simp only [Rd,RdL] at h |-
   obtain⟨xs,rfl,a,_,rfl,h1,h2⟩:=h;exact⟨_,rfl,a,_,rfl,Rd.sub (sz:=8) (He seq epoch l).symm (Pz seq epoch l) (by simp only [Rd];exact h1),h2⟩
@[reducible] def delX (lba:Int):AV:= .fn 79 [.rp [iA [lba]]]
theorem Yb (lba:Int):Fn Tryz.prog 152 [iA [],delX lba] fun r=>r = iv (-1):=by
 refine zR Tryz.func152 rfl ?_;conv=>whnf
 refine zG 1 ?_;conv=>whnf
 repeat' (refine zZ ?_;conv=>whnf)
 exact⟨_,ri,rfl⟩
theorem WG (lba:Int):Fn Tryz.prog 78 [iA [],delX lba] fun r=>r=iA []:=by
 have h1:=Yb lba;refine zR Tryz.func78 rfl ?_;conv=>whnf
 refine zY h1 ?_;exact⟨_,ri,rfl⟩
theorem YR {g:Geo} {seq epoch:Int} {l:List Img} (hg:Bq g=true) (h1:CQ seq 0 4294967295=true) (h2:CQ epoch 0 4294967295=true) (h3:l.all (Bn g)=true) (h4:CQ l.length 1 29=true):KX g seq epoch l=0:=by
 simp [KX,hg,h1,h2,h3,h4]
theorem Vi {H:List AB} {t:TypeId} {g:Geo} {s:Stt} {T:List Tx} {es:List (List AV)} {n:Nat} (hj:H[0]? = some (.box t (YG g (.bp 1 0) (.ow 4 n) (iA s.lost) s))) (hk:H[4]? = some (.row 170 4 es)) (hn:n=T.length) (he:es=T.map CG):ConvH H ((H.set 4 .dead).set 0 (.box t (Yz g (.bp 1 0) { s with txns:=T }))):=by
 subst hn he;have h4:4<H.length:=(At.1 hk).1;have e:=zw (H:=H) 0 4 (cs2:=YG g (.bp 1 0) (.sl 4 (T.map CG).length fun i=>(T.map CG).getD i []) (iA s.lost) s) hj hk (by simp only [Az,Bx,EW (Ab _).symm];rfl);have q:=zu (H:=(H.set 4 .dead).set 0 (.box t (YG g (.bp 1 0) (.sl 4 (T.map CG).length fun i=>(T.map CG).getD i []) (iA s.lost) s))) 0 (t:=t) (cs':=Yz g (.bp 1 0) { s with txns:=T }) (AA (by rw [AX];omega)) ⟨ri,ri,ri,ri,ri,ri,ri,ri,ri,ri,ri,ri,ri,AU (f:=CG) T (Ab _) rfl,ri,ri,ri,ri,ri,ri,tv⟩;rw [List.set_set] at q;exact e.trans q
@[reducible] def aI (g:Geo) (s:Stt) (d:Dk):List AB:= [.box 99 (Yz g (.bp 1 0) s), .box 119 (Gp (.ow 2 d.cells.length) (.ow 5 d.cache.length) d.reqs d.left), .row 68 3 (d.cells.map B4), .dead, .dead, .row 152 2 (d.cache.map Ei)]
@[reducible] def conH (g:Geo) (s:Stt) (d:Dk) (lba:Int):List AB:=FM g s d ++ [.box 30 [iA [lba]]]
theorem FV {d:Dk} (h:d.left = -1) (a:Int) (b:List UInt8):(d.write a b).2≠8/\(d.write a b).1.left = -1:=by
 have e:d.req.left = -1:=by unfold Dk.req;rw [h];try rfl
 unfold Dk.write;rw [if_neg (by rw [h];decide)];split
 ·exact⟨by show (7:Int)≠8;decide,e⟩
 ·exact⟨by show (0:Int)≠8;decide,e⟩
def Rn (g:Geo) (d:Dk) (x:Rc) (Q:Int):Dk:=((d.write (Bi g 0 Q) (BF g x 0 Q)).1.write (Bi g 1 Q) (BF g x 1 Q)).1
def ZO (g:Geo) (d:Dk) (x:Rc) (Q:Int):Bool:=decide ((d.write (Bi g 0 Q) (BF g x 0 Q)).2=0) || decide (((d.write (Bi g 0 Q) (BF g x 0 Q)).1.write (Bi g 1 Q) (BF g x 1 Q)).2=0)
def dW (g:Geo) (P:Int) (R:List Rc) (d:Dk):Nat->Dk
 | 0=>d
 | i+1=>Rn g (dW g P R d i) (R.getD i rc0) (CX g P (i:Nat))
def tW (g:Geo) (P:Int) (R:List Rc) (d:Dk) (i:Nat):Bool:=ZO g (dW g P R d i) (R.getD i rc0) (CX g P (i:Nat))
theorem Zn {g:Geo} (hg:Bq g=true) {d:Dk} {x:Rc} {Q:Int} (hx:Gm g x=true) (hQ:0<=Q/\Q<g.sl) (h:DkOk d) (hl:d.left = -1) (hn:(d.cells.length:Int)=Ar g):DkOk (Rn g d x Q)/\(Rn g d x Q).left = -1/\((Rn g d x Q).cells.length:Int)=Ar g:=by
 have b0:=EC hg hn (.inl rfl) hQ (c:=0);have b1:=EC hg hn (.inr rfl) hQ (c:=1);have h1:=h.write (a:=Bi g 0 Q) (b:=BF g x 0 Q) (by omega) (C4 hx 0 Q);have l1:=(FV hl (Bi g 0 Q) (BF g x 0 Q)).2;have n1:=Le d (Bi g 0 Q) (BF g x 0 Q);have h2:=h1.write (a:=Bi g 1 Q) (b:=BF g x 1 Q) (by omega) (C4 hx 1 Q);have l2:=(FV l1 (Bi g 1 Q) (BF g x 1 Q)).2;have n2:=Le (d.write (Bi g 0 Q) (BF g x 0 Q)).1 (Bi g 1 Q) (BF g x 1 Q);exact⟨h2,l2,by show ((((d.write _ _).1.write _ _).1.cells.length:Nat):Int)=_;omega⟩
theorem NO {g:Geo} (hg:Bq g=true) {P:Int} {R:List Rc} {n:Nat} (hR:∀ i:Nat,i<n->Gm g (R.getD i rc0)=true) (hP:∀ i:Nat,i<n->0<=CX g P (i:Nat)/\CX g P (i:Nat)<g.sl) {d:Dk} (h:DkOk d) (hl:d.left = -1) (hn:(d.cells.length:Int)=Ar g):∀ i,i<=n->DkOk (dW g P R d i)/\(dW g P R d i).left = -1/\((dW g P R d i).cells.length:Int)=Ar g
 | 0,_=>⟨h,hl,hn⟩
 | i+1,hi=>by
  obtain⟨q1,q2,q3⟩:=NO hg hR hP h hl hn i (by omega);exact Zn hg (hR i (by omega)) (hP i (by omega)) q1 q2 q3
theorem UL (g:Geo) (s:Stt) (d:Dk) (x:Rc) (Q:Int) (hg:Bq g=true) (hx:Gm g x=true) (f:x.img.bytes.length<=100000) (hQ:0<=Q/\Q<g.sl) (h:DkOk d) (hl:d.left = -1) (hn:(d.cells.length:Int)=Ar g) :
  ACalls Tryz.prog false 76 [.bp 0 0, .ag (J3 x),iv Q] (FM g s d) fun r H=>r = .tp [.v (.bool (ZO g d x Q)),iv 0]/\H=FM g s (Rn g d x Q):=
 WR g s d x Q hg hx f hQ h hn (FV hl _ _).1 (FV (FV hl _ _).2 _ _).1
theorem Yp (g:Geo) (a:An) (l:List Tx) (d:Dk) (G:Gr) (lba:Int) (b:List UInt8) (t:List Ent) (hg:Bq g=true) (ha:Bj g a=true) (K:C0 g l a.seq a.pos g.sl=true) (u:StSm (AF a l)) (hq:a.seq+(l.length:Int)<=4294967295) (h:Gs (Ar g) d G) (hF:∀ a,(G a).bytes.length<=100000) (h8:∀ a,(G a).err≠8) (X:0<=lba/\lba<g.z*g.d) (hb:b.length=8) (hp:4<=g.sl - Cw l) (hB:∀ p,CB l (lba.tdiv g.d) 255=some p->p.1.bytes.length<=100000/\(Ce g p.1.bytes).isSome=true) (hm:FO g (AF a l) G (lba.tdiv g.d)=some t) (S P:Int) (L:List Img) (hS:S=a.seq+(l.length:Int)) (hP:P=(a.pos+Cw l).tmod g.sl) (hL:L=Fe g (AF a l) G S lba b) (V:L.length=3) (J:∀ x∈L,Bn g x=true) :
  ACalls Tryz.prog false 36 [.bp 0 0,iA [lba],E7 [b]] (FM g (AF a l) d) fun r H=>∃ d1,Gs (Ar g) d1 G/\(((∀ j:Nat,j<4->tW g P (CF S a.epoch L) d1 j=true)/\r = iv 0/\H=aI g (AF a (l ++ [⟨S,P,4,L⟩])) (dW g P (CF S a.epoch L) d1 4).flush)\/∃ k:Nat,k<4/\(∀ j:Nat,j<k->tW g P (CF S a.epoch L) d1 j=true)/\tW g P (CF S a.epoch L) d1 k=false/\r = iv 14/\H=aI g { AF a l with only:=true } (dW g P (CF S a.epoch L) d1 (k+1))):=by
 obtain⟨g1,g2,g3,g4,g5⟩:=Aq.1 hg;have hr:l.length<=30:=u.t.1;have ho:LogB (AF a l).txns:=⟨by have:=u.t.1;omega,fun t ht=>⟨by have:=(u.t.2 t ht).1;omega,fun x hx=>by have:=(u.t.2 t ht).2 x hx;omega⟩⟩;have hs:=E8 l l.length;obtain⟨a1,a2,a3,a4⟩:=DD ha;have tsub:SubL [.ag (AK g), .ag (Ek a), .sl 4 l.length fun i=>(l.map CG).getD i []] [.ag (AK g), .ag (Ek a),CS l]:=⟨ri,ri,AU (f:=CG) l rfl rfl,tv⟩;have W:=Yt g (AF a l) d lba b hg (by show l.length<=1000;omega) X hb;rw [show (AF a l).only=false from rfl,if_neg (by decide),show (AF a l).txns=l from rfl,if_neg (by omega)] at W;have N:=Tt g a l hg ha K (by omega) (fun t ht=>⟨by have:=(u.t.2 t ht).1;omega,fun x hx=>by have:=(u.t.2 t ht).2 x hx;omega⟩) (by have:=(MJ hg ha).1;omega) (by have:=(MJ hg ha).2.1;omega) (by omega);have Z:=Qr g (AF a l) d G lba S b hg ho ha h (fun t ht=>Av.1 (Dj K t ht).1) hF h8 X hb (by omega) hB t hm;rw [<-hS,<-hP] at N;rw [<-hL] at Z;have hc:0<=a.epoch/\a.epoch<=4294967295:=by
  have:=ha;simp only [Bj,A_,BB,B3,Af,decide_eq_true_eq,AE] at this;omega
 have hl:∀ x∈L,x.bytes.length<=45:=fun x hx=>Ez hg (J x hx)
 have F:=Xt g S a.epoch L (by omega) fun x hx=>by have:=hl x hx;omega
 have hd:CQ S 0 4294967295=true:=AE.2 (by omega);rw [YR hg hd (AE.2 hc) (Av.2 J) (by rw [V];decide),if_pos rfl] at F;obtain⟨R,hR⟩:∃ R,R=CF S a.epoch L:=⟨_,rfl⟩;have hu:R.length=4:=by rw [hR,He,V]
 have I:∀ k:Nat,k<4->Gm g (R.getD k rc0)=true/\(R.getD k rc0).img.bytes.length<=100000:=fun k hk=>by
  rw [hR,Iw _ _ _ (by omega)];split
  ·rename_i q;exact⟨Lj hg hd (AE.2 hc) (J _ (A3 (d:=⟨0,0, []⟩) q)) q V,by have:=hl _ (A3 (d:=(⟨0,0, []⟩:Img)) q);show (L.getD k _).bytes.length<=_;omega⟩
  ·rw [show k=L.length by omega];exact⟨Li hg hd (AE.2 hc) V,Aj _⟩
 have hh:∀ i:Nat,i<4->0<=CX g P (i:Nat)/\CX g P (i:Nat)<g.sl:=fun i hi=>Ju hg (pos:=P) (at_:=(i:Nat)) (by rw [hP];exact⟨Bw _ (by unfold Cw;omega),AZ _ (by omega)⟩) (by omega)
 rw [<-hR] at F |-
 refine zT tys_ok Tryz.func36 rfl rfl (Ae rfl) ?_;conv=>whnf
 refine ze9 [0,1,2,3,4] W ?_;rintro _ _ ⟨rfl,rfl⟩;conv=>whnf
 apply zX (0) tys_ok mixed (.o [0,1,2,3,4,5,6,7,8,9,10,11,12,13,14,15,16,17,18,19,20,21] .fin) (by kernel_rfl);conv=>whnf
 (refine zq (args':= [.ag (AK g), .ag (Ek a), .sl 4 l.length fun i=>(l.map CG).getD i []]) (N.subA tsub) ⟨(Ab _).symm,rfl⟩ ?_;rintro _ rfl;refine⟨rfl,?_⟩)
 conv=>whnf
 refine ze9 [0,1,2,3,4] Z ?_;rintro _ _ ⟨rfl,d1,C,rfl⟩;have he:=NO hg (P:=P) (R:=R) (fun i hi=>(I i hi).1) hh C.ok C.left C.len;conv=>whnf
 repeat' (refine zZ ?_;conv=>whnf)
 apply zX (0) tys_ok mixed (.o [0,1,2,3,4,5,6,7,8,9,10,11,12,13,14,15,16,17] .fin) (by kernel_rfl);conv=>whnf
 refine zY F ?_;conv=>whnf
 refine zU Nat (fun i=>([(0, .bp 0 0),(4, .bp 5 0),(8,iv P),(9,iv S),(10,D2 L),(11,LO R),(73,LO R),(74,iv R.length),(75,iv (i:Nat))],conH g (AF a l) (dW g P R d1 i) lba)) (fun i=>i<=4/\∀ j:Nat,j<i->tW g P R d1 j=true) (fun i=>4 - i) 0 ⟨by show 0<=4;omega,fun j hj=>absurd hj (Ap j)⟩
  (zS (s:= [0,1,2,3,4,5]) tA) ?_
 rintro i ⟨hi,hT⟩;by_cases O:i<4
 ·obtain⟨q1,q2,q3⟩:=he i (by omega);have U:=UL g (AF a l) (dW g P R d1 i) (R.getD i rc0) (CX g P (i:Nat)) hg (I i O).1 (I i O).2 (hh i O) q1 q2 q3;cases ht:tW g P R d1 i with
  | true=>
   rw [show ZO g (dW g P R d1 i) (R.getD i rc0) (CX g P (i:Nat))=true from ht] at U;conv=>whnf
   rw [show decide ((i:Int)<(R.length:Nat))=true from decide_eq_true (by omega)];conv=>whnf
   repeat' (refine zZ ?_;conv=>whnf)
   refine⟨⟨by omega,by omega⟩,?_⟩;conv=>whnf
   rw [Aa];repeat' (refine zZ ?_;conv=>whnf)
   apply zX (2 ^ 139) tys_ok mixed (.o [0,1,2,3,4,5,6,7,8,9,10,11,12,13,14,15,16] .fin) (by kernel_rfl);conv=>whnf
   try (refine tI ?_;conv=>whnf)
   (refine ze9 [0,1,2,3,4] U ?_;rintro _ _ ⟨rfl,rfl⟩)
   conv=>whnf
   conv=>whnf
   repeat' (refine zZ ?_;conv=>whnf)
   exact⟨i+1,⟨by omega,fun j hj=>by by_cases e:j=i;exact e ▸ ht;exact hT j (by omega)⟩,by omega,zS (s:= [0,1,2,3,4,5]) ⟨⟨rfl,rfl,rfl,rfl,rfl,rfl,rfl,rfl,AG (by omega),tv⟩,tA,rfl,rfl,rfl,rfl,rfl⟩⟩
  | false=>
   rw [show ZO g (dW g P R d1 i) (R.getD i rc0) (CX g P (i:Nat))=false from ht] at U;conv=>whnf
   rw [show decide ((i:Int)<(R.length:Nat))=true from decide_eq_true (by omega)];conv=>whnf
   repeat' (refine zZ ?_;conv=>whnf)
   refine⟨⟨by omega,by omega⟩,?_⟩;conv=>whnf
   rw [Aa];repeat' (refine zZ ?_;conv=>whnf)
   apply zX (2 ^ 139) tys_ok mixed (.o [0,1,2,3,4,5,6,7,8,9,10,11,12,13,14,15,16] .fin) (by kernel_rfl);conv=>whnf
   try (refine tI ?_;conv=>whnf)
   (refine ze9 [0,1,2,3,4] U ?_;rintro _ _ ⟨rfl,rfl⟩)
   conv=>whnf
   conv=>whnf
   repeat' (refine zZ ?_;conv=>whnf)
   exact⟨_,iv 14,aI g { AF a l with only:=true } (dW g P R d1 (i+1)),fun _ _ h=>h,zI (zL (zr (Vi (s:={ AF a l with only:=true }) (T:=l) rfl rfl rfl rfl) (z6 1 3 (by decide) rfl rfl))) (s:= [0,1,2,3,4,7]) tA,d1,C, .inr ⟨i,O,hT,ht,rfl,rfl⟩⟩
 ·have ei:i=4:=by omega
  subst ei;obtain⟨q1,q2,q3⟩:=he 4 (Ah _);have hf:=Jc (dW g P R d1 4) q1.l q1.m fun w hw=>(q1.w w hw).1
  rw [if_neg (by rw [q2];decide),if_neg (by rw [q2];decide)] at hf;have hn:=WG lba;conv=>whnf
  rw [show decide (((4:Nat):Int)<(R.length:Nat))=false from decide_eq_false (by omega)];conv=>whnf
  repeat' (refine zZ ?_;conv=>whnf)
  refine ze9 [1,2,3] hf ?_;rintro _ _ ⟨rfl,rfl⟩;conv=>whnf
  repeat' (refine zZ ?_;conv=>whnf)
  refine⟨rfl,?_⟩;conv=>whnf
  refine Ad ⟨by rw [Ab],by show l.length+1<=1000000000;omega⟩ ?_;conv=>whnf
  repeat' (refine zZ ?_;conv=>whnf)
  refine zY hn ?_;conv=>whnf
  have e4:((R.length:Nat):Int)=4:=by omega
  rw [e4];exact⟨_,iv 0,aI g (AF a (l ++ [⟨S,P,4,L⟩])) (dW g P R d1 4).flush,fun _ _ h=>h,zI (zL (Vi (T:=l ++ [⟨S,P,4,L⟩]) rfl rfl (by rw [Ai];try rfl) (by rw [A8];try rfl))) (s:= [0,1,2,3,4,6]) tA,d1,C, .inl ⟨hT,rfl,rfl⟩⟩

theorem Qu (g:Geo) (a:An) (l:List Tx) (d:Dk) (G:Gr) (lba:Int) (b:List UInt8) (t:List Ent) (hg:Bq g=true) (ha:Bj g a=true) (N:C0 g l a.seq a.pos g.sl=true) (he:Jr g d (AF a l)=true) (u:StSm (AF a l)) (hc:a.seq+(l.length:Int)<=4294967295) (h:Gs (Ar g) d G) (hF:∀ a,(G a).bytes.length<=100000) (h8:∀ a,(G a).err≠8) (hd:0<=lba/\lba<g.z*g.d) (hb:b.length=8) (K:4<=g.sl - Cw l) (hB:∀ p,CB l (lba.tdiv g.d) 255=some p->p.1.bytes.length<=100000/\(Ce g p.1.bytes).isSome=true) (W:FO g (AF a l) G (lba.tdiv g.d)=some t) (S P:Int) (L:List Img) (hS:S=a.seq+(l.length:Int)) (hP:P=(a.pos+Cw l).tmod g.sl) (hL:L=Fe g (AF a l) G S lba b) (J:L.length=3) (I:∀ x∈L,Bn g x=true) (Z:StSm (AF a (l ++ [⟨S,P,4,L⟩]))) :
  Fn Tryz.prog 14 [.ag (AK g), .ag (DV d), .ag (Eo (AF a l)),iA [lba],E7 [b]] fun r=>∃ d1,Gs (Ar g) d1 G/\(((∀ j:Nat,j<4->tW g P (CF S a.epoch L) d1 j=true)/\r = .tp [.ag (Eo (AF a (l ++ [⟨S,P,4,L⟩]))), .ag (DV (dW g P (CF S a.epoch L) d1 4).flush),iv 0])\/∃ k:Nat,k<4/\(∀ j:Nat,j<k->tW g P (CF S a.epoch L) d1 j=true)/\tW g P (CF S a.epoch L) d1 k=false/\r = .tp [.ag (Eo { AF a l with only:=true }), .ag (DV (dW g P (CF S a.epoch L) d1 (k+1))),iv 14]):=by
 have c1:=SN g d (AF a l) h.ok he u;have c2:=Yp g a l d G lba b t hg ha N u hc h hF h8 hd hb K hB W S P L hS hP hL J I;have X:StSm { AF a l with only:=true }:=⟨u.h,u.l,u.t,u.o⟩;obtain⟨g1,g2,g3,g4,g5⟩:=Aq.1 hg;have hh:=E8 l l.length;have O:0<=a.epoch/\a.epoch<=4294967295:=by
  have:=ha;simp only [Bj,A_,BB,B3,Af,decide_eq_true_eq,AE] at this;omega
 obtain⟨a1,a2,a3,a4⟩:=DD ha;have U:CQ S 0 4294967295=true:=AE.2 (by omega);have F:∀ k:Nat,k<4->Gm g ((CF S a.epoch L).getD k rc0)=true:=fun k hk=>by
  rw [Iw _ _ _ (by omega)];split
  ·rename_i q;exact Lj hg U (AE.2 O) (I _ (A3 (d:=⟨0,0, []⟩) q)) q J
  ·rw [show k=L.length by omega];exact Li hg U (AE.2 O) J
 have V:∀ i:Nat,i<4->0<=CX g P (i:Nat)/\CX g P (i:Nat)<g.sl:=fun i hi=>Ju hg (pos:=P) (at_:=(i:Nat)) (by rw [hP];exact⟨Bw _ (by unfold Cw;omega),AZ _ (by omega)⟩) (by omega)
 refine zR Tryz.func14 rfl ?_;conv=>whnf
 refine zW c1 rfl ?_;rintro _ _ ⟨rfl,rfl⟩;conv=>whnf
 refine ze9 [5,6,7,8,9] c2 ?_;rintro _ _ ⟨d1,f,⟨hT,rfl,rfl⟩ | ⟨k,hk,hT,hf,rfl,rfl⟩⟩
 ·have C:=NO hg F V f.ok f.left f.len 4 (Ah _);have c3:=GS _ Z;have c4:=GU g (AF a (l ++ [⟨S,P,4,L⟩])) (dW g P (CF S a.epoch L) d1 4).flush C.1.flush;conv=>whnf
  repeat' (refine zZ ?_;conv=>whnf)
  refine zY c3 ?_;conv=>whnf
  refine ze9 [5,6,7,8,10] c4 ?_;rintro _ _ ⟨rfl,rfl⟩;exact⟨_,ri,d1,f, .inl ⟨hT,rfl⟩⟩
 ·have C:=NO hg F V f.ok f.left f.len (k+1) (by omega);have c3:=GS _ X;have c4:=GU g { AF a l with only:=true } (dW g P (CF S a.epoch L) d1 (k+1)) C.1;conv=>whnf
  repeat' (refine zZ ?_;conv=>whnf)
  refine zY c3 ?_;conv=>whnf
  refine ze9 [5,6,7,8,10] c4 ?_;rintro _ _ ⟨rfl,rfl⟩;exact⟨_,ri,d1,f, .inr ⟨k,hk,hT,hf,rfl⟩⟩
theorem MW (d:Dk) (a:Int) (b:List UInt8):(d.write a b).1.cells=d.cells/\∃ W,(d.write a b).1.cache=d.cache ++ W/\∀ w∈W,w.addr=a:=by
 unfold Dk.write;split
 ·simp_all
 ·split
  ·exact⟨rfl, [],(AR _).symm,fun w hw=>by cases hw⟩
  ·exact⟨rfl, [⟨a,b⟩],rfl,fun w hw=>by rw [A2] at hw;rw [hw]⟩
theorem XJ {g:Geo} (d:Dk) (x:Rc) {Q:Int} (hQ:0<=Q/\Q<g.sl):(Rn g d x Q).cells=d.cells/\∃ W,(Rn g d x Q).cache=d.cache ++ W/\∀ w∈W,g.an<=w.addr/\w.addr<g.an+2*g.sl:=by
 obtain⟨e1,W1,c1,h1⟩:=MW d (Bi g 0 Q) (BF g x 0 Q);obtain⟨e2,W2,c2,h2⟩:=MW (d.write (Bi g 0 Q) (BF g x 0 Q)).1 (Bi g 1 Q) (BF g x 1 Q);refine⟨e2.trans e1,W1 ++ W2,by unfold Rn;rw [c2,c1,A7],fun w hw=>?_⟩;rcases A6.1 hw with q | q
 ·rw [h1 w q];exact GK (.inl rfl) hQ
 ·rw [h2 w q];exact GK (.inr rfl) hQ
theorem RH {g:Geo} {P:Int} {R:List Rc} {n:Nat} (hP:∀ i:Nat,i<n->0<=CX g P (i:Nat)/\CX g P (i:Nat)<g.sl) (d:Dk):∀ i,i<=n->(dW g P R d i).cells=d.cells/\∃ W,(dW g P R d i).cache=d.cache ++ W/\∀ w∈W,g.an<=w.addr/\w.addr<g.an+2*g.sl
 | 0,_=>⟨rfl, [],(AR _).symm,fun w hw=>by cases hw⟩
 | i+1,hi=>by
  obtain⟨e1,W1,c1,h1⟩:=RH (R:=R) hP d i (by omega);obtain⟨e2,W2,c2,h2⟩:=XJ (dW g P R d i) (R.getD i rc0) (hP i (by omega));refine⟨e2.trans e1,W1 ++ W2,by show (Rn g _ _ _).cache=_;rw [c2,c1,A7],fun w hw=>?_⟩
  grind
theorem Uo {d d':Dk} (h:d'.cells=d.cells) (h1:d'.cache=d.cache) (a:Int):d'.got a=d.got a:=by
 unfold Dk.got
 grind
theorem Ur {d:Dk} {q:Int} (hq:0<=q/\q<d.cells.length) (h:∀ w∈d.cache,0<=w.addr/\w.addr≠q):d.flush.got q=if (d.cells.getD q.toNat cz).state=0 then ((d.cells.getD q.toNat cz).bytes,0) else ([],6):=by
 have e:d.flush.cells=CL d.cells d.cache:=by
  unfold Dk.flush;rw [allFin_cells];try rfl
 unfold Dk.got;rw [e,show d.flush.cache=[] from rfl];show (if ((CL d.cells d.cache).getD q.toNat cz).state=0 then (((CL d.cells d.cache).getD q.toNat cz).bytes,(0:Int)) else ([],6))=_;rw [finL_miss _ _ _ (by omega) fun w hw=>by have:=h w hw;omega]
theorem Gs.after {g:Geo} (hg:Bq g=true) {P:Int} {R:List Rc} {n:Nat} (hR:∀ i:Nat,i<n->Gm g (R.getD i rc0)=true) (hP:∀ i:Nat,i<n->0<=CX g P (i:Nat)/\CX g P (i:Nat)<g.sl) {d:Dk} {G:Gr} (h:Gs (Ar g) d G) (hc:d.cache=[]):Gs (Ar g) (dW g P R d n).flush (E0 (dW g P R d n).flush)/\(∀ q,g.an+2*g.sl<=q->q<Ar g->E0 (dW g P R d n).flush q=G q)/\(dW g P R d n).flush.cache=[]:=by
 obtain⟨g1,g2,g3,g4,g5⟩:=Aq.1 hg;obtain⟨h1,h2,h3⟩:=NO hg hR hP h.ok h.left h.len n (Ah _);obtain⟨e1,W,c1,hW⟩:=RH (R:=R) hP d n (Ah _);rw [hc,B7] at c1;generalize dW g P R d n=D at *
 have hl:=h.len;refine⟨Gs.of h1.flush ?_ ?_,fun q q1 q2=>?_,rfl⟩
 ·unfold Dk.flush;rw [allFin_cells];show D.req.left = -1;unfold Dk.req
  grind
 ·unfold Dk.flush;rw [allFin_cells];show ((CL D.cells D.cache).length:Int)=_;rw [finL_len];exact h3
 ·have hq:=h.got q (by omega) q2;have hf:=Ur (d:=D) (q:=q) ⟨by omega,by omega⟩ (by rw [c1];intro w hw;have:=hW w hw;omega);unfold E0;simp only;have hd:d.got q=D.flush.got q:=by
   rw [hf,e1];unfold Dk.got;rw [hc];try rfl
  simp_all
theorem Gd.gs {n:Int} {d:Dk} {F:Int->List UInt8} (h:Gd n d F):Gs n d (E0 d)/\∀ q,0<=q->q<n->E0 d q=⟨0,F q⟩:=
 ⟨Gs.of h.ok h.left h.len,fun q h0 h1=>by show (⟨_,_⟩:Gt)=_;rw [h.got h0 h1]⟩
theorem U3 (d:Dk) (h1:d.cells.length<=1000000000) (h2:d.cache.length<=1000000000) (hb:∀ c∈d.cells,c.bytes.length<=1000000000/\c.old.length<=1000000000) (hw:∀ w∈d.cache,w.bytes.length<=1000000000):ACalls Tryz.prog false 31 [.ag (DV d)] [] fun r H=>r = .ag (Gp (.ow 0 d.cells.length) (.ow 1 d.cache.length) d.reqs d.left)/\H=[.row 68 3 (d.cells.map B4), .row 152 2 (d.cache.map Ei)]:=by
 have c1:=Jd d.cells h1;have c2:=JX d.cache h2;refine zT tys_ok Tryz.func31 rfl rfl (Ae rfl) ?_;conv=>whnf
 apply zX (0) tys_ok mixed (.o [0,1,3,4,2,6,5,7,8,9] .fin) (by kernel_rfl);conv=>whnf
 (refine zW c1 rfl ?_;rintro _ _ ⟨rfl,rfl⟩)
 conv=>whnf
 (refine zW c2 rfl ?_;rintro _ _ ⟨rfl,rfl⟩)
 conv=>whnf
 try (refine tS ?_;conv=>whnf)
 try (refine tS ?_;conv=>whnf)
 refine zU Nat (fun k=>([(1, .bp 0 0),(2, .bp 1 0),(16, .ow 2 d.cells.length),(17,iv d.cells.length),(18,iv k)], [.box 38 (Gp (.ow 2 d.cells.length) (.ow 3 d.cache.length) d.reqs d.left), .box 38 [.v (.slice none 0 0), .v (.slice none 0 0),iv 0,iv 0], .row 68 3 (d.cells.map B4), .row 152 2 (d.cache.map Ei)])) (fun k=>k<=d.cells.length) (fun k=>d.cells.length - k) 0 (Aj _)
  (zS (s:= [0,1,2,3]) tA) ?_
 intro k hk;conv=>whnf
 refine A5 (fun h6=>?_) (fun h6=>?_) <;> (repeat rw [Aa] at h6) <;> conv=>whnf
 ·have j:k<d.cells.length:=by omega
  have hm:=hb _ (A3 (d:=(⟨0, [], []⟩:Cel)) j);have b1:=BL (d.cells.getD k ⟨0, [], []⟩).bytes hm.1;have b2:=BL (d.cells.getD k ⟨0, [], []⟩).old hm.2;have hE:(d.cells.map B4).getD (k:Int).toNat []=B4 (d.cells.getD k ⟨0, [], []⟩):=by rw [Aa];exact AY j
  refine⟨⟨by omega,by omega⟩,?_⟩;conv=>whnf
  refine Ad ⟨rfl,(Ab _).symm,by rw [Aa];exact j⟩ ?_;conv=>whnf
  rw [hE];conv=>whnf
  apply zX (16) tys_ok mixed (.o [0,1,2,3,5,6,7,9,10] (.two 4 (.o [8,11,12,13,14,15,16,17] .fin) 8 (.two 4 (.o [11,12,13,14,15,16,17] .fin) 11 (.o [12,13] (.two 4 (.o [14,15,16,17] .fin) 14 (.o [4,15,16,17] .fin)))))) (by kernel_rfl);refine Ad ?_ ?_;conv=>whnf
  refine zY b1 ?_;conv=>whnf
  refine zY b2 ?_;conv=>whnf
  try (refine tI ?_;conv=>whnf)
  try (refine tS ?_;conv=>whnf)
  (first | rw [hE] | rw [Bu (by rw [Aa,Ab];exact j)] | skip)
  conv=>whnf
  try (refine tI ?_;conv=>whnf)
  try (refine tS ?_;conv=>whnf)
  (first | rw [hE] | rw [Bu (by rw [Aa,Ab];exact j)] | skip)
  conv=>whnf
  rotate_left 1;conv=>whnf
  refine zY b1 ?_;refine Ad ?_ ?_;conv=>whnf
  refine zY b2 ?_;conv=>whnf
  try (refine tI ?_;conv=>whnf)
  try (refine tS ?_;conv=>whnf)
  (first | rw [hE] | rw [Bu (by rw [Aa,Ab];exact j)] | skip)
  conv=>whnf
  try (refine tI ?_;conv=>whnf)
  try (refine tS ?_;conv=>whnf)
  (first | rw [hE] | rw [Bu (by rw [Aa,Ab];exact j)] | skip)
  conv=>whnf
  rotate_left 1;conv=>whnf
  refine zY b2 ?_;conv=>whnf
  try (refine tI ?_;conv=>whnf)
  refine Ad ?_ ?_;conv=>whnf
  try (refine tS ?_;conv=>whnf)
  (first | rw [hE] | rw [Bu (by rw [Aa,Ab];exact j)] | skip)
  conv=>whnf
  try (refine tI ?_;conv=>whnf)
  try (refine tS ?_;conv=>whnf)
  (first | rw [hE] | rw [Bu (by rw [Aa,Ab];exact j)] | skip)
  conv=>whnf
  rotate_left 1;conv=>whnf
  try (refine tS ?_;conv=>whnf)
  (first | rw [hE] | rw [Bu (by rw [Aa,Ab];exact j)] | skip)
  conv=>whnf
  try (refine tI ?_;conv=>whnf)
  try (refine tS ?_;conv=>whnf)
  (first | rw [hE] | rw [Bu (by rw [Aa,Ab];exact j)] | skip)
  conv=>whnf
  rotate_left 1;all_goals refine⟨k+1,j,by omega,zI (zL (zD (k:=2) rfl (es':=d.cells.map B4) (by simp) ?_)) (s:= [0,1,2,3]) ⟨⟨rfl,rfl,rfl,rfl,AG (by omega),tv⟩,tA,rfl,rfl,rfl,rfl,rfl⟩⟩
  all_goals
   intro i;rw [List.set_set,Aa];refine EZ (f:=B4) (d:=(⟨0, [], []⟩:Cel)) j ?_ i;exact⟨fun _ _ h=>h,fun _ _ h=>h,fun _ _ h=>h,tv⟩
 ·refine zU Nat (fun k=>([(1, .bp 0 0),(2, .bp 1 0),(41, .ow 3 d.cache.length),(42,iv d.cache.length),(43,iv k)], [.box 38 (Gp (.ow 2 d.cells.length) (.ow 3 d.cache.length) d.reqs d.left), .box 38 [.v (.slice none 0 0), .v (.slice none 0 0),iv 0,iv 0], .row 68 3 (d.cells.map B4), .row 152 2 (d.cache.map Ei)])) (fun k=>k<=d.cache.length) (fun k=>d.cache.length - k) 0 (Aj _)
   (zS (s:= [0,1,2,3]) tA) ?_
  intro k hk;conv=>whnf
  refine A5 (fun h7=>?_) (fun h7=>?_) <;> (repeat rw [Aa] at h7) <;> conv=>whnf
  ·have j:k<d.cache.length:=by omega
   have hm:=hw _ (A3 (d:=(⟨0, []⟩:Wr)) j);have b1:=BL (d.cache.getD k ⟨0, []⟩).bytes hm;have hE:(d.cache.map Ei).getD (k:Int).toNat []=Ei (d.cache.getD k ⟨0, []⟩):=by rw [Aa];exact AY j
   refine⟨⟨by omega,by omega⟩,?_⟩;conv=>whnf
   refine Ad ⟨rfl,(Ab _).symm,by rw [Aa];exact j⟩ ?_;conv=>whnf
   rw [hE];conv=>whnf
   apply zX (0) tys_ok mixed (.o [0,1,2,3,4,5,6,7,8] .fin) (by kernel_rfl);conv=>whnf
   refine zY b1 ?_;conv=>whnf
   try (refine tI ?_;conv=>whnf)
   try (refine tS ?_;conv=>whnf)
   (first | rw [hE] | skip)
   conv=>whnf
   all_goals refine⟨k+1,j,by omega,zI (zL (zD (k:=3) rfl (es':=d.cache.map Ei) (by simp) ?_)) (s:= [0,1,2,3]) ⟨⟨rfl,rfl,rfl,rfl,AG (by omega),tv⟩,tA,rfl,rfl,rfl,rfl,rfl⟩⟩
   all_goals
    intro i;rw [Aa];refine EZ (f:=Ei) (d:=(⟨0, []⟩:Wr)) j ?_ i;exact⟨fun _ _ h=>h,fun _ _ h=>h,tv⟩
  ·exact⟨_, .ag (Gp (.ow 0 d.cells.length) (.ow 1 d.cache.length) d.reqs d.left), [.row 68 3 (d.cells.map B4), .row 152 2 (d.cache.map Ei)],fun _ _ h=>h,zS (s:= [2,3]) tA,rfl,rfl⟩
def Dk.faultX (d:Dk) (kind a frm bit bits:Int):Dk:=if (d.fault kind a frm bit bits).2=0 then (d.fault kind a frm bit bits).1 else dk0
theorem U9 {d:Dk} (h:DkOk d):Fn Tryz.prog 29 [.ag (DV d)] fun r=>r = iv 0:=by
 have:=NN d (by have:=h.n;omega) (by have:=h.m;omega);rwa [LX.2 h] at this
theorem U8 (F:∀ (b:List UInt8) (bit bs:Int),b.length<=200->Fn Tryz.prog 32 [bA b,iv bit,iv bs] fun r=>r=bA (ND b bit bs)) (d:Dk) (kind a frm bit bits:Int) (h:DkOk d):Fn Tryz.prog 12 [.ag (DV d),iv kind,iv a,iv frm,iv bit,iv bits] fun r=>r = .tp [.ag (DV (d.faultX kind a frm bit bits)), .v (.int .i64 (d.fault kind a frm bit bits).2)]:=by
 have hn:=h.n;have hm:=h.m;have w1:IntKind.i64.wrap ((d.cells.length:Int) - 1)=d.cells.length - 1:=wi (by omega);have i1:=Kx a 0 ((d.cells.length:Int) - 1);have i2:=Kx frm 0 ((d.cells.length:Int) - 1);have G:=U9 h;have C:=U3 d (by omega) (by omega) (fun c hc=>by have:=(h.c c hc).2;omega) (fun w hw=>by have:=(h.w w hw).2;omega);have bad:∀ e:Int,e≠0->(d.fault kind a frm bit bits).2=e->∃ r',(∀ (c:Ctx) (v:Value),Rd (.tp [.ag [nilV,nilV,ze 0,ze 0],iv e]) c v->Rd r' c v)/\r' = .tp [.ag (DV (d.faultX kind a frm bit bits)), .v (.int .i64 (d.fault kind a frm bit bits).2)]:=fun e he hq=>by
  refine⟨_,?_,rfl⟩;rw [Dk.faultX,hq,if_neg he];exact BN ⟨Bf dk0_sub,ri,tv⟩
 refine zR Tryz.func12 rfl ?_;conv=>whnf
 refine zY G ?_;conv=>whnf
 rw [w1];refine zY i1 ?_;cases hA:CQ a 0 ((d.cells.length:Int) - 1) with
 | false=>
  conv=>whnf
  exact bad 1 (by decide) (by rw [Dk.fault,if_pos hA])
 | true=>
  have ha:0<=a/\a<d.cells.length:=by rw [AE] at hA;omega
  have j:a.toNat<d.cells.length:=by omega
  have u:=WQ ha;have z:¬CQ a 0 ((d.cells.length:Int) - 1)=false:=by rw [hA];simp
  conv=>whnf
  repeat' (refine zZ ?_;conv=>whnf)
  by_cases hc:0<d.cache.length
  ·rw [show decide ((d.cache.length:Int) > 0)=true from decide_eq_true (by omega)];conv=>whnf
   exact bad 9 (by decide) (by rw [Dk.fault,if_neg z,if_pos hc])
  ·rw [show decide ((d.cache.length:Int) > 0)=false from decide_eq_false (by omega)];have I:d.cache=[]:=by cases hq:d.cache with | nil=>rfl | cons x y=>rw [hq] at hc;simp at hc
   conv=>whnf
   have hget:d.fault kind a frm bit bits=d.fault kind a frm bit bits:=rfl;conv at hget=>rhs;rw [Dk.fault,if_neg z,if_neg hc]
   simp only at hget;refine zW C rfl ?_;rintro _ _ ⟨rfl,rfl⟩;refine⟨ha,?_⟩;conv=>whnf
   have hb:(d.cells.getD a.toNat cz).bytes.length<=200:=(h.c _ (A3 (d:=cz) j)).2.1;have ho:(d.cells.getD a.toNat cz).old.length<=200:=(h.c _ (A3 (d:=cz) j)).2.2;have c1:=F (d.cells.getD a.toNat cz).bytes bit bits hb;have c2:=BL (d.cells.getD a.toNat cz).old (by omega);generalize hq:d.cells.getD a.toNat cz=c at hget u hb ho c1 c2;have LDB:(d.cells.map B4).length=d.cells.length:=Ab _;have LSET:∀ e:List AV,d.cells.length=((d.cells.map B4).set a.toNat e).length:=fun e=>by rw [AX,Ab]
   have OK:∀ c':Cel,d.fault kind a frm bit bits=(Gl d a c',0)->∀ es:List (List AV),es=(d.cells.map B4).set a.toNat (B4 c')->∃ r',(∀ (x:Ctx) (v:Value),Rd (.tp [.ag [.sl 3 d.cells.length fun i=>es.getD i [], .sl 2 d.cache.length fun i=>(d.cache.map Ei).getD i [],iv d.reqs,iv d.left],iv 0]) x v->Rd r' x v)/\r' = .tp [.ag (DV (d.faultX kind a frm bit bits)), .v (.int .i64 (d.fault kind a frm bit bits).2)]:=fun c' hf es he=>by
    refine⟨_,?_,rfl⟩;rw [Dk.faultX,hf,if_pos rfl];exact BN ⟨Bf ⟨AU (f:=B4) (Gl d a c').cells (by simp [Gl]) (by rw [he];simp [Gl,BI]),AU (f:=Ei) d.cache rfl rfl,ri,ri,tv⟩,ri,tv⟩
   repeat' (refine zZ ?_;conv=>whnf)
   refine A5 (fun k1=>?_) (fun k1=>?_) <;> (repeat rw [Aa] at k1) <;> conv=>whnf
   ·rw [if_pos k1] at hget;refine⟨⟨rfl,LDB.symm,j⟩,?_⟩;conv=>whnf
    rw [u];conv=>whnf
    refine A5 (fun k2=>?_) (fun k2=>?_) <;> (repeat rw [Aa] at k2) <;> conv=>whnf
    ·rw [if_pos k2] at hget;refine⟨⟨rfl,LDB.symm,j⟩,?_⟩;conv=>whnf
     rw [u];conv=>whnf
     repeat' (refine zZ ?_;conv=>whnf)
     refine⟨(LSET _),?_⟩;refine Ad (Ab _).symm ?_;conv=>whnf
     exact OK _ hget _ rfl
    ·rw [if_neg k2] at hget;repeat' (refine zZ ?_;conv=>whnf)
     refine⟨LDB.symm,?_⟩;refine Ad (Ab _).symm ?_;conv=>whnf
     exact OK c hget _ (by have e:=congrArg (fun x=>x.cells.map B4) (WP ha);simp only [Gl,BI] at e;rw [hq] at e;exact e.symm)
   ·rw [if_neg k1] at hget;refine A5 (fun k2=>?_) (fun k2=>?_) <;> (repeat rw [Aa] at k2) <;> conv=>whnf
    ·rw [if_pos k2] at hget;refine⟨⟨rfl,LDB.symm,j⟩,?_⟩;conv=>whnf
     rw [u];conv=>whnf
     repeat' (refine zZ ?_;conv=>whnf)
     refine⟨(LSET _),?_⟩;refine Ad (Ab _).symm ?_;conv=>whnf
     exact OK _ hget _ rfl
    ·rw [if_neg k2] at hget;refine A5 (fun k3=>?_) (fun k3=>?_) <;> (repeat rw [Aa] at k3) <;> conv=>whnf
     ·rw [if_pos k3] at hget;refine A5 (fun k4=>?_) (fun k4=>?_) <;> (repeat rw [Aa] at k4) <;> conv=>whnf
      ·rw [if_pos (.inl k4)] at hget;exact bad 1 (by decide) (by rw [hget])
      ·refine A5 (fun k5=>?_) (fun k5=>?_) <;> (repeat rw [Aa] at k5) <;> conv=>whnf
       ·rw [if_pos (.inr k5)] at hget;exact bad 1 (by decide) (by rw [hget])
       ·rw [if_neg (by omega)] at hget;refine⟨⟨rfl,LDB.symm,j⟩,?_⟩;conv=>whnf
        rw [u];conv=>whnf
        refine zY c1 ?_;refine⟨⟨rfl,LDB.symm,j⟩,?_⟩;conv=>whnf
        rw [u];conv=>whnf
        repeat' (refine zZ ?_;conv=>whnf)
        refine⟨(LSET _),?_⟩;refine Ad (Ab _).symm ?_;conv=>whnf
        exact OK _ hget _ rfl
     ·rw [if_neg k3] at hget;refine A5 (fun k4=>?_) (fun k4=>?_) <;> (repeat rw [Aa] at k4) <;> conv=>whnf
      ·rw [if_pos k4] at hget;refine⟨⟨rfl,LDB.symm,j⟩,?_⟩;conv=>whnf
       rw [u];conv=>whnf
       refine zY c2 ?_;refine⟨⟨rfl,LDB.symm,j⟩,?_⟩;conv=>whnf
       rw [u];conv=>whnf
       repeat' (refine zZ ?_;conv=>whnf)
       refine⟨(LSET _),?_⟩;refine Ad (Ab _).symm ?_;conv=>whnf
       exact OK _ hget _ rfl
      ·rw [if_neg k4] at hget;refine A5 (fun k5=>?_) (fun k5=>?_) <;> (repeat rw [Aa] at k5) <;> conv=>whnf
       ·rw [if_pos k5] at hget;rw [w1];refine zY i2 ?_;cases hF:CQ frm 0 ((d.cells.length:Int) - 1) with
        | false=>
         rw [if_pos hF] at hget;conv=>whnf
         exact bad 1 (by decide) (by rw [hget])
        | true=>
         rw [if_neg (by rw [hF];simp)] at hget;have hf:0<=frm/\frm<d.cells.length:=by rw [AE] at hF;omega
         have c3:=BL (d.cells.getD frm.toNat cz).bytes (by have:=(h.c _ (A3 (d:=cz) (show frm.toNat<d.cells.length by omega))).2.1;omega);refine⟨hf,?_⟩;refine⟨⟨rfl,LDB.symm,show frm.toNat<d.cells.length by omega⟩,?_⟩;conv=>whnf
         rw [WQ hf];conv=>whnf
         refine zY c3 ?_;refine⟨⟨rfl,LDB.symm,j⟩,?_⟩;conv=>whnf
         rw [u];conv=>whnf
         repeat' (refine zZ ?_;conv=>whnf)
         refine⟨(LSET _),?_⟩;refine Ad (Ab _).symm ?_;conv=>whnf
         exact OK _ hget _ rfl
       ·rw [if_neg k5] at hget;exact bad 1 (by decide) (by rw [hget])
section
variable {g:Geo} {s:ByteArray} {b:An} {fill:UInt8} {sizes:List Int} {d:Dk} {bad0 bad1:Int->Bool}
end
theorem Yc {g:Geo} {x:Img} (h:Bn g x=true) (hw:x.what=255):(Ce g x.bytes).isSome=true:=by
 simp only [Bn,Af] at h
 grind
theorem Sc {g:Geo} (hg:Bq g=true) {l:List Tx} (h:∀ t∈l,∀ x∈t.images,Bn g x=true) {z:Int}:∀ p,CB l z 255=some p->p.1.bytes.length<=100000/\(Ce g p.1.bytes).isSome=true:=fun p hp=>by
 obtain⟨x,s⟩:=p;obtain⟨t,ht, -,hx, -,hw⟩:=GP (Ah _) hp;have hi:=h t ht x hx;exact⟨by have:=Ez hg hi;show x.bytes.length<=_;omega,Yc hi hw⟩
theorem N2 {g:Geo} (hg:Bq g=true) {s:Stt} {G:Gr} {lba S:Int} {b:List UInt8} (u:∀ t∈s.txns,∀ x∈t.images,Bn g x=true) (hs:0<=S/\S<=4294967295) (f:0<=lba/\lba<g.z*g.d) (hb:b.length=8) {t:List Ent} (ht:FO g s G (lba.tdiv g.d)=some t):(Fe g s G S lba b).length=3/\(∀ x∈Fe g s G S lba b,Bn g x=true)/\OneTab (Fe g s G S lba b):=by
 obtain⟨g1,g2,g3,g4,g5⟩:=Aq.1 hg;have C:0<=lba.tdiv g.d/\lba.tdiv g.d<g.z:=by
  rw [AO f.1];exact⟨C6 f.1 (by omega),BZ (by omega) f.2⟩
 have F:0<=lba.tmod g.d/\lba.tmod g.d<g.d:=⟨Bw _ f.1,AZ _ (by omega)⟩;have j:=Lg ht;have i:∀ x∈ [b],x.length=8:=fun x hx=>by rw [A2] at hx;rw [hx];exact hb
 have h:∀ x∈ [lba.tmod g.d],0<=x/\x<g.d:=fun x hx=>by rw [A2] at hx;rw [hx];exact F
 unfold Fe;rw [ht];simp only;refine⟨by rw [DY];try rfl,fun x hx=>?_,?_⟩
 ·exact(IY hg C (En hg j hs) (EB (Mn hg u).2 i (show [lba.tmod g.d].length<= [b].length from Ah 1) _) h i (Ah 1) x hx).1
 ·exact Ii (l:= []) hg List.Pairwise.nil (fun x hx=>by cases hx) h
theorem Yk {g:Geo} (hg:Bq g=true) {l:List Tx} {x:Tx} {Z A:Int} {t:List Ent} {par b:List UInt8} (hA:0<=A/\A<g.d) (hx:x.images=B_ Z t par [A] [b]) (w:Int) (hw:w=255\/(-1<=w/\w<255)):CB (l ++ [x]) Z w=if w=255 then some (⟨Z,255,CM t⟩,x.seq) else if w = -1 then some (⟨Z, -1,par⟩,x.seq) else if w=A then some (⟨Z,A,b⟩,x.seq) else CB l Z w:=by
 obtain⟨g1,g2,g3,g4,g5⟩:=Aq.1 hg;have hf:=Ht Z t par [A] [b] (fun a ha=>by rw [A2] at ha;omega) w hw;rw [Hs,hx,hf];by_cases h1:w=255
 ·grind
 rw [if_neg h1,if_neg h1];by_cases h2:w = -1
 ·grind
 rw [if_neg h2,if_neg h2];have hp:Eh [A] [b] w.toNat 1=if w=A then some b else none:=by
  show (if A=(w.toNat:Int) then some b else none)=_
  grind
 unfold Ue
 grind
structure Sk (k n:Int) (d:Dk) (F:Int->List UInt8) (A:Int->Prop):Prop where
 ok:DkOk d
 left:d.left = -1
 len:(d.cells.length:Int)=n
 cache:d.cache=[]
 cell:∀ a:Int,0<=a->a<n->(d.cells.getD a.toNat cz).bytes=F a/\((d.cells.getD a.toNat cz).state=0/\¬A a\/(d.cells.getD a.toNat cz).state=k/\A a)
theorem Gd.sk {k n:Int} {d:Dk} {F:Int->List UInt8} (h:Gd n d F):Sk k n d F fun _=>False:=⟨h.ok,h.left,h.len,h.cache,fun a h0 h1=>⟨(h.cell a h0 h1).2, .inl ⟨(h.cell a h0 h1).1,id⟩⟩⟩
theorem Sk.fault {k j n:Int} {d:Dk} {F:Int->List UInt8} {A:Int->Prop} (hk:k=1/\j=11\/k=2/\j=12) (h:Sk k n d F A) {q:Int} (hq:0<=q/\q<n):(d.fault j q 0 0 0).2=0/\Sk k n (d.faultX j q 0 0 0) F fun a=>A a\/a=q:=by
 have hl:=h.len;have e:d.fault j q 0 0 0=(Gl d q { d.cells.getD q.toNat cz with state:=k },0):=by
  have hc:=h.cell q hq.1 hq.2;unfold Dk.fault;rw [if_neg (by rw [Bool.not_eq_false,AE];omega),if_neg (by rw [h.cache];decide)]
  grind
 have ho:=h.ok.fault j q 0 0 0;unfold Dk.faultX;rw [e] at ho |-
 rw [if_pos rfl];refine⟨rfl,ho.1,h.left,by rw [<-hl];exact congrArg Nat.cast ho.2.1,h.cache,fun a h0 h1=>?_⟩;have hc:=h.cell a h0 h1;show ((d.cells.set q.toNat _).getD a.toNat cz).bytes=_/\_;rw [show (Gl d q { d.cells.getD q.toNat cz with state:=k }).cells=d.cells.set q.toNat { d.cells.getD q.toNat cz with state:=k } from rfl,OB _ _ _ _ (by omega)]
 grind
theorem Sk.gs {k n:Int} {d:Dk} {F:Int->List UInt8} {A:Int->Prop} (hk:k=1\/k=2) (h:Sk k n d F A) {q:Int} (h0:0<=q) (h1:q<n):(¬A q->E0 d q=⟨0,F q⟩)/\(A q->(E0 d q).err≠0):=by
 have hc:=h.cell q h0 h1;have e:E0 d q=⟨(if (d.cells.getD q.toNat cz).state=0 then ((d.cells.getD q.toNat cz).bytes,(0:Int)) else ([],6)).2,(if (d.cells.getD q.toNat cz).state=0 then ((d.cells.getD q.toNat cz).bytes,(0:Int)) else ([],6)).1⟩:=by
  show (⟨(d.got q).2,(d.got q).1⟩:Gt)=_;unfold Dk.got;rw [h.cache];try rfl
 grind
theorem Sk.stuck {n:Int} {d:Dk} {F:Int->List UInt8} {A:Int->Prop} (h:Sk 2 n d F A) {q:Int} (h0:0<=q) (h1:q<n):(A q->decide ((d.cells.getD q.toNat cz).state=2)=true)/\(¬A q->decide ((d.cells.getD q.toNat cz).state=2)=false):=by
 have hc:=h.cell q h0 h1
 grind
theorem Lp {d:Dk} (h:DkOk d) (a:Int):(E0 d a).bytes.length<=100000/\(E0 d a).err≠8:=by
 show (d.got a).1.length<=100000/\(d.got a).2≠8;unfold Dk.got;split
 ·rename_i w hw;have:=(h.w w (Ny _ _ _ rfl hw)).2
  grind
 ·split
  ·refine⟨?_,by show (0:Int)≠8;decide⟩;show (d.cells.getD a.toNat ⟨0, [], []⟩).bytes.length<=_;by_cases hi:a.toNat<d.cells.length
   ·have:=(h.c _ (A3 (d:=(⟨0, [], []⟩:Cel)) hi)).2.1;omega
   ·grind
  ·grind
theorem JW {d:Dk} (hl:d.left = -1) (hc:d.cache.length<2000) (a:Int) (b:List UInt8):(d.write a b).2=(if (d.cells.getD a.toNat cz).state=2 then 7 else 0)/\(d.write a b).1.cells=d.cells/\(d.write a b).1.left = -1/\(d.write a b).1.cache.length<=d.cache.length+1:=by
 have hr:d.req.left = -1:=by unfold Dk.req;rw [hl];try rfl
 unfold Dk.write;rw [if_neg (by rw [hl];decide)];by_cases h:(d.cells.getD a.toNat cz).state=2
 ·rw [if_pos (.inl h),if_pos h];exact⟨rfl,rfl,hr,by show d.cache.length<=_;omega⟩
 ·rw [if_neg (by rintro(q | q);exact h q;omega),if_neg h];exact⟨rfl,rfl,hr,by show (d.cache ++ [_]).length<=_;rw [Ai];exact Ah _⟩
def stuck (d:Dk) (a:Int):Bool:=decide ((d.cells.getD a.toNat cz).state=2)
theorem Sw {g:Geo} {d:Dk} (hl:d.left = -1) (hc:d.cache.length<1999) (x:Rc) (Q:Int):ZO g d x Q=(!(stuck d (Bi g 0 Q)&&stuck d (Bi g 1 Q)))/\(Rn g d x Q).cells=d.cells/\(Rn g d x Q).left = -1/\(Rn g d x Q).cache.length<=d.cache.length+2:=by
 obtain⟨e1,c1,l1,n1⟩:=JW hl (by omega) (Bi g 0 Q) (BF g x 0 Q);obtain⟨e2,c2,l2,n2⟩:=JW l1 (by omega) (Bi g 1 Q) (BF g x 1 Q);refine⟨?_,by unfold Rn;rw [c2,c1],l2,by unfold Rn;omega⟩;unfold ZO stuck
 grind
theorem WJ {g:Geo} {P:Int} {R:List Rc} {d:Dk} (hl:d.left = -1) (hc:d.cache=[]):∀ i:Nat,i<=100->(dW g P R d i).cells=d.cells/\(dW g P R d i).left = -1/\(dW g P R d i).cache.length<=2*i
 | 0,_=>⟨rfl,hl,by show d.cache.length<=_;rw [hc];exact Aj _⟩
 | i+1,hi=>by
  obtain⟨e1,l1,n1⟩:=WJ (R:=R) (P:=P) hl hc i (by omega);obtain⟨-,e2,l2,n2⟩:=Sw (g:=g) l1 (by omega) (R.getD i rc0) (CX g P (i:Nat));exact⟨e2.trans e1,l2,by show (Rn g _ _ _).cache.length<=_;omega⟩
theorem YT {g:Geo} {P:Int} {R:List Rc} {d:Dk} (hl:d.left = -1) (hc:d.cache=[]) (i:Nat) (hi:i<=100):tW g P R d i = !(stuck d (Bi g 0 (CX g P (i:Nat)))&&stuck d (Bi g 1 (CX g P (i:Nat)))):=by
 obtain⟨e1,l1,n1⟩:=WJ (g:=g) (R:=R) (P:=P) hl hc i hi;obtain⟨e2, -⟩:=Sw (g:=g) l1 (by omega) (R.getD i rc0) (CX g P (i:Nat));unfold tW;rw [e2];unfold stuck;rw [e1]
@[reducible] def bwZ (g:Geo) (s:Stt) (d:Dk):List AB:= [.box 99 (YG g (.bp 1 0) (.ow 4 s.txns.length) (iA s.lost) s), .box 119 (Gp (.ow 2 d.cells.length) (.ow 3 d.cache.length) d.reqs d.left), .dead, .dead, .row 170 4 (s.txns.map CG)]
theorem NS (g:Geo) (s:Stt) (d:Dk) (h:DkOk d):ACalls Tryz.prog false 38 [.bp 0 0] (FM g s d) fun r H=>r = .ag (DV d)/\H=bwZ g s d:=by
 have ht:=Qk d (by have:=h.n;omega) (by have:=h.m;omega) (fun c hc=>by have:=(h.c c hc).2;omega) (fun w hw=>by have:=(h.w w hw).2;omega);refine zT tys_ok Tryz.func38 rfl rfl (Ae rfl) ?_;conv=>whnf
 refine zO ht.go ?_;refine Ad (Ab _).symm ?_;refine Ad (Ab _).symm ?_;conv=>whnf
 refine zV [.ag (DV d)] ⟨Bf ⟨AU (f:=B4) d.cells rfl rfl,AU (f:=Ei) d.cache rfl rfl,ri,ri,tv⟩,tv⟩ ?_;refine zY ht ?_;exact⟨_, .ag (DV d),bwZ g s d,fun _ _ h=>h,zS (s:= [0,1,2,3,4]) tA,rfl,rfl⟩
def aT (o:Option (List UInt8)) (d:Dk):AV:=match o with
 | some b=> .tp [bA b, .ag (DV d),iv 0]
 | none=> .tp [bA [], .ag (DV d),iv 13]
theorem RJ (g:Geo) (s:Stt) (d:Dk) (G:Gr) (lba:Int) (hg:Bq g=true) (u:Jr g d s=true) (i:StSm s) (j:∀ t∈s.txns,∀ x∈t.images,Bn g x=true) (ha:Bj g s.a=true) (h:Gs (Ar g) d G) (hF:∀ a,(G a).bytes.length<=100000) (h8:∀ a,(G a).err≠8) (hb:0<=lba/\lba<g.z*g.d) (hB:∀ p,CB s.txns (lba.tdiv g.d) 255=some p->p.1.bytes.length<=100000/\(Ce g p.1.bytes).isSome=true) :
  Fn Tryz.prog 16 [.ag (AK g), .ag (DV d), .ag (Eo s),iv lba] fun r=>∃ d',Gs (Ar g) d' G/\r=aT (Qy g s G (lba.tdiv g.d) (lba.tmod g.d)) d':=by
 have c1:=SN g d s h.ok u i;have C:LogB s.txns:=⟨by have:=i.t.1;omega,fun t ht=>⟨by have:=(i.t.2 t ht).1;omega,fun x hx=>by have:=(i.t.2 t ht).2 x hx;omega⟩⟩;have c2:=ON g s d G lba hg C j ha h hF h8 hb hB;cases hO:Qy g s G (lba.tdiv g.d) (lba.tmod g.d) with
 | some b=>
  rw [hO] at c2;refine zR Tryz.func16 rfl ?_;conv=>whnf
  refine zW c1 rfl ?_;rintro _ _ ⟨rfl,rfl⟩;conv=>whnf
  refine ze9 [4,5,6,7,8] c2 ?_;rintro _ _ ⟨rfl,d2,f,rfl⟩;have c4:=NS g s d2 f.ok;conv=>whnf
  refine ze9 [4,5,6,7,8] c4 ?_;rintro _ _ ⟨rfl,rfl⟩;exact⟨_,ri,d2,f,rfl⟩
 | none=>
  rw [hO] at c2;refine zR Tryz.func16 rfl ?_;conv=>whnf
  refine zW c1 rfl ?_;rintro _ _ ⟨rfl,rfl⟩;conv=>whnf
  refine ze9 [4,5,6,7,8] c2 ?_;rintro _ _ ⟨rfl,d2,f,rfl⟩;have c4:=NS g s d2 f.ok;conv=>whnf
  refine ze9 [4,5,6,7,8] c4 ?_;rintro _ _ ⟨rfl,rfl⟩;exact⟨_,ri,d2,f,rfl⟩
theorem Vol.st2 {g:Geo} {K:Int} {d0 d:Dk} {s:Stt} (hg:Bq g=true) (h:Vol g K d0 s) (hd:DkOk d) (hn:(d.cells.length:Int)=Ar g) (o:Bool):Jr g d { s with only:=o }=true:=by
 obtain⟨r1,r2,r3,r4,r5,r6⟩:=h.rest;have hu:=L4 hg;have hh:Eu g { s with only:=o }=true:=by
  unfold Eu;rw [show ({ s with only:=o }:Stt).found=0 from r3,show ({ s with only:=o }:Stt).fixed=0 from r4,show ({ s with only:=o }:Stt).moved=0 from r5,show ({ s with only:=o }:Stt).lost=[] from r6];try rfl
 unfold Jr;rw [hh,hg,LX.2 hd,decide_eq_true hn,show ({ s with only:=o }:Stt).a=s.a from rfl,show ({ s with only:=o }:Stt).txns=s.txns from rfl,show ({ s with only:=o }:Stt).cursor=0 from r2,h.an,h.ring,decide_eq_true (show (0:Int)<G5 g by omega)];try rfl
structure Un (g:Geo) (d:Dk):Prop where
 ok:DkOk d
 left:d.left = -1
 len:(d.cells.length:Int)=Ar g
 cache:d.cache=[]
def WO (g:Geo) (a:An) (l:List Tx) (G:Gr) (lba:Int) (b:List UInt8):Tx:=⟨a.seq+(l.length:Int),(a.pos+Cw l).tmod g.sl,4,Fe g (AF a l) G (a.seq+(l.length:Int)) lba b⟩
def NR (g:Geo) (d:Dk) (P:Int) (j:Nat):Bool:=stuck d (Bi g 0 (CX g P (j:Nat)))&&stuck d (Bi g 1 (CX g P (j:Nat)))
theorem WN {g:Geo} {K:Int} {d0:Dk} {a:An} {l:List Tx} {G:Gr} {lba:Int} {b:List UInt8} {t:List Ent} (hg:Bq g=true) (hv:Vol g K d0 (AF a l)) (hK:K<=4294967294) (f:0<=lba/\lba<g.z*g.d) (hb:b.length=8) (i:4<=g.sl - Cw l) (ht:FO g (AF a l) G (lba.tdiv g.d)=some t):Vol g (K+1) d0 (AF a (l ++ [WO g a l G lba b]))/\(WO g a l G lba b).images.length=3:=by
 have ha:=(DD hv.an).2.1;have hq:a.seq+(l.length:Int)<=K:=hv.seq;have j:1<=a.seq:=ha.1;have h:∀ t∈l,∀ x∈t.images,Bn g x=true:=fun t ht=>Av.1 (Dj hv.ring t ht).1
 obtain⟨c1,c2,c3⟩:=N2 hg (s:=AF a l) (G:=G) (S:=a.seq+(l.length:Int)) h (by omega) f hb ht;exact⟨hv.add hg hK hv.gd (x:=WO g a l G lba b) rfl rfl (by show (2:Int)<=4;omega) (by show (4:Int)<=g.sl - Cw l;omega) (by show (4:Int)=((Fe g (AF a l) G (a.seq+(l.length:Int)) lba b).length:Int)+1;omega) c2 c3,c1⟩
theorem Qa (d:Dk) (q:Int):stuck d.flush q=stuck d q:=by
 unfold stuck;rw [show d.flush.cells=CL d.cells d.cache by unfold Dk.flush;rw [allFin_cells];try rfl];exact decide_eq_decide.2 (finL_two _ _ _)
theorem ZF {g:Geo} {K:Int} {d0 d:Dk} {a:An} {l:List Tx} {lba:Int} {b:List UInt8} {t:List Ent} (hg:Bq g=true) (hv:Vol g K d0 (AF a l)) (hK:K<=4294967294) (hd:Un g d) (u:0<=lba/\lba<g.z*g.d) (hb:b.length=8) (C:4<=g.sl - Cw l) (ht:FO g (AF a l) (E0 d) (lba.tdiv g.d)=some t) (P:Int) (hP:P=(a.pos+Cw l).tmod g.sl) :
  Fn Tryz.prog 14 [.ag (AK g), .ag (DV d), .ag (Eo (AF a l)),iA [lba],E7 [b]] fun r=>((∀ j:Nat,j<4->NR g d P j=false)/\∃ d',Un g d'/\(∀ q,g.an+2*g.sl<=q->q<Ar g->E0 d' q=E0 d q)/\(∀ q,stuck d' q=stuck d q)/\r = .tp [.ag (Eo (AF a (l ++ [WO g a l (E0 d) lba b]))), .ag (DV d'),iv 0])\/((∃ j:Nat,j<4/\NR g d P j=true)/\∃ d',(DkOk d'/\(d'.cells.length:Int)=Ar g)/\r = .tp [.ag (Eo { AF a l with only:=true }), .ag (DV d'),iv 14]):=by
 have hf:=hv.sm hg;have ha:Bj g a=true:=hv.an;have F:C0 g l a.seq a.pos g.sl=true:=hv.ring;have I:∀ t∈l,∀ x∈t.images,Bn g x=true:=fun t ht=>Av.1 (Dj F t ht).1
 obtain⟨a1,a2,a3,a4⟩:=DD ha;have hl:a.seq+(l.length:Int)<=K:=hv.seq;obtain⟨g1,g2,g3,g4,g5⟩:=Aq.1 hg;obtain⟨V,U⟩:=WN hg hv hK u hb C ht;have hG:=Gs.of hd.ok hd.left hd.len;obtain⟨-,h, -⟩:=N2 hg (s:=AF a l) (G:=E0 d) (S:=a.seq+(l.length:Int)) I (by omega) u hb ht;obtain⟨L,hL⟩:∃ L,L=Fe g (AF a l) (E0 d) (a.seq+(l.length:Int)) lba b:=⟨_,rfl⟩;have hh:WO g a l (E0 d) lba b=⟨a.seq+(l.length:Int),P,4,L⟩:=by rw [hL,hP];try rfl
 rw [hh] at U V |-
 rw [<-hL] at h;have he:=hv.st2 hg hd.ok hd.len false;have hc:=Qu g a l d (E0 d) lba b t hg ha F he hf (by omega) hG (fun a=>(Lp hd.ok a).1) (fun a=>(Lp hd.ok a).2) u hb C (Sc hg I) ht (a.seq+(l.length:Int)) P L rfl hP hL U h (V.sm hg);have X:0<=a.epoch/\a.epoch<=4294967295:=by
  have:=ha;simp only [Bj,A_,BB,B3,Af,decide_eq_true_eq,AE] at this;omega
 have Z:CQ (a.seq+(l.length:Int)) 0 4294967295=true:=AE.2 (by omega);have hm:∀ x∈L,x.bytes.length<=45:=fun x hx=>Ez hg (h x hx)
 have O:L.length=3:=U;have J:∀ k:Nat,k<4->Gm g ((CF (a.seq+(l.length:Int)) a.epoch L).getD k rc0)=true:=fun k hk=>by
  rw [Iw _ _ _ (by omega)];split
  ·rename_i q;exact Lj hg Z (AE.2 X) (h _ (A3 (d:=⟨0,0, []⟩) q)) q O
  ·rw [show k=L.length by omega];exact Li hg Z (AE.2 X) O
 have N:∀ i:Nat,i<4->0<=CX g P (i:Nat)/\CX g P (i:Nat)<g.sl:=fun i hi=>Ju hg (pos:=P) (at_:=(i:Nat)) (by rw [hP];have:=E8 l l.length;exact⟨Bw _ (by unfold Cw;omega),AZ _ (by omega)⟩) (by omega)
 refine hc.mono fun r hr=>?_
 obtain⟨d1,f,hr⟩:=hr;have ec:d1.cells=d.cells:=f.cells;have ek:d1.cache=[]:=f.cache.trans hd.cache;have hT:∀ j:Nat,j<4->tW g P (CF (a.seq+(l.length:Int)) a.epoch L) d1 j = !NR g d P j:=fun j hj=>by
  rw [YT f.left ek j (by omega)];unfold NR stuck;rw [ec]
 rcases hr with ⟨ht,rfl⟩ | ⟨k,hk, -,W,rfl⟩
 ·obtain⟨n1,n2,n3⟩:=Gs.after hg J N f ek;refine .inl ⟨fun j hj=>by have:=ht j hj;rw [hT j hj] at this;simpa using this,_,⟨n1.ok,n1.left,n1.len,n3⟩,n2,fun q=>?_,rfl⟩;rw [Qa];unfold stuck;rw [(RH N d1 4 (Ah _)).1,ec]
 ·obtain⟨m1,m2,m3⟩:=NO hg J N f.ok f.left f.len (k+1) (by omega);exact .inr ⟨⟨k,hk,by rw [hT k hk] at W;simpa using W⟩,_,⟨m1,m3⟩,rfl⟩
theorem MG {g:Geo} {a:An} {l:List Tx} {G:Gr} {lba:Int} {b:List UInt8} {t:List Ent} (ht:FO g (AF a l) G (lba.tdiv g.d)=some t):(WO g a l G lba b).images=B_ (lba.tdiv g.d) (Bl g t (Ff g (AF a l) G t (lba.tdiv g.d)) [lba.tmod g.d] [b] (a.seq+(l.length:Int))) (D3 g t (Ff g (AF a l) G t (lba.tdiv g.d)) [lba.tmod g.d] [b] g.d.toNat) [lba.tmod g.d] [b]:=by
 show Fe g (AF a l) G _ lba b=_;unfold Fe;rw [ht]
theorem ZD {g:Geo} (hg:Bq g=true) {a:An} {l:List Tx} {G:Gr} {lba:Int} {b:List UInt8} {t:List Ent} (hs:0<=a.seq+(l.length:Int)/\a.seq+(l.length:Int)<=4294967295) (J:0<=lba/\lba<g.z*g.d) (hb:b.length=8) (ht:FO g (AF a l) G (lba.tdiv g.d)=some t) (G':Gr):Qy g (AF a (l ++ [WO g a l G lba b])) G' (lba.tdiv g.d) (lba.tmod g.d)=some b:=by
 obtain⟨g1,g2,g3,g4,g5⟩:=Aq.1 hg;have hA:0<=lba.tmod g.d/\lba.tmod g.d<g.d:=⟨Bw _ J.1,AZ _ (by omega)⟩;have hx:=MG (b:=b) ht;obtain⟨x,ex⟩:∃ x,x=WO g a l G lba b:=⟨_,rfl⟩;have L:x.seq=a.seq+(l.length:Int):=by rw [ex];try rfl
 rw [<-ex] at hx |-
 obtain⟨Z,hZ⟩:∃ Z,Z=lba.tdiv g.d:=⟨_,rfl⟩;obtain⟨A,j⟩:∃ A,A=lba.tmod g.d:=⟨_,rfl⟩;rw [<-hZ,<-j] at hx;rw [<-hZ] at ht;rw [<-j] at hA;rw [<-hZ,<-j];obtain⟨had,hh⟩:∃ had,had=Ff g (AF a l) G t Z:=⟨_,rfl⟩;rw [<-hh] at hx;obtain⟨t',i⟩:∃ t',t'=Bl g t had [A] [b] (a.seq+(l.length:Int)):=⟨_,rfl⟩;rw [<-i] at hx;have u:FK g t'=true:=by
  rw [i];exact En hg (Lg ht) hs
 have h:=fun w hw=>Yk (l:=l) hg hA hx w hw
 have f:Eh [A] [b] A.toNat [A].length=some b:=by
  show (if A=(A.toNat:Int) then some b else none)=some b;rw [if_pos (by omega)]
 have K:(t'.getD A.toNat ez).lost=false:=by
  have I:Fk g t had [A] [b] A.toNat=b:=by unfold Fk;rw [f]
  rw [i,Bl,Ac,AH (by simp;omega),Bb,Bz (by omega)];show (Ia g t had [A] [b] _ A.toNat).lost=false;unfold Ia;rw [I,f,if_neg (by omega)]
 have e1:CB (AF a (l ++ [x])).txns Z 255=some (⟨Z,255,CM t'⟩,x.seq):=by
  rw [show (AF a (l ++ [x])).txns=l ++ [x] from rfl,h 255 (.inl rfl),if_pos rfl]
 have e2:CB (AF a (l ++ [x])).txns Z A=some (⟨Z,A,b⟩,x.seq):=by
  rw [show (AF a (l ++ [x])).txns=l ++ [x] from rfl,h A (.inr ⟨by omega,by omega⟩),if_neg (by omega),if_neg (by omega),if_pos rfl]
 have C:FO g (AF a (l ++ [x])) G' Z=some t':=by
  unfold FO;rw [e1];exact Hf u
 have F:Fu g (AF a (l ++ [x])) G' t' Z A=b:=by
  unfold Fu;rw [e2]
 unfold Qy;rw [C];simp only;rw [K,if_neg (by decide),F,if_pos (by omega)]
def Fg (g:Geo) (G:Gr) (F:Int->List UInt8):Prop:=∀ q,g.an+2*g.sl<=q->q<Ar g->G q=⟨0,F q⟩
theorem RW {g:Geo} (hg:Bq g=true) {lba:Int} (f:0<=lba/\lba<g.z*g.d):(0<=lba.tdiv g.d/\lba.tdiv g.d<g.z)/\0<=lba.tmod g.d/\lba.tmod g.d<g.d:=by
 obtain⟨g1,g2,g3,g4,g5⟩:=Aq.1 hg;rw [AO f.1];exact⟨⟨C6 f.1 (by omega),BZ (by omega) f.2⟩,Bw _ f.1,AZ _ (by omega)⟩
structure Clv (g:Geo) (K:Int) (d:Dk) (M:Md):Prop where
 un:Un g d
 fg:Fg g (E0 d) M.F
 gd:∃ d0,Gd (Ar g) d0 M.F
 vo:Vo g K M
 rd:aK g M
theorem Clv.on {g:Geo} (hg:Bq g=true) {d:Dk} (hd:Gd (Ar g) d (Ee g).F):Clv g 2 d (Ee g):=by
 obtain⟨g1,g2,g3,g4,g5⟩:=Aq.1 hg;obtain⟨-, -, -, -, -,f⟩:=VT hg;exact⟨⟨hd.ok,hd.left,hd.len,hd.cache⟩,fun q h0 h1=>hd.gs.2 q (by omega) h1,⟨d,hd⟩,f,Zu hg⟩
def bh (g:Geo) (M:Md) (lba:Int) (b:List UInt8):Md:=⟨M.a,M.l ++ [Gk g M.a M.l M.F lba b],M.F,M.m.set lba.toNat b⟩
theorem Clv.add {g:Geo} (hg:Bq g=true) {K:Int} {d d':Dk} {M:Md} (h:Clv g K d M) (hK:K<=4294967294) {lba:Int} {b:List UInt8} (f:0<=lba/\lba<g.z*g.d) (hb:b.length=8) (j:4<=g.sl - Cw M.l) (hu:Un g d') (hf:∀ q,g.an+2*g.sl<=q->q<Ar g->E0 d' q=E0 d q):Clv g (K+1) d' (bh g M lba b):=by
 obtain⟨d0,h0⟩:=h.gd;have hz:=(RW hg f).1;have ht:(ER g (AF M.a M.l) M.F (lba.tdiv g.d)).isSome=true:=by
  obtain⟨-,V,hV, -⟩:=h.rd;obtain⟨t,hz⟩:=hV _ hz.1 hz.2;rw [hz.tab];try rfl
 have i:=h.vo.vol h0;obtain⟨r,v⟩:=a8 hg hK f hb i h.rd (M':=bh g M lba b) (.inl ⟨by omega,ht, [],(fun w hw=>by cases hw),rfl⟩);exact⟨hu,fun q q1 q2=>(hf q q1 q2).trans (h.fg q q1 q2),⟨d0,h0⟩,Vo.of v h.vo.fb (by show ((M.m.set lba.toNat b).length:Int)=_;rw [AX];exact h.vo.m),r⟩
theorem Q0 (b:List UInt8) (hb:b.length<=1000000000):ACalls Tryz.prog false 33 [bA b] [] fun r H=>r = .ow 0 b.length/\H=[.row 5 1 (bR b)]:=by
 refine zx tys_ok Tryz.func33 rfl rfl (Ae rfl) ?_;refine Ad (fun h=>?_) ?_
 ·conv=>whnf
  have h0:=AT.1 h;subst h0;exact⟨_, .ow 0 0, [.row 5 1 []],fun _ _ h=>h,zE ⟨[(0,5,1)],tA,tA,tA,rfl,rfl,rfl⟩,rfl,rfl⟩
 ·refine⟨⟨rfl,by omega⟩,?_⟩;exact⟨.ow 0 b.length, .ow 0 b.length, [.row 5 1 (bR b)],fun _ _ h=>by rwa [A0] at h,zE ⟨[],tv,tA,⟨(congrArg (AB.row _ _) (Xd b)).symm,tv⟩,rfl,rfl,rfl⟩,rfl,rfl⟩
theorem WF {bit:Int} {n:Int} (hn:0<n) (f:n<=1000000):(IntKind.i64.wrap (bit.tmod n+n)).tmod n=bit % n:=by
 have a1:=AZ bit hn;have a2:=Int.lt_tmod_of_pos bit hn;have e:=SZ (a:=bit) hn;rw [wi (by omega)];by_cases h:bit.tmod n<0
 ·rw [if_pos h] at e;rw [e,B9 (Int.emod_nonneg _ (by omega)),Int.emod_emod]
 ·rw [if_neg h] at e;rw [B9 (by omega),<-e,Int.add_emod_right,Int.emod_eq_of_lt (by omega) (by omega)]
theorem Zo (m:Nat):m ||| 1=2*(m / 2)+1:=by
 apply Nat.eq_of_testBit_eq;intro i;rw [Nat.testBit_or];cases i with
 | zero=>simp [Nat.testBit_zero]
 | succ i=>
  rw [Nat.testBit_succ,Nat.testBit_succ,Nat.testBit_succ,show (2*(m / 2)+1) / 2=m / 2 by omega,show 1 / 2=0 from rfl,Nat.zero_testBit,Bool.or_false]
theorem Ql (bs:Int):IntKind.u32.wrap ((BitVec.ofInt IntKind.u32.bits (IntKind.u32.wrap bs) ||| BitVec.ofInt IntKind.u32.bits 1).toNat:Nat)=(fX bs:Nat):=by
 have hl:=YD bs;have e:(BitVec.ofInt IntKind.u32.bits (IntKind.u32.wrap bs) ||| BitVec.ofInt IntKind.u32.bits 1).toNat=fX bs:=by
  rw [BitVec.toNat_or];have h1:(BitVec.ofInt IntKind.u32.bits (IntKind.u32.wrap bs)).toNat=(bs % 4294967296).toNat:=by
   rw [BitVec.toNat_ofInt,IntKind.wrap_u32];show (bs % 4294967296 % (4294967296:Nat)).toNat=_;omega
  have h2:(BitVec.ofInt IntKind.u32.bits 1).toNat=1:=rfl;rw [h1,h2,Zo];unfold fX;split <;> omega
 rw [e,IntKind.wrap_u32];omega
theorem U7 {X k:Nat} (hX:X<4294967296) (hk:k<32):IntKind.u32.wrap ((BitVec.ofInt IntKind.u32.bits ((X:Int).fdiv (2 ^ min ((k:Nat):Int).toNat IntKind.u32.bits))&&&BitVec.ofInt IntKind.u32.bits 1).toNat:Nat)=((X / 2 ^ k % 2:Nat):Int):=by
 have e0:min ((k:Nat):Int).toNat IntKind.u32.bits=k:=by rw [Aa];show min k 32=k;omega
 have e1:(X:Int).fdiv (2 ^ k)=((X / 2 ^ k:Nat):Int):=by
  rw [Int.fdiv_eq_ediv_of_nonneg _ (Int.le_of_lt (Int.pow_pos (by decide)))]
  push_cast
  rfl
 have hd:=Nat.div_le_self X (2 ^ k);have e2:(BitVec.ofInt IntKind.u32.bits ((X / 2 ^ k:Nat):Int)).toNat=X / 2 ^ k:=by
  rw [BitVec.toNat_ofInt];show (((X / 2 ^ k:Nat):Int) % (4294967296:Nat)).toNat=_;generalize X / 2 ^ k=Z at hd |-
  omega
 rw [e0,e1,BitVec.toNat_and,e2];clear e0 e1 e2;generalize X / 2 ^ k=Z at hd |-
 rw [show (BitVec.ofInt IntKind.u32.bits 1).toNat=1 from rfl,Nat.and_one_is_mod,IntKind.wrap_u32];omega
theorem WE (b:List UInt8) (bit bs:Int) (hb:b.length<=200):Fn Tryz.prog 32 [bA b,iv bit,iv bs] fun r=>r=bA (ND b bit bs):=by
 have hc:=Q0 b (by omega);have w8:IntKind.i64.wrap (8*(b.length:Int))=8*b.length:=wi (by omega);by_cases h0:b.length=0
 ·have e:b=[]:=Be h0;subst e;refine zR Tryz.func32 rfl ?_;conv=>whnf
  refine zW hc rfl ?_;rintro _ _ ⟨rfl,rfl⟩;refine⟨rfl,?_⟩;exact⟨_,fun c u h=>Xc [] c u h,by rw [Us]⟩
 ·have C:=WF (bit:=bit) (n:=8*(b.length:Int)) (by omega) (by omega);have a1:=Int.emod_lt_of_pos bit (show (0:Int)<8*b.length by omega);have a2:=Int.emod_nonneg bit (show (8*(b.length:Int))≠0 by omega);refine zR Tryz.func32 rfl ?_;conv=>whnf
  refine zW hc rfl ?_;rintro _ _ ⟨rfl,rfl⟩;conv=>whnf
  rw [w8];refine A5 (fun c=>absurd c (by omega)) (fun _=>?_);refine⟨by omega,?_⟩;refine⟨by omega,?_⟩;conv=>whnf
  rw [C,Ql bs];obtain⟨A,eA⟩:∃ A:Nat,(A:Int)=bit % (8*b.length):=⟨(bit % (8*(b.length:Int))).toNat,by omega⟩;rw [<-eA];have j:=YD bs;have hR:G2 (fun i=>decide (fX bs / 2 ^ i % 2=1)) (bit % (8*(b.length:Int))).toNat b 32=ND b bit bs:=rfl;rw [<-eA,Aa] at hR;obtain⟨X,eX⟩:∃ X,X=fX bs:=⟨_,rfl⟩;rw [<-eX] at hR j;rw [<-eX];refine zU Nat (fun k=>([(7, .ow 0 b.length),(8,iv (8*(b.length:Int))),(9, .v (.int .u32 (X:Nat))),(10,iv (A:Nat)),(31,iv k)], [.row 5 1 (bR (G2 (fun i=>decide (X / 2 ^ i % 2=1)) A b k))])) (fun k=>k<=32) (fun k=>32 - k) 0 (Aj _)
   (zS (s:= [0]) tA) ?_
  intro k hk;have f:=JL (fun i=>decide (X / 2 ^ i % 2=1)) A b k;conv=>whnf
  refine A5 (fun h1=>?_) (fun h1=>?_) <;> (repeat rw [Aa] at h1) <;> conv=>whnf
  ·repeat' (refine zZ ?_;conv=>whnf)
   rw [show IntKind.i64.wrap ((A:Int)+k)=((A+k:Nat):Int) by rw [wi (by omega)];omega];refine⟨by omega,?_⟩;conv=>whnf
   rw [U7 j (show k<32 by omega)];have skip:¬(X / 2 ^ k % 2=1/\A+k<8*b.length)->G2 (fun i=>decide (X / 2 ^ i % 2=1)) A b (k+1)=G2 (fun i=>decide (X / 2 ^ i % 2=1)) A b k:=fun h=>by
    rw [G2,if_neg];simpa using h
   by_cases hp:X / 2 ^ k % 2=1
   ·rw [show (((X / 2 ^ k % 2:Nat):Int) == 1)=true by rw [hp];try rfl];conv=>whnf
    by_cases h2:A+k<8*b.length
    ·rw [show decide (((A+k:Nat):Int)<8*(b.length:Int))=true from decide_eq_true (by omega)];conv=>whnf
     have hN:G2 (fun i=>decide (X / 2 ^ i % 2=1)) A b (k+1)=Qb (G2 (fun i=>decide (X / 2 ^ i % 2=1)) A b k) (A+k):=by
      rw [G2,if_pos];simp [hp,h2]
     rw [Ut _ _ (by rw [f];omega)] at hN;generalize G2 (fun i=>decide (X / 2 ^ i % 2=1)) A b k=F at hN f skip |-
     have hq:(A+k) / 8<b.length:=by omega
     have hz:(2:Nat) ^ ((A+k) % 8)<256:=by
      have:=Nat.pow_lt_pow_right (a:=2) (by omega) (show (A+k) % 8<8 by omega);omega
     have eq:IntKind.i64.wrap (((A+k:Nat):Int).tdiv 8)=(((A+k) / 8:Nat):Int):=by
      rw [AO (by omega),wi (by omega)];omega
     have er:((A+k:Nat):Int).tmod 8=(((A+k) % 8:Nat):Int):=by
      rw [B9 (by omega)];omega
     have es:IntKind.u8.wrap (1*2 ^ min ((((A+k) % 8:Nat):Int).toNat) IntKind.u8.bits)=((2 ^ ((A+k) % 8):Nat):Int):=by
      rw [Aa,show min ((A+k) % 8) IntKind.u8.bits=(A+k) % 8 from D8 (by show _<=8;omega),Int.one_mul,IntKind.wrap_u8];have:((2 ^ ((A+k) % 8):Nat):Int)=(2:Int) ^ ((A+k) % 8):=by simp
      rw [<-this];generalize 2 ^ ((A+k) % 8)=z at hz |-
      omega
     refine zA tys_ok mixed [0,1,2,3,4,5,6,7,8,9,10] (by kernel_rfl) ?_;refine⟨by decide,?_⟩;conv=>whnf
     rw [eq];refine⟨⟨by omega,by omega⟩,?_⟩;refine⟨⟨rfl,by simp [bR,f],by omega⟩,?_⟩;conv=>whnf
     rw [Aa,Xe (by rw [f];omega)];refine⟨by decide,?_⟩;conv=>whnf
     rw [er];refine⟨by omega,?_⟩;refine⟨⟨by omega,by omega⟩,?_⟩;conv=>whnf
     rw [es];refine⟨⟨rfl,by simp [bR,f],by omega⟩,?_⟩;conv=>whnf
     rw [Aa,Xe (by rw [f];omega)];conv=>whnf
     have ex:=QH (F.getD ((A+k) / 8) 0) (2 ^ ((A+k) % 8)) hz;rw [ex,ZJ];repeat' (refine zZ ?_;conv=>whnf)
     refine⟨k+1,by omega,by omega,?_⟩;rw [hN];exact zS (s:= [0]) ⟨⟨rfl,rfl,rfl,rfl,AG (by omega),tv⟩,tA,rfl,rfl,rfl,rfl,rfl⟩
    ·rw [show decide (((A+k:Nat):Int)<8*(b.length:Int))=false from decide_eq_false (by omega)];conv=>whnf
     repeat' (refine zZ ?_;conv=>whnf)
     refine⟨k+1,by omega,by omega,?_⟩;rw [skip (fun h=>h2 h.2)];exact zS (s:= [0]) ⟨⟨rfl,rfl,rfl,rfl,AG (by omega),tv⟩,tA,rfl,rfl,rfl,rfl,rfl⟩
   ·rw [show (((X / 2 ^ k % 2:Nat):Int) == 1)=false by rw [show X / 2 ^ k % 2=0 by omega];try rfl];conv=>whnf
    repeat' (refine zZ ?_;conv=>whnf)
    refine⟨k+1,by omega,by omega,?_⟩;rw [skip (fun h=>hp h.1)];exact zS (s:= [0]) ⟨⟨rfl,rfl,rfl,rfl,AG (by omega),tv⟩,tA,rfl,rfl,rfl,rfl,rfl⟩
  ·have ek:k=32:=by omega
   subst ek;rw [hR];rw [hR] at f;refine⟨(by simp [bR,f]),?_⟩;exact⟨_,fun c u h=>Y0 (Hr b bit bs).symm c u h,rfl⟩
theorem PJ {g:Geo} {z:Int} (hz:0<=z/\z<g.z):(Ee g).a.homes.getD z.toNat ⟨[],0,0⟩=⟨(List.range (g.d+1).toNat).map Int.ofNat,g.d+1,0⟩:=by
 show (List.replicate g.z.toNat _).getD _ _=_;rw [Ac,List.getElem?_replicate,if_pos (by omega)];try rfl
theorem Zv {g:Geo} {z w:Int} (hz:0<=z/\z<g.z) (hw:0<=w/\w<g.d):Br g (Ee g).a z w=Cm g z w:=by
 unfold Br;rw [PJ hz,show EJ g w=w from if_neg (by omega)];congr 1;rw [AY (d:=0) (by simp;omega),Ac,Bz (by omega)];show ((w.toNat:Nat):Int)=w;omega
theorem YY {n:Int} {d:Dk} {F:Int->List UInt8} {X:Int} (h:Sk 2 n d F fun a=>False\/a=X):Sk 2 n d F fun a=>a=X:=⟨h.ok,h.left,h.len,h.cache,fun a h0 h1=>⟨(h.cell a h0 h1).1,(h.cell a h0 h1).2.imp (fun x=>⟨x.1,fun y=>x.2 (.inr y)⟩) fun x=>⟨x.1,x.2.resolve_left id⟩⟩⟩
theorem Y_ {g:Geo} (hg:Bq g=true) {d:Dk} {F:Int->List UInt8} {X:Int} (hk:Sk 2 (Ar g) d F fun a=>a=X) (hX:g.an+2*g.sl<=X) {j:Nat} (hj:j<4):NR g d 0 j=false:=by
 obtain⟨g1,g2,g3,g4,g5⟩:=Aq.1 hg;have em:CX g 0 (j:Nat)=(j:Nat):=by
  unfold CX;rw [wi (by omega),Int.zero_add,B9 (by omega),Int.emod_eq_of_lt (by omega) (by omega)]
 have hb:=GK (g:=g) (c:=0) (s:=(j:Nat)) (.inl rfl) ⟨by omega,by omega⟩;have hl:=EC hg hk.len (.inl rfl) (s:=(j:Nat)) ⟨by omega,by omega⟩;rw [hk.len] at hl;unfold NR;rw [em,show stuck d (Bi g 0 (j:Nat))=false from (hk.stuck hl.1 hl.2).2 (by omega),Db]
theorem YX {g:Geo} (hg:Bq g=true) {d:Dk} {X Z A:Int} (hk:Sk 2 (Ar g) d (Ee g).F fun a=>a=X) (hz:0<=Z/\Z<g.z) (hA:0<=A/\A<g.d) (hX:X=Cm g Z A):∃ t,FO g (AF (Ee g).a []) (E0 d) Z=some t:=by
 obtain⟨g1,g2,g3,g4,g5⟩:=Aq.1 hg;obtain⟨t,ht⟩:=Mc hg Z hz.1 hz.2;have t0:=G7 hg (z:=Z) (k:=0) hz ⟨by omega,by omega⟩;have t1:=G7 hg (z:=Z) (k:=1) hz ⟨by omega,by omega⟩;have hs:=EV hg (s:=A) hz ⟨by omega,by unfold Cv;omega⟩;rw [<-hX] at hs;have e:=ht.tab;unfold ER at e;refine⟨t,?_⟩;unfold FO;rw [(hk.gs (.inr rfl) (by omega) t0.2.2).1 (by omega),(hk.gs (.inr rfl) (by omega) t1.2.2).1 (by omega)];exact e
theorem Nm {g:Geo} {d:Dk} (h:Un g d) {X:Int} {B:List UInt8} (hX:0<=X/\X<Ar g) (hB:B.length<=200) (hs:stuck d X=true):(d.write X B).2=7/\Un g (d.write X B).1/\E0 (d.write X B).1=E0 d:=by
 have hw:=h.ok.write (a:=X) (b:=B) (by have:=h.len;omega) hB;have f:(d.cells.getD X.toNat cz).state=2:=of_decide_eq_true hs;obtain⟨e1,e2,e3, -⟩:=JW h.left (by rw [h.cache];decide) X B;rw [if_pos f] at e1;have e4:(d.write X B).1.cache=d.cache:=by
  unfold Dk.write;rw [if_neg (by rw [h.left];decide),if_pos (.inl f)];try rfl
 refine⟨e1,⟨hw,e3,by rw [e2];exact h.len,e4.trans h.cache⟩,?_⟩;unfold E0;rw [show (d.write X B).1.got=d.got from funext fun q=>Uo e2 e4 q,e2,e4]
theorem UG {g:Geo} {a:An} {l:List Tx} {G:Gr} {lba:Int} {b:List UInt8} {t:List Ent} (ht:FO g (AF a l) G (lba.tdiv g.d)=some t):(WO g a l G lba b).images.getD 0 ⟨0,0, []⟩=⟨lba.tdiv g.d,lba.tmod g.d,b⟩:=by
 rw [MG ht];try rfl
theorem Fn.lendV {P:Program} {f:FuncId} {args args':List AV} {H:List AB} {K:AV->Prop} {q:Bool} {k:AV->List AB->Prop} (h:Fn P f args' K) (hs:sealA args H fun a _=>a=args') (hk:∀ r,K r->(∀ (c c':Ctx) v,Rd r c v->Rd r c' v)/\k r H):ACalls P q f args H k:=by
 refine⟨h.1,fun w0 M0 c us hs0 hr=>?_⟩;obtain⟨l',H',c',rfl,h2,h3,h4,h5,_⟩:=sealA_sound hs0 hr hs;have:=h.2 c'.closed us rfl h3.lt h3.glob h5;rw [show c'.closed.w=c.w from h2] at this;refine this.mono ?_;rintro e w' ⟨v,r,rfl,q1,q2,q3⟩;obtain⟨p1,p2⟩:=hs0.grow q2;obtain⟨p3,p4⟩:=hk r q1;exact⟨v,_,r,H,rfl,rfl,p4,p1,p2,p3 _ _ _ q3,fun _=>q2.old⟩
@[reducible] def anZ:List AV:= [iv 0,iv 0,iv 0,iv 0,iv 0, .v (.string ⟨#[]⟩), .v (.slice none 0 0)]
theorem TB (g:Geo) (a:An) (z:Int) (hg:Bq g=true) (ha:Bj g a=true) (hz:0<=z/\z<g.z) (hn:(a.homes.getD z.toNat ⟨[],0,0⟩).next=Cv g):Fn Tryz.prog 370 [.ag (AK g), .ag (Ek a),iv z] fun r=>r = iv 0:=by
 obtain⟨hi, -⟩:=KQ ha hz;have c1:=I4 g hg;refine zR Tryz.func370 rfl ?_;conv=>whnf
 apply zP tys_ok mixed (.o [0,2,3,4,5,6,7,1,8,9] .fin) [6,7,8,9,10,11,12,13,14,15] (by kernel_rfl)
 ·conv=>whnf
  try (refine Ad (by first | omega | exact ixA | exact ixB | (simp;done)) ?_;conv=>whnf)
  refine zY c1 ?_;exact tA
 conv=>whnf
 rw [hn,Int.sub_self,show IntKind.i64.wrap 0=0 from rfl];exact⟨_,ri,rfl⟩
theorem Y4 (c c':Ctx) (v:Value) (h:Rd (.tp [.ag anZ,iv 0,iv 10]) c v):Rd (.tp [.ag anZ,iv 0,iv 10]) c' v:=by
 simp only [Rd,RdL] at h |-
 exact h
theorem T9 (g:Geo) (a:An) (z:Int) (hg:Bq g=true) (ha:Bj g a=true) (hz:0<=z/\z<g.z) (hn:(a.homes.getD z.toNat ⟨[],0,0⟩).next=Cv g):Fn Tryz.prog 310 [.ag (AK g), .ag (Ek a),iv z] fun r=>r = .tp [.ag anZ,iv 10]:=by
 obtain⟨g1,g2,g3,g4,g5⟩:=Aq.1 hg;have c1:=Ki g a z (-1) hg ha hz ⟨by omega,by omega⟩;have c2:=TB g a z hg ha hz hn;refine zR Tryz.func310 rfl ?_;conv=>whnf
 refine zY c1 ?_;conv=>whnf
 refine zY c2 ?_;exact⟨_,ri,rfl⟩
theorem TA (g:Geo) (a:An) (z w:Int) (hg:Bq g=true) (ha:Bj g a=true) (hz:0<=z/\z<g.z) (hw : -1<=w/\w<g.d) (hn:(a.homes.getD z.toNat ⟨[],0,0⟩).next=Cv g):Fn Tryz.prog 234 [.ag (AK g), .ag (Ek a),iv z,iv w] fun r=>r = .tp [.ag anZ,iv 0,iv 10]:=by
 have c1:=Ki g a z w hg ha hz hw;have c2:=T9 g a z hg ha hz hn;refine zR Tryz.func234 rfl ?_;conv=>whnf
 refine zY c1 ?_;conv=>whnf
 refine zY c2 ?_;exact⟨_,ri,rfl⟩
theorem WU (g:Geo) (s:Stt) (d:Dk) (a stamp:Int) (b:List UInt8) (h:Un g d) (ha:0<=a/\a<Ar g) (i:UW a stamp b) (j:stuck d a=true) :
  ACalls Tryz.prog false 233 [.bp 0 0,iv a,iv stamp,bA b] (JU g s d) fun r H=>r = .tp [.v (.bool false),iv 0]/\H=JU g s (d.write a (Bk a stamp b)).1:=by
 have hs:=Jt a stamp b i;have f:(Bk a stamp b).length<=200:=by rw [DR];have:=i.2.2.2.2;omega
 have hc:=OL g s d a (Bk a stamp b) h.ok (by have:=h.len;omega) f;rw [(Nm h ha f j).1] at hc;refine zT tys_ok Tryz.func233 rfl rfl (Ae rfl) ?_;conv=>whnf
 refine zY hs ?_;conv=>whnf
 refine ze9 [0,1,2,3] hc ?_;rintro _ _ ⟨rfl,rfl⟩;exact⟨_, .tp [.v (.bool false),iv 0],JU g s (d.write a (Bk a stamp b)).1,fun _ _ h=>h,zS (s:= [0,1,2,3]) tA,rfl,rfl⟩
theorem R7 (g:Geo) (s:Stt) (A:An) (d:Dk) (seq:Int) (x:Img) (hg:Bq g=true) (hA:Bj g A=true) (hx:Bn g x=true) (C:x.what≠255) (hs:0<=seq/\seq<=4294967295) (h:Un g d) (u:stuck d (Br g A x.zone x.what)=true) (hn:(A.homes.getD x.zone.toNat ⟨[],0,0⟩).next=Cv g) :
  ACalls Tryz.prog false 158 [.bp 0 0,iv seq, .ag (Dz x)] (hoH g s A d) fun r H=>r = .tp [.v (.bool false),iv 0]/\H=hoH g s A (d.write (Br g A x.zone x.what) (Bk (Br g A x.zone x.what) seq x.bytes)).1:=by
 obtain⟨g1,g2,g3,g4,g5⟩:=Aq.1 hg;obtain⟨hz,hb⟩:=Dh hx;have hb:=hb C;have G:=EF hg;obtain⟨sl,e1,e2⟩:=FJ hg hA hz (w:=x.what) (by omega);have F:=EV hg hz e2;have j:=LT g A x.zone x.what hg hA hz (by omega);have z:=TA g A x.zone x.what hg hA hz (by omega) hn;obtain⟨X,hX⟩:∃ X,X=Br g A x.zone x.what:=⟨_,rfl⟩;rw [<-hX] at j e1 u |-
 have f:=WU g s d X seq x.bytes h (by omega) ⟨by omega,by omega,hs.1,hs.2,by omega⟩ u;generalize (d.write X (Bk X seq x.bytes)).1=D at f |-
 refine zT tys_ok Tryz.func158 rfl rfl (Ae rfl) ?_;conv=>whnf
 apply zP tys_ok mixed (.o [0,1,2,3,4,5,6,7,8,9,10,11,12,13,14,15,16,17] .fin) [9,10,18,19,20,21,22,23,24,25,26,27,28,29,30,31,32,33] (by kernel_rfl)
 ·conv=>whnf
  (refine zq (args':= [.ag (AK g), .ag (Lt A (.sl 3 A.homes.length fun i=>(A.homes.map DL).getD i [])),iv x.zone,iv x.what]) (j.subA (Ls g A [iv x.zone,iv x.what])) ⟨(Ab _).symm,rfl⟩ ?_;rintro _ rfl;refine⟨rfl,?_⟩)
  exact tA
 conv=>whnf
 refine zG 1 ?_;conv=>whnf
 repeat' (refine zZ ?_;conv=>whnf)
 apply zX (2 ^ 136) tys_ok mixed (.o [0,1,2,3,4,5,6,7,8,9,10,11,12,13] .fin) (by kernel_rfl);conv=>whnf
 (refine ze9 [1,2,3,4] f ?_;rintro _ _ ⟨rfl,rfl⟩)
 conv=>whnf
 repeat' (refine zZ ?_;conv=>whnf)
 apply zX (0) tys_ok mixed (.o [0,1,2,3,4,5,6,7,8,9,10,11,12,13,14,15,16,17,18,19] .fin) (by kernel_rfl);conv=>whnf
 (refine Fn.lendV (args':= [.ag (AK g), .ag (Lt A (.sl 3 A.homes.length fun i=>(A.homes.map DL).getD i [])),iv x.zone,iv x.what]) (z.subA (Ls g A [iv x.zone,iv x.what])) ⟨(Ab _).symm,rfl⟩ ?_;rintro _ rfl;refine⟨Y4,?_⟩)
 conv=>whnf
 try (refine tS ?_;conv=>whnf)
 repeat' (refine zZ ?_;conv=>whnf)
 exact⟨_, .tp [.v (.bool false),iv 0],hoH g s A D,fun _ _ h=>h,zS (s:= [0,1,2,3,4,5]) tA,rfl,rfl⟩
theorem R6 (g:Geo) (s:Stt) (A:An) (d:Dk) (seq:Int) (x:Img) (hg:Bq g=true) (hA:Bj g A=true) (hx:Bn g x=true) (f:x.what≠255) (hs:0<=seq/\seq<=4294967295) (h:Un g d) (i:stuck d (Br g A x.zone x.what)=true) (hn:(A.homes.getD x.zone.toNat ⟨[],0,0⟩).next=Cv g) :
  ACalls Tryz.prog false 85 [.bp 0 0,iv seq, .ag (Dz x)] (hoH g s A d) fun r H=>r = .tp [.v (.bool false),iv 0]/\H=hoH g s A (d.write (Br g A x.zone x.what) (Bk (Br g A x.zone x.what) seq x.bytes)).1:=by
 have hc:=R7 g s A d seq x hg hA hx f hs h i hn;generalize (d.write (Br g A x.zone x.what) (Bk (Br g A x.zone x.what) seq x.bytes)).1=D at hc |-
 refine zT tys_ok Tryz.func85 rfl rfl (Ae rfl) ?_;conv=>whnf
 rw [show (x.what == 255)=false from beq_eq_false_iff_ne.2 f];conv=>whnf
 refine ze9 [0,1,2,3,4,5] hc ?_;rintro _ _ ⟨rfl,rfl⟩;exact⟨_, .tp [.v (.bool false),iv 0],hoH g s A D,fun _ _ h=>h,zS (s:= [0,1,2,3,4,5]) tA,rfl,rfl⟩
theorem WM (g:Geo) (s:Stt) (d:Dk):ACalls Tryz.prog false 86 [.bp 0 0] (JU g s d) fun r H=>r = iv 14/\H=JU g { s with only:=true } d:=by
 refine zT tys_ok Tryz.func86 rfl rfl (Ae rfl) ?_;exact⟨_,iv 14,JU g { s with only:=true } d,fun _ _ h=>h,zS (s:= [0,1,2,3]) tA,rfl,rfl⟩
theorem SJ {s:Stt} {x:Tx} {r:List Tx} (hs:s.txns=x::r) (f:StSm s):Fn Tryz.prog 84 [CS s.txns] fun v=>v = .tp [.ag (CG x),CS r,iv 0]:=by
 rw [hs];exact PH x r (by rw [<-hs];have:=f.t.1;omega) fun t ht=>by
  have:=f.t.2 t (by rw [hs];exact ht);exact⟨by omega,fun y hy=>by have:=this.2 y hy;omega⟩
theorem Yq (g:Geo) (s:Stt) (x:Tx) (r:List Tx) (d:Dk) (hg:Bq g=true) (ha:Bj g s.a=true) (hs:s.txns=x::r) (f:StSm s) (j:s.only=false) (K:s.a.gen<4294967295) (I:s.a.seq<4294967295) (N:x.seq=s.a.seq) (h:Un g d) (y:Img) (hy:x.images.getD 0 ⟨0,0, []⟩=y) (L:0<x.images.length) (F:Bn g y=true) (C:y.what≠255) (G:stuck d (Br g s.a y.zone y.what)=true) (hn:(s.a.homes.getD y.zone.toNat ⟨[],0,0⟩).next=Cv g) :
  ACalls Tryz.prog false 39 [.bp 0 0] (JU g s d) fun v H=>v = .tp [iv 0,iv 14]/\H=bwG g { s with only:=true } (d.write (Br g s.a y.zone y.what) (Bk (Br g s.a y.zone y.what) x.seq y.bytes)).1:=by
 obtain⟨a1,a2,a3,a4⟩:=DD ha;have J:x.images.length<=30:=(f.t.2 x (by rw [hs];simp)).1;have u:=SJ hs f;have z:=NU s.a (by have:=f.h.1;omega) f.h.2;have hc:=R6 g s s.a d x.seq y hg ha F C (by omega) h G hn;generalize (d.write (Br g s.a y.zone y.what) (Bk (Br g s.a y.zone y.what) x.seq y.bytes)).1=D at hc |-
 have ho:=WM g s D;refine zT tys_ok Tryz.func39 rfl rfl (Ae rfl) ?_;conv=>whnf
 refine zY u ?_;conv=>whnf
 rw [j];conv=>whnf
 rw [show (s.a.gen == 4294967295)=false from beq_eq_false_iff_ne.2 (by omega)];conv=>whnf
 rw [show (s.a.seq == 4294967295)=false from beq_eq_false_iff_ne.2 (by omega)];conv=>whnf
 refine zW z rfl ?_;rintro _ _ ⟨rfl,rfl⟩;conv=>whnf
 refine zU Nat (fun i=>([(0, .bp 0 0),(4, .bp 4 0),(5,CS r),(7, .bp 6 0),(60,D2 x.images),(61,iv (x.images.length:Nat)),(62,iv (i:Nat))],aN g s x s.a d)) (fun i=>i=0) (fun _=>0) 0 rfl
  (zS (s:= [0,1,2,3,4,5,6]) tA) ?_
 intro i hi;have O:i<x.images.length:=by omega
 conv=>whnf
 rw [show decide ((i:Int)<(x.images.length:Nat))=true from decide_eq_true (by omega)];conv=>whnf
 repeat' (refine zZ ?_;conv=>whnf)
 refine⟨⟨by omega,by omega⟩,?_⟩;conv=>whnf
 rw [Aa,show x.images.getD i ⟨0,0, []⟩=y by rw [hi];exact hy];refine ze9 [6,0,1,2,3,5] hc ?_;rintro _ _ ⟨rfl,rfl⟩;conv=>whnf
 repeat' (refine zZ ?_;conv=>whnf)
 refine ze9 [0,1,2,3] ho ?_;rintro _ _ ⟨rfl,rfl⟩;conv=>whnf
 repeat' (refine zZ ?_;conv=>whnf)
 exact⟨_, .tp [iv 0,iv 14],bwG g { s with only:=true } D,fun _ _ h=>h,zI (zL (z6 1 3 (by decide) rfl rfl)) (s:= [0,1,2,3,8]) tA,rfl,rfl⟩
theorem UC (g:Geo) (s:Stt) (x:Tx) (r:List Tx) (d:Dk) (hg:Bq g=true) (ha:Bj g s.a=true) (hs:s.txns=x::r) (f:StSm s) (j:s.only=false) (F:s.a.gen<4294967295) (C:s.a.seq<4294967295) (I:x.seq=s.a.seq) (h:Un g d) (y:Img) (hy:x.images.getD 0 ⟨0,0, []⟩=y) (G:0<x.images.length) (u:Bn g y=true) (i:y.what≠255) (z:stuck d (Br g s.a y.zone y.what)=true) (hn:(s.a.homes.getD y.zone.toNat ⟨[],0,0⟩).next=Cv g) (J:Jr g d s=true) :
  Fn Tryz.prog 15 [.ag (AK g), .ag (DV d), .ag (Eo s)] fun v=>∃ d',Un g d'/\E0 d'=E0 d/\v = .tp [.ag (Eo { s with only:=true }), .ag (DV d'),iv 0,iv 14]:=by
 have c1:=OQ g d s h.ok J f;have c2:=Yq g s x r d hg ha hs f j F C I h y hy G u i z hn;have c3:=GS { s with only:=true } ⟨f.h,f.l,f.t,f.o⟩;obtain⟨hz,hb⟩:=Dh u;have hb:=hb i;obtain⟨sl,e1,e2⟩:=FJ hg ha hz (w:=y.what) (by omega);have K:=EV hg hz e2;obtain⟨g1,g2,g3,g4,g5⟩:=Aq.1 hg;obtain⟨-,p2,p3⟩:=Nm h (X:=Br g s.a y.zone y.what) (B:=Bk (Br g s.a y.zone y.what) x.seq y.bytes) ⟨by omega,by omega⟩ (DW (by omega)) z;generalize (d.write (Br g s.a y.zone y.what) (Bk (Br g s.a y.zone y.what) x.seq y.bytes)).1=D at c2 p2 p3;have c4:=GU g { s with only:=true } D p2.ok;refine zR Tryz.func15 rfl ?_;conv=>whnf
 refine zW c1 rfl ?_;rintro _ _ ⟨rfl,rfl⟩;conv=>whnf
 refine ze9 [5,6,7,8] c2 ?_;rintro _ _ ⟨rfl,rfl⟩;conv=>whnf
 refine zY c3 ?_;conv=>whnf
 refine ze9 [5,6,7,8,9] c4 ?_;rintro _ _ ⟨rfl,rfl⟩;exact⟨_,ri,D,p2,p3,rfl⟩
theorem Yr (g:Geo) (s:Stt) (x:Tx) (r:List Tx) (d:Dk) (hs:s.txns=x::r) (j:StSm s) (f:s.only=true):ACalls Tryz.prog false 39 [.bp 0 0] (JU g s d) fun v H=>v = .tp [iv 0,iv 15]/\H=bwG g s d:=by
 have i:=SJ hs j;refine zT tys_ok Tryz.func39 rfl rfl (Ae rfl) ?_;conv=>whnf
 refine zY i ?_;conv=>whnf
 rw [f];exact⟨_, .tp [iv 0,iv 15],bwG g s d,fun _ _ h=>h,zI (zL (z6 1 3 (by decide) rfl rfl)) (s:= [0,1,2,3,5]) ⟨tA,tA,by first | rfl | exact f ▸ rfl,rfl,rfl,rfl,rfl⟩,rfl,rfl⟩
theorem UD (g:Geo) (s:Stt) (x:Tx) (r:List Tx) (d:Dk) (hs:s.txns=x::r) (i:StSm s) (f:s.only=true) (h:DkOk d) (j:Jr g d s=true) :
  Fn Tryz.prog 15 [.ag (AK g), .ag (DV d), .ag (Eo s)] fun v=>v = .tp [.ag (Eo st0), .ag (DV d),iv 0,iv 15]:=by
 have c1:=OQ g d s h j i;have c2:=Yr g s x r d hs i f;have c4:=GU g s d h;refine zR Tryz.func15 rfl ?_;conv=>whnf
 refine zW c1 rfl ?_;rintro _ _ ⟨rfl,rfl⟩;conv=>whnf
 refine ze9 [5,6,7,8] c2 ?_;rintro _ _ ⟨rfl,rfl⟩;conv=>whnf
 refine ze9 [5,6,7,8,9] c4 ?_;rintro _ _ ⟨rfl,rfl⟩;exact⟨.tp [.ag (Eo st0), .ag (DV d),iv 0,iv 15],BN ⟨Bf st0_sub,ri,ri,ri,tv⟩,rfl⟩
theorem YZ {n:Int} {d:Dk} {F:Int->List UInt8} {A:Int->Prop} (h:Sk 2 n d F A) {q:Int} (hq:0<=q/\q<n):Fn Tryz.prog 12 [.ag (DV d),iv 12,iv q,iv 0,iv 0,iv 0] fun r=>r = .tp [.ag (DV (d.faultX 12 q 0 0 0)),iv 0]:=by
 have hx:=U8 (fun b bit bs hb=>WE b bit bs hb) d 12 q 0 0 0 h.ok;rwa [(h.fault (.inr tA) hq).1] at hx
theorem T_ (data lba0:Int) (b:List UInt8):Fn Tryz.prog 3 [iv data,iv lba0,bA b] fun r=>r = .v (.bool true):=by
 by_cases hb:b.length=8;rotate_left 1
 ·refine zR Tryz.func3 rfl ?_;conv=>whnf
  rw [show ((b.length:Int) != 8)=true from bne_iff_ne.2 (by omega)];exact⟨_,ri,rfl⟩
 have h1:=Sf 1 data 0 6 1;have hg:=Pi 1 data 0 6 1;have hn:(Js 1 data 0 6 1).sp=0:=by show IR 0 3=0;decide
 generalize Js 1 data 0 6 1=g at h1 hg hn;have hw:=wakes24_fn;have ho:=V6 g hg;have hs:=Y7 hg;obtain⟨g1,g2,g3,g4,g5⟩:=Aq.1 hg;have hm:IntKind.u64.wrap (IntKind.i64.wrap (g.z*g.d))=g.z*g.d:=by rw [wi (by omega),IntKind.wrap_u64];omega
 obtain⟨lba,hA⟩:∃ A,A=IR lba0 (g.z*g.d):=⟨_,rfl⟩;have u:0<=lba/\lba<g.z*g.d:=by rw [hA];exact Fb (by omega) (by omega)
 obtain⟨hZ,hB⟩:=RW hg u;have N:lba.tmod g.d<Cv g:=by unfold Cv;omega
 have q0:=EV hg (z:=lba.tdiv g.d) (s:=lba.tmod g.d) hZ ⟨by omega,N⟩;have s0:=LI g (lba.tdiv g.d) (lba.tmod g.d) hg hZ ⟨by omega,N⟩;obtain⟨X,hX⟩:∃ X,X=Cm g (lba.tdiv g.d) (lba.tmod g.d):=⟨_,rfl⟩;rw [<-hX] at q0 s0;refine zR Tryz.func3 rfl ?_;conv=>whnf
 rw [show ((b.length:Int) != 8)=false from bne_eq_false_iff_eq.2 (by omega)];conv=>whnf
 refine zY h1 ?_;conv=>whnf
 refine zH ho rfl ?_;rintro _ ⟨d0,rfl,V⟩;have k0:=V.sk (k:=2);have f0:=YZ k0 (q:=X) ⟨by omega,by omega⟩;have k1:=YY (k0.fault (.inr tA) (q:=X) ⟨by omega,by omega⟩).2;obtain⟨d1,hq⟩:∃ d1,d1=d0.faultX 12 X 0 0 0:=⟨_,rfl⟩;rw [<-hq] at f0 k1;conv=>whnf
 rw [hm];refine⟨by omega,?_⟩;conv=>whnf
 rw [show IntKind.i64.wrap ((IntKind.u64.wrap lba0).tmod (g.z*g.d))=lba from hA.symm];have Z:IntKind.i64.wrap (lba.tdiv g.d)=lba.tdiv g.d:=wi (by omega);have W:IntKind.i64.wrap (lba.tmod g.d)=lba.tmod g.d:=wi (by omega);apply z8 (0) tys_ok mixed (.o [0,1,2,3,4,5,6,7,8,9] (.two 10 (.two 11 (.o [12,13,14,15,16,17] .fin) 15 (.o [11,12,13,14,16,17] .fin)) 15 (.o [10,11,12,13,14,16,17] .fin))) [10,11,46,47,48,49,50,51,52,53,54,55,56,57,58,59,60] (by kernel_rfl)
 ·conv=>whnf
  try (refine tI ?_;conv=>whnf)
  try (refine tI ?_;conv=>whnf)
  refine Ad ?_ ?_
  ·conv=>whnf
   (rw [Z];first | rw [W] | skip;refine zY s0 ?_)
   refine Ad ?_ ?_
   ·conv=>whnf
    refine zY f0 ?_;conv=>whnf
    try (refine tS ?_;conv=>whnf)
    exact tA
   ·conv=>whnf
    refine zY f0 ?_;conv=>whnf
    try (refine tS ?_;conv=>whnf)
    exact tA
  ·conv=>whnf
   (rw [Z];first | rw [W] | skip;refine zY s0 ?_)
   conv=>whnf
   refine zY f0 ?_;conv=>whnf
   try (refine tS ?_;conv=>whnf)
   exact tA
 conv=>whnf
 obtain⟨t,ht⟩:=YX hg k1 hZ hB hX;have hc:Un g d1:=⟨k1.ok,k1.left,k1.len,k1.cache⟩;have hv:=(Clv.on hg V).vo.vol V;have ha:=ZF (a:=(Ee g).a) (l:= []) (lba:=lba) (b:=b) hg hv (by decide) hc u hb (by show 4<=g.sl - 0;omega) ht 0 (by show (0:Int)=((0:Int)+0).tmod g.sl;simp);obtain⟨i,hl⟩:=WN (a:=(Ee g).a) (l:= []) (b:=b) hg hv (by decide) u hb (by show 4<=g.sl - 0;omega) (G:=E0 d1) (t:=t) ht;conv=>whnf
 refine zO ha.go ?_;refine⟨rfl,?_⟩;refine⟨rfl,?_⟩;conv=>whnf
 refine zV [.ag (AK g), .ag (DV d1), .ag (Eo (AF (Ee g).a [])),iA [lba],E7 [b]] ⟨ri,ri,ri,DB (L:= [lba]) rfl rfl,D6 (L:= [b]) rfl rfl,tv⟩ ?_;refine zH ha rfl ?_;rintro _ (⟨-,d2,F, -,hd,rfl⟩ | ⟨⟨j,hp,hj⟩, -⟩);rotate_left 1
 ·rw [Y_ hg k1 (by omega) hp] at hj;cases hj
 have J:=UG (a:=(Ee g).a) (l:= []) (b:=b) ht;have O:=ZD hg (a:=(Ee g).a) (l:= []) (b:=b) ⟨by show (0:Int)<=1+0;decide,by show (1:Int)+0<=_;decide⟩ u hb ht;obtain⟨x,hx⟩:∃ x,x=WO g (Ee g).a [] (E0 d1) lba b:=⟨_,rfl⟩;rw [show ([]:List Tx) ++ [WO g (Ee g).a [] (E0 d1) lba b]=[x] by rw [hx];try rfl] at i O |-
 rw [<-hx] at J hl;have hk:x.seq=(Ee g).a.seq:=by rw [hx];try rfl
 have hh:Br g (Ee g).a (lba.tdiv g.d) (lba.tmod g.d)=X:=by rw [Zv hZ hB,hX]
 have hf:stuck d2 X=true:=by rw [hd];exact(k1.stuck (by omega) q0.2).1 rfl
 have I:∀ t∈ [x],∀ y∈t.images,Bn g y=true:=fun t ht=>Av.1 (Dj i.ring t ht).1
 have C:=i.sm hg;have hi:Bn g ⟨lba.tdiv g.d,lba.tmod g.d,b⟩=true:=by rw [<-J];exact I x (by simp) _ (A3 (by omega))
 have cs:=UC g (AF (Ee g).a [x]) x [] d2 hg i.an rfl C rfl (by show (1+1:Int)<4294967295;decide) (by show (1:Int)<4294967295;decide) hk F ⟨lba.tdiv g.d,lba.tmod g.d,b⟩ J (by omega) hi (by show lba.tmod g.d≠255;omega) (by show stuck d2 (Br g (Ee g).a (lba.tdiv g.d) (lba.tmod g.d))=true;rw [hh];exact hf) (by show ((Ee g).a.homes.getD (lba.tdiv g.d).toNat ⟨[],0,0⟩).next=Cv g;rw [PJ hZ];show g.d+1=g.d+1+g.sp;omega) (i.st2 hg F.ok F.len false);conv=>whnf
 refine zH cs rfl ?_;rintro _ ⟨d3,f, -,rfl⟩;have he:=i.st2 hg f.ok f.len true;have K:StSm { AF (Ee g).a [x] with only:=true }:=⟨C.h,C.l,C.t,C.o⟩;have cb:=RJ g { AF (Ee g).a [x] with only:=true } d3 (E0 d3) lba hg he K I i.an (Gs.of f.ok f.left f.len) (fun a=>(Lp f.ok a).1) (fun a=>(Lp f.ok a).2) u (Sc hg I);rw [show Qy g { AF (Ee g).a [x] with only:=true } (E0 d3) (lba.tdiv g.d) (lba.tmod g.d)=some b from O (E0 d3)] at cb;conv=>whnf
 refine zH cb rfl ?_;rintro _ ⟨d4,U,rfl⟩;have cs2:=UD g { AF (Ee g).a [x] with only:=true } x [] d4 rfl K rfl U.ok (i.st2 hg U.ok U.len true);have hr:=RK b (by omega);conv=>whnf
 refine zY cs2 ?_;conv=>whnf
 refine zY hr ?_;conv=>whnf
 refine zY hw ?_;exact⟨_,ri,rfl⟩
end
end Go.Proofs.YtpjkcgacjjbikaaGreatDoor.A
namespace Go.Proofs.YtpjkcgacjjbikaaGreatDoor
section
open Go.ChangeShapes Go.WideShapes Go.ChangeAt Go.RowKit
theorem own_none:ownKnob Tryz.prog.godebug=none:=by kernel_rfl
theorem laidOut:laidOutB Tryz.prog=true:=by kernel_rfl

section
variable {H:Type} {enc:TypeId × Value->H}
theorem Wc {f:Func} {s:ChangeSpec} {apart fresh handsOn again:Bool} {W W':World} {args:Array Value} {ds:List (DataW H)} {before:List MemPlace}
  (hW:DataW.Whole enc Tryz.prog f.params.toList s.vars apart W args.toList ds [] before) (hv:s.vars=[]) (I:(s.fn H (ds ++ [])).vars=[])
  (hr:f.resultTypes = #[4]) (K:(s.fn H (ds ++ [])).results=[.lit (.bool true)]) (L:(s.fn H (ds ++ [])).args=ds)
  (F:∀ t∈f.params.toList,Tryz.prog.readableRec t=true/\t<Tryz.prog.types.size) (hb:Below W.heap.size W W') :
  s.post enc Tryz.prog f apart fresh handsOn again W args (.bool true) W':=by
 have z:∀ p∈before,p.block<W.heap.size:=fun p hp=>hW.lt p hp
 obtain⟨p,q,hA,hV,C,hz,hn⟩:=id hW;rw [hv] at hV;obtain⟨-,rfl⟩:=trodVars_none hV;rw [AR] at C;subst C;have stay:∀ sp:Nat->Bool,(∀ x∈before,sp x.block=true)->DataW.TrodAll enc Tryz.prog W' 0 sp true f.params.toList args.toList ds before:=by
  intro sp J;have go:∀ (ts:List TypeId) (vs:List Value) (es:List (DataW H)) (ps:List MemPlace),(∀ t∈ts,Tryz.prog.readableRec t=true/\t<Tryz.prog.types.size)->(∀ x∈ps,x∈before)->
    DataW.TrodAll enc Tryz.prog W 0 (fun _=>true) true ts vs es ps->DataW.TrodAll enc Tryz.prog W' 0 sp true ts vs es ps:=by
   intro ts;induction ts with
   | nil=>
    intro vs es ps _ _ h;cases vs <;> cases es <;> exact h
   | cons t ts ih=>
    intro vs es ps ht i h;cases vs with
    | nil=>cases es <;> exact h.elim
    | cons v vs=>
     cases es with
     | nil=>exact h.elim
     | cons e es=>
      obtain⟨p1,p2,h1,h2,rfl⟩:=h;exact⟨p1,p2,WideElems.Trod_stays laidOut (ht t (by simp)).1 (ht t (by simp)).2 h1 (fun x hx=>hb.same (z x (i x (by simp [hx])))) (fun x hx=>J x (i x (by simp [hx]))),
       ih vs es p2 (fun t' ht'=>ht t' (by simp [ht'])) (fun x hx=>i x (by simp [hx])) h2,rfl⟩
  exact go _ _ _ _ F (fun x hx=>hx) hA
 have u:∀ (b:Nat) (sp:Nat->Bool) (hd:Bool),DataW.TrodAll enc Tryz.prog W' b sp hd f.resultTypes.toList ((Value.bool true).resultList f.resultTypes.size) (s.fn H (ds ++ [])).results []:=by
  intro b sp hd;rw [hr,K];exact trodAll_mk1 ⟨1,by simp [DataW.trod,Value.cells,Tryz.underlying4]⟩
 have G:∀ p∈before,(fun b=>decide (b<W.heap.size)) p.block=true:=fun p hp=>by simpa using z p hp
 have j:∀ sp:Nat->Bool,DataW.TrodVars enc Tryz.prog W' sp s.vars (s.fn H (ds ++ [])).vars []:=by
  intro sp;rw [hv,I];exact rfl
 refine⟨ds, [],before, [],before, [],hW,u _ _ _,by rw [L];exact stay _ G,j _,World.keptBut_mono (fun p hp=>⟨hp,?_⟩) (hb.frame (·∈before)),fun _=>?_⟩
 ·exact Or.inr (by simpa using hp)
 ·refine⟨ok_one hr rfl (by simp [Value.okWide,Tryz.underlying4,Cell.okWide,Cell.ok]),_,_,([] ++ before) ++ [],⟨[] ++ before, [],trodAll_append (stay _ (fun _ _=>rfl)) (u _ _ _),j _,rfl,?_,?_⟩,?_⟩
  ·intro b off hp;have i:MemPlace.cell b off∈before:=by simpa using hp
   rw [hb.frozen (z _ i)];exact hz b off i
  ·intro ha;have:=hn ha;simpa using this
  ·intro p hp _;simpa using hp
end
abbrev Wf : List (String × DataW Unit) := [("unicode/utf8.acceptRanges", Rows.laid_unicode_utf8_acceptRanges), ("unicode/utf8.first", Rows.laid_unicode_utf8_first)]
noncomputable def Ko (os:Os):World:=
 let w0:=World.holding Tryz.prog os ⟨#[], #[], []⟩;let put (h:Array Obj) (g:Nat) (cs:Array Value):Array Obj:=h.modify g fun
  | .cells _ t frozen=> .cells cs t frozen
  | o=>o
 let h1:=put w0.heap 0 (Lib.firstTab.map fun z=>Value.int .u8 z).toArray;let h2:=put h1 1 ((List.range 16).flatMap fun i=> [Value.int .u8 (Lib.accLo i),Value.int .u8 (Lib.accHi i)]).toArray
 { w0 with heap:=h2 }
theorem We (os:Os) (args:Array Value):laidMetH Tryz.prog Wf ((Ko os).forCall (fun _ _=>0) ⟨#[],args, []⟩).memory:=by
 rw [MakeChecks.laidMetH_plain _ _ _ (by kernel_rfl)];exact(LaidIn.of_run (l:=Wf) [1,0] 8 (by kernel_rfl) (by kernel_rfl) (by kernel_rfl) (by kernel_rfl)).met
theorem first_data:Rows.laid_unicode_utf8_first=Lib.firstData:=by kernel_rfl
theorem accept_data:(Rows.laid_unicode_utf8_acceptRanges:DataW Unit)=Lib.acceptData:=by kernel_rfl
theorem TN {W:World} (h:laidMetH Tryz.prog Wf W):A.globOk W:=by
 rw [MakeChecks.laidMetH_plain _ _ _ (by kernel_rfl)] at h;have h1:=Lib.laidMet.reads h (.head _);have h2:=Lib.laidMet.reads h (.tail _ (.head _));rw [accept_data] at h1;rw [first_data] at h2;exact utf8Tabs_of_readsT (U8Types.of196 Tryz.laysValid) ⟨by kernel_rfl,by kernel_rfl,by kernel_rfl,by kernel_rfl,by kernel_rfl,by kernel_rfl,by kernel_rfl⟩ h2 h1
end
end Go.Proofs.YtpjkcgacjjbikaaGreatDoor
