/-
Several texts in one.
-/
import Derived.Test.YtkolckdakddggaaGreatDoorPPC3P4
import Derived.Test.YtkolckdakddggaaGreatDoorPPC3P3
import Derived.Test.YtkolckdakddggaaGreatDoorPPC3P2
set_option maxRecDepth 100000
set_option maxHeartbeats 8000000
set_option linter.unusedSimpArgs false
set_option linter.unusedVariables false
set_option linter.deprecated false
namespace Go.Proofs.YtkolckdakddggaaGreatDoor.A
section
open Go.RowKit
theorem Dy {L:List Int} {n:Nat} {es:List (List AV)} (hn:n=L.length) (he:es=L.map fun x=> [AV.v (.int .i64 x)]) (c:Ctx) (v:Value) (h:Rd (.sl 1 n fun i=>es.getD i []) c v):Rd (iA L) c v:=Ba (f:=fun x=> [AV.v (.int .i64 x)]) L hn he c v h
def FB (g:Geo) (s:Stt) (F:Int->List UInt8) (seq lba:Int) (b:List UInt8):List Img:=match Ex g s F (lba.tdiv g.d) with
 | some t=>Cf (lba.tdiv g.d) (Bx g t (Cx g s F t (lba.tdiv g.d)) [lba.tmod g.d] [b] seq) (DN g t (Cx g s F t (lba.tdiv g.d)) [lba.tmod g.d] [b] g.d.toNat) [lba.tmod g.d] [b]
 | none=> []
theorem SF {L L':List Img} {n:Nat} (e:L=L') (hn:n=L'.length) (c:Ctx) (v:Value) (h:Rd (.sl 3 n fun j=>((List.range L'.length).map fun i=>D9 (L'.getD i ⟨0,0, []⟩)).getD j []) c v):Rd (DH L) c v:=by
 subst e;refine zC hn (fun i hi=>?_) h;have:i<L.length:=by omega
 simp [this]
theorem SJ {g:Geo} {seq epoch:Int} {x:Img} (hg:Bq g=true) (h2:CK seq 0 4294967295=true) (h3:CK epoch 0 4294967295=true) (h7:B4 g x=true) {k n:Nat} (hk:k<n) (hn:n=3):EE g ⟨1,seq,epoch,(k:Nat),n+1,x⟩=true:=by
 simp only [EE,hg,EP,FA,h2,h3,h7,BF,BA];simp only [if_neg (show ¬(1:Int)=0 by omega),if_true,Ae,AI];omega
theorem SI {g:Geo} {seq epoch:Int} (hg:Bq g=true) (h2:CK seq 0 4294967295=true) (h3:CK epoch 0 4294967295=true) {n:Nat} (hn:n=3):EE g ⟨2,seq,epoch,(n:Nat),n+1,noImg⟩=true:=by
 subst hn;simp only [EE,hg,EP,FA,h2,h3,BF];simp only [if_neg (show ¬(2:Int)=0 by omega),if_neg (show ¬(2:Int)=1 by omega),if_true,Ae,AI,beq_iff_eq,G7,noImg];simp
@[reducible] def rwQ (g:Geo) (a:An) (l:List Tx) (x:Tx) (d:Dk):List AB:= [.box 95 (Zw g (.bp 1 0) (.ow 4 a.homes.length) (.ow 5 (l.length+1)) (AN a l) 0), .box 92 (Hr (.ow 2 d.cells.length) (.ow 6 d.cache.length) d.reqs d.left), .row 84 3 (d.cells.map BG), .dead, .row 53 3 (a.homes.map DU), .row 45 4 (l.map CI ++ [CI x]), .row 131 2 (d.cache.map EK)]
theorem Zx (g:Geo) (a:An) (l:List Tx) (x:Tx) (d:Dk):rwQ g a l x d=rwP g (AN a (l ++ [x])) 0 d:=by
 have e1:(AN a (l ++ [x])).txns.length=l.length+1:=by show (l ++ [x]).length=_;simp
 have e2:(AN a (l ++ [x])).txns.map CI=l.map CI ++ [CI x]:=by show (l ++ [x]).map CI=_;simp
 show _=rwP g (AN a (l ++ [x])) 0 d;unfold rwP;rw [e1,e2];rfl
def DD (g:Geo) (a:An) (l:List Tx) (F:Int->List UInt8) (lba:Int) (b:List UInt8):Tx:=⟨a.seq+(l.length:Int),(a.pos+Cp l).tmod g.sl,4,FB g (AN a l) F (a.seq+(l.length:Int)) lba b⟩
theorem in01:(0:Int)<=((0:Nat):Int)/\((0:Nat):Int)<((1:Nat):Int):=by decide
def aG (A:Int) (p:Bool):AV:=match p with
 | true=>iA [A]
 | false=> .v (.slice none 0 0)
def bw (b:List UInt8) (p:Bool):AV:=match p with
 | true=>EU [b]
 | false=> .v (.slice none 0 0)
def Zc (L:List Img) (p:Bool):AV:=match p with
 | true=>DH L
 | false=> .v (.slice none 0 0)
theorem RH (g:Geo) (a:An) (l:List Tx) (d:Dk) (F:Int->List UInt8) (K lba:Int) (b:List UInt8) (hg:Bq g=true) (hv:Vol g K d (AN a l)) (hK:K<=4294967294) (h:Gd (Aw g) d F) (hF:∀ a,(F a).length<=100000) (hlba:0<=lba/\lba<g.z*g.d) (hb:b.length=8) :
  ACalls Tryz.prog false 31 [.bp 0 0,iA [lba],EU [b]] (F7 g (AN a l) 0 d) fun r H=>(r = iv 0/\Cp l+4<=g.sl/\(Ex g (AN a l) F (lba.tdiv g.d)).isSome=true/\∃ d' W,Gd (Aw g) d' (GR F W)/\(∀ w∈W,(g.an<=w.addr/\w.addr<g.an+2*g.sl)/\w.bytes.length<=200)/\Vol g (K+1) d' (AN a (l ++ [DD g a l F lba b]))/\H=rwP g (AN a (l ++ [DD g a l F lba b])) 0 d')\/∃ e,e≠0/\r = iv e/\(g.sl<Cp l+4\/Ex g (AN a l) F (lba.tdiv g.d)=none)/\∃ d',H=F7 g (AN a l) 0 d':=by
 obtain⟨g1,g2,g3,g4,g5⟩:=Aq.1 hg;have hsm:=hv.sm hg;have ha:Bj g a=true:=hv.an;have hring:C4 g l a.seq a.pos g.sl=true:=hv.ring;have hl30:l.length<=30:=hsm.t.1;have hlb:LogB (AN a l).txns:=⟨by have:=hsm.t.1;omega,fun t ht=>⟨by have:=(hsm.t.2 t ht).1;omega,fun x hx=>by have:=(hsm.t.2 t ht).2 x hx;omega⟩⟩;have hun:=Ga l l.length;obtain⟨a1,a2,a3,a4⟩:=Er ha;have hseq:a.seq+l.length<=K:=hv.seq;obtain⟨Z,hZ⟩:∃ Z,Z=lba.tdiv g.d:=⟨_,rfl⟩;obtain⟨A,hA⟩:∃ A,A=lba.tmod g.d:=⟨_,rfl⟩;have hZ2:0<=Z/\Z<g.z:=by
  rw [hZ,Bb hlba.1];exact⟨CP hlba.1 (by omega),Cd (by omega) hlba.2⟩
 have hA2:0<=A/\A<g.d:=by
  rw [hA];exact⟨Bw _ hlba.1,Bh _ (by omega)⟩
 have hneed:=VV g lba hg hlba;have hused:=PJ l (by omega);have hnext:=VT g a l hg ha (by omega);have tsub:SubL [.sl 4 l.length fun i=>(l.map CI).getD i []] [Dh l]:=⟨Ba (f:=CI) l rfl rfl,tv⟩;have asub:∀ (c:Ctx) (v:Value),Rd (.ag (Nl a (.sl 3 a.homes.length fun i=>(a.homes.map DU).getD i []))) c v->Rd (.ag (Ew a)) c v:=Be ⟨ri,ri,ri,ri,ri,ri,Ba (f:=DU) a.homes rfl rfl,tv⟩;refine zT tys_ok Tryz.func31 rfl rfl (Ag rfl) ?_;conv=>whnf
 refine z_ hneed ?_;conv=>whnf
 apply zP tys_ok mixed (.o [0,1,2,3,4,5,6,7,8,9,10,11,12,13] .fin) [36,37,38,39,40,41,42,43,44,45,46,47,48,49] (by kernel_rfl)
 ·conv=>whnf
  (refine zp (args':= [.sl 4 l.length fun i=>(l.map CI).getD i []]) (hused.subA tsub) ⟨(Aa _).symm,rfl⟩ ?_;rintro _ rfl;refine⟨rfl,?_⟩)
  exact tA
 conv=>whnf
 conv=>whnf
 rw [wi (show -9223372036854775808<=g.sl - Cp l/\g.sl - Cp l<=9223372036854775807 by unfold Cp;omega)];by_cases hfull:(4:Int) > g.sl - Cp l
 ·rw [decide_eq_true hfull];exact⟨ze 21,ze 21,F7 g (AN a l) 0 d,fun _ _ h=>h,zR (s:= [0,1,2,3,4,5]) tA, .inr ⟨21,by decide,rfl, .inl (by omega),d,rfl⟩⟩
 rw [decide_eq_false hfull];conv=>whnf
 apply zP tys_ok mixed (.o [0,1,2,3,4,5,6,7,8,9,10,11,12,13,14,15,16,17,18,19] .fin) [8,9,50,51,52,53,54,55,56,57,58,59,60,61,62,63,64,65,66,67] (by kernel_rfl)
 ·conv=>whnf
  (refine zp (args':= [.ag (AT g), .ag (Nl a (.sl 3 a.homes.length fun i=>(a.homes.map DU).getD i [])), .sl 4 l.length fun i=>(l.map CI).getD i []]) (hnext.subA ⟨fun _ _ h=>h,asub,tsub⟩) ⟨(Aa _).symm,(Aa _).symm,rfl⟩ ?_;rintro _ rfl;refine⟨rfl,?_⟩)
  exact tA
 conv=>whnf
 conv=>whnf
 rw [decide_eq_false (show ¬a.seq+(l.length:Int) > 4294967295 by omega)];conv=>whnf
 obtain⟨S,hS⟩:∃ S,S=a.seq+(l.length:Int):=⟨_,rfl⟩;obtain⟨P,hP⟩:∃ P,P=(a.pos+Cp l).tmod g.sl:=⟨_,rfl⟩;rw [<-hS,<-hP];have hdiv:IntKind.i64.wrap (([lba].getD (((0:Nat):Int)).toNat 0).tdiv g.d)=Z:=by
  rw [hZ];exact wi (by have:=hZ2;rw [hZ] at this;show -9223372036854775808<=lba.tdiv g.d/\lba.tdiv g.d<=9223372036854775807;omega)
 have hadlen:∀ t,∀ x∈Cx g (AN a l) F t Z,x.length=0\/x.length=8:=fun t x hx=>by
  have himg:∀ t∈(AN a l).txns,∀ x∈t.images,B4 g x=true:=fun t ht=>Av.1 (Dx hring t ht).1
  rcases A5.1 hx with q | q
  ·obtain⟨i,hi,rfl⟩:=AP.1 q;exact Hb himg (by have:=AO.1 hi;omega)
  ·rw [Az] at q;rw [q];exact Hb himg (by decide)
 obtain⟨L,hL⟩:∃ L,L=FB g (AN a l) F S lba b:=⟨_,rfl⟩;refine zU (Nat × Dk × Bool) (fun x=>([(0, .bp 0 0),(1,iA [lba]),(2,EU [b]),(7,ze 4),(8,ze P),(9,ze S),(10,Zc L x.2.2),(11,ze (x.1:Nat))],F7 g (AN a l) 0 x.2.1)) (fun x=>(x.1:Int)<=g.z/\Gd (Aw g) x.2.1 F/\(x.2.2=true->(Ex g (AN a l) F Z).isSome=true)/\(x.2.2=true↔Z<(x.1:Int))) (fun x=>g.z.toNat - x.1) (0,d,false) ⟨by show ((0:Nat):Int)<=g.z;omega,h,fun q=>(by cases q),⟨fun q=>(by cases q),fun q=>absurd q (by show ¬Z<((0:Nat):Int);omega)⟩⟩
  (zR (s:= [0,1,2,3,4,5]) tA) ?_
 rintro⟨k,d1,p⟩ ⟨hk,hd1,hz1,hpz⟩;simp only at hk hd1 hz1 hpz;by_cases hkz:(k:Int)<g.z;rotate_left 1
 ·obtain rfl:p=true:=hpz.2 (by omega);obtain⟨t,hT⟩:=C6.1 (hz1 rfl);have htok:=Hw hT;have hL2:L=Cf Z (Bx g t (Cx g (AN a l) F t Z) [A] [b] S) (DN g t (Cx g (AN a l) F t Z) [A] [b] g.d.toNat) [A] [b]:=by
   rw [hL,FB,<-hZ,<-hA,hT]
  have h01:∀ x∈ [b],x.length=8:=fun x hx=>by rw [Az] at hx;rw [hx];exact hb
  have hL3:L.length=3:=by rw [hL2,Ff];rfl
  have hA3:∀ x∈ [A],0<=x/\x<g.d:=fun x hx=>by rw [Az] at hx;rw [hx];exact hA2
  have hLok:∀ x∈L,B4 g x=true:=fun x hx=>by
   rw [hL2] at hx;exact(MC hg hZ2 (FY hg htok (by omega)) (Fy (hadlen t) h01 (show [A].length<= [b].length from Ah 1) _) hA3 h01 (Ah 1) x hx).1
  have hL1:OneTab L:=by
   rw [hL2];exact Lt (l:= []) hg List.Pairwise.nil (fun x hx=>by cases hx) hA3
  have hep:0<=a.epoch/\a.epoch<=4294967295:=by
   have:=ha;simp only [Bj,Bc,BL,BA,Ae,decide_eq_true_eq,AI] at this;omega
  have hS1:CK S 0 4294967295=true:=AI.2 (by omega);have hLb:∀ x∈L,x.bytes.length<=45:=fun x hx=>EM hg (hLok x hx)
  have hrec:=RC S a.epoch L (by omega) fun x hx=>by have:=hLb x hx;omega
  obtain⟨R,hR⟩:∃ R,R=EY S a.epoch L:=⟨_,rfl⟩;have hRl:R.length=4:=by rw [hR,H0,hL3]
  have hRok:∀ k:Nat,k<4->EE g (R.getD (k:Int).toNat rc0)=true:=fun k hk=>by
   rw [Ac,hR,NI _ _ _ (by omega)];split
   ·rename_i q;exact SJ hg hS1 (AI.2 hep) (hLok _ (A7 (d:=⟨0,0, []⟩) q)) q hL3
   ·rw [show k=L.length by omega];exact SI hg hS1 (AI.2 hep) hL3
  rw [<-hR] at hrec;conv=>whnf
  rw [decide_eq_false hkz];conv=>whnf
  refine z_ hrec ?_;conv=>whnf
  refine zU (Nat × Dk × List Wr) (fun x=>([(0, .bp 0 0),(1,iA [lba]),(2,EU [b]),(7,ze 4),(8,ze P),(9,ze S),(10,DH L),(19,Mo R),(20,ze (x.1:Nat))],F7 g (AN a l) 0 x.2.1)) (fun x=>x.1<=4/\Gw (Aw g) x.2.1 F x.2.2/\x.2.2.length=2*x.1/\∀ w∈x.2.2,(g.an<=w.addr/\w.addr<g.an+2*g.sl)/\w.bytes.length<=200) (fun x=>4 - x.1) (0,d1, []) ⟨by show 0<=4;omega,hd1,rfl,fun w hw=>by cases hw⟩
   (zR (s:= [0,1,2,3,4,5]) tA) ?_
  rintro⟨i,d2,W⟩ ⟨hi,hW,hWl,hWb⟩;simp only at hi hW hWl hWb;conv=>whnf
  refine A8 (fun h6=>?_) (fun h6=>?_) <;> (repeat rw [Ac] at h6) <;> conv=>whnf
  ·have hi4:i<4:=by omega
   obtain⟨Q,hQ⟩:∃ Q,Q=DZ g P (i:Nat):=⟨_,rfl⟩;have hQ2:=JI hg (pos:=P) (at_:=(i:Nat)) (by rw [hP];exact⟨Bw _ (by unfold Cp;omega),Bh _ (by omega)⟩) (by omega);rw [<-hQ] at hQ2;repeat' (refine zY ?_;conv=>whnf)
   refine⟨by omega,?_⟩;conv=>whnf
   rw [show (IntKind.i64.wrap (P+(i:Nat))).tmod g.sl=Q from hQ.symm];have hl0:=Du g 0 Q hg (Jt (.inl rfl) hQ2);have hl1:=Du g 1 Q hg (Jt (.inr rfl) hQ2);obtain⟨X,hX⟩:∃ X,X=R.getD (i:Int).toNat rc0:=⟨_,rfl⟩;have hXok:EE g X=true:=by rw [hX];exact hRok i hi4
   have hc0:=Gq g X 0 Q hXok (Jt (.inl rfl) hQ2);have hc1:=Gq g X 1 Q hXok (Jt (.inr rfl) hQ2);have hcl:=h.len;have b0:=F0 hg h.len (.inl rfl) hQ2 (c:=0);have b1:=F0 hg h.len (.inr rfl) hQ2 (c:=1);have hw0:=ah g (AN a l) (Aw g) d2 F W (By g 0 Q) (Ca g X 0 Q) hW (by omega) (by omega) (Cg hXok 0 Q);rw [hX] at hc0 hc1;apply zV (2 ^ 145) tys_ok mixed (.o [0,1,2,3,4,5,7,8,9,10,11,12,13,14,15,6,16,17,18] .fin) (by kernel_rfl);conv=>whnf
   try (refine tI ?_;conv=>whnf)
   refine z_ hl0 ?_;conv=>whnf
   refine z_ hc0 ?_;conv=>whnf
   (rw [<-hX];refine ze9 [0,1,2,3,4,5] hw0 ?_;rintro _ _ ⟨rfl,d3,hd3,rfl⟩)
   conv=>whnf
   have c0:=I0 (g:=g) (.inl rfl) hQ2 (c:=0);have c1:=I0 (g:=g) (.inr rfl) hQ2 (c:=1);have hW2:∀ w∈(W ++ [⟨By g 0 Q,Ca g X 0 Q⟩]) ++ [⟨By g 1 Q,Ca g X 1 Q⟩],(g.an<=w.addr/\w.addr<g.an+2*g.sl)/\w.bytes.length<=200:=fun w hw=>by
    rcases A5.1 hw with q | q
    ·rcases A5.1 q with q | q
     ·exact hWb w q
     ·rw [Az] at q;rw [q];exact⟨c0,Cg hXok 0 Q⟩
    ·rw [Az] at q;rw [q];exact⟨c1,Cg hXok 1 Q⟩
   have hw1:=ah g (AN a l) (Aw g) d3 F (W ++ [⟨By g 0 Q,Ca g X 0 Q⟩]) (By g 1 Q) (Ca g X 1 Q) hd3 (by simp;omega) (by omega) (Cg hXok 1 Q);apply zV (2 ^ 145) tys_ok mixed (.o [0,1,2,3,4,5,7,8,9,10,11,12,13,14,15,6,16,17,18] .fin) (by kernel_rfl);conv=>whnf
   try (refine tI ?_;conv=>whnf)
   refine z_ hl1 ?_;conv=>whnf
   refine z_ hc1 ?_;conv=>whnf
   (rw [<-hX];refine ze9 [0,1,2,3,4,5] hw1 ?_;rintro _ _ ⟨rfl,d4,hd4,rfl⟩)
   conv=>whnf
   conv=>whnf
   exact⟨(i+1,d4,(W ++ [⟨By g 0 Q,Ca g X 0 Q⟩]) ++ [⟨By g 1 Q,Ca g X 1 Q⟩]),⟨by show i+1<=4;omega,hd4,by show ((W ++ [_]) ++ [_]).length=2*(i+1);simp;omega,hW2⟩,by show 4 - (i+1)<4 - i;omega,zR (s:= [0,1,2,3,4,5]) ⟨⟨rfl,rfl,rfl,rfl,rfl,rfl,rfl,rfl,AL (by omega),tv⟩,tA,rfl,rfl,rfl,rfl,rfl⟩⟩
  ·have hfl:=bu g (AN a l) (Aw g) d2 F W hW;refine ze9 [0,1,2,3,4,5] hfl ?_;rintro _ _ ⟨rfl,d3,hd3,rfl⟩;refine⟨rfl,?_⟩;conv=>whnf
   refine Ad ⟨(Aa _).symm,by show l.length+1<=1000000000;omega⟩ ?_;conv=>whnf
   refine zU Nat (fun i=>([(0, .bp 0 0),(1,iA [lba]),(24,ze (i:Nat))],rwQ g a l ⟨S,P,4,L⟩ d3)) (fun i=>i<=1) (fun i=>1 - i) 0 (by omega)
    (zR (s:= [0,1,2,3,4,5,6]) tA) ?_
   intro i hi;conv=>whnf
   refine A8 (fun h7=>?_) (fun h7=>?_) <;> (repeat rw [Ac] at h7) <;> conv=>whnf
   ·have h7:i<1:=h7;obtain rfl:i=0:=by omega
    repeat' (refine zY ?_;conv=>whnf)
    apply zV (0) tys_ok mixed (.o [0,1,2,3,4,5,6,7,8,9,10,11,12,13,14,15,16] .fin) (by kernel_rfl);conv=>whnf
    try (refine tI ?_;conv=>whnf)
    (refine z_ (OH _) ?_)
    conv=>whnf
    try (refine tS ?_;conv=>whnf)
    all_goals
     exact⟨1,by omega,by omega,zR (s:= [0,1,2,3,4,5,6]) tA⟩
   ·conv=>whnf
    have hcm:DD g a l F lba b=⟨S,P,4,L⟩:=by rw [hL,hS,hP];rfl
    have hv2:=hv.add hg hK (d':=d3) ⟨_,hd3⟩ (x:=⟨S,P,4,L⟩) hS hP (by show (2:Int)<=4;omega) (by show (4:Int)<=g.sl - Cp l;omega) (by show (4:Int)=(L.length:Int)+1;omega) hLok hL1;exact⟨ze 0,ze 0,rwQ g a l ⟨S,P,4,L⟩ d3,fun _ _ h=>h,zR (s:= [0,1,2,3,4,5,6]) tA, .inl ⟨rfl,by omega,by rw [<-hZ,hT];rfl,d3,W,hd3,hWb,by rw [hcm];exact hv2,by rw [hcm];exact Zx g a l _ d3⟩⟩
 by_cases he:(k:Int)=Z;rotate_left 1
 ·cases p with
  | false=>
   conv=>whnf
   rw [decide_eq_true hkz];conv=>whnf
   refine zU Nat (fun i=>([(0, .bp 0 0),(1,iA [lba]),(2,EU [b]),(7,ze 4),(8,ze P),(9,ze S),(10, .v (.slice none 0 0)),(11,ze (k:Nat)),(12, .v (.slice none 0 0)),(13, .v (.slice none 0 0)),(14,ze (i:Nat))],F7 g (AN a l) 0 d1)) (fun i=>i<=1) (fun i=>1 - i) 0 (by omega)
    (zR (s:= [0,1,2,3,4,5]) tA) ?_
   intro i hi;conv=>whnf
   refine A8 (fun h6=>?_) (fun h6=>?_) <;> (repeat rw [Ac] at h6) <;> conv=>whnf
   ·have h6:i<1:=h6;obtain rfl:i=0:=by omega
    repeat' (refine zY ?_;conv=>whnf)
    refine z7 tys_ok mixed [0,1,2,3,4,5,6,7,8,9,10,11] (by kernel_rfl) ?_;refine⟨in01,?_⟩;refine⟨by omega,?_⟩;conv=>whnf
    rw [hdiv,show (Z == (k:Int))=false from beq_eq_false_iff_ne.2 fun q=>he q.symm];exact⟨1,by omega,by omega,zR (s:= [0,1,2,3,4,5]) tA⟩
   ·have h6:1<=i:=h6;conv=>whnf
    exact⟨(k+1,d1,false),⟨by show ((k+1:Nat):Int)<=g.z;omega,hd1,hz1,⟨fun q=>by have:=hpz.1 q;show Z<((k+1:Nat):Int);omega,fun q=>hpz.2 (by have:Z<((k+1:Nat):Int):=q;omega)⟩⟩,by show g.z.toNat - (k+1)<g.z.toNat - k;omega,zR (s:= [0,1,2,3,4,5]) ⟨⟨rfl,rfl,rfl,rfl,rfl,rfl,rfl,AL (by omega),tv⟩,tA,rfl,rfl,rfl,rfl,rfl⟩⟩
  | true=>
   conv=>whnf
   rw [decide_eq_true hkz];conv=>whnf
   refine zU Nat (fun i=>([(0, .bp 0 0),(1,iA [lba]),(2,EU [b]),(7,ze 4),(8,ze P),(9,ze S),(10,DH L),(11,ze (k:Nat)),(12, .v (.slice none 0 0)),(13, .v (.slice none 0 0)),(14,ze (i:Nat))],F7 g (AN a l) 0 d1)) (fun i=>i<=1) (fun i=>1 - i) 0 (by omega)
    (zR (s:= [0,1,2,3,4,5]) tA) ?_
   intro i hi;conv=>whnf
   refine A8 (fun h6=>?_) (fun h6=>?_) <;> (repeat rw [Ac] at h6) <;> conv=>whnf
   ·have h6:i<1:=h6;obtain rfl:i=0:=by omega
    repeat' (refine zY ?_;conv=>whnf)
    refine z7 tys_ok mixed [0,1,2,3,4,5,6,7,8,9,10,11] (by kernel_rfl) ?_;refine⟨in01,?_⟩;refine⟨by omega,?_⟩;conv=>whnf
    rw [hdiv,show (Z == (k:Int))=false from beq_eq_false_iff_ne.2 fun q=>he q.symm];exact⟨1,by omega,by omega,zR (s:= [0,1,2,3,4,5]) tA⟩
   ·have h6:1<=i:=h6;conv=>whnf
    exact⟨(k+1,d1,true),⟨by show ((k+1:Nat):Int)<=g.z;omega,hd1,hz1,⟨fun q=>by have:=hpz.1 q;show Z<((k+1:Nat):Int);omega,fun q=>hpz.2 (by have:Z<((k+1:Nat):Int):=q;omega)⟩⟩,by show g.z.toNat - (k+1)<g.z.toNat - k;omega,zR (s:= [0,1,2,3,4,5]) ⟨⟨rfl,rfl,rfl,rfl,rfl,rfl,rfl,AL (by omega),tv⟩,tA,rfl,rfl,rfl,rfl,rfl⟩⟩
 obtain rfl:p=false:=by
  cases p with
  | false=>rfl
  | true=>exact absurd (hpz.1 rfl) (by omega)
 conv=>whnf
 rw [decide_eq_true hkz];conv=>whnf
 refine zU (Nat × Bool) (fun i=>([(0, .bp 0 0),(1,iA [lba]),(2,EU [b]),(7,ze 4),(8,ze P),(9,ze S),(10, .v (.slice none 0 0)),(11,ze (k:Nat)),(12,aG A i.2),(13,bw b i.2),(14,ze (i.1:Nat))],F7 g (AN a l) 0 d1)) (fun i=>i.1<=1/\(i.2=true↔i.1=1)) (fun i=>1 - i.1) (0,false) ⟨by show 0<=1;omega,by decide⟩
  (zR (s:= [0,1,2,3,4,5]) tA) ?_
 rintro⟨i,q⟩ ⟨hi,hq⟩;simp only at hi hq;by_cases hi1:i=1;rotate_left 1
 ·obtain rfl:i=0:=by omega
  obtain rfl:q=false:=by
   cases q with
   | false=>rfl
   | true=>exact absurd (hq.1 rfl) (by decide)
  conv=>whnf
  repeat' (refine zY ?_;conv=>whnf)
  refine z7 tys_ok mixed [0,1,2,3,4,5,6,7,8,9,10,11] (by kernel_rfl) ?_;refine⟨in01,?_⟩;refine⟨by omega,?_⟩;conv=>whnf
  rw [hdiv,show (Z == (k:Int))=true from beq_iff_eq.2 he.symm];conv=>whnf
  apply zV (131072) tys_ok mixed (.o [0,1,2,3,4,5,6,7,8,9,10,13,14,15,16] (.two 11 (.two 12 (.o [17,18,19,20,21] .fin) 17 (.two 12 (.o [18,19,20,21] .fin) 18 (.o [12,19,20,21] .fin))) 17 (.two 11 (.two 12 (.o [18,19,20,21] .fin) 18 (.o [12,19,20,21] .fin)) 18 (.o [11,12,19,20,21] .fin)))) (by kernel_rfl);conv=>whnf
  try (refine tI ?_;conv=>whnf)
  try (refine tI ?_;conv=>whnf)
  try (refine tI ?_;conv=>whnf)
  refine Ad ?_ ?_;refine Ad ?_ ?_;conv=>whnf
  try (refine tJ ?_;conv=>whnf)
  try (refine tK ?_;conv=>whnf)
  try (refine tJ ?_;conv=>whnf)
  try (refine tK ?_;conv=>whnf)
  rotate_left 1;refine Ad ?_ ?_;conv=>whnf
  try (refine tJ ?_;conv=>whnf)
  try (refine tK ?_;conv=>whnf)
  try (refine tJ ?_;conv=>whnf)
  try (refine tK ?_;conv=>whnf)
  rotate_left 1;conv=>whnf
  try (refine tJ ?_;conv=>whnf)
  try (refine tK ?_;conv=>whnf)
  try (refine tJ ?_;conv=>whnf)
  try (refine tK ?_;conv=>whnf)
  rotate_left 1;refine Ad ?_ ?_;refine Ad ?_ ?_;conv=>whnf
  try (refine tJ ?_;conv=>whnf)
  try (refine tK ?_;conv=>whnf)
  try (refine tJ ?_;conv=>whnf)
  try (refine tK ?_;conv=>whnf)
  rotate_left 1;conv=>whnf
  try (refine tJ ?_;conv=>whnf)
  try (refine tK ?_;conv=>whnf)
  try (refine tJ ?_;conv=>whnf)
  try (refine tK ?_;conv=>whnf)
  rotate_left 1;conv=>whnf
  try (refine tJ ?_;conv=>whnf)
  try (refine tK ?_;conv=>whnf)
  try (refine tJ ?_;conv=>whnf)
  try (refine tK ?_;conv=>whnf)
  rotate_left 1;all_goals
   conv=>whnf
   first
   | exact⟨(1,true),⟨by show 1<=1;omega,by decide⟩,by show 1 - 1<1 - 0;omega,zI (zQ (zN 12 7 rfl rfl) (zQ (zL 12 rfl (Dy (L:= [A]) rfl (by rw [hA];rfl))) (zQ (zN 13 9 rfl rfl) (zL 13 rfl (DQ (L:= [b]) rfl rfl))))) (s:= [0,1,2,3,4,5]) tA⟩
   | exact⟨(1,true),⟨by show 1<=1;omega,by decide⟩,by show 1 - 1<1 - 0;omega,zI (zQ (zN 12 8 rfl rfl) (zQ (zL 12 rfl (Dy (L:= [A]) rfl (by rw [hA];rfl))) (zQ (zN 13 9 rfl rfl) (zL 13 rfl (DQ (L:= [b]) rfl rfl))))) (s:= [0,1,2,3,4,5]) tA⟩
   | exact⟨(1,true),⟨by show 1<=1;omega,by decide⟩,by show 1 - 1<1 - 0;omega,zI (zQ (zN 12 9 rfl rfl) (zQ (zL 12 rfl (Dy (L:= [A]) rfl (by rw [hA];rfl))) (zQ (zN 13 7 rfl rfl) (zL 13 rfl (DQ (L:= [b]) rfl rfl))))) (s:= [0,1,2,3,4,5]) tA⟩
   | exact⟨(1,true),⟨by show 1<=1;omega,by decide⟩,by show 1 - 1<1 - 0;omega,zI (zQ (zN 12 9 rfl rfl) (zQ (zL 12 rfl (Dy (L:= [A]) rfl (by rw [hA];rfl))) (zQ (zN 13 8 rfl rfl) (zL 13 rfl (DQ (L:= [b]) rfl rfl))))) (s:= [0,1,2,3,4,5]) tA⟩
   | exact⟨(1,true),⟨by show 1<=1;omega,by decide⟩,by show 1 - 1<1 - 0;omega,zI (zQ (zN 12 7 rfl rfl) (zQ (zL 12 rfl (Dy (L:= [A]) rfl (by rw [hA];rfl))) (zQ (zN 13 8 rfl rfl) (zL 13 rfl (DQ (L:= [b]) rfl rfl))))) (s:= [0,1,2,3,4,5]) tA⟩
   | exact⟨(1,true),⟨by show 1<=1;omega,by decide⟩,by show 1 - 1<1 - 0;omega,zI (zQ (zN 12 8 rfl rfl) (zQ (zL 12 rfl (Dy (L:= [A]) rfl (by rw [hA];rfl))) (zQ (zN 13 7 rfl rfl) (zL 13 rfl (DQ (L:= [b]) rfl rfl))))) (s:= [0,1,2,3,4,5]) tA⟩
   | fail
 subst hi1;obtain rfl:q=true:=hq.2 rfl;have hgat:=R7 g (AN a l) d1 F (k:Nat) hg hlb ha hd1 hF ⟨by omega,hkz⟩;conv=>whnf
 repeat' (refine zY ?_;conv=>whnf)
 rw [he] at hgat |-
 cases hT:Ex g (AN a l) F Z with
 | none=>
  rw [hT] at hgat;refine ze9 [0,1,2,3,4,5] hgat ?_;rintro _ _ ⟨rfl,d2,hd2,rfl⟩;exact⟨ze 14,ze 14,F7 g (AN a l) 0 d2,fun _ _ h=>h,zR (s:= [0,1,2,3,4,5]) tA, .inr ⟨14,by decide,rfl, .inr (by rw [<-hZ,hT]),d2,rfl⟩⟩
 | some t=>
  rw [hT] at hgat;refine ze9 [0,1,2,3,4,5] hgat ?_;rintro _ _ ⟨rfl,d2,hd2,rfl⟩;have htok:=Hw hT;have hL2:L=Cf Z (Bx g t (Cx g (AN a l) F t Z) [A] [b] S) (DN g t (Cx g (AN a l) F t Z) [A] [b] g.d.toNat) [A] [b]:=by
   rw [hL,FB,<-hZ,<-hA,hT]
  have h01:∀ x∈ [b],x.length=8:=fun x hx=>by rw [Az] at hx;rw [hx];exact hb
  have hwr:=PI g t (Cx g (AN a l) F t Z) [A] [b] S hg htok (by simp [Cx,J0];omega) (hadlen t) rfl h01 (by show 1<=1000;omega);have him:=R5 g Z (Bx g t (Cx g (AN a l) F t Z) [A] [b] S) (DN g t (Cx g (AN a l) F t Z) [A] [b] g.d.toNat) A b hg (FY hg htok (by omega)) (Fy (hadlen t) h01 (show [A].length<= [b].length from Ah 1) _) hb;conv=>whnf
  apply zV (0) tys_ok mixed (.o [0,1,2,3,4,5,6,7,8,9,10,11,12,13,14] .fin) (by kernel_rfl);conv=>whnf
  refine z_ hwr ?_;conv=>whnf
  try (refine tS ?_;conv=>whnf)
  all_goals
   conv=>whnf
   refine z_ him ?_;conv=>whnf
   refine Ad (by rw [Ff];show 1+2<=1000000000;omega) ?_;conv=>whnf
   exact⟨(k+1,d2,true),⟨by show ((k+1:Nat):Int)<=g.z;omega,hd2,fun _=>rfl,⟨fun _=>by show Z<((k+1:Nat):Int);omega,fun _=>rfl⟩⟩,by show g.z.toNat - (k+1)<g.z.toNat - k;omega,zI (zQ (zN 10 7 (congrArg (AV.ow 7) (by rw [Aa,CM])) rfl) (zL 10 rfl (SF hL2 (by rw [Aa,CM])))) (s:= [0,1,2,3,4,5]) ⟨⟨rfl,rfl,rfl,rfl,rfl,rfl,rfl,by rw [<-he];exact AL (by omega),tv⟩,tA,rfl,rfl,rfl,rfl,rfl⟩⟩
def flatY:AV->Bool
 | .v _=>true
 | .top=>true
 | _=>false
def flatP:AV->Bool
 | .v _=>true
 | .ow _ _=>true
 | .sl _ 0 _=>true
 | _=>false
def flatQ:AV->Bool
 | .v _=>true
 | .ow _ _=>true
 | .ag l=>l.all flatP
 | _=>false
def flatS:List AB->Bool
 | []=>true
 | .row _ _ es::r=>es.flatten.all flatY&&flatS r
 | _::_=>false
theorem QC {c c':Ctx}:∀ {l:List AV} {us:List Value},l.all flatY=true->RdL l c us->RdL l c' us
 | [],us,_,h=>by simpa only [RdL] using h
 | x::l,us,hf,h=>by
  rw [Bc,Ae] at hf;simp only [RdL] at h |-
  obtain⟨u,vs,rfl,h1,h2⟩:=h;refine⟨u,vs,rfl,?_,QC hf.2 h2⟩;cases x <;> simp [flatY] at hf
  ·simp only [Rd]
  ·simpa only [Rd] using h1
theorem MO {c c':Ctx} (hr:c'.rho=c.rho) (hl:c'.len=c.len) (hd:c'.dom=c.dom) {x:AV} (hx:flatP x=true) {u:Value} (h:Rd x c u):Rd x c' u:=by
 cases x with
 | v y=>simpa only [Rd] using h
 | ow k n=>
  simp only [Rd] at h |-
  rw [hr,hl,hd];exact h
 | sl sz n get=>
  cases n with
  | zero=>
   simp only [Rd] at h |-
   obtain⟨a,k,h1,h2,h3, -⟩:=h;exact⟨a,k,h1,h2,h3, .inl trivial⟩
  | succ n=>cases hx
 | _=>simp [flatP] at hx
theorem W_ {c c':Ctx} (hr:c'.rho=c.rho) (hl:c'.len=c.len) (hd:c'.dom=c.dom) {x:AV} (hx:flatQ x=true) {u:Value} (h:Rd x c u):Rd x c' u:=by
 cases x with
 | v y=>exact MO hr hl hd rfl h
 | ow k n=>exact MO hr hl hd rfl h
 | ag l=>
  simp only [Rd] at h |-
  obtain⟨xs,rfl,hxs⟩:=h;refine⟨xs,rfl,?_⟩;simp only [flatQ] at hx;induction l generalizing xs with
  | nil=>simpa only [RdL] using hxs
  | cons y l ih=>
   rw [Bc,Ae] at hx;simp only [RdL] at hxs |-
   obtain⟨u,us,rfl,h1,h2⟩:=hxs;exact⟨u,us,rfl,MO hr hl hd hx.1 h1,ih hx.2 us h2⟩
 | _=>simp [flatQ] at hx
theorem flatS_mem:∀ {R:List AB} {y:AB},flatS R=true->y∈R->∃ t sz es,y = .row t sz es/\es.flatten.all flatY=true
 | .row t sz es::r,y,h,hy=>by
  rw [flatS,Ae] at h;rcases AU.1 hy with rfl | hy
  ·exact⟨t,sz,es,rfl,h.1⟩
  ·exact flatS_mem h.2 hy
theorem ACalls.fnO {P:Program} {q:Bool} {f:FuncId} {args:List AV} {K:AV->List AB->Prop} (h:ACalls P q f args [] K) (hK:∀ r R,K r R->∀ y∈R,∃ t sz es,y = .row t sz es):FnO P f args K:=by
 refine⟨h.go,fun c0 us hg hd hM hr=>?_⟩;let ce:Ctx:={ c0 with base:=0 };have hce:Ext c0 ce:=⟨rfl,rfl,rfl,Ah _,fun _ _ h=>⟨h,rfl⟩,Ah _,fun _ _=>Ah _,fun _ _ _=>rfl,fun _ _ _ h=>h⟩;have hHS:HS (Fl.all c0.w hg) c0.M ce []:=⟨zi _ hg,rfl,hd,fun _ _=>Iff.rfl,hM,by simp,by simp,by simp⟩;refine(h.calls (Fl.all c0.w hg) c0.M ce us hHS (RdL.ext _ hce hr)).mono ?_;rintro e w' ⟨v,c',r,H',rfl,q1,q2,q3,q4,q5, -⟩;exact⟨v,r,c',H',rfl,q2,q1,q3,q5,hK r H' q2⟩
theorem FnO.lendC {P:Program} {f:FuncId} {args args':List AV} {H:List AB} {K:AV->List AB->Prop} {q:Bool} {k:AV->List AB->Prop} (h:FnO P f args' K) (hs:sealA args H fun a _=>a=args') (hk:∀ r R,K r R->∃ R',ConvH R R'/\(flatQ r=true/\flatS R'=true)/\appK H R' 0 fun d H=>DC (r.shift d) fun r=>k r H):ACalls P q f args H k:=by
 refine⟨h.go,fun w0 M0 c us hs0 hr=>?_⟩;obtain⟨l',H',c',rfl,h2,h3,h4,h5,_⟩:=sealA_sound hs0 hr hs;have hglob:globOk c'.closed.w:=h3.glob;have hc:=h.calls c'.closed us hglob rfl h3.lt h5;have ew:c'.closed.w=c.w:=h2
 suffices hh:Calls P f us.toArray c'.closed.w fun e w'=>∃ v c1 r H1,e = .returned v/\c1.w=w'/\k r H1/\HS w0 M0 c1 H1/\Ext c c1/\Rd r c1 v/\(q=true->Old c.w w') by
  rw [ew] at hh;exact hh
 refine hc.mono ?_;rintro e w' ⟨v,r,c1,R1,rfl,q1,rfl,q21,q31, -⟩;obtain⟨R,hconv,⟨f1,f2⟩,hkk⟩:=hk r R1 q1;obtain⟨c2,ew2,q2,x2⟩:=hconv _ _ _ q21;have q3:Rd r c2 v:=Rd.ext _ x2 q31;have q4:∀ y∈R,∃ t sz es,y = .row t sz es:=fun y hy=>by
  obtain⟨t,sz,es,e, -⟩:=flatS_mem f2 hy;exact⟨t,sz,es,e⟩
 -- the same memory;what the caller holds is not read
 obtain⟨c3,e3⟩:∃ c3:Ctx,c3={ c2 with M:=fun b=>c2.M b\/c.M b }:=⟨_,rfl⟩;have hsub:∀ b,b<c.w.heap.size->c'.M b->c.M b:=fun b hb hm=>by
  by_cases hx:c.M b
  ·exact hx
  ·exact absurd hm (h4.keep b hb hx).1
 have hlow:=q2.low;have q2':HS (Fl.all c.w hs0.glob) c.M c3 R:=by
  subst e3;refine⟨⟨?_,?_,?_,?_,?_⟩,q2.base,q2.dom,fun b hb=>?_,fun b hb=>?_,fun i y hi=>?_,fun i y g hi hl ho=>?_,q2.dis⟩
  ·have:=hlow.os;rw [show (Fl.all c'.closed.w hglob).w=c.w from ew] at this;exact this
  ·have:=hlow.tape;rw [show (Fl.all c'.closed.w hglob).w=c.w from ew] at this;exact this
  ·have:=hlow.output;rw [show (Fl.all c'.closed.w hglob).w=c.w from ew] at this;exact this
  ·have:=hlow.size;rw [show (Fl.all c'.closed.w hglob).w=c.w from ew] at this;exact this
  ·intro b hb;have:=hlow.block b (by show b<c'.closed.w.heap.size;rw [ew];exact hb);rw [show (Fl.all c'.closed.w hglob).w=c.w from ew] at this;exact this
  ·have hb':b<c.w.heap.size:=hb;have:=q2.foreign b (by show b<c'.closed.w.heap.size;rw [ew];exact hb');exact⟨fun hx=>hx.elim (fun hx=>hsub b hb' (this.1 hx)) (fun hx=>hx),fun hx=> .inr hx⟩
  ·have hsz:c.w.heap.size<=c2.w.heap.size:=by
    have:=hlow.size;rw [show (Fl.all c'.closed.w hglob).w=c.w from ew] at this;exact this
   rcases hb with hb | hb
   ·exact q2.lt b hb
   ·exact At (hs0.lt b hb) hsz
  ·obtain⟨t,sz,es,rfl,hfl⟩:=flatS_mem f2 (DM hi);obtain⟨a1,a2,a3,xs,a4,a5,a6⟩:=q2.blk i _ hi;exact⟨a1,a2,a3,xs,a4,QC hfl a5,a6⟩
  ·have:=q2.own i y g hi hl ho;refine⟨.inl this.1,fun hx=>this.2 ?_⟩;show g<c'.closed.w.heap.size;rw [ew];exact hx
 have q3':Rd r c3 v:=W_ (by rw [e3]) (by rw [e3]) (by rw [e3]) f1 q3;have q5:c3.w=c2.w:=by rw [e3]
 obtain⟨p1,p2⟩:=hs0.beside (c':=c3) q2' q4;have h1:=BW (appK_iff hkk);rw [A4,<-hs0.dom] at h1;exact⟨v,c.beside c3,_,_,rfl,by show c3.w=_;rw [q5,ew2],h1,p1,p2,Rd.shift r q3',fun _=>by have:=q2'.low.below.old;rw [q5,ew2] at this;exact this⟩
theorem Oi (n:Nat) (l:List AV) (h:l.all flatY=true):(List.replicate n l).flatten.all flatY=true:=by
 induction n with
 | zero=>rfl
 | succ n ih=>rw [Dp,AM,Dn,h,ih];rfl
theorem SubL.tops:∀ (l:List AV),SubL l (List.replicate l.length .top)
 | []=>trivial
 | x::l=>⟨fun _ _ _=>by simp [Rd],SubL.tops l⟩
theorem ACalls.lendBox2 {P:Program} {q:Bool} {f:FuncId} {x:AV} {H:List AB} {K:AV->List AB->Prop} (j k:Nat) {t t':TypeId} {sz':Nat} {ar ar2 cs cs2:List AV} {es':List (List AV)} (hj:H[j]? = some (.box t cs)) (hk:H[k]? = some (.row t' sz' es'))
  (he:cs.map (AV.slIn k es'.length (.sl sz' es'.length fun i=>es'.getD i []))=cs2) (ha:ar.map (AV.slIn k es'.length (.sl sz' es'.length fun i=>es'.getD i []))=ar2) (hc:ACalls P q f [x, .ag ar2] ((H.set k .dead).set j (.box t cs2)) K):ACalls P q f [x, .ag ar] H K:=by
 refine⟨hc.go,fun w0 M0 c us hs hr=>?_⟩;subst he;subst ha;have hjk:j≠k:=by rintro rfl;rw [hj] at hk;cases hk
 obtain⟨c1,e1,s1,x1,r1⟩:=hs.freeze hk;have hj1:(H.set k .dead)[j]? = some (.box t cs):=by rw [AA (Ne.symm hjk)];exact hj
 have h8:∀ (l:List AV) (us:List Value),RdL l c us->RdL (l.map (AV.slIn k es'.length (.sl sz' es'.length fun i=>es'.getD i []))) c1 us:=by
  intro l;induction l with
  | nil=>intro us h;simp only [RdL] at h;subst h;simp [RdL]
  | cons x l ih=>
   intro us h;simp only [RdL] at h;obtain⟨u,vs,rfl,a1,a2⟩:=h;simp only [A0,RdL];refine⟨u,vs,rfl,?_,ih vs a2⟩;unfold AV.slIn;split
   ·rename_i i n;split
    ·rename_i hik;subst hik;split
     ·grind
     ·simp [Rd]
    ·exact Rd.ext _ x1 a1
   ·exact Rd.ext _ x1 a1
 have s2:HS w0 M0 c1 ((H.set k .dead).set j (.box t (cs.map (AV.slIn k es'.length (.sl sz' es'.length fun i=>es'.getD i []))))):=by
  refine s1.recell hj1 rfl ?_;rintro⟨g,xs,h1,h2,_,h4⟩;obtain⟨g0,ys,q1,q2,q3,_⟩:=hs.blk j _ hj;have hg:=x1.box j _ (hs.klt hj) q1;rw [h1] at hg;injection hg with hg
  injection hg with hg
  injection hg with hg
  subst hg;rw [e1,q2] at h2;injection h2 with h2
  have hxy:ys.toArray=xs.toArray:=by injection h2
  have hxy:ys=xs:=by simpa using hxy
  subst hxy;exact⟨g,ys,h1,by rw [e1];exact q2,h8 _ _ q3,h4⟩
 have hr2:RdL [x, .ag (ar.map (AV.slIn k es'.length (.sl sz' es'.length fun i=>es'.getD i [])))] c1 us:=by
  simp only [RdL] at hr;obtain⟨u1,_,rfl,p1,u2,_,rfl,p2,rfl⟩:=hr;simp only [Rd] at p2;obtain⟨zs,rfl,p3⟩:=p2;simp only [RdL];exact⟨u1,_,rfl,Rd.ext _ x1 p1,_,_,rfl,by simp only [Rd];exact⟨zs,rfl,h8 _ _ p3⟩,rfl⟩
 have:=hc.calls w0 M0 c1 us s2 hr2;rw [e1] at this;refine this.mono ?_;rintro e w' ⟨v,c',r,H2,rfl,rfl,q1,q2,q3,q4,q5⟩;exact⟨v,c',r,H2,rfl,rfl,q1,q2,x1.trans q3,q4,q5⟩
theorem E8 {a s:Int} {p:List UInt8} (h:p.length<=96):(Bp a s p).length<=200:=by rw [Et];omega
theorem Wc (g:Geo) (s:Stt) (d:Dk) (F:Int->List UInt8) (l:List Wr) (z w stamp:Int) (b:List UInt8) (hg:Bq g=true) (ha:Bj g s.a=true) (hz:0<=z/\z<g.z) (hw : -1<=w/\w<g.d) (h:Gw (Aw g) d F l) (hl:l.length<2000) (hst:0<=stamp/\stamp<=4294967295) (hb:b.length<=96) :
  ACalls Tryz.prog false 78 [.bp 0 0,iv z,iv w,iv stamp,bA b] (F7 g s 0 d) fun r H=>r = .v (.bool true)/\∃ d',Gw (Aw g) d' F (l ++ [⟨B5 g s.a z w,Bp (B5 g s.a z w) stamp b⟩])/\H=F7 g s 0 d':=by
 have hA:=Mt g s.a z w hg ha hz hw;obtain⟨sl,e1,e2,e3⟩:=Es hg ha hz hw;obtain⟨q1,q2⟩:=Fs hg hz ⟨e2,e3⟩;obtain⟨g1,g2,g3,g4,g5⟩:=Aq.1 hg;have hcb:=EI hg;obtain⟨X,hX⟩:∃ X,X=B5 g s.a z w:=⟨_,rfl⟩;rw [<-hX] at hA e1 |-
 have hc:=FF X stamp b ⟨by omega,by omega,hst.1,hst.2,hb⟩;have hwr:=ah g s (Aw g) d F l X (Bp X stamp b) h hl (by omega) (E8 hb);refine zT tys_ok Tryz.func78 rfl rfl (Ag rfl) ?_;conv=>whnf
 apply zP tys_ok mixed (.o [0,1,2,3,4,5,6,7,8,9,10,11,12] .fin) [11,12,13,14,15,16,17,18,19,20,21,22,23] (by kernel_rfl)
 ·conv=>whnf
  (refine zp (args':= [.ag (AT g), .ag (Nl s.a (.sl 3 s.a.homes.length fun i=>(s.a.homes.map DU).getD i [])),iv z,iv w]) (hA.subA ⟨ri,Be ⟨ri,ri,ri,ri,ri,ri,Ba (f:=DU) s.a.homes rfl rfl,tv⟩,ri,ri,tv⟩) ⟨(Aa _).symm,rfl⟩ ?_;rintro _ rfl;refine⟨rfl,?_⟩)
  exact tA
 conv=>whnf
 refine zH 1 ?_;conv=>whnf
 refine z_ hc ?_;conv=>whnf
 refine ze9 [0,1,2,3,4,5] hwr ?_;rintro _ _ ⟨rfl,d2,hd2,rfl⟩;exact⟨.v (.bool true), .v (.bool true),F7 g s 0 d2,fun _ _ h=>h,zR (s:= [0,1,2,3,4,5]) tA,rfl,d2,hd2,rfl⟩
theorem Gw.puts {n:Int} {d:Dk} {F:Int->List UInt8} {W l:List Wr} (h:Gw n d F W) (hl:∀ w∈l,(0<=w.addr/\w.addr<n)/\w.bytes.length<=200) (hn:W.length+l.length<=2000):∀ k:Nat,k<=l.length->(d.writes (l.take k)).2.1=k/\(d.writes (l.take k)).2.2=false/\Gw n (d.writes (l.take k)).1 F (W ++ l.take k)
 | 0,_=>⟨rfl,rfl,by rw [List.take_zero,AK];exact h⟩
 | k+1,hk=>by
  obtain⟨q1,q2,q3⟩:=Gw.puts h hl hn k (by omega);have hx:=JB (d:=d) (l:=l) (k:=k) (by omega) q2;have hm:=hl _ (A7 (d:=(⟨0, []⟩:Wr)) (show k<l.length by omega));obtain⟨e0,hw⟩:=q3.write (by rw [Ai,Ar];omega) hm.1.1 hm.1.2 hm.2;rw [hx,e0];refine⟨by simp only [q1];rfl,rfl,?_⟩;have e:l.take (k+1)=l.take k ++ [l.getD k ⟨0, []⟩]:=by
   rw [A_,Af (by omega),Ab,Af (by omega)];rfl
  rw [e,<-A6];exact hw
theorem Gd.putAll {n:Int} {d:Dk} {F:Int->List UInt8} {l:List Wr} (h:Gd n d F) (hl:∀ w∈l,(0<=w.addr/\w.addr<n)/\w.bytes.length<=200) (hn:l.length<=2000):(d.writes l).2.1=l.length/\(d.putAll l).2.1=l.length/\(d.putAll l).2.2=false/\Gd n (d.putAll l).1 (GR F l):=by
 obtain⟨q1,q2,q3⟩:=Gw.puts h hl (by simpa using hn) l.length (Ah _);rw [As] at q1 q2 q3;have e:=Ef q2;rw [if_neg (by rw [q3.left];decide)] at e;rw [e];exact⟨q1,q1,rfl,by simpa using q3.flush⟩
theorem Gj {g:Geo} {a:An} (hg:Bq g=true) (ha:Bj g a=true):∀ w∈AE g a,(0<=w.addr/\w.addr<Aw g)/\w.bytes.length<=200:=fun w hw=>by
 obtain⟨g1,g2,g3,g4,g5⟩:=Aq.1 hg;have hcb:=EH hg;obtain⟨i,hi,rfl⟩:=Kv hw;exact⟨⟨by show 0<=((i:Nat):Int);omega,by show ((i:Nat):Int)<Aw g;omega⟩,Kw hg ha _⟩
theorem TV (g:Geo) (s:Stt) (d:Dk) (a:An) (F:Int->List UInt8) (hg:Bq g=true) (ha:Bj g a=true) (h:Gd (Aw g) d F) :
  ACalls Tryz.prog false 80 [.bp 0 0, .ag (Ew a)] (JM g s 0 d) fun r H=>r = iv (g.an.toNat:Nat)/\∃ d',Gd (Aw g) d' (GR F (AE g a))/\H=NC g s 0 d':=by
 have hin:=Gj hg ha;have hlen:=h.len;have hr:=Lp g s d a hg ha h.ok fun w hw=>⟨by have:=(hin w hw).1;omega,(hin w hw).2⟩
 obtain⟨q1,q2,q3,q4⟩:=h.putAll hin (by rw [Dc];have:=(Aq.1 hg).2.2.2.2;omega);rw [q1,q3,Dc] at hr;exact hr.mono fun r H ⟨e1,e2⟩=>⟨e1,_,q4,e2⟩
@[reducible] def rwZ (g:Geo) (s:Stt) (d:Dk):List AB:= [.box 95 (Z0 g (.bp 1 0) s 0), .box 92 (Hr (.ow 2 d.cells.length) (.ow 6 d.cache.length) d.reqs d.left), .row 84 3 (d.cells.map BG), .dead, .dead, .dead, .row 131 2 (d.cache.map EK)]
theorem Ft {k:Nat} {m:Nat} {x:AV} {n:Nat} (h:n=m):AV.slIn k m x (.ow k n)=x:=by
 subst h;simp [AV.slIn]
theorem S6 {k j:Nat} {m n:Nat} {x:AV} (h:(j == k)=false):AV.slIn k m x (.ow j n) = .ow j n:=by
 have:j≠k:=by simpa using h
 simp [AV.slIn,this]
theorem TU (g:Geo) (s:Stt) (d:Dk) (F:Int->List UInt8) (hg:Bq g=true) (ha:Bj g s.a=true) (h:Gd (Aw g) d F) :
  ACalls Tryz.prog false 80 [.bp 0 0, .ag (Nl s.a (.ow 4 s.a.homes.length))] (F7 g s 0 d) fun r H=>r = iv (g.an.toNat:Nat)/\∃ d',Gd (Aw g) d' (GR F (AE g s.a))/\H=rwZ g s d':=by
 have hr:=TV g s d s.a F hg ha h;obtain⟨T,hT⟩:∃ T:AV,T = .sl 4 (s.txns.map CI).length fun i=>(s.txns.map CI).getD i []:=⟨_,rfl⟩
 obtain⟨M,hM⟩:∃ M:AV,M = .sl 3 (s.a.homes.map DU).length fun i=>(s.a.homes.map DU).getD i []:=⟨_,rfl⟩
 have t1:∀ (c:Ctx) (v:Value),Rd T c v->Rd (Dh s.txns) c v:=by rw [hT];exact Ba (f:=CI) s.txns (Aa _) rfl
 have m1:∀ (c:Ctx) (v:Value),Rd M c v->Rd (Ig s.a.homes) c v:=by rw [hM];exact Ba (f:=DU) s.a.homes (Aa _) rfl
 refine zg (zw (H:=F7 g s 0 d) 0 5 (cs2:=Zw g (.bp 1 0) (.ow 4 s.a.homes.length) T s 0) rfl rfl ?_) ?_
 ·rw [<-hT];simp only [Zw,A0,Bn,Ft (Aa _).symm];rfl
 refine ACalls.lendBox2 (cs2:=Zw g (.bp 1 0) M T s 0) (ar2:=Nl s.a M) 0 4 rfl rfl ?_ ?_ ?_
 ·rw [<-hM];subst hT;simp only [Zw,A0,Bn,Ft (Aa _).symm];rfl
 ·rw [<-hM];simp only [Nl,A0,Bn,Ft (Aa _).symm];rfl
 refine zg (zu (cs':=Z0 g (.bp 1 0) s 0) 0 rfl ⟨ri,ri,ri,ri,ri,ri,ri,ri,ri,ri,ri,ri,m1,t1,ri,ri,ri,ri,ri,ri,ri,tv⟩) ?_;refine zX [.bp 0 0, .ag (Ew s.a)] ⟨ri,Be ⟨ri,ri,ri,ri,ri,ri,m1,tv⟩,tv⟩ ?_;refine ze9 [0,1,2,3] hr ?_;rintro _ _ ⟨rfl,d',hd',rfl⟩;exact⟨rfl,d',hd',rfl⟩
theorem E_ {g:Geo} {a:An} {seq:Int}:∀ (l m:List Img),BS g a seq (l ++ m)=BS g a seq l ++ BS g a seq m
 | [],m=>rfl
 | x::l,m=>by
  show Ce g a seq x ++ BS g a seq (l ++ m)=(Ce g a seq x ++ BS g a seq l) ++ BS g a seq m;rw [E_ l m,A6]
theorem Hh {g:Geo} {a:An} {seq:Int}:∀ (l:List Img),(BS g a seq l).length<=2*l.length
 | []=>Ah _
 | x::l=>by
  have:=Hh (g:=g) (a:=a) (seq:=seq) l;have h2:(Ce g a seq x).length<=2:=by unfold Ce;split <;> simp
  show (Ce g a seq x ++ BS g a seq l).length<=2*(x::l).length;rw [Ai,Al];omega
theorem Lf (a:An) (seq:Int) (l:List Img) (x:Img):BO a seq (l ++ [x])=C3 (BO a seq l) seq x:=by
 unfold BO;rw [Ci];rfl
theorem av {m:Nat} (h:Nat.ble 7 m=true):∀ z∈ [0,1,2,6,4,5],z<m:=fun z hz=>by
 have:=Ag h;simp at hz;omega
theorem P6 (x:Tx) (r:List Tx) (c:Ctx) (v:Value) (h:Rd (.sl 4 ((((x::r).length:Nat):Int).toNat - Int.toNat 1) fun i=>CI ((x::r).getD (i+Int.toNat 1) ⟨0,0,0, []⟩)) c v):Rd (Dh r) c v:=
 zC (by simp) (fun i _=>by show CI ((x::r).getD (i+1) _)=_;simp) h
def hmT:List AV:= [.top, .top, .top]
def txT:List AV:= [.top, .top, .top, .top]
theorem Tw (s:Stt):∀ (r:AV) (R:List AB),(r = .ag (stX s (.ow 0 s.a.homes.length) (.ow 1 s.txns.length))/\R=[.row 53 3 (s.a.homes.map DU), .row 45 4 (s.txns.map CI)])->ConvH R [.row 53 3 (List.replicate s.a.homes.length hmT), .row 45 4 (List.replicate s.txns.length txT)]:=by
 rintro _ _ ⟨-,rfl⟩;refine zt (zB (k:=0) (es':=List.replicate s.a.homes.length hmT) rfl (by simp) fun i=>?_) (zB (k:=1) (es':=List.replicate s.txns.length txT) rfl (by simp) fun i=>?_)
 ·by_cases hi:i<s.a.homes.length
  ·have e1:(s.a.homes.map DU).getD i []=DU (s.a.homes.getD i ⟨[],0,0⟩):=Bg hi;have e2:(List.replicate s.a.homes.length hmT).getD i []=hmT:=by simp [hi]
   rw [e1,e2];exact SubL.tops (DU _)
  ·rw [Ab,AJ (by simpa using hi),Ab,AJ (by simpa using hi)];trivial
 ·by_cases hi:i<s.txns.length
  ·have e1:(s.txns.map CI).getD i []=CI (s.txns.getD i ⟨0,0,0, []⟩):=Bg hi;have e2:(List.replicate s.txns.length txT).getD i []=txT:=by simp [hi]
   rw [e1,e2];exact SubL.tops (CI _)
  ·rw [Ab,AJ (by simpa using hi),Ab,AJ (by simpa using hi)];trivial
theorem RI (g:Geo) (a:An) (d:Dk) :
  ACalls Tryz.prog false 32 [.bp 0 0] (F7 g (AN a []) 0 d) fun r H=>r = .tp [iv 0,iv 0]/\H=F7 g (AN a []) 0 d:=by
 refine zT tys_ok Tryz.func32 rfl rfl (Ag rfl) ?_;exact⟨.tp [ze 0,ze 0], .tp [ze 0,ze 0],F7 g (AN a []) 0 d,fun _ _ h=>h,zR (s:= [0,1,2,3,4,5]) tA,rfl,rfl⟩
theorem TQ (g:Geo) (a:An) (x:Tx) (r:List Tx) (d:Dk) (F:Int->List UInt8) (K:Int) (hg:Bq g=true) (hv:Vol g K d (AN a (x::r))) (hK:K<=4294967294) (h:Gd (Aw g) d F) :
  ACalls Tryz.prog false 32 [.bp 0 0] (F7 g (AN a (x::r)) 0 d) fun v H=>v = .tp [iv (x.images.length:Nat),iv 0]/\∃ d',Gd (Aw g) d' (DY g a x F)/\H=rwZ g (AN (Bz g a x) r) d':=by
 obtain⟨g1,g2,g3,g4,g5⟩:=Aq.1 hg;have hsm:=hv.sm hg;have ha:Bj g a=true:=hv.an;have hring:C4 g (x::r) a.seq a.pos g.sl=true:=hv.ring;obtain⟨a1,a2,a3,a4⟩:=Er ha;have hseq:a.seq+(x::r).length<=K:=hv.seq;have hgen:a.gen<=K:=hv.gen;obtain⟨p1,p2,p3,p4⟩:=Dx hring x (by simp);have hr0:=hring;simp only [C4,Ae,decide_eq_true_eq] at hr0;obtain⟨⟨r1,r2,r3,r4,r5,r6,r7⟩,r8⟩:=hr0;have htw:=(Jb (AN a (x::r)) hsm).fnO fun q R hq y hy=>by
  rw [hq.2] at hy;simp only [AU,CW,or_false] at hy;rcases hy with rfl | rfl
  ·exact⟨_,_,_,rfl⟩
  ·exact⟨_,_,_,rfl⟩
 have htt:=Tw (AN a (x::r));have ssub:SubL [.ag (stX (AN a (x::r)) (.sl 3 a.homes.length fun i=>(a.homes.map DU).getD i []) (.sl 4 (x::r).length fun i=>((x::r).map CI).getD i []))] [.ag (Fh (AN a (x::r)))]:=⟨Be ⟨ri,ri,ri,ri,ri,ri,Ba (f:=DU) a.homes rfl rfl,Ba (f:=CI) (x::r) rfl rfl,ri,ri,ri,ri,ri,ri,tv⟩,tv⟩;have e0:(((x::r).length:Int) == 0)=false:=by rw [beq_eq_false_iff_ne,Al];omega
 refine zT tys_ok Tryz.func32 rfl rfl (Ag rfl) ?_;conv=>whnf
 rw [show (((AN a (x::r)).txns.length:Int) == 0)=false from e0];conv=>whnf
 rw [show decide ((AN a (x::r)).a.gen>=4294967295)=false from decide_eq_false (by show ¬a.gen>=4294967295;omega)];conv=>whnf
 rw [show decide ((AN a (x::r)).a.seq>=4294967295)=false from decide_eq_false (by show ¬a.seq>=4294967295;rw [Al] at hseq;omega)];conv=>whnf
 refine FnO.lendC (htw.subA ssub) ⟨(Aa _).symm,(Aa _).symm,rfl⟩ ?_;intro q R hq;refine⟨_,htt q R hq,?_,?_⟩
 ·rw [hq.1];exact⟨rfl,by rw [flatS,flatS,flatS,Oi _ _ rfl,Oi _ _ rfl];rfl⟩
 rw [hq.1];conv=>whnf
 refine Ad ⟨by omega,by show (0:Int)<((x::r).length:Nat);rw [Al];omega⟩ ?_;conv=>whnf
 refine Ad ⟨rfl,(Aa _).symm,by show 0<(x::r).length;rw [Al];omega⟩ ?_;conv=>whnf
 have hx30:x.images.length<=30:=by omega
 have hxi:∀ i:Nat,i<x.images.length->B4 g (x.images.getD i ⟨0,0, []⟩)=true:=fun i hi=>Av.1 p1 _ (A7 (d:=⟨0,0, []⟩) hi)
 refine zU (Nat × Dk) (fun y=>([(0, .bp 0 0),(4, .bp 8 0),(5, .bp 9 0),(6, .v (.bool true)),(7,ze 0),(8,ze (y.1:Nat))],F7 g (AN (BO a x.seq (x.images.take y.1)) (x::r)) 0 y.2 ++ ([.row 53 3 (List.replicate a.homes.length hmT), .row 45 4 (List.replicate (x::r).length txT), .box 34 (stX (AN a (x::r)) (.ow 6 a.homes.length) (.ow 7 (x::r).length)), .box 45 (CI x)]:List AB))) (fun y=>y.1<=x.images.length/\Gw (Aw g) y.2 F (BS g a x.seq (x.images.take y.1))) (fun y=>x.images.length - y.1) (0,d) ⟨Aj _,h⟩
  (zR (s:= [0,1,2,3,4,5,6,7,8,9]) tA) ?_
 rintro⟨i,d1⟩ ⟨hi,hd1⟩;simp only at hi hd1;have hAok:=Ht (g:=g) (seq:=x.seq) (by omega) (x.images.take i) ha;have hAl:=Il x.seq (x.images.take i) a;have hAs:=Gn x.seq (x.images.take i) a;obtain⟨A,hA⟩:∃ A,A=BO a x.seq (x.images.take i):=⟨_,rfl⟩;rw [<-hA] at hAok hAl hAs |-
 by_cases hin:i<x.images.length
 ·obtain⟨y,hy⟩:∃ y,y=x.images.getD i ⟨0,0, []⟩:=⟨_,rfl⟩;have hyk:=hxi i hin;rw [<-hy] at hyk;obtain⟨hz,hyw⟩:=Dl hyk;have hyl:=EM hg hyk;have htk:x.images.take (i+1)=x.images.take i ++ [y]:=by
   rw [A_,Af hin,hy,Ab,Af hin];rfl
  have hup:BO a x.seq (x.images.take (i+1))=C3 A x.seq y:=by rw [htk,Lf,<-hA]
  have hwl:(BS g a x.seq (x.images.take i)).length<=2*i:=Bl (Hh _) (by rw [Ar];omega);have hzl:y.zone.toNat<a.homes.length:=by omega
  have had:∀ w,B5 g A y.zone w=B5 g a y.zone w:=fun w=>by rw [hA];exact GQ _ hzl
  conv=>whnf
  rw [show decide ((i:Int)<(x.images.length:Nat))=true from decide_eq_true (by omega)];conv=>whnf
  repeat' (refine zY ?_;conv=>whnf)
  refine⟨⟨by omega,by omega⟩,?_⟩;conv=>whnf
  repeat' (refine zY ?_;conv=>whnf)
  rw [Ac,<-hy];by_cases h255:y.what=255
  ·rw [show (y.what != 255)=false by rw [h255];rfl];conv=>whnf
   repeat' (refine zY ?_;conv=>whnf)
   have ht0:=IJ g y.zone 0 hg hz (by decide);have ht1:=IJ g y.zone 1 hg hz (by decide);obtain⟨u1,u2⟩:=FD hg hz (k:=0) (by decide);obtain⟨u3,u4⟩:=FD hg hz (k:=1) (by decide);have hcb:=EI hg;have hc0:=FF (AG g y.zone 0) x.seq y.bytes ⟨by omega,by omega,by omega,by omega,by omega⟩;have hc1:=FF (AG g y.zone 1) x.seq y.bytes ⟨by omega,by omega,by omega,by omega,by omega⟩;have hw0:=ah g (AN A (x::r)) (Aw g) d1 F _ (AG g y.zone 0) (Bp (AG g y.zone 0) x.seq y.bytes) hd1 (by omega) (by omega) (E8 (by omega));refine zH 3 ?_;conv=>whnf
   repeat' (refine zY ?_;conv=>whnf)
   apply zP tys_ok mixed (.o [0,1,2,3,4,5,6,7,8] .fin) [13,128,129,130,131,132,133,134,135] (by kernel_rfl)
   ·conv=>whnf
    refine z_ ht0 ?_;exact tA
   conv=>whnf
   conv=>whnf
   refine z_ hc0 ?_;conv=>whnf
   refine ze9 [0,1,2,3,4,5] hw0 ?_;rintro _ _ ⟨rfl,d2,hd2,rfl⟩;have hw1:=ah g (AN A (x::r)) (Aw g) d2 F _ (AG g y.zone 1) (Bp (AG g y.zone 1) x.seq y.bytes) hd2 (by rw [Ai];show _+1<2000;omega) (by omega) (E8 (by omega));conv=>whnf
   repeat' (refine zY ?_;conv=>whnf)
   apply zP tys_ok mixed (.o [0,1,2,3,4,5,6,7,8] .fin) [13,128,129,130,131,132,133,134,135] (by kernel_rfl)
   ·conv=>whnf
    refine z_ ht1 ?_;exact tA
   conv=>whnf
   conv=>whnf
   refine z_ hc1 ?_;conv=>whnf
   refine ze9 [0,1,2,3,4,5] hw1 ?_;rintro _ _ ⟨rfl,d3,hd3,rfl⟩;conv=>whnf
   repeat' (refine zY ?_;conv=>whnf)
   apply zV (0) tys_ok mixed (.o [0,1,2,3,4,5,6,7,8,9,10,11,12] .fin) (by kernel_rfl);conv=>whnf
   try (refine tI ?_;conv=>whnf)
   try (refine tS ?_;conv=>whnf)
   have hzA:y.zone.toNat<A.homes.length:=by omega
   refine Ad ⟨by omega,by show y.zone<(A.homes.length:Nat);omega⟩ ?_;refine⟨⟨rfl,(Aa _).symm,hzA⟩,?_⟩;conv=>whnf
   rw [show ((AN A (x::r)).a.homes.map DU).getD y.zone.toNat []=DU (A.homes.getD y.zone.toNat ⟨[],0,0⟩) from Bg hzA];conv=>whnf
   refine⟨(i+1,d3),⟨by show i+1<=x.images.length;omega,?_⟩,by show x.images.length - (i+1)<x.images.length - i;omega,?_⟩
   ·show Gw (Aw g) d3 F (BS g a x.seq (x.images.take (i+1)));rw [htk,E_];show Gw (Aw g) d3 F (_ ++ (Ce g a x.seq y ++ []));rw [Ce,if_pos h255,AK];simpa using hd3
   ·show WkR _ _ _ _ (F7 g (AN (BO a x.seq (x.images.take (i+1))) (x::r)) 0 d3 ++ _);rw [hup,show C3 A x.seq y={ A with homes:=A.homes.set y.zone.toNat { A.homes.getD y.zone.toNat ⟨[],0,0⟩ with root:=x.seq } } from if_pos h255];have hl2:(AN { A with homes:=A.homes.set y.zone.toNat { A.homes.getD y.zone.toNat ⟨[],0,0⟩ with root:=x.seq } } (x::r)).a.homes.length=A.homes.length:=AW;exact zR (s:= [0,1,2,3,4,5,6,7,8,9]) ⟨⟨rfl,rfl,rfl,rfl,rfl,AL (by omega),tv⟩,⟨by rw [hl2];rfl,rfl,rfl,rfl,congrArg (fun es=>some (AB.row 53 3 es)) (Ch (f:=DU) (l:=A.homes) (i:=y.zone.toNat) (a:={ A.homes.getD y.zone.toNat ⟨[],0,0⟩ with root:=x.seq })).symm,rfl,rfl,rfl,rfl,rfl,tv⟩,rfl,rfl,rfl,rfl,rfl⟩
  ·rw [show (y.what != 255)=true from bne_iff_ne.2 h255];obtain⟨w1,w2,w3⟩:=hyw h255;have hadr:=Mt g A y.zone y.what hg hAok hz ⟨w1,w2⟩;have hho:=Wc g (AN A (x::r)) d1 F _ y.zone y.what x.seq y.bytes hg hAok hz ⟨w1,w2⟩ hd1 (by omega) (by omega) (by omega);have asub:SubL [.ag (AT g), .ag (Nl A (.sl 3 A.homes.length fun i=>(A.homes.map DU).getD i [])),iv y.zone,iv y.what] [.ag (AT g), .ag (Ew A),iv y.zone,iv y.what]:=⟨ri,Be ⟨ri,ri,ri,ri,ri,ri,Ba (f:=DU) A.homes rfl rfl,tv⟩,ri,ri,tv⟩;conv=>whnf
   repeat' (refine zY ?_;conv=>whnf)
   apply zP tys_ok mixed (.o [0,1,2,3,4,5,6,7,8,9,10,11,12,13,14] .fin) [10,79,80,81,82,83,84,85,86,87,88,89,90,91,92] (by kernel_rfl)
   ·conv=>whnf
    (refine zp (args':= [.ag (AT g), .ag (Nl A (.sl 3 A.homes.length fun i=>(A.homes.map DU).getD i [])),iv y.zone,iv y.what]) (hadr.subA asub) ⟨(Aa _).symm,rfl⟩ ?_;rintro _ rfl;refine⟨rfl,?_⟩)
    exact tA
   conv=>whnf
   conv=>whnf
   refine ze9 [0,1,2,3,4,5] hho ?_;rintro _ _ ⟨rfl,d2,hd2,rfl⟩;conv=>whnf
   repeat' (refine zY ?_;conv=>whnf)
   apply zP tys_ok mixed (.o [0,1,2,3,4,5,6,7,8,9,10,11,12,13,14,16,15,17,18] .fin) [103,104,105,106,107,108,109,110,111,112,113,114,115,116,117,118,119,120,121] (by kernel_rfl)
   ·conv=>whnf
    (refine zp (args':= [.ag (AT g), .ag (Nl A (.sl 3 A.homes.length fun i=>(A.homes.map DU).getD i [])),iv y.zone,iv y.what]) (hadr.subA asub) ⟨(Aa _).symm,rfl⟩ ?_;rintro _ rfl;refine⟨rfl,?_⟩)
    exact tA
   conv=>whnf
   conv=>whnf
   rw [show (B5 g A y.zone y.what != B5 g A y.zone y.what)=false by simp];conv=>whnf
   refine⟨(i+1,d2),⟨by show i+1<=x.images.length;omega,?_⟩,by show x.images.length - (i+1)<x.images.length - i;omega,?_⟩
   ·show Gw (Aw g) d2 F (BS g a x.seq (x.images.take (i+1)));rw [htk,E_];show Gw (Aw g) d2 F (_ ++ (Ce g a x.seq y ++ []));rw [Ce,if_neg h255,AK,<-had];exact hd2
   ·show WkR _ _ _ _ (F7 g (AN (BO a x.seq (x.images.take (i+1))) (x::r)) 0 d2 ++ _);rw [hup,show C3 A x.seq y=A from if_neg h255];exact zR (s:= [0,1,2,3,4,5,6,7,8,9]) ⟨⟨rfl,rfl,rfl,rfl,rfl,AL (by omega),tv⟩,tA,rfl,rfl,rfl,rfl,rfl⟩
 ·have ei:i=x.images.length:=by omega
  rw [ei,As] at hd1 hA;have hfl:=bu g (AN A (x::r)) (Aw g) d1 F _ hd1;conv=>whnf
  rw [show decide ((i:Int)<(x.images.length:Nat))=false from decide_eq_false (by omega)];conv=>whnf
  refine aSeq.cutR Dk (fun d2=>([(0, .bp 0 0),(5, .bp 7 0),(6, .v (.bool true)),(7,ze 0)],rwP g (AN A (x::r)) 0 d2 ++ ([.box 45 (CI x)]:List AB))) (fun d2=>Gd (Aw g) d2 (GR F (BS g a x.seq x.images))) ?_ ?_
  ·conv=>whnf
   refine ze9 [0,1,2,3,4,5] hfl ?_;rintro _ _ ⟨rfl,d2,hd2,rfl⟩;exact⟨d2,hd2,zR (s:= [0,1,2,3,4,5,10,9]) tA⟩
  intro d2 hd2;clear hi hin hd1 hfl;conv=>whnf
  refine aSeq.cutR Dk (fun d3=>([(0, .bp 0 0),(5, .bp 7 0),(6, .v (.bool true)),(7,ze 0)],rwZ g (AN (Bz g a x) (x::r)) d3 ++ ([.box 45 (CI x)]:List AB))) (fun d3=>Gd (Aw g) d3 (DY g a x F)) ?_ ?_
  ·conv=>whnf
   apply aDraw.dag (67239936) tys_ok mixed [([],43,(.o [0,1,2,3,4,5,6,7,8,9,10,11,12,13,14,15,16,19,20,21,22,23,25,28,29,30,31] (.alt 17 (.o [18,24] (.alt 26 (.o [27,32,33,34,35,36,37,38,39,40,41,42] .fin) (.alt 32 (.o [33,34,35,36] (.alt 26 (.jump 1) (.alt 37 (.jump 2) .non))) .non))) (.alt 26 (.one 27 (.alt 17 (.o [18,24,32,33,34,35,36,37,38,39,40,41,42] .fin) (.alt 32 (.o [17,18,24,33,34,35,36,37,38,39,40,41,42] .fin) .non))) (.alt 32 (.alt 17 (.o [18,24,33,34,35,36] (.alt 26 (.jump 1) (.alt 37 (.jump 2) .non))) (.alt 26 (.o [27,17,18,24,33,34,35,36,37,38,39,40,41,42] .fin) .non)) .non))))),([0,1,2,3,4,5,6,7,8,9,10,11,12,13,14,15,16,17,18,19,20,21,22,23,24,25,26,28,29,30,31,32,33,34,35,36],7,(.o [27,37,38,39,40,41,42] .fin)),([0,1,2,3,4,5,6,7,8,9,10,11,12,13,14,15,16,17,18,19,20,21,22,23,24,25,28,29,30,31,32,33,34,35,36,37],7,(.o [26,27,38,39,40,41,42] .fin))] [172,173,174,175,176,177,178,179,180,181,182,183,184,185,186,187,188,189,190,191,192,193,194,195,196,197,198,199,200,201,202,203,204,205,206,207,208,209,210,211] [(_,_),(_,_)] (by kernel_rfl)
   ·refine Ad ?_ ?_
    ·refine Ad ?_ (Ad ?_ (Ad ?_ (trivial)))
     ·conv=>whnf
      try (refine tI ?_;conv=>whnf)
      refine Ad ?_ (Ad ?_ (trivial))
      ·conv=>whnf
       try (refine tS ?_;conv=>whnf)
       try (refine tS ?_;conv=>whnf)
       try (refine tS ?_;conv=>whnf)
       exact tA
      ·conv=>whnf
       try (refine tS ?_;conv=>whnf)
       refine Ad ?_ (Ad ?_ (trivial))
       ·exact tA
       ·conv=>whnf
        try (refine tS ?_;conv=>whnf)
        exact tA
     ·refine Ad ?_ (Ad ?_ (trivial))
      ·conv=>whnf
       try (refine tI ?_;conv=>whnf)
       try (refine tS ?_;conv=>whnf)
       try (refine tS ?_;conv=>whnf)
       try (refine tS ?_;conv=>whnf)
       exact tA
      ·conv=>whnf
       try (refine tS ?_;conv=>whnf)
       try (refine tI ?_;conv=>whnf)
       try (refine tS ?_;conv=>whnf)
       try (refine tS ?_;conv=>whnf)
       exact tA
     ·conv=>whnf
      try (refine tS ?_;conv=>whnf)
      refine Ad ?_ (Ad ?_ (trivial))
      ·conv=>whnf
       try (refine tI ?_;conv=>whnf)
       refine Ad ?_ (Ad ?_ (trivial))
       ·exact tA
       ·conv=>whnf
        try (refine tS ?_;conv=>whnf)
        exact tA
      ·conv=>whnf
       try (refine tI ?_;conv=>whnf)
       try (refine tS ?_;conv=>whnf)
       try (refine tS ?_;conv=>whnf)
       exact tA
    refine Ad ?_ ?_
    ·conv=>whnf
     try (refine tS ?_;conv=>whnf)
     try (refine tS ?_;conv=>whnf)
     exact tA
    refine Ad ?_ ?_
    ·conv=>whnf
     try (refine tS ?_;conv=>whnf)
     exact tA
    conv=>whnf
    exact trivial
   conv=>whnf
   conv=>whnf
   apply zD (0) tys_ok mixed (.o [0,1,2,3,4,5,6,7,8,9,10,11,12,13,14] .fin) [212,213,214,215,216,217,218,219,220,221,222,223,224,225] (by kernel_rfl)
   ·conv=>whnf
    try (refine tS ?_;conv=>whnf)
    exact tA
   conv=>whnf
   conv=>whnf
   have hsx:x.seq=a.seq:=r1;have hpx:x.pos=a.pos:=r3;have E1:IntKind.i64.wrap ((AN A (x::r)).a.gen+1)=(Bz g a x).gen:=by
    show IntKind.i64.wrap (A.gen+1)=a.gen+1;rw [hAs.1];exact wi (by omega)
   have E2:(IntKind.i64.wrap ((AN A (x::r)).a.pos+x.n)).tmod g.sl=(Bz g a x).pos:=by
    show (IntKind.i64.wrap (A.pos+x.n)).tmod g.sl=(x.pos+x.n).tmod g.sl;rw [hAs.2.2.1,hpx,wi (by omega)]
   have E3:IntKind.i64.wrap (x.seq+1)=(Bz g a x).seq:=by
    show IntKind.i64.wrap (x.seq+1)=a.seq+1;rw [hsx];exact wi (by omega)
   have E4:(if (AN A (x::r)).a.last<x.seq then x.seq else (AN A (x::r)).a.last)=(Bz g a x).last:=by
    show (if A.last<x.seq then x.seq else A.last)=max a.last a.seq;rw [hAs.2.2.2.2.1,hsx];split <;> omega
   have hok2:=JH (x:=x) hg ha (by omega) (by omega) hsx (by omega) (by omega);have hran:=TU g (AN (Bz g a x) (x::r)) d2 _ hg hok2 hd2;dsimp only;rw [E1,E2,E3,E4];subst hA;refine ze9 [0,1,2,6,4,5] hran ?_;rintro _ _ ⟨rfl,d3,hd3,rfl⟩;conv=>whnf
   rw [show decide (((g.an.toNat:Nat):Int) > 0)=true from decide_eq_true (by omega)];exact⟨d3,hd3,zR (s:= [0,1,2,3,4,5,8,7]) tA⟩
  intro d3 hd3;have hl1:1<=((AN (Bz g a x) (x::r)).txns.length:Int):=by show 1<=((x::r).length:Int);rw [Al];omega
  conv=>whnf
  repeat' (refine zY ?_;conv=>whnf)
  apply zV (0) tys_ok mixed (.o [0,1,2,3,4,5,6,7,8,9,10,11,12,13,14,15,16,17,18,19,20,21,22,23,24] .fin) (by kernel_rfl);conv=>whnf
  try (refine tI ?_;conv=>whnf)
  try (refine tS ?_;conv=>whnf)
  try (refine tS ?_;conv=>whnf)
  all_goals
   exact⟨.tp [ze (x.images.length:Nat),ze 0], .tp [ze (x.images.length:Nat),ze 0],rwZ g (AN (Bz g a x) r) d3,ri,zI (zK (zu (cs':=Z0 g (.bp 1 0) (AN (Bz g a x) r) 0) 0 rfl ⟨ri,ri,ri,ri,ri,ri,ri,ri,ri,ri,ri,ri,ri,P6 x r,ri,ri,ri,ri,ri,ri,ri,tv⟩)) (s:= [0,1,2,3,4,5,6]) tA,rfl,d3,hd3,rfl⟩
def Kr (d:Dk) (a:Int) (c:Cel):Dk:={ d with cells:=d.cells.set a.toNat c }
def Dk.fault (d:Dk) (kind a frm bit bits:Int):Dk × Int:=
 if CK a 0 ((d.cells.length:Int) - 1)=false then (d,1) else if 0<d.cache.length then (d,9) else
 let c:=d.cells.getD a.toNat cz
 if kind=11 then (Kr d a { c with state:=if c.state=0 then 1 else c.state },0)
 else if kind=12 then (Kr d a { c with state:=2 },0)
 else if kind=13 then (if bit<0\/bits<0 then (d,1) else (Kr d a { c with bytes:=Ze c.bytes bit bits },0))
 else if kind=14 then (Kr d a { c with bytes:=c.old },0)
 else if kind=15 then (if CK frm 0 ((d.cells.length:Int) - 1)=false then (d,1) else (Kr d a { c with bytes:=(d.cells.getD frm.toNat cz).bytes },0))
 else (d,1)
structure Q4 where
 a:Int
 b:Int
 c:Int
 d:Int
theorem YL {d:Dk} {a:Int} {c:Cel} (h:DkOk d) (hc:(0<=c.state/\c.state<=2)/\c.bytes.length<=200/\c.old.length<=200):DkOk (Kr d a c):=by
 refine⟨by simpa [Kr] using h.n,h.m,h.r,h.l,fun x hx=>?_,fun w hw=>by simpa [Kr] using h.w w hw⟩;rcases Cz hx with hx | rfl
 ·exact h.c x hx
 ·exact hc
theorem SY {d:Dk} (h:DkOk d) (i:Nat):(0<=(d.cells.getD i cz).state/\(d.cells.getD i cz).state<=2)/\(d.cells.getD i cz).bytes.length<=200/\(d.cells.getD i cz).old.length<=200:=by
 by_cases hi:i<d.cells.length
 ·exact h.c _ (A7 (d:=cz) hi)
 ·rw [Ab,AJ (by omega)];exact⟨⟨CG _,show (0:Int)<=2 by decide⟩,by simp [cz],by simp [cz]⟩
theorem DkOk.fault {d:Dk} (h:DkOk d) (kind a frm bit bits:Int):DkOk (d.fault kind a frm bit bits).1/\(d.fault kind a frm bit bits).1.cells.length=d.cells.length/\(d.fault kind a frm bit bits).1.cache=d.cache/\(d.fault kind a frm bit bits).1.left=d.left/\(d.fault kind a frm bit bits).1.reqs=d.reqs:=by
 have hc:=SY h a.toNat;have hf:=SY h frm.toNat;have go:∀ c:Cel,((0<=c.state/\c.state<=2)/\c.bytes.length<=200/\c.old.length<=200)->DkOk (Kr d a c)/\(Kr d a c).cells.length=d.cells.length/\(Kr d a c).cache=d.cache/\(Kr d a c).left=d.left/\(Kr d a c).reqs=d.reqs:=fun c h1=>⟨YL h h1,by simp [Kr],rfl,rfl,rfl⟩
 have st:DkOk d/\d.cells.length=d.cells.length/\d.cache=d.cache/\d.left=d.left/\d.reqs=d.reqs:=⟨h,rfl,rfl,rfl,rfl⟩;unfold Dk.fault;split
 ·exact st
 ·split
  ·exact st
  ·simp only;split
   ·refine go _ ⟨?_,hc.2⟩;simp only;split
    ·exact⟨by decide,by decide⟩
    ·exact hc.1
   ·split
    ·exact go _ ⟨⟨show (0:Int)<=2 by decide,CG 2⟩,hc.2⟩
    ·split
     ·split
      ·exact st
      ·exact go _ ⟨hc.1,by simp only [Pj];exact hc.2.1,hc.2.2⟩
     ·split
      ·exact go _ ⟨hc.1,hc.2.2,hc.2.2⟩
      ·split
       ·split
        ·exact st
        ·exact go _ ⟨hc.1,hf.2.1,hc.2.2⟩
       ·exact st
end
section
open Go.RowKit Go.ChangeShapes Go.WideShapes Go.ChangeAt Go.Deep
section
variable {H:Type} {enc:TypeId × Value->H} {w:World}
end
end
section
open Go.RowKit
structure Q2 where
 a:Int
 b:Int
def bi (x:Q2):List AV:= [iv x.a,iv x.b]
def Wj (l:List Q2):AV:= .sl 2 l.length fun i=>bi (l.getD i ⟨0,0⟩)
section
open Go.ChangeShapes Go.WideShapes Go.ChangeAt Go.Deep
variable {H:Type} {enc:TypeId × Value->H} {w:World}
end
structure Md where
 a:An
 l:List Tx
 F:Int->List UInt8
 m:List (List UInt8)
def bc (g:Geo) (M:Md) (lba:Int) (b:List UInt8) (M':Md):Prop:=
 (Cp M.l+4<=g.sl/\(Ex g (AN M.a M.l) M.F (lba.tdiv g.d)).isSome=true/\∃ W:List Wr,(∀ w∈W,(g.an<=w.addr/\w.addr<g.an+2*g.sl)/\w.bytes.length<=200)/\M'=⟨M.a,M.l ++ [DD g M.a M.l M.F lba b],GR M.F W,M.m.set lba.toNat b⟩)
 \/((g.sl<Cp M.l+4\/Ex g (AN M.a M.l) M.F (lba.tdiv g.d)=none)/\M'=M)
def YK (g:Geo) (M:Md):Md:=match M.l with
 | []=>M
 | x::r=>⟨Bz g M.a x,r,DY g M.a x M.F,M.m⟩
def Nb (n:Int) (F:Int->List UInt8) (q:Int):List UInt8:=if 0<=q/\q<n then F q else []
def F6 (g:Geo):Md:=⟨Eb (Cc g ⟨#[]⟩) 0, [],Nb (Aw g) (aN g (Eb (Cc g ⟨#[]⟩) 0)),List.replicate (g.z*g.d).toNat zero8⟩
def aK (g:Geo) (L:List Q2):Nat->Md->Prop
 | 0,M=>M=F6 g
 | i+1,M=>∃ M1 M2,aK g L i M1/\(∃ lba b,(0<=lba/\lba<g.z*g.d)/\b.length=8/\bc g M1 lba b M2)/\M=if (L.getD i ⟨0,0⟩).b.tmod 3=0 then YK g M2 else M2
structure Vo (g:Geo) (K:Int) (M:Md):Prop where
 an:Bj g M.a=true
 ring:C4 g M.l M.a.seq M.a.pos g.sl=true
 gen:M.a.gen<=K
 seq:M.a.seq+M.l.length<=K
 one:∀ t∈M.l,OneTab t.images
 fb:∀ q,(M.F q).length<=200
 m:(M.m.length:Int)=g.z*g.d
theorem Vo.vol {g:Geo} {K:Int} {M:Md} (h:Vo g K M) {d:Dk} (hd:Gd (Aw g) d M.F):Vol g K d (AN M.a M.l):=⟨⟨_,hd⟩,h.an,h.ring,tA,h.gen,h.seq,h.one⟩
theorem Vo.of {g:Geo} {K:Int} {M:Md} {d:Dk} (h:Vol g K d (AN M.a M.l)) (hf:∀ q,(M.F q).length<=200) (hm:(M.m.length:Int)=g.z*g.d):Vo g K M:=⟨h.an,h.ring,h.gen,h.seq,h.one,hf,hm⟩
theorem NV {a:Int}:∀ (n:Nat) (l:List Wr) (w:Wr),l.length=n->Ic l a=some w->w∈l
 | 0,l,w,hn,h=>by
  obtain rfl:=AZ.1 hn;rw [NU] at h;cases h
 | n+1,l,w,hn,h=>by
  rcases CS l with rfl | ⟨m,x,rfl⟩
  ·cases hn
  ·rw [CT] at h |-
   rw [EG] at h;split at h
   ·obtain rfl:=Option.some.inj h;simp
   ·exact List.mem_append_left _ (NV n m w (by simpa using hn) h)
theorem O7 {F:Int->List UInt8} {n:Nat} (hF:∀ q,(F q).length<=n) {W:List Wr} (hW:∀ w∈W,w.bytes.length<=n) (q:Int):(GR F W q).length<=n:=by
 unfold GR;split
 ·rename_i w hw;exact hW w (NV _ _ _ rfl hw)
 ·exact hF q
theorem V5 {g:Geo} (hg:Bq g=true) {a:An} {x:Tx} (ha:Bj g (Bz g a x)=true) {F:Int->List UInt8} (hF:∀ q,(F q).length<=200) (hx:∀ y∈x.images,B4 g y=true) (q:Int):(DY g a x F q).length<=200:=by
 unfold DY;refine O7 (O7 hF fun w hw=>?_) (fun w hw=>(Gj hg ha w hw).2) q;obtain⟨y,hy,hw⟩:=HJ.1 hw;have:=EM hg (hx y hy);unfold Ce at hw;split at hw
 ·simp only [AU,CW,or_false] at hw;rcases hw with rfl | rfl <;> exact E8 (by omega)
 ·rw [Az] at hw;rw [hw];exact E8 (by omega)
theorem Vo.ck {g:Geo} (hg:Bq g=true) {K:Int} {M:Md} (h:Vo g K M) (hK:K<=4294967294) {d d':Dk} (hd:Gd (Aw g) d M.F) (hd':Gd (Aw g) d' (YK g M).F):Vo g (K+1) (YK g M):=by
 obtain⟨a,l,F,m⟩:=M;cases l with
 | nil=>exact⟨h.an,h.ring,by have q:a.gen<=K:=h.gen;show a.gen<=K+1;omega,by have q:a.seq+(([]:List Tx).length:Int)<=K:=h.seq;show a.seq+(([]:List Tx).length:Int)<=K+1;omega,h.one,h.fb,h.m⟩
 | cons x r=>
  have hv:=h.vol hd;have h2:=hv.home hg (x:=x) (r:=r) rfl hK (d':=d') ⟨_,hd'⟩;have hi:=(Dx h.ring x (List.mem_cons_self)).1;exact Vo.of (d:=d') h2 (V5 hg h2.an h.fb (Av.1 hi)) h.m
theorem Gd.clip {n:Int} {d:Dk} {F:Int->List UInt8} (h:Gd n d F):Gd n d (Nb n F)/\∀ q,(Nb n F q).length<=200:=by
 refine⟨⟨h.ok,h.left,h.len,h.cache,fun q h0 h1=>?_⟩,fun q=>?_⟩
 ·have:=h.cell q h0 h1;unfold Nb;rw [if_pos ⟨h0,h1⟩];exact this
 ·unfold Nb;split
  ·rename_i hq;have hc:=(h.cell q hq.1 hq.2).2;rw [<-hc];have hl:=h.len;exact(h.ok.c _ (A7 (by omega))).2.1
  ·simp
theorem Wu {g:Geo} (hg:Bq g=true):∃ D,Dr g (Ih g ⟨#[]⟩)=(D,0,AN (F6 g).a (F6 g).l)/\DkOk (Ih g ⟨#[]⟩)/\((Ih g ⟨#[]⟩).cells.length:Int)=Aw g/\Gd (Aw g) D (F6 g).F/\Vo g 2 (F6 g):=by
 obtain⟨D,h1,h2,h3,h4,h5⟩:=Z8 hg;obtain⟨q1,q2⟩:=h5.clip;refine⟨D,h1,h2,h3,q1,Vo.of (d:=D) (M:=F6 g) ⟨⟨_,q1⟩,h4.an,h4.ring,h4.rest,h4.gen,h4.seq,h4.one⟩ q2 ?_⟩;obtain⟨g1,g2,g3,g4,g5⟩:=Aq.1 hg;have:0<=g.z*g.d:=De (by omega) (by omega);show (((List.replicate (g.z*g.d).toNat zero8).length:Nat):Int)=_;rw [Bk];omega
structure Gc (n:Int) (d:Dk) (F:Int->List UInt8) (l:List Wr):Prop where
 ok:DkOk d
 len:(d.cells.length:Int)=n
 cache:d.cache=l
 cell:∀ a:Int,0<=a->a<n->(d.cells.getD a.toNat cz).state=0/\(d.cells.getD a.toNat cz).bytes=F a
theorem Gw.gc {n:Int} {d:Dk} {F:Int->List UInt8} {l:List Wr} (h:Gw n d F l):Gc n d F l:=⟨h.ok,h.len,h.cache,h.cell⟩
theorem Gc.write {n:Int} {d:Dk} {F:Int->List UInt8} {l:List Wr} (h:Gc n d F l) (hl:l.length<2000) {a:Int} (h0:0<=a) (h1:a<n) {b:List UInt8} (hb:b.length<=200):(d.left=0/\d.write a b=(d,8))\/(d.left≠0/\(d.write a b).2=0/\Gc n (d.write a b).1 F (l ++ [⟨a,b⟩])):=by
 by_cases hz:d.left=0
 ·exact .inl ⟨hz,by unfold Dk.write;rw [if_pos hz]⟩
 ·have hw:=h.ok.write (a:=a) (b:=b) (by rw [<-h.len] at h1;omega) hb;have e:d.write a b=({ d.req with cache:=d.cache ++ [⟨a,b⟩] },0):=by
   unfold Dk.write;rw [if_neg hz,if_neg];rintro(h2 | h2)
   ·have:=(h.cell a h0 h1).1;unfold cz at this;omega
   ·rw [h.cache] at h2;omega
  rw [e] at hw |-
  exact .inr ⟨hz,rfl,hw,h.len,by rw [h.cache],h.cell⟩
theorem Gc.puts {n:Int} {d:Dk} {F:Int->List UInt8} {W l:List Wr} (h:Gc n d F W) (hl:∀ w∈l,(0<=w.addr/\w.addr<n)/\w.bytes.length<=200) (hn:W.length+l.length<=2000):∀ k:Nat,k<=l.length->(d.writes (l.take k)).2.2=false->(d.writes (l.take k)).2.1=k/\Gc n (d.writes (l.take k)).1 F (W ++ l.take k)
 | 0,_,_=>⟨rfl,by rw [List.take_zero,AK];exact h⟩
 | k+1,hk,hv=>by
  have hx0:=FZ d (l:=l) (k:=k) (by omega);have hv0:(d.writes (l.take k)).2.2=false:=by
   cases hc:(d.writes (l.take k)).2.2 with
   | false=>rfl
   | true=>
    rw [hx0] at hv;unfold CU at hv;rw [hc] at hv;simp only [if_true] at hv;rw [hc] at hv;cases hv
  obtain⟨q1,q3⟩:=Gc.puts h hl hn k (by omega) hv0;have hx:=JB (d:=d) (l:=l) (k:=k) (by omega) hv0;have hm:=hl _ (A7 (d:=(⟨0, []⟩:Wr)) (show k<l.length by omega));rcases q3.write (by rw [Ai,Ar];omega) hm.1.1 hm.1.2 hm.2 with ⟨-,e8⟩ | ⟨-,e0,hw⟩
  ·rw [hx,e8] at hv;cases hv
  ·rw [hx,e0];have e:l.take (k+1)=l.take k ++ [l.getD k ⟨0, []⟩]:=by
    rw [A_,Af (by omega),Ab,Af (by omega)];rfl
   refine⟨by simp only [q1];rfl,?_⟩;rw [e,<-A6];exact hw
theorem Gc.flush {n:Int} {d:Dk} {F:Int->List UInt8} {l:List Wr} (h:Gc n d F l):Gc n d.flush (GR F l) []:=by
 have e:d.flush=⟨DP d.cells l, [],d.req.reqs,d.req.left⟩:=by
  unfold Dk.flush;rw [allFin_cells,h.cache];rfl
 have ho:=h.ok.flush;rw [e] at ho |-
 refine⟨ho,by show ((DP d.cells l).length:Int)=n;rw [finL_len];exact h.len,rfl,fun a h0 h1=>?_⟩;have hl:=h.len;refine Sc h0 (by omega) (h.cell a h0 h1) _ l rfl fun w hw=>?_
 rw [<-h.cache] at hw;exact(h.ok.w w hw).1.1
theorem Gc.putAll {n:Int} {d:Dk} {F:Int->List UInt8} {l:List Wr} (h:Gc n d F []) (hl:∀ w∈l,(0<=w.addr/\w.addr<n)/\w.bytes.length<=200) (hn:l.length<=2000) (hv:(d.putAll l).2.2=false):(d.putAll l).2.1=l.length/\Gc n (d.putAll l).1 (GR F l) []:=by
 cases hw:(d.writes l).2.2 with
 | true=>rw [EC hw] at hv;cases hv
 | false=>
  have hp:=Gc.puts h hl (by simpa using hn) l.length (Ah _);rw [As] at hp;obtain⟨q1,q2⟩:=hp hw;have e:=Ef hw;by_cases h0:(d.writes l).1.left=0
  ·rw [if_pos h0] at e;rw [e] at hv;cases hv
  ·rw [if_neg h0] at e;rw [e];exact⟨q1,by simpa using q2.flush⟩
theorem Re (d:Dk) (l m:List Wr) (h:(d.writes l).2.2=true):d.writes (l ++ m)=d.writes l:=by
 have hk:=Le d (l:=l ++ m) (k:=l.length) (by simp) (by rw [List.take_left];exact h);rw [hk,List.take_left]
theorem F_ (d:Dk) (n:Nat) (w:Wr):CU (d,n,false) w=((d.write w.addr w.bytes).1,(if (d.write w.addr w.bytes).2=8 then n else n+if (d.write w.addr w.bytes).2=0 then 1 else 0),decide ((d.write w.addr w.bytes).2=8)):=by
 unfold CU;rw [if_neg (by simp)];simp only;split
 ·rename_i h;rw [decide_eq_true h]
 ·rename_i h;rw [decide_eq_false h]
theorem wrs_dead:∀ (m:List Wr) (d:Dk) (n:Nat),m.foldl CU (d,n,true)=(d,n,true)
 | [],_,_=>rfl
 | w::m,d,n=>by rw [List.foldl_cons,Ij w rfl];exact wrs_dead m d n
theorem writes_more:∀ (m:List Wr) (d:Dk) (n:Nat),m.foldl CU (d,n,false)=((d.writes m).1,n+(d.writes m).2.1,(d.writes m).2.2)
 | [],_,_=>rfl
 | w::m,d,n=>by
  show m.foldl CU (CU (d,n,false) w)=_;have e:d.writes (w::m)=m.foldl CU (CU (d,0,false) w):=rfl;rw [e,F_,F_];generalize d.write w.addr w.bytes=q;obtain⟨d1,e⟩:=q;simp only;by_cases h8:e=8
  ·rw [if_pos h8,if_pos h8,decide_eq_true h8,wrs_dead,wrs_dead];rfl
  ·rw [if_neg h8,if_neg h8,decide_eq_false h8,writes_more m d1,writes_more m d1];simp only [A4,DS]
theorem Px {d:Dk} {l:List Wr} (m:List Wr) (h:(d.writes l).2.2=false):d.writes (l ++ m)=(((d.writes l).1.writes m).1,(d.writes l).2.1+((d.writes l).1.writes m).2.1,((d.writes l).1.writes m).2.2):=by
 show (l ++ m).foldl CU (d,0,false)=_;rw [Ci];have e:l.foldl CU (d,0,false)=d.writes l:=rfl;rw [e];generalize d.writes l=q at h |-
 obtain⟨d1,n,b⟩:=q;simp only at h |-
 rw [h,writes_more]
theorem Qz {g:Geo} {a:An} {seq:Int} {x:Img} {l:List Img} {q:Int} (h:x.zone.toNat<a.homes.length):Ce g (BO a q l) seq x=Ce g a seq x:=by
 unfold Ce;rw [GQ l h]
def Gr (g:Geo) (s:Stt) (x:Tx) (r:List Tx) (d:Dk):Stt × Dk × Int × Int:=
 match d.putAll (BS g s.a x.seq x.images) with
 | (d1,_,true)=>(s,d1,0,8)
 | (d1,_,false)=>match d1.putAll (AE g (Bz g s.a x)) with
  | (d2,_,true)=>(s,d2,0,8)
  | (d2,_,false)=>({ s with a:=Bz g s.a x,txns:=r },d2,(x.images.length:Nat),0)
theorem Vc (a:An) (hh:a.homes.length<=1000) (hp:∀ h∈a.homes,h.places.length<=1000000):ACalls Tryz.prog false 83 [.ag (Ew a)] [] fun r H=>r = .ag (Nl a (.ow 0 a.homes.length))/\H=[.row 53 3 (a.homes.map DU)]:=by
 have hc:=Ob a.homes (by omega);refine zT tys_ok Tryz.func83 rfl rfl (Ag rfl) ?_;conv=>whnf
 refine zW hc rfl ?_;rintro _ _ ⟨rfl,rfl⟩;conv=>whnf
 refine zU Nat (fun k=>([(1, .bp 0 0),(2, .bp 1 0),(10,iv a.homes.length),(11,iv k)], [.box 28 [iv a.gen,iv a.epoch,iv a.pos,iv a.seq,iv a.last, .v (.string a.label), .ow 2 a.homes.length], .box 28 [iv 0,iv 0,iv 0,iv 0,iv 0, .v (.string ⟨#[]⟩), .v (.slice none 0 0)], .row 53 3 (a.homes.map DU)])) (fun k=>k<=a.homes.length) (fun k=>a.homes.length - k) 0 (Aj _)
  (zR (s:= [0,1,2]) tA) ?_
 intro k hk;conv=>whnf
 refine A8 (fun h6=>?_) (fun h6=>?_) <;> (repeat rw [Ac] at h6) <;> conv=>whnf
 ·have hk':k<a.homes.length:=by omega
  have hi:=Ke (a.homes.getD k ⟨[],0,0⟩).places (by have:=hp _ (A7 (d:=(⟨[],0,0⟩:Hm)) hk');omega);have hE:(a.homes.map DU).getD (k:Int).toNat []=DU (a.homes.getD k ⟨[],0,0⟩):=by rw [Ac];exact Bg hk'
  apply zV (0) tys_ok mixed (.o [0,1,2,3,4,5,6,7,8,9,10,11,12] .fin) (by kernel_rfl);conv=>whnf
  try (first | (refine Ad ⟨rfl,(Aa _).symm,by omega⟩ ?_;(conv=>whnf);rw [hE]) | skip;conv=>whnf)
  try (first | (refine Ad ⟨rfl,(Aa _).symm,by omega⟩ ?_;(conv=>whnf);rw [hE]) | skip;conv=>whnf)
  try (refine tI ?_;conv=>whnf)
  try (first | (refine Ad ⟨rfl,(Aa _).symm,by omega⟩ ?_;(conv=>whnf);rw [hE]) | skip;conv=>whnf)
  (refine zW hi rfl ?_;rintro _ _ ⟨rfl,rfl⟩)
  conv=>whnf
  try (refine tI ?_;conv=>whnf)
  try (refine tS ?_;conv=>whnf)
  (refine Ad (Aa _).symm ?_;(conv=>whnf);refine Ad ⟨rfl,(Aa _).symm,by omega⟩ ?_;(conv=>whnf);rw [hE])
  refine⟨k+1,hk',by omega,zI (zK (zB (k:=2) rfl (es':=a.homes.map DU) (by simp) ?_)) (s:= [0,1,2]) ⟨⟨rfl,rfl,rfl,AL (by omega),tv⟩,tA,rfl,rfl,rfl,rfl,rfl⟩⟩;rw [Ac];exact G2 (d:=(⟨[],0,0⟩:Hm)) hk' (WI _)
 ·have ek:k=a.homes.length:=by omega
  exact⟨.ag (Nl a (.ow 2 a.homes.length)), .ag (Nl a (.ow 0 a.homes.length)), [.row 53 3 (a.homes.map DU)],fun _ _ h=>h,zR (s:= [2]) ⟨tA,⟨by subst ek;rfl,tv⟩,rfl,rfl,rfl,rfl,rfl⟩,rfl,rfl⟩
theorem NK (g:Geo) (w:Int) (hw : -1<=w/\w<g.d):Fn Tryz.prog 234 [.ag (AT g),iv w] fun r=>r = .tp [iv (E7 g w), .v (.bool true)]:=by
 unfold E7;by_cases h:w = -1
 ·rw [if_pos h];refine zS Tryz.func234 rfl ?_;conv=>whnf
  rw [show (w == -1)=true by simpa using h];exact⟨_,ri,rfl⟩
 ·rw [if_neg h];refine zS Tryz.func234 rfl ?_;conv=>whnf
  rw [show (w == -1)=false by simpa using h];refine z7 tys_ok mixed [0,1,2,3,4,5,6,7,8,9,10] (by kernel_rfl) ?_;conv=>whnf
  rw [show decide (w>=0)=true from decide_eq_true (by omega)];conv=>whnf
  rw [show decide (w<g.d)=true from decide_eq_true (by omega)];exact⟨_,ri,rfl⟩
theorem Nh {g:Geo} {a:An} (hg:Bq g=true) (ha:Bj g a=true):a.label.size<=1000000/\a.homes.length<=1000/\∀ h∈a.homes,h.places.length<=1000000:=by
 have:=EV hg ha 0 (Aj _);exact⟨by have:=this.2.2.2.1;omega,by have:=this.2.1;omega,fun h hh=>L0 hg ha h hh⟩
theorem TY (g:Geo) (a:An) (z w:Int) (hg:Bq g=true) (ha:Bj g a=true) (hz:0<=z/\z<g.z) (hw : -1<=w/\w<g.d):Fn Tryz.prog 233 [.ag (AT g), .ag (Ew a),iv z,iv w] fun r=>r = iv 0:=by
 obtain⟨s1,s2, -⟩:=Nh hg ha;have c1:=La g a s1 (by omega);rw [hg,ha] at c1;have c2:=NK g w hw;refine zS Tryz.func233 rfl ?_;conv=>whnf
 refine z_ c1 ?_;conv=>whnf
 refine z_ c2 ?_;conv=>whnf
 rw [show decide (z<0)=false from decide_eq_false (by omega)];conv=>whnf
 rw [show decide (z>=g.z)=false from decide_eq_false (by omega)];exact⟨_,ri,rfl⟩
theorem Qg (g:Geo) (a:An) (z w:Int) (hg:Bq g=true) (ha:Bj g a=true) (hz:0<=z/\z<g.z) (hw : -1<=w/\w<g.d):Fn Tryz.prog 183 [.ag (AT g), .ag (Ew a),iv z,iv w] fun r=>r = .tp [iv (B5 g a z w),iv 0]:=by
 obtain⟨g1,g2,g3,g4,g5⟩:=Aq.1 hg;obtain⟨hi,hh⟩:=Kf ha hz;simp only [Ee,Ae,decide_eq_true_eq,AI] at hh;obtain⟨p1,p2,p3,p4⟩:=hh;have hat:0<=E7 g w/\E7 g w<=g.d:=by unfold E7;split <;> omega
 have hk:(E7 g w).toNat<(a.homes.getD z.toNat ⟨[],0,0⟩).places.length:=by omega
 have hp:=Av.1 p4 (E7 g w).toNat (by simpa using hk);simp only [Ae,AI] at hp;have c1:=TY g a z w hg ha hz hw;have c2:=NK g w hw;have c3:=WL g z ((a.homes.getD z.toNat ⟨[],0,0⟩).places.getD (E7 g w).toNat 0) hg hz (by unfold CD;omega);refine zS Tryz.func183 rfl ?_;conv=>whnf
 refine z_ c1 ?_;conv=>whnf
 refine z_ c2 ?_;conv=>whnf
 apply zP tys_ok mixed (.o [0,1,2,3,4,5,6,7,8,9,10,11,12,13,14,15] .fin) [8,9,27,28,29,30,31,32,33,34,35,36,37,38,39,40] (by kernel_rfl)
 ·conv=>whnf
  try (refine Ad (by first | omega | exact ixA | exact ixB | (simp;done)) ?_;conv=>whnf)
  try (refine Ad (by first | omega | exact ixA | exact ixB | (simp;done)) ?_;conv=>whnf)
  refine z_ c3 ?_;exact tA
 exact⟨_,ri,rfl⟩
theorem Pr (g:Geo) (s:Stt) (d:Dk) (F:Int->List UInt8) (l:List Wr) (a stamp:Int) (b:List UInt8) (h:Gc (Aw g) d F l) (hl:l.length<2000) (ha:0<=a/\a<Aw g) (hok:Vj a stamp b) :
  ACalls Tryz.prog false 213 [.bp 0 0,iv a,iv stamp,bA b] (Oz g s d) fun r H=>(d.left=0/\r = .tp [.v (.bool false),iv 8]/\H=Oz g s d)\/(d.left≠0/\r = .tp [.v (.bool true),iv 0]/\Gc (Aw g) (d.write a (Bp a stamp b)).1 F (l ++ [⟨a,Bp a stamp b⟩])/\(d.write a (Bp a stamp b)).2=0/\H=Oz g s (d.write a (Bp a stamp b)).1):=by
 have hs:=LZ a stamp b hok;have hsl:(Bp a stamp b).length<=200:=by rw [Et];have:=hok.2.2.2.2;omega
 have hc:=Tf g s d a (Bp a stamp b) h.ok (by have:=h.len;omega) hsl;have hw:=h.write hl ha.1 ha.2 hsl;refine zT tys_ok Tryz.func213 rfl rfl (Ag rfl) ?_;conv=>whnf
 refine z_ hs ?_;conv=>whnf
 refine ze9 [0,1,2,3] hc ?_;rintro _ _ ⟨rfl,rfl⟩;rcases hw with ⟨h0,e8⟩ | ⟨h0,e0,hw⟩
 ·rw [e8];exact⟨_, .tp [.v (.bool false),iv 8],Oz g s d,fun _ _ h=>h,zR (s:= [0,1,2,3]) tA, .inl ⟨h0,rfl,rfl⟩⟩
 ·rw [e0];exact⟨_, .tp [.v (.bool true),iv 0],Oz g s (d.write a (Bp a stamp b)).1,fun _ _ h=>h,zR (s:= [0,1,2,3]) tA, .inr ⟨h0,rfl,hw,rfl,rfl⟩⟩
theorem Xw (g:Geo) (d:Dk) (s:Stt) (h:DkOk d) (hst:P9 g d s=true) (hs:StSm s):ACalls Tryz.prog false 34 [.ag (AT g), .ag (FX d), .ag (Fh s)] [] fun r H=>r = .tp [.bp 0 0,iv 0]/\H=Oz g s d:=by
 have hN:=h.n;have hM:=h.m;have c1:=O1 g d s (by omega) (by omega) hs.big;rw [hst] at c1;have c2:=Td d (by omega) (by omega);have c3:=Ks s hs;refine zT tys_ok Tryz.func34 rfl rfl (Ag rfl) ?_;conv=>whnf
 refine z_ c1 ?_;conv=>whnf
 apply zV (0) tys_ok mixed (.o [0,1,3,2,4,5,6,7,8] .fin) (by kernel_rfl);conv=>whnf
 (refine zW c2 rfl ?_;rintro _ _ ⟨rfl,rfl⟩)
 conv=>whnf
 refine z_ c3 ?_;conv=>whnf
 all_goals exact⟨_, .tp [.bp 0 0,iv 0],Oz g s d,fun _ _ h=>h,zR (s:= [6,3,4,5]) tA,rfl,rfl⟩
@[reducible] def txZ:List AV:= [iv 0,iv 0,iv 0, .v (.slice none 0 0)]
theorem odrop0_fn:Fn Tryz.prog 82 [Dh []] fun r=>r = .tp [.ag (CI ⟨0,0,0, []⟩), .v (.slice none 0 0),iv 10]:=by
 refine zS Tryz.func82 rfl ?_;exact⟨_,BX (m:= [.ag (CI ⟨0,0,0, []⟩), .v (.slice none 0 0),iv 10]) ⟨Be ⟨ri,ri,ri,Bt 3 _,tv⟩,ri,ri,tv⟩,rfl⟩
theorem Wx (x:Tx) (r:List Tx) (hl:(x::r).length<=1000000) (hi:∀ t∈x::r,t.images.length<=1000000/\∀ y∈t.images,y.bytes.length<=1000000000):Fn Tryz.prog 82 [Dh (x::r)] fun v=>v = .tp [.ag (CI x),Dh r,iv 0]:=by
 have c1:=SN (x::r) hl hi;have c2:=K2 r (by rw [Al] at hl;omega);have h1:1<=(x::r).length:=by simp
 have e0:(((x::r).length:Int) == 0)=false:=by rw [beq_eq_false_iff_ne,Al];omega
 refine zS Tryz.func82 rfl ?_;conv=>whnf
 rw [e0];conv=>whnf
 refine z_ c1 ?_;conv=>whnf
 apply zV (0) tys_ok mixed (.o [0,1,2,3,4,5,6,7,8] .fin) (by kernel_rfl);conv=>whnf
 try (refine tI ?_;conv=>whnf)
 try (refine tI ?_;conv=>whnf)
 (refine zX [Dh r] ⟨P6 x r,tv⟩ ?_;refine zW c2 rfl ?_;rintro _ _ ⟨rfl,rfl⟩)
 conv=>whnf
 try (refine tS ?_;conv=>whnf)
 refine Ad (Aa _).symm ?_;exact⟨_,BX (m:= [.ag (CI x),Dh r,iv 0]) ⟨ri,Ba (f:=CI) r rfl rfl,ri,tv⟩,rfl⟩
@[reducible] def hoH (g:Geo) (s:Stt) (A:An) (d:Dk):List AB:= [.box 165 [.bp 1 0,iv A.gen,iv A.epoch,iv A.pos,iv A.seq,iv A.last, .v (.string A.label), .ow 5 A.homes.length,iv 0], .box 107 (YN g (.bp 2 0) s), .box 113 (Hr (.ow 3 d.cells.length) (.ow 4 d.cache.length) d.reqs d.left), .row 84 3 (d.cells.map BG), .row 131 2 (d.cache.map EK), .row 53 3 (A.homes.map DU)]
theorem Jv {m:Nat} (h:Nat.ble 5 m=true):∀ z∈ [1,2,3,4],z<m:=fun z hz=>by
 have:=Ag h;simp at hz;omega
theorem LM (d:Dk) (w:Wr):d.writes [w]=((d.write w.addr w.bytes).1,(if (d.write w.addr w.bytes).2=8 then 0 else 0+if (d.write w.addr w.bytes).2=0 then 1 else 0),decide ((d.write w.addr w.bytes).2=8)):=F_ d 0 w
theorem Tj (g:Geo) (A:An) (l:List AV):SubL ([.ag (AT g), .ag (Nl A (.sl 3 A.homes.length fun i=>(A.homes.map DU).getD i []))] ++ l) ([.ag (AT g), .ag (Ew A)] ++ l):=
 ⟨ri,Be ⟨ri,ri,ri,ri,ri,ri,Ba (f:=DU) A.homes rfl rfl,tv⟩,SubL.refl l⟩
theorem Uu (g:Geo) (s:Stt) (A:An) (d:Dk) (F:Int->List UInt8) (l:List Wr) (seq:Int) (x:Img) (hg:Bq g=true) (hA:Bj g A=true) (hx:B4 g x=true) (h255:x.what≠255) (hs:0<=seq/\seq<=4294967295) (h:Gc (Aw g) d F l) (hl:l.length<1900) :
  ACalls Tryz.prog false 157 [.bp 0 0,iv seq, .ag (D9 x)] (hoH g s A d) fun r H=>(d.left=0/\r = .tp [.v (.bool false),iv 8]/\H=hoH g s A d)\/(d.left≠0/\r = .tp [.v (.bool true),iv 0]/\Gc (Aw g) (d.write (B5 g A x.zone x.what) (Bp (B5 g A x.zone x.what) seq x.bytes)).1 F (l ++ [⟨B5 g A x.zone x.what,Bp (B5 g A x.zone x.what) seq x.bytes⟩])/\(d.write (B5 g A x.zone x.what) (Bp (B5 g A x.zone x.what) seq x.bytes)).2=0/\H=hoH g s A (d.write (B5 g A x.zone x.what) (Bp (B5 g A x.zone x.what) seq x.bytes)).1):=by
 obtain⟨g1,g2,g3,g4,g5⟩:=Aq.1 hg;obtain⟨hz,hb⟩:=Dl hx;have hb:=hb h255;have hcb:=EI hg;obtain⟨sl,e1,e2⟩:=Es hg hA hz (w:=x.what) (by omega);have hsl:=Fs hg hz e2;have hadr:=Qg g A x.zone x.what hg hA hz (by omega);obtain⟨X,hX⟩:∃ X,X=B5 g A x.zone x.what:=⟨_,rfl⟩;rw [<-hX] at hadr e1 |-
 have hput:=Pr g s d F l X seq x.bytes h (by omega) (by omega) ⟨by omega,by omega,hs.1,hs.2,by omega⟩;by_cases h0:d.left=0
 ·have hput:=hput.mono (K':=fun r H=>r = .tp [.v (.bool false),iv 8]/\H=Oz g s d) fun r H hh=>by
   rcases hh with ⟨-,h1,h2⟩ | ⟨h1, -⟩
   ·exact⟨h1,h2⟩
   ·exact absurd h0 h1
  refine zT tys_ok Tryz.func157 rfl rfl (Ag rfl) ?_;conv=>whnf
  apply zP tys_ok mixed (.o [0,1,2,3,4,5,6,7,8,9,10,11,12,13,14,15,16,17] .fin) [9,10,18,19,20,21,22,23,24,25,26,27,28,29,30,31,32,33] (by kernel_rfl)
  ·conv=>whnf
   (refine zp (args':= [.ag (AT g), .ag (Nl A (.sl 3 A.homes.length fun i=>(A.homes.map DU).getD i [])),iv x.zone,iv x.what]) (hadr.subA (Tj g A [iv x.zone,iv x.what])) ⟨(Aa _).symm,rfl⟩ ?_;rintro _ rfl;refine⟨rfl,?_⟩)
   exact tA
  conv=>whnf
  refine zH 1 ?_;conv=>whnf
  repeat' (refine zY ?_;conv=>whnf)
  apply zV (2 ^ 136) tys_ok mixed (.o [0,1,2,3,4,5,6,7,8,9,10,11,12,13] .fin) (by kernel_rfl);conv=>whnf
  (refine ze9 [1,2,3,4] hput ?_;rintro _ _ ⟨rfl,rfl⟩)
  conv=>whnf
  repeat' (refine zY ?_;conv=>whnf)
  exact⟨_, .tp [.v (.bool false),iv 8],hoH g s A d,fun _ _ h=>h,zR (s:= [0,1,2,3,4,5]) tA, .inl ⟨h0,rfl,rfl⟩⟩
 ·obtain⟨D,hD⟩:∃ D,D=(d.write X (Bp X seq x.bytes)).1:=⟨_,rfl⟩;rw [<-hD] at hput |-
  have hput:=hput.mono (K':=fun r H=>(Gc (Aw g) D F (l ++ [⟨X,Bp X seq x.bytes⟩])/\(d.write X (Bp X seq x.bytes)).2=0)/\r = .tp [.v (.bool true),iv 0]/\H=Oz g s D) fun r H hh=>by
   rcases hh with ⟨h1, -⟩ | ⟨-,h1,h2,h3,h4⟩
   ·exact absurd h1 h0
   ·exact⟨⟨h2,h3⟩,h1,h4⟩
  refine zT tys_ok Tryz.func157 rfl rfl (Ag rfl) ?_;conv=>whnf
  apply zP tys_ok mixed (.o [0,1,2,3,4,5,6,7,8,9,10,11,12,13,14,15,16,17] .fin) [9,10,18,19,20,21,22,23,24,25,26,27,28,29,30,31,32,33] (by kernel_rfl)
  ·conv=>whnf
   (refine zp (args':= [.ag (AT g), .ag (Nl A (.sl 3 A.homes.length fun i=>(A.homes.map DU).getD i [])),iv x.zone,iv x.what]) (hadr.subA (Tj g A [iv x.zone,iv x.what])) ⟨(Aa _).symm,rfl⟩ ?_;rintro _ rfl;refine⟨rfl,?_⟩)
   exact tA
  conv=>whnf
  refine zH 1 ?_;conv=>whnf
  repeat' (refine zY ?_;conv=>whnf)
  apply zV (2 ^ 136) tys_ok mixed (.o [0,1,2,3,4,5,6,7,8,9,10,11,12,13] .fin) (by kernel_rfl);conv=>whnf
  (refine ze9 [1,2,3,4] hput ?_;rintro _ _ ⟨⟨hw,e0⟩,rfl,rfl⟩)
  conv=>whnf
  repeat' (refine zY ?_;conv=>whnf)
  exact⟨_, .tp [.v (.bool true),iv 0],hoH g s A D,fun _ _ h=>h,zR (s:= [0,1,2,3,4,5]) tA, .inr ⟨h0,rfl,hw,e0,rfl⟩⟩
theorem Uq (g:Geo) (s:Stt) (A:An) (d:Dk) (F:Int->List UInt8) (l:List Wr) (seq:Int) (x:Img) (hg:Bq g=true) (hA:Bj g A=true) (hx:B4 g x=true) (h255:x.what=255) (hs:0<=seq/\seq<=4294967295) (h:Gc (Aw g) d F l) (hl:l.length<1900) :
  ACalls Tryz.prog false 156 [.bp 0 0,iv seq, .ag (D9 x)] (hoH g s A d) fun r H=>((d.writes (Ce g A seq x)).2.2=true/\r = .tp [.v (.bool false),iv 8]/\H=hoH g s A (d.writes (Ce g A seq x)).1)\/((d.writes (Ce g A seq x)).2.2=false/\r = .tp [.v (.bool true),iv 0]/\Gc (Aw g) (d.writes (Ce g A seq x)).1 F (l ++ Ce g A seq x)/\H=hoH g s (C3 A seq x) (d.writes (Ce g A seq x)).1):=by
 obtain⟨g1,g2,g3,g4,g5⟩:=Aq.1 hg;obtain⟨hz, -⟩:=Dl hx;have hxl:=EM hg hx;have hcb:=EI hg;have hzA:=(Kf hA hz).1;have ht0:=KS g x.zone 0 hg hz (by decide);have ht1:=KS g x.zone 1 hg hz (by decide);obtain⟨u1,u2,u3⟩:=FD hg hz (k:=0) (by decide);obtain⟨v1,v2,v3⟩:=FD hg hz (k:=1) (by decide);have ei:Ce g A seq x=[⟨AG g x.zone 0,Bp (AG g x.zone 0) seq x.bytes⟩,⟨AG g x.zone 1,Bp (AG g x.zone 1) seq x.bytes⟩]:=if_pos h255;obtain⟨P,hP⟩:∃ P,P=AG g x.zone 0:=⟨_,rfl⟩;obtain⟨Q,hQ⟩:∃ Q,Q=AG g x.zone 1:=⟨_,rfl⟩;rw [ei];rw [<-hP] at ht0 u1 u2 u3 |-
 rw [<-hQ] at ht1 v1 v2 v3 |-
 have hp0:=Pr g s d F l P seq x.bytes h (by omega) (by omega) ⟨by omega,by omega,hs.1,hs.2,by omega⟩;have hw0:=h.write (a:=P) (b:=Bp P seq x.bytes) (by omega) (by omega) u3 (by rw [Et];omega);have ew:d.writes [⟨P,Bp P seq x.bytes⟩,⟨Q,Bp Q seq x.bytes⟩]=CU (CU (d,0,false) ⟨P,Bp P seq x.bytes⟩) ⟨Q,Bp Q seq x.bytes⟩:=rfl;have en:((d.writes [⟨P,Bp P seq x.bytes⟩]).2.2=decide ((d.write P (Bp P seq x.bytes)).2=8)):=by rw [LM]
 obtain⟨S,hS⟩:∃ S,S=d.writes [⟨P,Bp P seq x.bytes⟩,⟨Q,Bp Q seq x.bytes⟩]:=⟨_,rfl⟩;rw [<-hS];by_cases h0:d.left=0
 ·have hp0:=hp0.mono (K':=fun r H=>r = .tp [.v (.bool false),iv 8]/\H=Oz g s d) fun r H hh=>by
   rcases hh with ⟨-,h1,h2⟩ | ⟨h1, -⟩
   ·exact⟨h1,h2⟩
   ·exact absurd h0 h1
  have hSd:S=(d,0,true):=by
   rcases hw0 with ⟨-,e8⟩ | ⟨h1, -⟩
   ·rw [hS,ew];unfold CU;simp only [e8];rfl
   ·exact absurd h0 h1
  rw [hSd];refine zT tys_ok Tryz.func156 rfl rfl (Ag rfl) ?_;conv=>whnf
  refine zH 1 ?_;conv=>whnf
  repeat' (refine zY ?_;conv=>whnf)
  apply zP tys_ok mixed (.o [0,1,2,3,4,5,6,7,8,9,10,11,12,13,14,15] .fin) [10,11,17,18,19,20,21,22,23,24,25,26,27,28,29,30] (by kernel_rfl)
  ·conv=>whnf
   refine z_ ht0 ?_;exact tA
  conv=>whnf
  apply zV (2 ^ 136) tys_ok mixed (.o [0,1,2,3,4,5,6,7,8,9,10,11,12,13] .fin) (by kernel_rfl);conv=>whnf
  (refine ze9 [1,2,3,4] hp0 ?_;rintro _ _ ⟨rfl,rfl⟩)
  conv=>whnf
  repeat' (refine zY ?_;conv=>whnf)
  exact⟨_, .tp [.v (.bool false),iv 8],hoH g s A d,fun _ _ h=>h,zR (s:= [0,1,2,3,4,5]) tA, .inl tA⟩
 ·obtain⟨D,hD⟩:∃ D,D=(d.write P (Bp P seq x.bytes)).1:=⟨_,rfl⟩;have hw0:Gc (Aw g) D F (l ++ [⟨P,Bp P seq x.bytes⟩])/\(d.write P (Bp P seq x.bytes)).2=0:=by
   rcases hw0 with ⟨h1, -⟩ | ⟨-,h1,h2⟩
   ·exact absurd h1 h0
   ·rw [hD];exact⟨h2,h1⟩
  obtain⟨hwD,e0⟩:=hw0;have hp0:=hp0.mono (K':=fun r H=>r = .tp [.v (.bool true),iv 0]/\H=Oz g s D) fun r H hh=>by
   rcases hh with ⟨h1, -⟩ | ⟨-,h1,h2,h3,h4⟩
   ·exact absurd h1 h0
   ·rw [hD];exact⟨h1,h4⟩
  have hp1:=Pr g s D F _ Q seq x.bytes hwD (by rw [Ai];show _+1<2000;omega) (by omega) ⟨by omega,by omega,hs.1,hs.2,by omega⟩;have hw1:=hwD.write (a:=Q) (b:=Bp Q seq x.bytes) (by rw [Ai];show _+1<2000;omega) (by omega) v3 (by rw [Et];omega);have hS1:S=CU (D,1,false) ⟨Q,Bp Q seq x.bytes⟩:=by
   rw [hS,ew,F_ d 0];simp only [e0];rw [<-hD];rfl
  by_cases h1:D.left=0
  ·have hp1:=hp1.mono (K':=fun r H=>r = .tp [.v (.bool false),iv 8]/\H=Oz g s D) fun r H hh=>by
    rcases hh with ⟨-,q1,q2⟩ | ⟨q1, -⟩
    ·exact⟨q1,q2⟩
    ·exact absurd h1 q1
   have hSd:S=(D,1,true):=by
    rcases hw1 with ⟨-,e8⟩ | ⟨q1, -⟩
    ·rw [hS1];unfold CU;simp only [e8];rfl
    ·exact absurd h1 q1
   rw [hSd];refine zT tys_ok Tryz.func156 rfl rfl (Ag rfl) ?_;conv=>whnf
   refine zH 2 ?_;conv=>whnf
   repeat' (refine zY ?_;conv=>whnf)
   apply zP tys_ok mixed (.o [0,1,2,3,4,5,6,7,8,9,10,11,12,13,14,15] .fin) [10,11,17,18,19,20,21,22,23,24,25,26,27,28,29,30] (by kernel_rfl)
   ·conv=>whnf
    refine z_ ht0 ?_;exact tA
   conv=>whnf
   apply zV (2 ^ 136) tys_ok mixed (.o [0,1,2,3,4,5,6,7,8,9,10,11,12,13] .fin) (by kernel_rfl);conv=>whnf
   (refine ze9 [1,2,3,4] hp0 ?_;rintro _ _ ⟨rfl,rfl⟩)
   conv=>whnf
   repeat' (refine zY ?_;conv=>whnf)
   apply zP tys_ok mixed (.o [0,1,2,3,4,5,6,7,8,9,10,11,12,13,14,15] .fin) [10,11,17,18,19,20,21,22,23,24,25,26,27,28,29,30] (by kernel_rfl)
   ·conv=>whnf
    refine z_ ht1 ?_;exact tA
   conv=>whnf
   apply zV (2 ^ 136) tys_ok mixed (.o [0,1,2,3,4,5,6,7,8,9,10,11,12,13] .fin) (by kernel_rfl);conv=>whnf
   (refine ze9 [1,2,3,4] hp1 ?_;rintro _ _ ⟨rfl,rfl⟩)
   conv=>whnf
   repeat' (refine zY ?_;conv=>whnf)
   exact⟨_, .tp [.v (.bool false),iv 8],hoH g s A D,fun _ _ h=>h,zR (s:= [0,1,2,3,4,5]) tA, .inl tA⟩
  ·obtain⟨E,hE⟩:∃ E,E=(D.write Q (Bp Q seq x.bytes)).1:=⟨_,rfl⟩;have hw1:Gc (Aw g) E F (l ++ [⟨P,Bp P seq x.bytes⟩] ++ [⟨Q,Bp Q seq x.bytes⟩])/\(D.write Q (Bp Q seq x.bytes)).2=0:=by
    rcases hw1 with ⟨q1, -⟩ | ⟨-,q1,q2⟩
    ·exact absurd q1 h1
    ·rw [hE];exact⟨q2,q1⟩
   obtain⟨hwE,e1⟩:=hw1;have hp1:=hp1.mono (K':=fun r H=>r = .tp [.v (.bool true),iv 0]/\H=Oz g s E) fun r H hh=>by
    rcases hh with ⟨q1, -⟩ | ⟨-,q1,q2,q3,q4⟩
    ·exact absurd q1 h1
    ·rw [hE];exact⟨q1,q4⟩
   have hSd:S=(E,2,false):=by
    rw [hS1,F_ D 1];simp only [e1];rw [<-hE];rfl
   rw [hSd];refine zT tys_ok Tryz.func156 rfl rfl (Ag rfl) ?_;conv=>whnf
   refine zH 3 ?_;conv=>whnf
   repeat' (refine zY ?_;conv=>whnf)
   apply zP tys_ok mixed (.o [0,1,2,3,4,5,6,7,8,9,10,11,12,13,14,15] .fin) [10,11,17,18,19,20,21,22,23,24,25,26,27,28,29,30] (by kernel_rfl)
   ·conv=>whnf
    refine z_ ht0 ?_;exact tA
   conv=>whnf
   apply zV (2 ^ 136) tys_ok mixed (.o [0,1,2,3,4,5,6,7,8,9,10,11,12,13] .fin) (by kernel_rfl);conv=>whnf
   (refine ze9 [1,2,3,4] hp0 ?_;rintro _ _ ⟨rfl,rfl⟩)
   conv=>whnf
   repeat' (refine zY ?_;conv=>whnf)
   apply zP tys_ok mixed (.o [0,1,2,3,4,5,6,7,8,9,10,11,12,13,14,15] .fin) [10,11,17,18,19,20,21,22,23,24,25,26,27,28,29,30] (by kernel_rfl)
   ·conv=>whnf
    refine z_ ht1 ?_;exact tA
   conv=>whnf
   apply zV (2 ^ 136) tys_ok mixed (.o [0,1,2,3,4,5,6,7,8,9,10,11,12,13] .fin) (by kernel_rfl);conv=>whnf
   (refine ze9 [1,2,3,4] hp1 ?_;rintro _ _ ⟨rfl,rfl⟩)
   conv=>whnf
   repeat' (refine zY ?_;conv=>whnf)
   apply zV (0) tys_ok mixed (.o [0,1,2,3,4,5,6,7,8,9,10] .fin) (by kernel_rfl);conv=>whnf
   try (refine tI ?_;conv=>whnf)
   try (refine tS ?_;conv=>whnf)
   rw [show (A.homes.map DU).getD x.zone.toNat []=DU (A.homes.getD x.zone.toNat ⟨[],0,0⟩) from Bg hzA];conv=>whnf
   have eu:C3 A seq x={ A with homes:=A.homes.set x.zone.toNat { A.homes.getD x.zone.toNat ⟨[],0,0⟩ with root:=seq } }:=if_pos h255;have hl2:(C3 A seq x).homes.length=A.homes.length:=FC A seq x;refine⟨_, .tp [.v (.bool true),iv 0],hoH g s (C3 A seq x) E,fun _ _ h=>h,zR (s:= [0,1,2,3,4,5]) ⟨tA,⟨?_,rfl,rfl,rfl,rfl,?_,tv⟩,rfl,rfl,rfl,rfl,rfl⟩, .inr ⟨rfl,rfl,by rw [A6] at hwE;exact hwE,rfl⟩⟩
   ·rw [hl2,eu];rfl
   ·rw [eu];exact congrArg (fun es=>some (AB.row 53 3 es)) (Ch (f:=DU) (l:=A.homes) (i:=x.zone.toNat) (a:={ A.homes.getD x.zone.toNat ⟨[],0,0⟩ with root:=seq })).symm
theorem Ut (g:Geo) (s:Stt) (A:An) (d:Dk) (F:Int->List UInt8) (l:List Wr) (seq:Int) (x:Img) (hg:Bq g=true) (hA:Bj g A=true) (hx:B4 g x=true) (hs:0<=seq/\seq<=4294967295) (h:Gc (Aw g) d F l) (hl:l.length<1900) :
  ACalls Tryz.prog false 84 [.bp 0 0,iv seq, .ag (D9 x)] (hoH g s A d) fun r H=>((d.writes (Ce g A seq x)).2.2=true/\r = .tp [.v (.bool false),iv 8]/\H=hoH g s A (d.writes (Ce g A seq x)).1)\/((d.writes (Ce g A seq x)).2.2=false/\r = .tp [.v (.bool true),iv 0]/\Gc (Aw g) (d.writes (Ce g A seq x)).1 F (l ++ Ce g A seq x)/\H=hoH g s (C3 A seq x) (d.writes (Ce g A seq x)).1):=by
 by_cases h255:x.what=255
 ·have hc:=Uq g s A d F l seq x hg hA hx h255 hs h hl;refine zT tys_ok Tryz.func84 rfl rfl (Ag rfl) ?_;conv=>whnf
  rw [show (x.what == 255)=true from beq_iff_eq.2 h255];conv=>whnf
  refine ze9 [0,1,2,3,4,5] hc ?_;rintro _ _ (⟨q1,rfl,rfl⟩ | ⟨q1,rfl,q2,rfl⟩)
  ·exact⟨_, .tp [.v (.bool false),iv 8],hoH g s A (d.writes (Ce g A seq x)).1,fun _ _ h=>h,zR (s:= [0,1,2,3,4,5]) tA, .inl ⟨q1,rfl,rfl⟩⟩
  ·exact⟨_, .tp [.v (.bool true),iv 0],hoH g s (C3 A seq x) (d.writes (Ce g A seq x)).1,fun _ _ h=>h,zR (s:= [0,1,2,3,4,5]) tA, .inr ⟨q1,rfl,q2,rfl⟩⟩
 ·have hc:=Uu g s A d F l seq x hg hA hx h255 hs h hl;have ei:Ce g A seq x=[⟨B5 g A x.zone x.what,Bp (B5 g A x.zone x.what) seq x.bytes⟩]:=if_neg h255;have eu:C3 A seq x=A:=if_neg h255;have hw8:d.left=0->d.write (B5 g A x.zone x.what) (Bp (B5 g A x.zone x.what) seq x.bytes)=(d,8):=fun h0=>by unfold Dk.write;rw [if_pos h0]
  rw [ei,LM,eu];simp only;generalize Bp (B5 g A x.zone x.what) seq x.bytes=B at hc hw8 |-
  generalize B5 g A x.zone x.what=X at hc hw8 |-
  refine zT tys_ok Tryz.func84 rfl rfl (Ag rfl) ?_;conv=>whnf
  rw [show (x.what == 255)=false from beq_eq_false_iff_ne.2 h255];conv=>whnf
  refine ze9 [0,1,2,3,4,5] hc ?_;rintro _ _ (⟨q1,rfl,rfl⟩ | ⟨q1,rfl,q2,q3,rfl⟩)
  ·rw [hw8 q1];exact⟨_, .tp [.v (.bool false),iv 8],hoH g s A d,fun _ _ h=>h,zR (s:= [0,1,2,3,4,5]) tA, .inl tA⟩
  ·rw [q3];exact⟨_, .tp [.v (.bool true),iv 0],hoH g s A (d.write X B).1,fun _ _ h=>h,zR (s:= [0,1,2,3,4,5]) tA, .inr ⟨rfl,rfl,q2,rfl⟩⟩
@[reducible] def bq (g:Geo) (s:Stt) (x:Tx) (A:An) (d:Dk):List AB:=Oz g s d ++ ([.box 45 (CI x), .row 53 3 (A.homes.map DU), .box 165 [.bp 0 0,iv A.gen,iv A.epoch,iv A.pos,iv A.seq,iv A.last, .v (.string A.label), .ow 5 A.homes.length,iv 0]]:List AB)
theorem aT {m:Nat} (h:Nat.ble 7 m=true):∀ z∈ [6,0,1,2,3,5],z<m:=fun z hz=>by
 have:=Ag h;simp at hz;omega
theorem ZF {m:Nat} (h:Nat.ble 8 m=true):∀ z∈ [0,1,2,7],z<m:=fun z hz=>by
 have:=Ag h;simp at hz;omega
theorem ZS (g:Geo) (s:Stt) (x:Tx) (r:List Tx) (d:Dk) (F:Int->List UInt8) (hg:Bq g=true) (ha:Bj g s.a=true) (hs:s.txns=x::r) (hsm:StSm s) (honly:s.only=false) (hgen:s.a.gen<4294967295) (hseq:s.a.seq<4294967295) (hxs:x.seq=s.a.seq) (hxp:0<=x.pos/\x.pos<g.sl) (hxn:x.n=(x.images.length:Nat)+1) (hxi:∀ y∈x.images,B4 g y=true) (hmv:s.moved=0) (h:Gc (Aw g) d F []) :
  ACalls Tryz.prog false 35 [.bp 0 0] (Oz g s d) fun v H=>v = .tp [.v (.int .i64 (Gr g s x r d).2.2.1), .v (.int .i64 (Gr g s x r d).2.2.2)]/\H=bwG g (Gr g s x r d).1 (Gr g s x r d).2.1:=by
 obtain⟨g1,g2,g3,g4,g5⟩:=Aq.1 hg;obtain⟨a1,a2,a3,a4⟩:=Er ha;have hi30:x.images.length<=30:=(hsm.t.2 x (by rw [hs];simp)).1;have hdrop:=Wx x r (by rw [<-hs];have:=hsm.t.1;omega) (fun t ht=>by
  have:=hsm.t.2 t (by rw [hs];exact ht);exact⟨by omega,fun y hy=>by have:=this.2 y hy;omega⟩)
 rw [<-hs] at hdrop;have hatw:=Vc s.a (by have:=hsm.h.1;omega) hsm.h.2;refine zT tys_ok Tryz.func35 rfl rfl (Ag rfl) ?_;conv=>whnf
 refine z_ hdrop ?_;conv=>whnf
 rw [honly];conv=>whnf
 rw [show (s.a.gen == 4294967295)=false from beq_eq_false_iff_ne.2 (by omega)];conv=>whnf
 rw [show (s.a.seq == 4294967295)=false from beq_eq_false_iff_ne.2 (by omega)];conv=>whnf
 refine zW hatw rfl ?_;rintro _ _ ⟨rfl,rfl⟩;conv=>whnf
 have hin0:=NY hg ha hxi (seq:=x.seq);refine zU (Nat × Dk) (fun y=>([(0, .bp 0 0),(4, .bp 4 0),(5,Dh r),(7, .bp 6 0),(60,DH x.images),(61,iv (x.images.length:Nat)),(62,iv (y.1:Nat))],bq g s x (BO s.a x.seq (x.images.take y.1)) y.2)) (fun y=>y.1<=x.images.length/\(d.writes (BS g s.a x.seq (x.images.take y.1))).1=y.2/\(d.writes (BS g s.a x.seq (x.images.take y.1))).2.2=false/\Gc (Aw g) y.2 F (BS g s.a x.seq (x.images.take y.1))) (fun y=>x.images.length - y.1) (0,d) ⟨Aj _,rfl,rfl,h⟩
  (zR (s:= [0,1,2,3,4,5,6]) tA) ?_
 rintro⟨i,d1⟩ ⟨hi,hd1,hlv,hg1⟩;simp only at hi hd1 hlv hg1;have hAok:=Ht (g:=g) (seq:=x.seq) (by omega) (x.images.take i) ha;have hAl:=Il x.seq (x.images.take i) s.a;obtain⟨A,hA⟩:∃ A,A=BO s.a x.seq (x.images.take i):=⟨_,rfl⟩;rw [<-hA] at hAok hAl |-
 by_cases hin:i<x.images.length
 ·obtain⟨y,hy⟩:∃ y,y=x.images.getD i ⟨0,0, []⟩:=⟨_,rfl⟩;have hym:y∈x.images:=by rw [hy];exact A7 hin
  have hyk:=hxi y hym;have htk:x.images.take (i+1)=x.images.take i ++ [y]:=by
   rw [A_,Af hin,hy,Ab,Af hin];rfl
  have hup:BO s.a x.seq (x.images.take (i+1))=C3 A x.seq y:=by rw [htk,Lf,<-hA]
  have hwl:(BS g s.a x.seq (x.images.take i)).length<=2*i:=Bl (Hh _) (by rw [Ar];omega);have hzl:y.zone.toNat<s.a.homes.length:=(Kf ha (Dl hyk).1).1;have ewr:Ce g A x.seq y=Ce g s.a x.seq y:=by rw [hA];exact Qz hzl
  have eW:BS g s.a x.seq (x.images.take (i+1))=BS g s.a x.seq (x.images.take i) ++ Ce g s.a x.seq y:=by
   rw [htk,E_];show _ ++ (Ce g s.a x.seq y ++ [])=_;rw [AK]
  have hc:=Ut g s A d1 F _ x.seq y hg hAok hyk (by omega) hg1 (by omega);rw [ewr] at hc;have hthen:=Px (d:=d) (l:=BS g s.a x.seq (x.images.take i)) (Ce g s.a x.seq y) hlv;rw [hd1,<-eW] at hthen;conv=>whnf
  rw [show decide ((i:Int)<(x.images.length:Nat))=true from decide_eq_true (by omega)];conv=>whnf
  repeat' (refine zY ?_;conv=>whnf)
  refine⟨⟨by omega,by omega⟩,?_⟩;conv=>whnf
  rw [Ac,<-hy];refine ze9 [6,0,1,2,3,5] hc ?_;rintro _ _ (⟨q1,rfl,rfl⟩ | ⟨q1,rfl,q2,rfl⟩)
  ·conv=>whnf
   repeat' (refine zY ?_;conv=>whnf)
   have hdead:(d.writes (BS g s.a x.seq (x.images.take (i+1)))).2.2=true:=by rw [hthen];exact q1
   have hall:d.writes (BS g s.a x.seq x.images)=d.writes (BS g s.a x.seq (x.images.take (i+1))):=by
    have:=Re d (BS g s.a x.seq (x.images.take (i+1))) (BS g s.a x.seq (x.images.drop (i+1))) hdead;rwa [<-E_,BK] at this
   have hck:Gr g s x r d=(s,(d1.writes (Ce g s.a x.seq y)).1,0,8):=by
    unfold Gr;rw [EC (by rw [hall];exact hdead),hall,hthen]
   rw [hck];exact⟨_, .tp [iv 0,iv 8],bwG g s (d1.writes (Ce g s.a x.seq y)).1,fun _ _ h=>h,zI (zK (zy 1 3 (by decide) rfl rfl)) (s:= [0,1,2,3,8]) tA,rfl,rfl⟩
  ·conv=>whnf
   repeat' (refine zY ?_;conv=>whnf)
   refine⟨(i+1,(d1.writes (Ce g s.a x.seq y)).1),⟨by show i+1<=x.images.length;omega,?_,?_,?_⟩,by show x.images.length - (i+1)<x.images.length - i;omega,?_⟩
   ·show (d.writes (BS g s.a x.seq (x.images.take (i+1)))).1=_;rw [hthen]
   ·show (d.writes (BS g s.a x.seq (x.images.take (i+1)))).2.2=false;rw [hthen];exact q1
   ·show Gc (Aw g) _ F (BS g s.a x.seq (x.images.take (i+1)));rw [eW];exact q2
   ·show WkR _ _ _ _ (bq g s x (BO s.a x.seq (x.images.take (i+1))) _);rw [hup];exact zR (s:= [0,1,2,3,4,5,6]) ⟨⟨rfl,rfl,rfl,rfl,rfl,rfl,AL (by omega),tv⟩,tA,rfl,rfl,rfl,rfl,rfl⟩
 ·have ei:i=x.images.length:=by omega
  rw [ei,As] at hd1 hlv hg1 hA;have hA2:=Gn x.seq x.images s.a;rw [<-hA] at hA2;have hW:=Hh (g:=g) (a:=s.a) (seq:=x.seq) x.images;have hok1:=hg1.ok;have hfl:=J6 d1 hok1.l hok1.m fun w hw=>(hok1.w w hw).1
  have hp:=Ef hlv;rw [hd1] at hp;conv=>whnf
  rw [show decide ((i:Int)<(x.images.length:Nat))=false from decide_eq_false (by omega)];conv=>whnf
  repeat' (refine zY ?_;conv=>whnf)
  refine ze9 [1,2,3] hfl ?_;rintro _ _ ⟨rfl,rfl⟩;by_cases h0:d1.left=0
  ·simp only [h0,if_true] at hp |-
   conv=>whnf
   repeat' (refine zY ?_;conv=>whnf)
   have hck:Gr g s x r d=(s,d1,0,8):=by
    unfold Gr;rw [hp]
   rw [hck];exact⟨_, .tp [iv 0,iv 8],bwG g s d1,fun _ _ h=>h,zR (s:= [0,1,2,3,7]) tA,rfl,rfl⟩
  ·simp only [h0,if_false] at hp |-
   conv=>whnf
   repeat' (refine zY ?_;conv=>whnf)
   apply aDraw.dag (4176) tys_ok mixed [([],23,(.o [0,1,2,3,5,8,9,10,11,14,15,16,17] (.alt 4 (.alt 6 (.jump 1) (.alt 12 (.jump 2) (.alt 18 (.jump 3) .non))) (.alt 6 (.alt 4 (.jump 1) (.alt 12 (.jump 4) (.alt 18 (.jump 5) .non))) (.alt 12 (.alt 4 (.jump 2) (.alt 6 (.jump 4) (.alt 18 (.jump 6) .non))) (.alt 18 (.alt 4 (.jump 3) (.alt 6 (.jump 5) (.alt 12 (.jump 6) .non))) .non)))))),([0,1,2,3,4,5,6,8,9,10,11,14,15,16,17],8,(.one 7 (.alt 12 (.o [13,18,19,20,21,22] .fin) (.alt 18 (.o [12,13,19,20,21,22] .fin) .non)))),([0,1,2,3,4,5,8,9,10,11,12,14,15,16,17],8,(.alt 6 (.jump 7) (.alt 18 (.jump 9) .non))),([0,1,2,3,4,5,8,9,10,11,14,15,16,17,18],8,(.alt 6 (.jump 8) (.alt 12 (.jump 9) .non))),([0,1,2,3,5,6,8,9,10,11,12,14,15,16,17],8,(.alt 4 (.jump 7) (.alt 18 (.jump 10) .non))),([0,1,2,3,5,6,8,9,10,11,14,15,16,17,18],8,(.alt 4 (.jump 8) (.alt 12 (.jump 10) .non))),([0,1,2,3,5,8,9,10,11,12,14,15,16,17,18],8,(.alt 4 (.jump 9) (.alt 6 (.jump 10) .non))),([0,1,2,3,4,5,6,8,9,10,11,12,14,15,16,17],7,(.o [7,13,18,19,20,21,22] .fin)),([0,1,2,3,4,5,6,8,9,10,11,14,15,16,17,18],7,(.o [7,12,13,19,20,21,22] .fin)),([0,1,2,3,4,5,8,9,10,11,12,14,15,16,17,18],7,(.o [6,7,13,19,20,21,22] .fin)),([0,1,2,3,5,6,8,9,10,11,12,14,15,16,17,18],7,(.o [4,7,13,19,20,21,22] .fin))] [94,95,96,97,98,99,100,101,102,103,104,105,106,107,108,109,110,111,112,113] [(_,_),(_,_),(_,_),(_,_),(_,_),(_,_),(_,_),(_,_),(_,_),(_,_)] (by kernel_rfl)
   ·refine Ad ?_ ?_
    ·refine Ad ?_ (Ad ?_ (Ad ?_ (Ad ?_ (trivial))))
     ·refine Ad ?_ (Ad ?_ (Ad ?_ (trivial)))
      ·exact tA
      ·exact tA
      ·conv=>whnf
       try (refine tS ?_;conv=>whnf)
       exact tA
     ·refine Ad ?_ (Ad ?_ (Ad ?_ (trivial)))
      ·exact tA
      ·exact tA
      ·conv=>whnf
       try (refine tS ?_;conv=>whnf)
       exact tA
     ·refine Ad ?_ (Ad ?_ (Ad ?_ (trivial)))
      ·exact tA
      ·exact tA
      ·conv=>whnf
       try (refine tS ?_;conv=>whnf)
       exact tA
     ·conv=>whnf
      try (refine tS ?_;conv=>whnf)
      refine Ad ?_ (Ad ?_ (Ad ?_ (trivial)))
      ·exact tA
      ·exact tA
      ·exact tA
    refine Ad ?_ ?_
    ·refine Ad ?_ (Ad ?_ (trivial))
     ·conv=>whnf
      try (refine tI ?_;conv=>whnf)
      try (refine tS ?_;conv=>whnf)
      try (refine tS ?_;conv=>whnf)
      try (refine tS ?_;conv=>whnf)
      exact tA
     ·conv=>whnf
      try (refine tS ?_;conv=>whnf)
      try (refine tI ?_;conv=>whnf)
      try (refine tS ?_;conv=>whnf)
      try (refine tS ?_;conv=>whnf)
      exact tA
    refine Ad ?_ ?_
    ·refine Ad ?_ (Ad ?_ (trivial))
     ·exact tA
     ·conv=>whnf
      try (refine tS ?_;conv=>whnf)
      exact tA
    refine Ad ?_ ?_
    ·refine Ad ?_ (Ad ?_ (trivial))
     ·exact tA
     ·exact tA
    refine Ad ?_ ?_
    ·refine Ad ?_ (Ad ?_ (trivial))
     ·exact tA
     ·conv=>whnf
      try (refine tS ?_;conv=>whnf)
      exact tA
    refine Ad ?_ ?_
    ·refine Ad ?_ (Ad ?_ (trivial))
     ·exact tA
     ·exact tA
    refine Ad ?_ ?_
    ·refine Ad ?_ (Ad ?_ (trivial))
     ·exact tA
     ·exact tA
    refine Ad ?_ ?_
    ·conv=>whnf
     try (refine tI ?_;conv=>whnf)
     try (refine tS ?_;conv=>whnf)
     try (refine tS ?_;conv=>whnf)
     try (refine tS ?_;conv=>whnf)
     exact tA
    refine Ad ?_ ?_
    ·conv=>whnf
     try (refine tI ?_;conv=>whnf)
     try (refine tS ?_;conv=>whnf)
     try (refine tS ?_;conv=>whnf)
     exact tA
    refine Ad ?_ ?_
    ·conv=>whnf
     try (refine tI ?_;conv=>whnf)
     try (refine tS ?_;conv=>whnf)
     try (refine tS ?_;conv=>whnf)
     exact tA
    refine Ad ?_ ?_
    ·conv=>whnf
     try (refine tI ?_;conv=>whnf)
     try (refine tS ?_;conv=>whnf)
     try (refine tS ?_;conv=>whnf)
     exact tA
    conv=>whnf
    exact trivial
   conv=>whnf
   have E1:IntKind.i64.wrap (A.gen+1)=(Bz g s.a x).gen:=by
    rw [hA2.1];exact wi (by omega)
   have E2:(IntKind.i64.wrap (x.pos+x.n)).tmod g.sl=(Bz g s.a x).pos:=by
    rw [wi (by omega)];rfl
   have E3:IntKind.i64.wrap (A.seq+1)=(Bz g s.a x).seq:=by
    rw [hA2.2.2.2.1];exact wi (by omega)
   have E4:(if A.last<IntKind.i64.wrap ((Bz g s.a x).seq - 1) then IntKind.i64.wrap ((Bz g s.a x).seq - 1) else A.last)=(Bz g s.a x).last:=by
    show (if A.last<IntKind.i64.wrap (s.a.seq+1 - 1) then IntKind.i64.wrap (s.a.seq+1 - 1) else A.last)=max s.a.last s.a.seq;rw [hA2.2.2.2.2.1,wi (by omega)];split <;> omega
   dsimp only;rw [E1,E2,E3,E4];have hS:=JH hg ha hgen hseq hxs hxp.1 (by rw [hxn];omega);have hokf:=hok1.flush;have hlf:=S_ d1;have hban:=QU g s d1.flush (Bz g s.a x) hg hS hokf (J7 hg hS (by rw [hlf];exact hg1.len));have hgf:=(Gc.flush hg1).putAll (l:=AE g (Bz g s.a x)) (Gj hg hS) (by rw [Dc];omega);rw [Dc] at hgf;subst hA;obtain⟨M,hM⟩:∃ M:AV,M = .sl 3 ((BO s.a x.seq x.images).homes.map DU).length fun i=>((BO s.a x.seq x.images).homes.map DU).getD i []:=⟨_,rfl⟩
   have m1:∀ (c:Ctx) (v:Value),Rd M c v->Rd (Ig (Bz g s.a x).homes) c v:=by rw [hM];exact Ba (f:=DU) (BO s.a x.seq x.images).homes (Aa _) rfl
   refine ACalls.lendBox2 (cs2:=Nl (Bz g s.a x) M) (ar2:=Nl (Bz g s.a x) M) 8 5 rfl rfl ?_ ?_ ?_
   ·rw [<-hM];simp only [A0,Bn,Ft (Aa _).symm];rfl
   ·rw [<-hM];simp only [A0,Bn,Ft (Aa _).symm];rfl
   subst hM;refine zX [.bp 0 0, .ag (Ew (Bz g s.a x))] ⟨ri,Be ⟨ri,ri,ri,ri,ri,ri,m1,tv⟩,tv⟩ ?_;refine ze9 [0,1,2,7] hban ?_;rintro _ _ ⟨rfl,rfl⟩;have hck:Gr g s x r d=match d1.flush.putAll (AE g (Bz g s.a x)) with
     | (d2,_,true)=>(s,d2,0,8)
     | (d2,_,false)=>({ s with a:=Bz g s.a x,txns:=r },d2,(x.images.length:Nat),0):=by
    unfold Gr;rw [hp];try rfl
   generalize d1.flush.putAll (AE g (Bz g s.a x))=p at hck hgf |-
   obtain⟨d2,n2,b2⟩:=p;rw [hck];cases b2 with
   | true=>
    simp only [if_true];conv=>whnf
    repeat' (refine zY ?_;conv=>whnf)
    exact⟨_, .tp [iv 0,iv 8],bwG g s d2,fun _ _ h=>h,zR (s:= [0,1,2,3,9]) tA,rfl,rfl⟩
   | false=>
    obtain⟨n2e, -⟩:=hgf rfl;simp only at n2e;simp only [Cr,if_false];conv=>whnf
    repeat' (refine zY ?_;conv=>whnf)
    rw [show ((n2:Int) == 0)=false from beq_eq_false_iff_ne.2 (by omega)];conv=>whnf
    repeat' (refine zY ?_;conv=>whnf)
    apply zV (0) tys_ok mixed (.o [0,1,2,3,4,5,6,7,8,9,10,11,12,13,14,15] .fin) (by kernel_rfl);conv=>whnf
    try (refine tS ?_;conv=>whnf)
    rw [show IntKind.i64.wrap (s.moved+0)=s.moved by rw [hmv];rfl];exact⟨_, .tp [iv (x.images.length:Nat),iv 0],bwG g { s with a:=Bz g s.a x,txns:=r } d2,ri,zI (zK (zu (cs':=YN g (.bp 1 0) { s with a:=Bz g s.a x,txns:=r }) 0 rfl ⟨ri,ri,ri,ri,ri,ri,ri,ri,ri,ri,ri,ri,m1,ri,ri,ri,ri,ri,ri,ri,tv⟩)) (s:= [0,1,2,3,9]) tA,rfl,rfl⟩
theorem Kd {g:Geo} (hg:Bq g=true) {a:An} (ha:Bj g a=true) {l:List Img} (hl:∀ x∈l,B4 g x=true) {seq:Int}:∀ w∈BS g a seq l,(0<=w.addr/\w.addr<Aw g)/\w.bytes.length<=200:=fun w hw=>by
 have hi:=NY hg ha hl w hw;obtain⟨y,hy,hwy⟩:=HJ.1 hw;have hyl:=EM hg (hl y hy);obtain⟨g1,g2,g3,g4,g5⟩:=Aq.1 hg;refine⟨⟨by omega,hi.2⟩,?_⟩;unfold Ce at hwy;split at hwy
 ·simp only [AU,CW,or_false] at hwy;rcases hwy with rfl | rfl <;> exact E8 (by omega)
 ·rw [Az] at hwy;rw [hwy];exact E8 (by omega)
theorem YJ {g:Geo} (hg:Bq g=true) {s:Stt} {x:Tx} {r:List Tx} {d:Dk} (ha:Bj g s.a=true) (ha2:Bj g (Bz g s.a x)=true) (hxi:∀ y∈x.images,B4 g y=true) (h:DkOk d) (hn:(d.cells.length:Int)=Aw g):DkOk (Gr g s x r d).2.1/\((Gr g s x r d).2.2.2=8\/(Gr g s x r d).2.2.2=0):=by
 have h1:=GZ h (l:=BS g s.a x.seq x.images) fun w hw=>by
  have:=Kd hg ha hxi w hw;exact⟨by omega,this.2⟩
 unfold Gr;generalize d.putAll (BS g s.a x.seq x.images)=p at h1 |-
 obtain⟨d1,n1,b1⟩:=p;simp only at h1;have h2:=GZ h1.1 (l:=AE g (Bz g s.a x)) fun w hw=>by
  have:=Gj hg ha2 w hw;exact⟨by omega,this.2⟩
 cases b1 with
 | true=>exact⟨h1.1, .inl rfl⟩
 | false=>
  simp only;generalize d1.putAll (AE g (Bz g s.a x))=q at h2 |-
  obtain⟨d2,n2,b2⟩:=q;simp only at h2;cases b2 with
  | true=>exact⟨h2.1, .inl rfl⟩
  | false=>exact⟨h2.1, .inr rfl⟩
theorem RS {m:Nat} (h:Nat.ble 9 m=true):∀ z∈ [5,6,7,8],z<m:=fun z hz=>by
 have:=Ag h;simp at hz;omega
theorem RR {m:Nat} (h:Nat.ble 10 m=true):∀ z∈ [5,6,7,8,9],z<m:=fun z hz=>by
 have:=Ag h;simp at hz;omega
theorem Xo (g:Geo) (s:Stt) (x:Tx) (r:List Tx) (d:Dk) (F:Int->List UInt8) (hg:Bq g=true) (ha:Bj g s.a=true) (hs:s.txns=x::r) (hsm:StSm s) (honly:s.only=false) (hgen:s.a.gen<4294967295) (hseq:s.a.seq<4294967295) (hxs:x.seq=s.a.seq) (hxp:0<=x.pos/\x.pos<g.sl) (hxn:x.n=(x.images.length:Nat)+1) (hxi:∀ y∈x.images,B4 g y=true) (hmv:s.moved=0) (h:Gc (Aw g) d F []) (hst:P9 g d s=true) (hsm2:StSm (Gr g s x r d).1) :
  Fn Tryz.prog 12 [.ag (AT g), .ag (FX d), .ag (Fh s)] fun v=>v = .tp [.ag (Fh (if (Gr g s x r d).2.2.2=8 then st0 else (Gr g s x r d).1)), .ag (FX (Gr g s x r d).2.1),iv (if (Gr g s x r d).2.2.2=8 then 0 else (Gr g s x r d).2.2.1), .v (.int .i64 (Gr g s x r d).2.2.2)]:=by
 have c1:=Xw g d s h.ok hst hsm;have c2:=ZS g s x r d F hg ha hs hsm honly hgen hseq hxs hxp hxn hxi hmv h;have ha2:=JH hg ha hgen hseq hxs hxp.1 (by rw [hxn];omega);obtain⟨hok,he⟩:=YJ (r:=r) hg ha ha2 hxi h.ok h.len;generalize Gr g s x r d=R at c2 hok he hsm2 |-
 obtain⟨S,D,n,e⟩:=R;simp only at c2 hok he hsm2 |-
 have c3:=Ks S hsm2;have c4:=Kt g S D hok;rcases he with rfl | rfl
 ·rw [if_pos rfl,if_pos rfl];refine zS Tryz.func12 rfl ?_;conv=>whnf
  refine zW c1 rfl ?_;rintro _ _ ⟨rfl,rfl⟩;conv=>whnf
  refine ze9 [5,6,7,8] c2 ?_;rintro _ _ ⟨rfl,rfl⟩;conv=>whnf
  refine ze9 [5,6,7,8,9] c4 ?_;rintro _ _ ⟨rfl,rfl⟩;exact⟨.tp [.ag (Fh st0), .ag (FX D),iv 0,iv 8],BX ⟨Be st0_sub,ri,ri,ri,tv⟩,rfl⟩
 ·rw [if_neg (by decide),if_neg (by decide)];refine zS Tryz.func12 rfl ?_;conv=>whnf
  refine zW c1 rfl ?_;rintro _ _ ⟨rfl,rfl⟩;conv=>whnf
  refine ze9 [5,6,7,8] c2 ?_;rintro _ _ ⟨rfl,rfl⟩;conv=>whnf
  refine z_ c3 ?_;conv=>whnf
  refine ze9 [5,6,7,8,9] c4 ?_;rintro _ _ ⟨rfl,rfl⟩;exact⟨_,ri,rfl⟩
theorem ZE {m:Nat} (h:Nat.ble 8 m=true):∀ z∈ [4,5,6,7],z<m:=fun z hz=>by
 have:=Ag h;simp at hz;omega
theorem R4 (g:Geo) (d:Dk) (hg:Bq g=true) (h:DkOk d) (hn:(d.cells.length:Int)=Aw g):Fn Tryz.prog 56 [.ag (AT g), .ag (FX d)] fun r=>r = .tp [.ag (Fh (Dr g d).2.2), .ag (FX (Dr g d).1), .v (.int .i64 (Dr g d).2.1)]:=by
 have hb:=TT g d st0 h st0_sm;have hm:=TE g st0 d hg h hn;have herr:=RP (g:=g) (d:=d);generalize Dr g d=M at hm herr |-
 obtain⟨D,e,S⟩:=M;simp only at herr hm;refine zS Tryz.func56 rfl ?_;conv=>whnf
 refine zX [.ag (AT g), .ag (FX d), .ag (Fh st0)] ⟨ri,ri,Be st0_sub,tv⟩ ?_;refine zW hb rfl ?_;rintro _ _ ⟨rfl,rfl⟩;conv=>whnf
 refine ze9 [4,5,6,7] hm ?_;rintro _ _ ⟨⟨S',rfl,hS⟩,rfl⟩;by_cases he:e=0
 ·subst he;have:=hS rfl;subst this;conv=>whnf
  apply aDraw.dag (144) tys_ok mixed [([],11,(.o [0,1,2,3] (.alt 4 (.o [5,6] (.alt 7 (.o [8,9,10] .fin) (.alt 8 (.o [7,9,10] .fin) .non))) (.alt 8 (.o [4,5,6,7,9,10] .fin) .non))))] [6,32,33,34,35,36,37,38,39] [] (by kernel_rfl)
  ·refine Ad ?_ ?_
   ·refine Ad ?_ (Ad ?_ (trivial))
    ·refine Ad ?_ (Ad ?_ (trivial))
     ·conv=>whnf
      try (refine tS ?_;conv=>whnf)
      try (refine tS ?_;conv=>whnf)
      exact tA
     ·conv=>whnf
      try (refine tS ?_;conv=>whnf)
      try (refine tS ?_;conv=>whnf)
      exact tA
    ·conv=>whnf
     try (refine tS ?_;conv=>whnf)
     try (refine tS ?_;conv=>whnf)
     exact tA
   conv=>whnf
   exact trivial
  refine Ad (Aa _).symm ?_;refine Ad (Aa _).symm ?_;exact⟨.tp [.ag (Fh S'), .ag (FX D),iv 0],BX ⟨ri,Be ⟨Ba (f:=BG) D.cells rfl rfl,Ba (f:=EK) D.cache rfl rfl,ri,ri,tv⟩,ri,tv⟩,rfl⟩
 ·have hbe:(e != 0)=true:=bne_iff_ne.2 he;have:=herr he;subst this;conv=>whnf
  rw [hbe];conv=>whnf
  apply aDraw.dag (2192) tys_ok mixed [([],15,(.o [0,1,2,3,8,9,10] (.alt 4 (.o [5,6] (.alt 7 (.alt 11 (.jump 2) (.alt 12 (.jump 3) .non)) (.alt 11 (.alt 7 (.jump 2) (.alt 12 (.jump 4) .non)) (.alt 12 (.alt 7 (.jump 3) (.alt 11 (.jump 4) .non)) .non)))) (.alt 11 (.alt 4 (.o [5,6] (.alt 7 (.jump 2) (.alt 12 (.jump 4) .non))) (.alt 12 (.jump 1) .non)) (.alt 12 (.alt 4 (.o [5,6] (.alt 7 (.jump 3) (.alt 11 (.jump 4) .non))) (.alt 11 (.jump 1) .non)) .non))))),([0,1,2,3,8,9,10,11,12],6,(.o [4,5,6,7,13,14] .fin)),([0,1,2,3,4,5,6,7,8,9,10,11],3,(.o [12,13,14] .fin)),([0,1,2,3,4,5,6,7,8,9,10,12],3,(.alt 11 (.o [13,14] .fin) (.alt 13 (.o [11,14] .fin) .non))),([0,1,2,3,4,5,6,8,9,10,11,12],3,(.o [7,13,14] .fin))] [6,20,21,22,23,24,25,26,27,28,29,30,31] [(_,_),(_,_),(_,_),(_,_)] (by kernel_rfl)
  ·refine Ad ?_ ?_
   ·refine Ad ?_ (Ad ?_ (Ad ?_ (trivial)))
    ·refine Ad ?_ (Ad ?_ (Ad ?_ (trivial)))
     ·refine Ad ?_ (Ad ?_ (trivial))
      ·exact tA
      ·conv=>whnf
       try (refine tS ?_;conv=>whnf)
       exact tA
     ·refine Ad ?_ (Ad ?_ (trivial))
      ·exact tA
      ·conv=>whnf
       try (refine tS ?_;conv=>whnf)
       exact tA
     ·conv=>whnf
      try (refine tS ?_;conv=>whnf)
      refine Ad ?_ (Ad ?_ (trivial))
      ·exact tA
      ·exact tA
    ·refine Ad ?_ (Ad ?_ (trivial))
     ·refine Ad ?_ (Ad ?_ (trivial))
      ·exact tA
      ·conv=>whnf
       try (refine tS ?_;conv=>whnf)
       exact tA
     ·conv=>whnf
      try (refine tS ?_;conv=>whnf)
      exact tA
    ·conv=>whnf
     try (refine tS ?_;conv=>whnf)
     refine Ad ?_ (Ad ?_ (trivial))
     ·refine Ad ?_ (Ad ?_ (trivial))
      ·exact tA
      ·exact tA
     ·exact tA
   refine Ad ?_ ?_
   ·conv=>whnf
    try (refine tS ?_;conv=>whnf)
    exact tA
   refine Ad ?_ ?_
   ·conv=>whnf
    try (refine tS ?_;conv=>whnf)
    try (refine tS ?_;conv=>whnf)
    exact tA
   refine Ad ?_ ?_
   ·refine Ad ?_ (Ad ?_ (trivial))
    ·conv=>whnf
     try (refine tS ?_;conv=>whnf)
     exact tA
    ·conv=>whnf
     try (refine tS ?_;conv=>whnf)
     exact tA
   refine Ad ?_ ?_
   ·conv=>whnf
    try (refine tS ?_;conv=>whnf)
    exact tA
   conv=>whnf
   exact trivial
  refine Ad (Aa _).symm ?_;refine Ad (Aa _).symm ?_;exact⟨.tp [.ag (Fh st0), .ag (FX D),iv e],BX ⟨Be st0_sub,Be ⟨Ba (f:=BG) D.cells rfl rfl,Ba (f:=EK) D.cache rfl rfl,ri,ri,tv⟩,ri,tv⟩,rfl⟩
theorem VS (g:Geo) (hg:Bq g=true):Fn Tryz.prog 22 [.ag (AT g)] fun r=>∃ D,r = .tp [.ag (Fh (AN (F6 g).a (F6 g).l)), .ag (FX D)]/\Gd (Aw g) D (F6 g).F:=by
 obtain⟨D,h1,h2,h3,h4,h5⟩:=Wu hg;have hfm:=R8 g ⟨#[]⟩ hg (by exact lab_nil);have hmn:=R4 g (Ih g ⟨#[]⟩) hg h2 h3;rw [h1] at hmn;refine zS Tryz.func22 rfl ?_;conv=>whnf
 apply zV (0) tys_ok mixed (.o [0,1] (.three 2 (.three 3 (.o [4,5,6,7] (.two 8 (.o [9,10,11,12] .fin) 9 (.o [8,10,11,12] .fin))) 8 (.two 3 (.o [4,5,6,7,9,10,11,12] .fin) 9 (.o [3,4,5,6,7,10,11,12] .fin)) 9 (.two 3 (.o [4,5,6,7,8,10,11,12] .fin) 8 (.o [3,4,5,6,7,10,11,12] .fin))) 8 (.two 2 (.two 3 (.o [4,5,6,7,9,10,11,12] .fin) 9 (.o [3,4,5,6,7,10,11,12] .fin)) 9 (.o [2,3,4,5,6,7,10,11,12] .fin)) 9 (.two 2 (.two 3 (.o [4,5,6,7,8,10,11,12] .fin) 8 (.o [3,4,5,6,7,10,11,12] .fin)) 8 (.o [2,3,4,5,6,7,10,11,12] .fin)))) (by kernel_rfl);refine Ad ?_ (Ad ?_ ?_);conv=>whnf
 refine z_ hfm ?_;refine Ad ?_ (Ad ?_ ?_);conv=>whnf
 refine z_ hmn ?_;refine Ad ?_ ?_;conv=>whnf
 try (refine tS ?_;conv=>whnf)
 try (refine tS ?_;conv=>whnf)
 rotate_left 1;conv=>whnf
 try (refine tS ?_;conv=>whnf)
 try (refine tS ?_;conv=>whnf)
 rotate_left 1;refine Ad ?_ ?_;conv=>whnf
 refine z_ hmn ?_;conv=>whnf
 try (refine tS ?_;conv=>whnf)
 try (refine tS ?_;conv=>whnf)
 rotate_left 1;conv=>whnf
 refine z_ hmn ?_;conv=>whnf
 try (refine tS ?_;conv=>whnf)
 try (refine tS ?_;conv=>whnf)
 rotate_left 1;refine Ad ?_ ?_;conv=>whnf
 refine z_ hmn ?_;conv=>whnf
 try (refine tS ?_;conv=>whnf)
 try (refine tS ?_;conv=>whnf)
 rotate_left 1;conv=>whnf
 refine z_ hmn ?_;conv=>whnf
 try (refine tS ?_;conv=>whnf)
 try (refine tS ?_;conv=>whnf)
 rotate_left 1;refine Ad ?_ ?_;conv=>whnf
 refine z_ hfm ?_;refine Ad ?_ ?_;conv=>whnf
 refine z_ hmn ?_;conv=>whnf
 try (refine tS ?_;conv=>whnf)
 try (refine tS ?_;conv=>whnf)
 rotate_left 1;conv=>whnf
 refine z_ hmn ?_;conv=>whnf
 try (refine tS ?_;conv=>whnf)
 try (refine tS ?_;conv=>whnf)
 rotate_left 1;conv=>whnf
 refine z_ hfm ?_;conv=>whnf
 refine z_ hmn ?_;conv=>whnf
 try (refine tS ?_;conv=>whnf)
 try (refine tS ?_;conv=>whnf)
 rotate_left 1;refine Ad ?_ ?_;conv=>whnf
 refine z_ hfm ?_;refine Ad ?_ ?_;conv=>whnf
 refine z_ hmn ?_;conv=>whnf
 try (refine tS ?_;conv=>whnf)
 try (refine tS ?_;conv=>whnf)
 rotate_left 1;conv=>whnf
 refine z_ hmn ?_;conv=>whnf
 try (refine tS ?_;conv=>whnf)
 try (refine tS ?_;conv=>whnf)
 rotate_left 1;conv=>whnf
 refine z_ hfm ?_;conv=>whnf
 refine z_ hmn ?_;conv=>whnf
 try (refine tS ?_;conv=>whnf)
 try (refine tS ?_;conv=>whnf)
 rotate_left 1;all_goals
  apply zV (2) tys_ok mixed (.one 0 (.two 1 (.o [2,3] .fin) 2 (.o [1,3] .fin))) (by kernel_rfl);refine Ad ?_ ?_;conv=>whnf
  try (refine tS ?_;conv=>whnf)
  try (refine tS ?_;conv=>whnf)
  rotate_left 1;conv=>whnf
  try (refine tS ?_;conv=>whnf)
  try (refine tS ?_;conv=>whnf)
  rotate_left 1;all_goals
   exact⟨_,ri,D,rfl,h4⟩
theorem aDraw.conv {P:Program} {T:Tys} {n d0 id:Nat} {ops:Array Oper} {K:Fr->List AB->Prop} {fr:Fr} {H:List AB} (h:aDraw P T n d0 id ops (fun fr H=>∃ fr2 H2,ConvF fr H fr2 H2/\K fr2 H2) fr H):aDraw P T n d0 id ops K fr H:=
 ⟨fun w0 M0 ce c a hs hf he hd Q hq=>h.wp w0 M0 ce c a hs hf he hd Q fun c' fr' H' a' ⟨fr2,H2,hc,hk⟩ hs' hf' he'=>by
  obtain⟨c2,e,s2,f2,x2⟩:=hc _ _ _ _ _ hs' hf';have:=hq c2 fr2 H2 a' hk s2 f2 (he'.trans x2);rwa [e] at this⟩
theorem Rn (g:Geo) (d:Dk) (h:DkOk d):Fn Tryz.prog 33 [.ag (AT g), .ag (FX d), .v (.slice none 0 0)] fun r=>r = .ag (FX d):=by
 obtain⟨q1,q2,q3,q4⟩:=h.big;have ho:=OO d q1 q2 q3 q4;refine zS Tryz.func33 rfl ?_;conv=>whnf
 refine zW ho rfl ?_;rintro _ _ ⟨rfl,rfl⟩;conv=>whnf
 refine zH 1 ?_;refine Ad (Aa _).symm ?_;refine Ad (Aa _).symm ?_;exact⟨.ag (FX d),Be ⟨Ba (f:=BG) _ rfl rfl,Ba (f:=EK) _ rfl rfl,ri,ri,tv⟩,rfl⟩
theorem RdL.seal1 {c c1:Ctx} (x1:Ext c c1) {x y:AV} (r1:∀ v,Rd x c v->Rd y c1 v):∀ {l:List AV} {us:List Value} {i:Nat},RdL l c us->l[i]? = some x->RdL (l.set i y) c1 us
 | [],us,i,h,hi=>by simp at hi
 | a::l,us,0,h,hi=>by
  simp only [Dm,Option.some.injEq] at hi;subst hi;simp only [List.set_cons_zero,RdL] at h |-
  obtain⟨u,vs,rfl,h1,h2⟩:=h;exact⟨u,vs,rfl,r1 u h1,RdL.ext _ x1 h2⟩
 | a::l,us,i+1,h,hi=>by
  simp only [List.getElem?_cons_succ] at hi;simp only [List.set_cons_succ,RdL] at h |-
  obtain⟨u,vs,rfl,h1,h2⟩:=h;exact⟨u,vs,rfl,Rd.ext _ x1 h1,RdL.seal1 x1 r1 h2 hi⟩
theorem ACalls.sealArg {P:Program} {q:Bool} {f:FuncId} {args:List AV} {H:List AB} {K:AV->List AB->Prop} (i k:Nat) {t:TypeId} {sz:Nat} {es:List (List AV)} (hx:args[i]? = some (.ow k es.length)) (hk:H[k]? = some (.row t sz es))
  (hc:ACalls P q f (args.set i (.sl sz es.length fun j=>es.getD j [])) (H.set k .dead) K):ACalls P q f args H K:=by
 refine⟨hc.go,fun w0 M0 c us hs hr=>?_⟩;obtain⟨c1,e1,s1,x1,r1⟩:=hs.freeze hk;have:=hc.calls w0 M0 c1 us s1 (RdL.seal1 x1 r1 hr hx);rw [e1] at this;refine this.mono ?_;rintro e w' ⟨v,c',r,H2,rfl,rfl,q1,q2,q3,q4,q5⟩;exact⟨v,c',r,H2,rfl,rfl,q1,q2,x1.trans q3,q4,q5⟩
theorem Zh {H:List AB} {s:Stt} {t tH tT:TypeId} (j a b:Nat) (hj:H[j]? = some (.box t (stX s (.ow a s.a.homes.length) (.ow b s.txns.length)))) (ha:H[a]? = some (.row tH 3 (s.a.homes.map DU))) (hb:H[b]? = some (.row tT 4 (s.txns.map CI))) (hab:a≠b) (hjb:j≠b) (hja:j≠a) :
  ConvH H (((((H.set a .dead).set j (.box t (stX s (.sl 3 (s.a.homes.map DU).length fun i=>(s.a.homes.map DU).getD i []) (.ow b s.txns.length)))).set b .dead).set j (.box t (stX s (.sl 3 (s.a.homes.map DU).length fun i=>(s.a.homes.map DU).getD i []) (.sl 4 (s.txns.map CI).length fun i=>(s.txns.map CI).getD i [])))).set j (.box t (Fh s))):=by
 have hlt:=(Au.1 hj).1;obtain⟨T,hT⟩:∃ T:AV,T = .sl 4 (s.txns.map CI).length fun i=>(s.txns.map CI).getD i []:=⟨_,rfl⟩
 obtain⟨M,hM⟩:∃ M:AV,M = .sl 3 (s.a.homes.map DU).length fun i=>(s.a.homes.map DU).getD i []:=⟨_,rfl⟩
 have t1:∀ (c:Ctx) (v:Value),Rd T c v->Rd (Dh s.txns) c v:=by rw [hT];exact Ba (f:=CI) s.txns (Aa _) rfl
 have m1:∀ (c:Ctx) (v:Value),Rd M c v->Rd (Ig s.a.homes) c v:=by rw [hM];exact Ba (f:=DU) s.a.homes (Aa _) rfl
 rw [<-hT,<-hM];refine zt (zw j a (cs2:=stX s M (.ow b s.txns.length)) hj ha ?_) (zt (zw j b (cs2:=stX s M T) (t:=t) (cs:=stX s M (.ow b s.txns.length)) ?_ (es':=s.txns.map CI) (t':=tT) (sz':=4) ?_ ?_) (zu j (t:=t) (cs:=stX s M T) ?_ ⟨ri,ri,ri,ri,ri,ri,m1,t1,ri,ri,ri,ri,ri,ri,tv⟩))
 ·rw [<-hM];simp only [stX,A0,Bn,Ft (Aa _).symm,S6 (show (b == a)=false by simpa using Ne.symm hab)];rfl
 ·rw [AC (by simpa using hlt)]
 ·rw [AA hjb,AA hab,hb]
 ·rw [<-hT];subst hM;simp only [stX,A0,Bn,Ft (Aa _).symm];rfl
 ·rw [AC (by simpa using hlt)]
theorem Xp {H:List AB} {d:Dk} {t tC tW:TypeId} (j a b:Nat) (hj:H[j]? = some (.box t (Hr (.ow a d.cells.length) (.ow b d.cache.length) d.reqs d.left))) (ha:H[a]? = some (.row tC 3 (d.cells.map BG))) (hb:H[b]? = some (.row tW 2 (d.cache.map EK))) (hab:a≠b) (hjb:j≠b) (hja:j≠a) :
  ConvH H (((((H.set a .dead).set j (.box t (Hr (.sl 3 (d.cells.map BG).length fun i=>(d.cells.map BG).getD i []) (.ow b d.cache.length) d.reqs d.left))).set b .dead).set j (.box t (Hr (.sl 3 (d.cells.map BG).length fun i=>(d.cells.map BG).getD i []) (.sl 2 (d.cache.map EK).length fun i=>(d.cache.map EK).getD i []) d.reqs d.left))).set j (.box t (FX d))):=by
 have hlt:=(Au.1 hj).1;obtain⟨T,hT⟩:∃ T:AV,T = .sl 2 (d.cache.map EK).length fun i=>(d.cache.map EK).getD i []:=⟨_,rfl⟩
 obtain⟨M,hM⟩:∃ M:AV,M = .sl 3 (d.cells.map BG).length fun i=>(d.cells.map BG).getD i []:=⟨_,rfl⟩
 have t1:∀ (c:Ctx) (v:Value),Rd T c v->Rd (LL d.cache) c v:=by rw [hT];exact Ba (f:=EK) d.cache (Aa _) rfl
 have m1:∀ (c:Ctx) (v:Value),Rd M c v->Rd (Ox d.cells) c v:=by rw [hM];exact Ba (f:=BG) d.cells (Aa _) rfl
 rw [<-hT,<-hM];refine zt (zw j a (cs2:=Hr M (.ow b d.cache.length) d.reqs d.left) hj ha ?_) (zt (zw j b (cs2:=Hr M T d.reqs d.left) (t:=t) (cs:=Hr M (.ow b d.cache.length) d.reqs d.left) ?_ (es':=d.cache.map EK) (t':=tW) (sz':=2) ?_ ?_) (zu j (t:=t) (cs:=Hr M T d.reqs d.left) ?_ ⟨m1,t1,ri,ri,tv⟩))
 ·rw [<-hM];simp only [Hr,A0,Bn,Ft (Aa _).symm,S6 (show (b == a)=false by simpa using Ne.symm hab)];rfl
 ·rw [AC (by simpa using hlt)]
 ·rw [AA hjb,AA hab,hb]
 ·rw [<-hT];subst hM;simp only [Hr,A0,Bn,Ft (Aa _).symm];rfl
 ·rw [AC (by simpa using hlt)]
theorem XY {es:List (List AV)} {k:Nat} {e e':List AV} (h:SubL e e') (i:Nat):SubL ((es.set k e).getD i []) ((es.set k e').getD i []):=by
 rw [Ab,Ab,List.getElem?_set,List.getElem?_set];split
 ·split
  ·exact h
  ·exact SubL.refl _
 ·exact SubL.refl _
def Jl (n k:Nat):List (List UInt8):=List.replicate k zero8 ++ List.replicate (n - k) []
theorem VQ {n k:Nat} (h:k<=n):(Jl n k).length=n:=by simp [Jl];omega
theorem VP {n k:Nat} (h:k<n):(Jl n k).set k zero8=Jl n (k+1):=by
 obtain⟨m,rfl⟩:∃ m,n=k+1+m:=⟨n - (k+1),by omega⟩;unfold Jl;rw [show k+1+m - k=m+1 by omega,show k+1+m - (k+1)=m by omega,Dp,D7 _ _ (by simp)];simp only [Bk,C_,List.set_cons_zero];rw [DJ (n:=k),A6];rfl
theorem VO (n i:Nat):SubL ((List.replicate ((n:Int).toNat) (List.map AV.v [Value.slice none 0 0])).getD i []) (((Jl n 0).map GO).getD i []):=by
 rw [Ac,Jl,List.replicate_zero,B3,Nat.sub_zero,List.map_replicate];by_cases h:i<n
 ·rw [show (List.replicate n (List.map AV.v [Value.slice none 0 0])).getD i []=List.map AV.v [Value.slice none 0 0] by simp [h],show (List.replicate n (GO [])).getD i []=GO [] by simp [h]];exact⟨Bt 1 _,tv⟩
 ·rw [show (List.replicate n (List.map AV.v [Value.slice none 0 0])).getD i []=[] by simp [h],show (List.replicate n (GO [])).getD i []=[] by simp [h]];trivial
theorem zero8_sub:SubL [.sl 1 (Int.toNat 8) fun i=>(List.replicate (Int.toNat 8) (List.map AV.v [Value.int IntKind.u8 0])).getD i []] (GO zero8):=⟨Fp rfl rfl,tv⟩
theorem Sz (x:Int) : [AV.v (Value.int .u8 (IntKind.u8.wrap x))]=Eo (UInt8.ofNat (IntKind.u8.wrap x).toNat):=by
 rw [Eo,IntKind.wrap_u8];have h1:0<=x % 256/\x % 256<256:=by omega
 have h2:(UInt8.ofNat (x % 256).toNat).toNat=(x % 256).toNat:=BD (by show (x % 256).toNat<256;omega);rw [h2,CN h1.1]
theorem Zq (x0 x1 x2 x7:Int):∃ b:List UInt8,b.length=8/\ [[AV.v (Value.int .u8 (IntKind.u8.wrap x0))], [AV.v (Value.int .u8 (IntKind.u8.wrap x1))], [AV.v (Value.int .u8 (IntKind.u8.wrap x2))], [AV.v (Value.int .u8 1)], [AV.v (Value.int .u8 1)], [AV.v (Value.int .u8 1)], [AV.v (Value.int .u8 1)], [AV.v (Value.int .u8 (IntKind.u8.wrap x7))]]=b.map Eo:=
 ⟨[UInt8.ofNat (IntKind.u8.wrap x0).toNat,UInt8.ofNat (IntKind.u8.wrap x1).toNat,UInt8.ofNat (IntKind.u8.wrap x2).toNat,1,1,1,1,UInt8.ofNat (IntKind.u8.wrap x7).toNat],rfl,by rw [Sz,Sz,Sz,Sz];rfl⟩
theorem aS {m:Nat} (h:Nat.ble 13 m=true):∀ z∈ [7,8,9,10,11,12],z<m:=fun z hz=>by
 have:=Ag h;simp at hz;omega
theorem Vo.mono {g:Geo} {K K':Int} {M:Md} (h:Vo g K M) (hk:K<=K'):Vo g K' M:=⟨h.an,h.ring,Int.le_trans h.gen hk,Int.le_trans h.seq hk,h.one,h.fb,h.m⟩
theorem au {m:Nat} (h:Nat.ble 12 m=true):∀ z∈ [6,7,8,9,10,11],z<m:=fun z hz=>by
 have:=Ag h;simp at hz;omega
theorem YU {g:Geo} (hg:Bq g=true):1<=g.z*g.d/\g.z*g.d<=16:=by
 obtain⟨g1,g2,g3,g4,g5⟩:=Aq.1 hg;rcases(show g.z=1\/g.z=2\/g.z=3\/g.z=4 by omega) with h | h | h | h <;> rw [h] <;> omega
@[reducible] def stZ:List AV:= [iv 0,iv 0,iv 0,iv 0,iv 0, .v (.string ⟨#[]⟩), .v (.slice none 0 0), .v (.slice none 0 0), .v (.bool false),iv 0,iv 0,iv 0,iv 0, .v (.slice none 0 0)]
@[reducible] def dkZ:List AV:= [.v (.slice none 0 0), .v (.slice none 0 0),iv 0,iv 0]
@[reducible] def plH (g:Geo) (M:Md) (d:Dk):List AB:= [.box 23 (AT g), .box 34 stZ, .box 38 dkZ, .box 34 (Fh (AN M.a M.l)), .box 38 (FX d), .row 49 1 (M.m.map GO)]
theorem TX (g:Geo) (L:List Q2) (hg:Bq g=true) (hl:L.length<=1000000):Fn Tryz.prog 10 [.ag (AT g),Wj L, .v (.slice none 0 0)] fun r=>∃ M d,aK g L (min L.length 6) M/\Gd (Aw g) d M.F/\Vo g 14 M/\r = .tp [.ag (Fh (AN M.a M.l)), .ag (FX d),EU M.m]:=by
 obtain⟨g1,g2,g3,g4,g5⟩:=Aq.1 hg;obtain⟨n1,n2⟩:=YU hg;obtain⟨n,hn⟩:∃ n:Nat,(n:Int)=g.z*g.d:=⟨(g.z*g.d).toNat,by omega⟩;have hon:=VS g hg;obtain⟨-, -, -, -, -,hvo⟩:=Wu hg;refine zS Tryz.func10 rfl ?_;conv=>whnf
 refine zG hon rfl ?_;rintro _ ⟨D,rfl,hD⟩;conv=>whnf
 rw [wi (show -9223372036854775808<=g.z*g.d/\g.z*g.d<=9223372036854775807 by omega),<-hn];refine⟨⟨rfl,by omega,by omega⟩,?_⟩;conv=>whnf
 refine zU Nat (fun k=>([(1,Wj L),(2, .v (.slice none 0 0)),(3, .bp 0 0),(6, .bp 1 0),(7, .bp 2 0),(9, .bp 3 0),(10, .bp 4 0),(11,iv (n:Nat)),(12, .ow 5 n),(13,iv (k:Nat))], [.box 23 (AT g), .box 34 stZ, .box 38 dkZ, .box 34 (Fh (AN (F6 g).a (F6 g).l)), .box 38 (FX D), .row 49 1 ((Jl n k).map GO)])) (fun k=>k<=n) (fun k=>n - k) 0 (Aj _)
  (zI (zK (zB (k:=5) (es':=(Jl n 0).map GO) rfl (by simp [Jl]) fun i=>VO n i)) (s:= [0,1,2,3,4,5]) tA) ?_
 intro k hk;conv=>whnf
 refine A8 (fun h6=>?_) (fun h6=>?_) <;> (repeat rw [Ac] at h6) <;> conv=>whnf
 ·have hk2:k<n:=by omega
  have hkl:=VQ hk;repeat' (refine zY ?_;conv=>whnf)
  refine⟨⟨by omega,by omega⟩,?_⟩;refine⟨⟨by omega,by omega⟩,?_⟩;refine⟨rfl,?_⟩;conv=>whnf
  refine Ad ⟨rfl,by rw [Aa,hkl],by show k<n;omega⟩ ?_;conv=>whnf
  rw [Ac,show ((Jl n k).map GO).getD k []=GO ((Jl n k).getD k []) from Bg (by omega)];exact⟨k+1,by omega,by omega,zI (zK (zB (k:=5) (es':=((Jl n k).map GO).set k (GO zero8)) rfl (by simp) fun j=>XY zero8_sub j)) (s:= [0,1,2,3,4,5]) ⟨⟨rfl,rfl,rfl,rfl,rfl,rfl,rfl,rfl,rfl,AL (by omega),tv⟩,⟨rfl,rfl,rfl,rfl,rfl,congrArg (fun es=>some (AB.row 49 1 es)) (by rw [<-VP hk2,Ch]),tv⟩,rfl,rfl,rfl,rfl,rfl⟩⟩
 have ek:k=n:=by omega
 subst ek;have hm0:Jl k k=(F6 g).m:=by
  show _=List.replicate (g.z*g.d).toNat zero8;unfold Jl;rw [<-hn];simp
 rw [hm0];conv=>whnf
 refine zU (Nat × Md × Dk) (fun x=>([(1,Wj L),(2, .v (.slice none 0 0)),(3, .bp 0 0),(6, .bp 1 0),(7, .bp 2 0),(9, .bp 3 0),(10, .bp 4 0),(11,iv (k:Nat)),(12, .ow 5 k),(14,iv (x.1:Nat))],plH g x.2.1 x.2.2)) (fun x=>x.1<=min L.length 6/\aK g L x.1 x.2.1/\Gd (Aw g) x.2.2 x.2.1.F/\Vo g (2+2*(x.1:Nat)) x.2.1) (fun x=>min L.length 6 - x.1) (0,F6 g,D) ⟨Aj _,rfl,hD,hvo⟩
  (zR (s:= [0,1,2,3,4,5]) tA) ?_
 rintro⟨i,M,d⟩ ⟨hi,hpl,hd,hv⟩;simp only at hi hpl hd hv;by_cases him:i<min L.length 6
 ·have hiL:i<L.length:=by omega
  conv=>whnf
  rw [show decide ((i:Int)<(L.length:Nat))=true from decide_eq_true (by omega)];conv=>whnf
  rw [show decide ((i:Int)<6)=true from decide_eq_true (by omega)];conv=>whnf
  repeat' (refine zY ?_;conv=>whnf)
  refine⟨⟨by omega,by omega⟩,?_⟩;refine⟨by decide,?_⟩;conv=>whnf
  have ek:IntKind.u64.wrap (k:Int)=k:=by rw [IntKind.wrap_u64];omega
  rw [ek];refine⟨by omega,?_⟩;conv=>whnf
  obtain⟨A,hA⟩:∃ A,A=KH (L.getD (i:Int).toNat ⟨0,0⟩).a (k:Nat):=⟨_,rfl⟩;have hA2:0<=A/\A<(k:Nat):=by rw [hA];exact Fz (by omega) (by omega)
  rw [show IntKind.i64.wrap ((IntKind.u64.wrap (L.getD (i:Int).toNat ⟨0,0⟩).a).tmod (k:Int))=A from hA.symm];refine aDraw.conv ?_;apply zV (0) tys_ok mixed (.o [0,1,2,3,4,5,6,7,8,9,10,11,12,13,14,15,16,17,18] .fin) (by kernel_rfl);conv=>whnf
  try (refine tI ?_;conv=>whnf)
  try (refine tI ?_;conv=>whnf)
  try (refine tI ?_;conv=>whnf)
  try (refine tI ?_;conv=>whnf)
  refine⟨by decide,?_⟩;conv=>whnf
  obtain⟨b,hb8,hbe⟩:=Zq (L.getD (i:Int).toNat ⟨0,0⟩).b ((L.getD (i:Int).toNat ⟨0,0⟩).b.fdiv (2 ^ min (Int.toNat 8) IntKind.i64.bits)) (i:Nat) A;refine⟨_,_,zQ (zN 16 6 rfl rfl) (zL 16 rfl (Fp (L:=b) hb8.symm hbe)),?_⟩;have e3:(3+2*(i:Nat):Int)=2+2*(i:Nat)+1:=by omega
  have hvol:=hv.vol hd;have hbeg:=Mq g d (AN M.a M.l) hd.ok (hvol.sm hg);have hcm:=RH g M.a M.l d M.F (2+2*(i:Nat)) A b hg hvol (by omega) hd (fun q=>Bl (hv.fb q) (by decide)) (by omega) hb8;conv=>whnf
  refine zW hbeg rfl ?_;rintro _ _ ⟨rfl,rfl⟩;conv=>whnf
  refine aSeq.cutR (Md × Dk) (fun x=>([(1,Wj L),(2, .v (.slice none 0 0)),(3, .bp 0 0),(6, .bp 1 0),(7, .bp 2 0),(9, .bp 3 0),(10, .bp 4 0),(11,iv (k:Nat)),(12, .ow 5 k),(14,iv (i:Nat))],plH g x.1 x.2)) (fun x=>bc g M A b x.1/\Gd (Aw g) x.2 x.1.F/\Vo g (3+2*(i:Nat)) x.1) ?_ ?_
  ·conv=>whnf
   refine ACalls.sealArg 1 13 rfl rfl ?_;refine ACalls.sealArg 2 14 rfl rfl ?_;refine zX [.bp 7 0,iA [A],EU [b]] ⟨ri,Dy (L:= [A]) rfl rfl,DQ (L:= [b]) rfl rfl,tv⟩ ?_;refine ze9 [7,8,9,10,11,12] hcm ?_;rintro _ _ (⟨rfl,ok1,ok2,d2,W,hd2,hW,hv2,rfl⟩ | ⟨e,he,rfl,hbad,d2,rfl⟩)
   ·conv=>whnf
    apply zV (1024) tys_ok mixed (.o [0,1,2,3,4,5,6,7,8,9] (.two 10 (.o [11,12] .fin) 11 (.o [10,12] .fin))) (by kernel_rfl);refine Ad ?_ ?_;conv=>whnf
    try (refine tS ?_;conv=>whnf)
    try (refine tS ?_;conv=>whnf)
    rotate_left 1;conv=>whnf
    try (refine tS ?_;conv=>whnf)
    try (refine tS ?_;conv=>whnf)
    rotate_left 1;all_goals
     refine⟨⟨by omega,by omega⟩,?_⟩;conv=>whnf
     refine Ad ⟨rfl,by rw [Aa];show k=M.m.length;have:=hv.m;omega,by omega⟩ ?_;conv=>whnf
     rw [show (M.m.map GO).getD A.toNat []=GO (M.m.getD A.toNat []) from Bg (by have:=hv.m;omega)];conv=>whnf
     exact⟨(⟨M.a,M.l ++ [DD g M.a M.l M.F A b],GR M.F W,M.m.set A.toNat b⟩,d2),⟨.inl ⟨ok1,ok2,W,hW,rfl⟩,hd2,Vo.of (M:=⟨M.a,M.l ++ [DD g M.a M.l M.F A b],GR M.F W,M.m.set A.toNat b⟩) (by rw [e3];exact hv2) (O7 hv.fb fun w hw=>(hW w hw).2) (by show ((M.m.set A.toNat b).length:Int)=_;rw [AW];exact hv.m)⟩,zI (zK (zt (Zh (s:=AN M.a (M.l ++ [DD g M.a M.l M.F A b])) 3 11 12 rfl rfl rfl (by decide) (by decide) (by decide)) (Xp (d:=d2) 4 9 15 rfl rfl rfl (by decide) (by decide) (by decide)))) (s:= [0,1,2,3,4,5]) ⟨tA,⟨rfl,rfl,rfl,rfl,rfl,congrArg (fun es=>some (AB.row 49 1 es)) (Ch (f:=GO)).symm,tv⟩,rfl,rfl,rfl,rfl,rfl⟩⟩
   ·conv=>whnf
    rw [show (e == 0)=false from beq_eq_false_iff_ne.2 he];exact⟨(M,d),⟨.inr ⟨hbad,rfl⟩,hd,hv.mono (by omega)⟩,zR (s:= [0,1,2,3,4,5]) tA⟩
  rintro⟨M2,d2⟩ ⟨hcr,hd2,hv2⟩;simp only at hcr hd2 hv2;have hstep:∀ M3,M3=(if (L.getD i ⟨0,0⟩).b.tmod 3=0 then YK g M2 else M2)->aK g L (i+1) M3:=fun M3 h=>⟨M,M2,hpl,⟨A,b,by omega,hb8,hcr⟩,h⟩
  refine⟨⟨by omega,by omega⟩,?_⟩;refine⟨by decide,?_⟩;conv=>whnf
  rw [Ac];refine⟨by decide,?_⟩;conv=>whnf
  by_cases h3:(L.getD i ⟨0,0⟩).b.tmod 3=0;rotate_left 1
  ·rw [show ((L.getD i ⟨0,0⟩).b.tmod 3 == 0)=false from beq_eq_false_iff_ne.2 h3];conv=>whnf
   exact⟨(i+1,M2,d2),⟨by show i+1<=min L.length 6;omega,hstep M2 (if_neg h3).symm,hd2,hv2.mono (by omega)⟩,by show min L.length 6 - (i+1)<min L.length 6 - i;omega,zR (s:= [0,1,2,3,4,5]) ⟨⟨rfl,rfl,rfl,rfl,rfl,rfl,rfl,rfl,rfl,AL (by omega),tv⟩,tA,rfl,rfl,rfl,rfl,rfl⟩⟩
  rw [show ((L.getD i ⟨0,0⟩).b.tmod 3 == 0)=true from beq_iff_eq.2 h3];have hvol2:=hv2.vol hd2;have hbeg2:=Mq g d2 (AN M2.a M2.l) hd2.ok (hvol2.sm hg);obtain⟨a2,l2,F2,m2⟩:=M2;conv=>whnf
  refine zW hbeg2 rfl ?_;rintro _ _ ⟨rfl,rfl⟩;conv=>whnf
  cases l2 with
  | nil=>
   have hck:=RI g a2 d2;refine ze9 [6,7,8,9,10,11] hck ?_;rintro _ _ ⟨rfl,rfl⟩;conv=>whnf
   apply zV (1024) tys_ok mixed (.o [0,1,2,3,4,5,6,7,8,9] (.two 10 (.o [11,12] .fin) 11 (.o [10,12] .fin))) (by kernel_rfl);refine Ad ?_ ?_;conv=>whnf
   try (refine tS ?_;conv=>whnf)
   try (refine tS ?_;conv=>whnf)
   rotate_left 1;conv=>whnf
   try (refine tS ?_;conv=>whnf)
   try (refine tS ?_;conv=>whnf)
   rotate_left 1;all_goals
    exact⟨(i+1,⟨a2, [],F2,m2⟩,d2),⟨by show i+1<=min L.length 6;omega,hstep _ ((show (⟨a2, [],F2,m2⟩:Md)=YK g ⟨a2, [],F2,m2⟩ from rfl).trans (if_pos h3).symm),hd2,hv2.mono (by omega)⟩,by show min L.length 6 - (i+1)<min L.length 6 - i;omega,zI (zK (zt (Zh (s:=AN a2 []) 3 10 11 rfl rfl rfl (by decide) (by decide) (by decide)) (Xp (d:=d2) 4 8 9 rfl rfl rfl (by decide) (by decide) (by decide)))) (s:= [0,1,2,3,4,5]) ⟨⟨rfl,rfl,rfl,rfl,rfl,rfl,rfl,rfl,rfl,AL (by omega),tv⟩,tA,rfl,rfl,rfl,rfl,rfl⟩⟩
  | cons x r=>
   have hck:=TQ g a2 x r d2 F2 (3+2*(i:Nat)) hg hvol2 (by omega) hd2;refine ze9 [6,7,8,9,10,11] hck ?_;rintro _ _ ⟨rfl,d3,hd3,rfl⟩;conv=>whnf
   have hvc:=Vo.ck hg hv2 (by omega) hd2 (d':=d3) hd3;apply zV (1024) tys_ok mixed (.o [0,1,2,3,4,5,6,7,8,9] (.two 10 (.o [11,12] .fin) 11 (.o [10,12] .fin))) (by kernel_rfl);refine Ad ?_ ?_;conv=>whnf
   try (refine tS ?_;conv=>whnf)
   try (refine tS ?_;conv=>whnf)
   rotate_left 1;conv=>whnf
   try (refine tS ?_;conv=>whnf)
   try (refine tS ?_;conv=>whnf)
   rotate_left 1;all_goals
    exact⟨(i+1,⟨Bz g a2 x,r,DY g a2 x F2,m2⟩,d3),⟨by show i+1<=min L.length 6;omega,hstep _ ((show (⟨Bz g a2 x,r,DY g a2 x F2,m2⟩:Md)=YK g ⟨a2,x::r,F2,m2⟩ from rfl).trans (if_pos h3).symm),hd3,hvc.mono (by omega)⟩,by show min L.length 6 - (i+1)<min L.length 6 - i;omega,zI (zK (Xp (d:=d3) 4 8 12 rfl rfl rfl (by decide) (by decide) (by decide))) (s:= [0,1,2,3,4,5]) ⟨⟨rfl,rfl,rfl,rfl,rfl,rfl,rfl,rfl,rfl,AL (by omega),tv⟩,tA,rfl,rfl,rfl,rfl,rfl⟩⟩
 ·have ei:i=min L.length 6:=by omega
  have hsp:=Rn g d hd.ok;conv=>whnf
  by_cases hiL:i<L.length;rw [show decide ((i:Int)<(L.length:Nat))=true from decide_eq_true (by omega)];conv=>whnf
  rw [show decide ((i:Int)<6)=false from decide_eq_false (by omega)];conv=>whnf
  rotate_left 1;rw [show decide ((i:Int)<(L.length:Nat))=false from decide_eq_false (by omega)];conv=>whnf
  all_goals
   apply zV (0) tys_ok mixed (.o [0,1,2,3,5,4,6,7,8] .fin) (by kernel_rfl);conv=>whnf
   refine z_ hsp ?_;conv=>whnf
   try (refine tS ?_;conv=>whnf)
   try (refine tS ?_;conv=>whnf)
  all_goals
   refine Ad (by rw [Aa];show k=M.m.length;have:=hv.m;omega) ?_;conv=>whnf
   exact⟨.tp [.ag (Fh (AN M.a M.l)), .ag (FX d),EU M.m],BX (m:= [.ag (Fh (AN M.a M.l)), .ag (FX d),EU M.m]) ⟨ri,ri,DQ (by have:=hv.m;omega) rfl,tv⟩,M,d,ei ▸ hpl,hd,hv.mono (by omega),rfl⟩
theorem MP (l:List Tx) (x:Tx) (z w:Int):∀ k,k<=l.length->EO (l ++ [x]) z w k=EO l z w k
 | 0,_=>rfl
 | k+1,hk=>by
  have e:(l ++ [x]).getD k tz=l.getD k tz:=by
   rw [Ab,Ab,AF (by omega)]
  rw [EO,EO,e,MP l x z w k (by omega)]
theorem J3 (l:List Tx) (x:Tx) (z w:Int):CO (l ++ [x]) z w=match Cy x.images z w x.images.length with
  | some i=>some (i,x.seq)
  | none=>CO l z w:=by
 unfold CO;rw [Ai,Al,AY,A4,EO,MP l x z w _ (Ah _),show (l ++ [x]).getD l.length tz=x by simp];cases Cy x.images z w x.images.length <;> rfl
theorem MQ (x:Tx) (r:List Tx) (z w:Int):∀ k,EO (x::r) z w (k+1)=match EO r z w k with
  | some p=>some p
  | none=>match Cy x.images z w x.images.length with
   | some i=>some (i,x.seq)
   | none=>none
 | 0=>rfl
 | k+1=>by
  rw [EO,MQ x r z w k,EO,show (x::r).getD (k+1) tz=r.getD k tz from rfl];cases Cy (r.getD k tz).images z w (r.getD k tz).images.length <;> rfl
theorem MR (x:Tx) (r:List Tx) (z w:Int):CO (x::r) z w=match CO r z w with
  | some p=>some p
  | none=>match Cy x.images z w x.images.length with
   | some i=>some (i,x.seq)
   | none=>none:=MQ x r z w r.length
theorem Rq {g:Geo} (hg:Bq g=true) {z z' s s':Int} (hz:0<=z/\z<g.z) (hz':0<=z'/\z'<g.z) (hs:0<=s/\s<CD g) (hs':0<=s'/\s'<CD g) (h:Cj g z s=Cj g z' s'):z=z'/\s=s':=by
 obtain⟨g1,g2,g3,g4,g5⟩:=Aq.1 hg;have hp:=GU hg;unfold Cj at h;have e:z*CD g+s=z'*CD g+s':=by omega
 have key:z=z':=by
  rcases Int.lt_trichotomy z z' with q | q | q
  ·have:=BH (show z+1<=z' by omega) (show 0<=CD g by omega);rw [Int.add_mul,Int.one_mul] at this;omega
  ·exact q
  ·have:=BH (show z'+1<=z by omega) (show 0<=CD g by omega);rw [Int.add_mul,Int.one_mul] at this;omega
 subst key;exact⟨rfl,by omega⟩
theorem Wm {l:List Int} {n:Int} (h:OU l n=true) {i j:Nat} (hi:i<l.length) (hj:j<l.length) (e:l.getD i 0=l.getD j 0):i=j:=by
 have key:∀ i j:Nat,i<j->j<l.length->l.getD i 0≠l.getD j 0:=fun i j hij hj e=>by
  have h1:=Av.1 h j (by simpa using hj);simp only [Ae,Br,List.any_eq_false] at h1;refine h1.2 (l.getD i 0) ?_ (by rw [e];simp);rw [Ab,Af (by omega),B9];exact List.mem_take_iff_getElem.2 ⟨i,by omega,rfl⟩
 rcases Nat.lt_trichotomy i j with q | q | q
 ·exact absurd e (key i j q hj)
 ·exact q
 ·exact absurd e.symm (key j i q hi)
theorem Vd {g:Geo} (hg:Bq g=true) {a:An} (ha:Bj g a=true) {z z' w w':Int} (hz:0<=z/\z<g.z) (hz':0<=z'/\z'<g.z) (hw : -1<=w/\w<g.d) (hw' : -1<=w'/\w'<g.d) (h:B5 g a z w=B5 g a z' w'):z=z'/\w=w':=by
 obtain⟨g1,g2,g3,g4,g5⟩:=Aq.1 hg;obtain⟨s,e1,e2⟩:=Es hg ha hz hw;obtain⟨s',e1',e2'⟩:=Es hg ha hz' hw';have hz0:=(Rq hg hz hz' e2 e2' (by rw [<-e1,<-e1'];exact h)).1;subst hz0;obtain⟨hi,hh⟩:=Kf ha hz;simp only [Ee,Ae,decide_eq_true_eq,AI] at hh;obtain⟨p1,p2,p3,p4⟩:=hh;have hat:∀ w,(-1<=w/\w<g.d)->0<=E7 g w/\E7 g w<=g.d:=fun w hw=>by unfold E7;split <;> omega
 unfold B5 Cj at h;have:=Wm p4 (i:=(E7 g w).toNat) (j:=(E7 g w').toNat) (by have:=hat w hw;omega) (by have:=hat w' hw';omega) (by omega);refine⟨rfl,?_⟩;have h1:=hat w hw;have h2:=hat w' hw';have h3:E7 g w=E7 g w':=by omega
 unfold E7 at h3;split at h3 <;> split at h3 <;> omega
theorem O8 {F:Int->List UInt8} (l m:List Wr) (a:Int):GR F (l ++ m) a=GR (GR F l) m a:=by
 have key:∀ (n:Nat) (m:List Wr),m.length=n->GR F (l ++ m) a=GR (GR F l) m a:=by
  intro n;induction n with
  | zero=>
   intro m hm;obtain rfl:=AZ.1 hm;rw [AK];rfl
  | succ n ih=>
   intro m hm;rcases CS m with rfl | ⟨k,x,rfl⟩
   ·cases hm
   ·have:=ih k (by simpa using hm);rw [CT,<-A6];unfold GR at this |-
    rw [EG,EG];by_cases hx:x.addr=a
    ·rw [if_pos hx,if_pos hx]
    ·rw [if_neg hx,if_neg hx];exact this
 exact key _ m rfl
theorem L9 {F:Int->List UInt8} (w:Wr) (a:Int):GR F [w] a=if w.addr=a then w.bytes else F a:=by
 show (match Ic ([] ++ [w]) a with | some w=>w.bytes | none=>F a)=_;rw [EG];by_cases hx:w.addr=a
 ·rw [if_pos hx,if_pos hx]
 ·rw [if_neg hx,if_neg hx];rfl
theorem N3 {α:Type} {d:α} {l:List α} {k:Nat} (h:k<l.length):l.take (k+1)=l.take k ++ [l.getD k d]:=by
 rw [A_,Af h,Ab,Af h];rfl
theorem Vu {g:Geo} (hg:Bq g=true) {a:An} (ha:Bj g a=true) {l:List Img} (hl:∀ x∈l,B4 g x=true) {seq:Int} {F:Int->List UInt8} {z w:Int} (hz:0<=z/\z<g.z) (hw : -1<=w/\w<g.d):∀ k,k<=l.length->GR F (BS g a seq (l.take k)) (B5 g a z w)=match Cy l z w k with
  | some i=>Bp (B5 g a z w) seq i.bytes
  | none=>F (B5 g a z w)
 | 0,_=>rfl
 | k+1,hk=>by
  obtain⟨g1,g2,g3,g4,g5⟩:=Aq.1 hg;have ih:=Vu hg ha hl (seq:=seq) (F:=F) hz hw k (by omega);have hy:=hl _ (A7 (d:=iz) (show k<l.length by omega));obtain⟨hyz,hyb⟩:=Dl hy;rw [N3 (d:=iz) (show k<l.length by omega),E_,O8,Cy];obtain⟨y,ey⟩:∃ y,y=l.getD k iz:=⟨_,rfl⟩;rw [<-ey] at hy hyz hyb |-
  show GR (GR F (BS g a seq (l.take k))) (Ce g a seq y ++ []) (B5 g a z w)=_;rw [AK];obtain⟨s,e1,e2⟩:=Es hg ha hz hw;have hsl:=Fs hg hz e2;by_cases h255:y.what=255
  ·rw [if_neg (by omega),JC _ _ rfl fun v hv e=>?_]
   ·exact ih
   ·unfold Ce at hv;rw [if_pos h255] at hv;have t0:=FD hg hyz (k:=0) (by omega);have t1:=FD hg hyz (k:=1) (by omega);rw [e1] at e;rcases AU.1 hv with rfl | hv
    ·simp only at e;omega
    ·rw [Az] at hv;subst hv;simp only at e;omega
  ·have hb:=hyb h255;unfold Ce;rw [if_neg h255,L9];by_cases hyw:y.zone=z/\y.what=w
   ·rw [if_pos hyw,if_pos (by rw [hyw.1,hyw.2])];show Bp (B5 g a y.zone y.what) seq y.bytes=Bp (B5 g a z w) seq y.bytes;rw [hyw.1,hyw.2]
   ·rw [if_neg hyw,if_neg (fun e=>hyw (Vd hg ha hyz hz (by omega) hw e))];exact ih
theorem Vt {g:Geo} (hg:Bq g=true) {a:An} (ha:Bj g a=true) {l:List Img} (hl:∀ x∈l,B4 g x=true) {seq:Int} {F:Int->List UInt8} {z c:Int} (hz:0<=z/\z<g.z) (hc:0<=c/\c<=1):∀ k,k<=l.length->GR F (BS g a seq (l.take k)) (AG g z c)=match Cy l z 255 k with
  | some i=>Bp (AG g z c) seq i.bytes
  | none=>F (AG g z c)
 | 0,_=>rfl
 | k+1,hk=>by
  obtain⟨g1,g2,g3,g4,g5⟩:=Aq.1 hg;have ih:=Vt hg ha hl (seq:=seq) (F:=F) hz hc k (by omega);have hy:=hl _ (A7 (d:=iz) (show k<l.length by omega));obtain⟨hyz,hyb⟩:=Dl hy;rw [N3 (d:=iz) (show k<l.length by omega),E_,O8,Cy];obtain⟨y,ey⟩:∃ y,y=l.getD k iz:=⟨_,rfl⟩;rw [<-ey] at hy hyz hyb |-
  show GR (GR F (BS g a seq (l.take k))) (Ce g a seq y ++ []) (AG g z c)=_;rw [AK];have ht:=FD hg hz hc;by_cases h255:y.what=255
  ·have e2:Ce g a seq y=[⟨AG g y.zone 0,Bp (AG g y.zone 0) seq y.bytes⟩] ++ [⟨AG g y.zone 1,Bp (AG g y.zone 1) seq y.bytes⟩]:=by unfold Ce;rw [if_pos h255];rfl
   rw [e2,O8,L9,L9,ih];by_cases hyw:y.zone=z
   ·rw [hyw];have h01:¬AG g z 1=AG g z 0:=by unfold AG;omega
    rcases(show c=0\/c=1 by omega) with rfl | rfl
    ·rw [if_neg h01,if_pos rfl,if_pos ⟨rfl,h255⟩]
    ·rw [if_pos rfl,if_pos ⟨rfl,h255⟩]
   ·have n0:¬AG g y.zone 0=AG g z c:=by unfold AG;omega
    have n1:¬AG g y.zone 1=AG g z c:=by unfold AG;omega
    rw [if_neg n1,if_neg n0,if_neg (fun h:y.zone=z/\y.what=255=>hyw h.1)]
  ·have hb:=hyb h255;obtain⟨s,e1,e2⟩:=Es hg ha hyz (show -1<=y.what/\y.what<g.d by omega);have hsl:=Fs hg hyz e2;have n0:¬B5 g a y.zone y.what=AG g z c:=by omega
   unfold Ce;rw [if_neg h255,L9,if_neg n0,if_neg (fun h:y.zone=z/\y.what=255=>h255 h.2)];exact ih
theorem Ti {g:Geo} {a:An} {F:Int->List UInt8} {q:Int} (hq:g.an<=q):GR F (AE g a) q=F q:=by
 refine JC _ _ rfl fun w hw e=>?_
 obtain⟨j,hj,rfl⟩:=Kv hw;have e':(j:Int)=q:=e;omega
theorem PE {x:Gt} {a s:Int} {p:List UInt8} (he:x.err=0) (hx:x.bytes=Bp a s p) (h:Vj a s p):BR x a=some ⟨a,s,p⟩:=by
 obtain⟨h1,h2,h3,h4⟩:=K6 h;unfold BR;rw [he,hx,h1,h2,h3,h4,if_pos tA]
theorem O0 {a s:Int} {p:List UInt8} {e:Ent} (h:Vj a s p) (h8:p.length=8) (h1:e.stamp=s) (h2:((CR p:Nat):Int)=e.sum):En ⟨0,Bp a s p⟩ a e=some p:=by
 unfold En;rw [PE rfl rfl h];simp only;rw [if_pos ⟨h1.symm,h8,h2⟩]
theorem N4 {g:Geo} {a s:Int} {p:List UInt8} (h:Vj a s p):BV g ⟨0,Bp a s p⟩ a s=C8 g p:=by
 unfold BV;rw [PE rfl rfl h];simp only [if_true]
def Od (v:Int->List UInt8):Nat->List UInt8
 | 0=>zero8
 | k+1=>Fj (Od v k) (v (k:Nat))
structure ZoneV (g:Geo) (a:An) (l:List Tx) (F:Int->List UInt8) (z:Int) (t:List Ent) (v:Int->List UInt8):Prop where
 tab:Ex g (AN a l) F z=some t
 len:∀ w, -1<=w->w<g.d->(v w).length=8
 ent:∀ w, -1<=w->w<g.d->(t.getD (E7 g w).toNat ez).lost=false/\((CR (v w):Nat):Int)=(t.getD (E7 g w).toNat ez).sum
 val:∀ w, -1<=w->w<g.d->match CO l z w with
  | some p=>p.1.bytes=v w/\(t.getD (E7 g w).toNat ez).stamp=p.2
  | none=>En ⟨0,F (B5 g a z w)⟩ (B5 g a z w) (t.getD (E7 g w).toNat ez)=some (v w)
 par:v (-1)=Od v g.d.toNat
def VolV (g:Geo) (a:An) (l:List Tx) (F:Int->List UInt8) (V:Int->Int->List UInt8):Prop:=∀ z,0<=z->z<g.z->∃ t,ZoneV g a l F z t (V z)
theorem ZoneV.one {g:Geo} {a:An} {l:List Tx} {F:Int->List UInt8} {z:Int} {t:List Ent} {v:Int->List UInt8} (h:ZoneV g a l F z t v) {w:Int} (hw : -1<=w/\w<g.d):G6 g (AN a l) F t z w=v w:=by
 have:=h.val w hw.1 hw.2;unfold G6;show (match CO l z w with | some p=>p.1.bytes | none=>_)=_;cases hf:CO l z w with
 | some p=>rw [hf] at this;exact this.1
 | none=>
  rw [hf] at this;simp only at this |-
  show (En ⟨0,F (B5 g a z w)⟩ (B5 g a z w) (t.getD (E7 g w).toNat ez)).getD []=_;rw [this];rfl
theorem YI {n:Int} {F:Int->List UInt8} {q:Int} (h0:0<=q) (h1:q<n):Nb n F q=F q:=if_pos ⟨h0,h1⟩
theorem fold_zero:∀ k,Od (fun _=>zero8) k=zero8
 | 0=>rfl
 | k+1=>by rw [Od,fold_zero k];rfl
theorem Qp {g:Geo} (hg:Bq g=true):VolV g (F6 g).a (F6 g).l (F6 g).F fun _ _=>zero8:=by
 obtain⟨g1,g2,g3,g4,g5⟩:=Aq.1 hg;intro z h0 h1;obtain⟨k,rfl⟩:∃ k:Nat,z=(k:Nat):=⟨z.toNat,by omega⟩;have hcb:=EI hg;have hpb:=GU hg;have ht0:=XS hg;have hzh:((F6 g).a.homes.getD k ⟨[],0,0⟩)=⟨(List.range (g.d+1).toNat).map Int.ofNat,g.d+1,0⟩:=by
  show (List.replicate g.z.toNat _).getD k _=_;rw [Ab,Cm,if_pos (by omega)];rfl
 have hF:∀ q,g.an+2*g.sl<=q->q<Aw g->(F6 g).F q=HM g ⟨#[]⟩ q:=fun q hq hq2=>by
  show Nb (Aw g) (aN g _) q=_;rw [YI (by omega) hq2];exact if_neg (by omega)
 have hti:=FD hg (z:=(k:Nat)) (k:=0) ⟨h0,h1⟩ (by omega);have htab:Ex g (AN (F6 g).a (F6 g).l) (F6 g).F (k:Nat)=some (Fm g):=by
  have hroot:Cs (F6 g).a (F6 g).l (k:Nat)=0:=by
   show ((F6 g).a.homes.getD ((k:Nat):Int).toNat ⟨[],0,0⟩).root=0;rw [Ac,hzh]
  show (match BV g ⟨0,(F6 g).F (AG g (k:Nat) 0)⟩ (AG g (k:Nat) 0) (Cs (F6 g).a (F6 g).l (k:Nat)) with | some t=>some t | none=>_)=_;have e:=Q9 (g:=g) (s:=⟨#[]⟩) (z:=k) (k:=0) (by omega) h1 (by omega);rw [hroot,hF _ hti.1 hti.2.2,show AG g ((k:Nat):Int) (0:Int)=AG g (k:Nat) ((0:Nat):Int) from rfl,e,N4 ⟨by show 0<=AG g (k:Nat) 0;omega,by show AG g (k:Nat) 0<=65535;omega,by omega,by omega,by rw [Fk];unfold Fm;rw [Bk];omega⟩,Jo ht0]
 have hent:∀ w, -1<=w->w<g.d->(Fm g).getD (E7 g w).toNat ez=ent0:=fun w hw hw2=>by
  have hat:0<=E7 g w/\E7 g w<=g.d:=by unfold E7;split <;> omega
  unfold Fm;rw [Ab,Cm,if_pos (by omega)];rfl
 refine⟨Fm g,htab,fun _ _ _=>rfl,fun w hw hw2=>?_,fun w hw hw2=>?_,(fold_zero _).symm⟩
 ·rw [hent w hw hw2];exact tA
 ·show En ⟨0,(F6 g).F (B5 g (F6 g).a (k:Nat) w)⟩ (B5 g (F6 g).a (k:Nat) w) ((Fm g).getD (E7 g w).toNat ez)=some zero8;have hat:0<=E7 g w/\E7 g w<=g.d:=by unfold E7;split <;> omega
  have hadr:B5 g (F6 g).a (k:Nat) w=Cj g (k:Nat) ((E7 g w).toNat:Nat):=by
   unfold B5;rw [Ac,hzh];congr 1;rw [Bg (d:=0) (by simp;omega),Ab,BM (by omega)];rfl
  have hsl:=Fs hg (z:=(k:Nat)) (s:=((E7 g w).toNat:Nat)) ⟨h0,h1⟩ (by unfold CD;omega);rw [hadr,hF _ (by omega) hsl.2,Og (by omega) (by omega) (by omega),hent w hw hw2];exact O0 ⟨by omega,by omega,by omega,by omega,by decide⟩ rfl rfl rfl
theorem T1 {g:Geo} (hg:Bq g=true) {a:An} (ha:Bj g a=true) {x:Tx} {r:List Tx} (hx:∀ y∈x.images,B4 g y=true) (hseq:0<=x.seq/\x.seq<=4294967295) {F:Int->List UInt8} {V:Int->Int->List UInt8} (h:VolV g a (x::r) F V):VolV g (Bz g a x) r (DY g a x F) V:=by
 obtain⟨g1,g2,g3,g4,g5⟩:=Aq.1 hg;have hcb:=EI hg;intro z h0 h1;obtain⟨t,ht⟩:=h z h0 h1;obtain⟨hi, -⟩:=Kf ha ⟨h0,h1⟩;have hadr:∀ w,B5 g (Bz g a x) z w=B5 g a z w:=fun w=>by
  show B5 g { BO a x.seq x.images with gen:=_,pos:=_,seq:=_,last:=_ } z w=_;exact GQ (g:=g) (seq:=x.seq) (z:=z) (w:=w) x.images hi
 have hFb:∀ w, -1<=w->w<g.d->DY g a x F (B5 g a z w)=match Cy x.images z w x.images.length with
   | some i=>Bp (B5 g a z w) x.seq i.bytes
   | none=>F (B5 g a z w):=fun w hw hw2=>by
  obtain⟨s,e1,e2⟩:=Es hg ha ⟨h0,h1⟩ ⟨hw,hw2⟩;have hsl:=Fs hg ⟨h0,h1⟩ e2;unfold DY;rw [Ti (by omega)];have:=Vu hg ha hx (seq:=x.seq) (F:=F) ⟨h0,h1⟩ ⟨hw,hw2⟩ _ (Ah _);rwa [As] at this
 have hFt:∀ c,(0<=c/\c<=1)->DY g a x F (AG g z c)=match Cy x.images z 255 x.images.length with
   | some i=>Bp (AG g z c) x.seq i.bytes
   | none=>F (AG g z c):=fun c hc=>by
  have hti:=FD hg ⟨h0,h1⟩ hc;unfold DY;rw [Ti (by omega)];have:=Vt hg ha hx (seq:=x.seq) (F:=F) ⟨h0,h1⟩ hc _ (Ah _);rwa [As] at this
 have hok:∀ {q:Int} {p:List UInt8},(0<=q/\q<Aw g)->p.length<=45->Vj q x.seq p:=fun hq hp=>⟨by omega,by omega,by omega,by omega,by omega⟩
 have htab:Ex g (AN (Bz g a x) r) (DY g a x F) z=some t:=by
  have h2:=ht.tab;unfold Ex at h2 |-
  have ec:=MR x r z 255;show (match CO r z 255 with | some p=>C8 g p.1.bytes | none=>_)=_;replace h2:(match CO (x::r) z 255 with | some p=>C8 g p.1.bytes | none=>match BV g ⟨0,F (AG g z 0)⟩ (AG g z 0) (Cs a (x::r) z) with | some t=>some t | none=>BV g ⟨0,F (AG g z 1)⟩ (AG g z 1) (Cs a (x::r) z))=some t:=h2;cases hr:CO r z 255 with
  | some p=>
   rw [hr] at ec;rw [ec] at h2;exact h2
  | none=>
   rw [hr] at ec;simp only at ec |-
   show (match BV g ⟨0,DY g a x F (AG g z 0)⟩ (AG g z 0) (Cs (Bz g a x) r z) with | some t=>some t | none=>BV g ⟨0,DY g a x F (AG g z 1)⟩ (AG g z 1) (Cs (Bz g a x) r z))=some t;have ero:Cs (Bz g a x) r z=((Bz g a x).homes.getD z.toNat ⟨[],0,0⟩).root:=by unfold Cs;rw [hr]
   cases hk:Cy x.images z 255 x.images.length with
   | some i=>
    rw [hk] at ec;rw [ec] at h2;simp only at h2;obtain⟨m1,m2,m3⟩:=IW (Ah _) hk;have hroot:Cs (Bz g a x) r z=x.seq:=by
     rw [ero];exact Im x.images hi ⟨i,m1,m3,by rw [m2]⟩
    have hti:=FD hg ⟨h0,h1⟩ (k:=0) (by omega);have hf:=hFt 0 (by omega);rw [hk] at hf;rw [hroot,hf];simp only;rw [N4 (hok (by omega) (EM hg (hx i m1))),h2]
   | none=>
    rw [hk] at ec;rw [ec] at h2;have hf0:=hFt 0 (by omega);have hf1:=hFt 1 (by omega);rw [hk] at hf0 hf1;have er2:Cs a (x::r) z=(a.homes.getD z.toNat ⟨[],0,0⟩).root:=by unfold Cs;rw [ec]
    have hroot:Cs (Bz g a x) r z=Cs a (x::r) z:=by
     rw [ero,er2];have:=GS (seq:=x.seq) (z:=z.toNat) x.images hi (fun y hy y255 ey=>?_)
     ·show ((BO a x.seq x.images).homes.getD z.toNat _).root=_;rw [this]
     ·have hyz:=(Dl (hx y hy)).1;have hn:∀ k,k<=x.images.length->Cy x.images z 255 k=none->∀ j,j<k->¬((x.images.getD j iz).zone=z/\(x.images.getD j iz).what=255):=by
       intro k;induction k with
       | zero=>intro _ _ j hj;omega
       | succ k ih=>
        intro hk2 hfk j hj;rw [Cy] at hfk;split at hfk
        ·cases hfk
        ·rename_i hc;rcases Nat.lt_succ_iff_lt_or_eq.1 hj with q | rfl
         ·exact ih (by omega) hfk j q
         ·exact hc
      obtain⟨j,hj,rfl⟩:=DW hy;refine hn _ (Ah _) hk j hj ?_;rw [Ab,Af hj,B9];exact⟨by omega,y255⟩
    rw [hroot,hf0,hf1];exact h2
 refine⟨t,htab,ht.len,ht.ent,fun w hw hw2=>?_,ht.par⟩;have h2:=ht.val w hw hw2;rw [MR] at h2;rw [hadr,hFb w hw hw2];cases hr:CO r z w with
 | some p=>
  rw [hr] at h2;exact h2
 | none=>
  rw [hr] at h2;simp only at h2 |-
  cases hk:Cy x.images z w x.images.length with
  | some i=>
   rw [hk] at h2;simp only at h2 |-
   obtain⟨m1,m2,m3⟩:=IW (Ah _) hk;obtain⟨s,e1,e2⟩:=Es hg ha ⟨h0,h1⟩ ⟨hw,hw2⟩;have hsl:=Fs hg ⟨h0,h1⟩ e2;rw [<-h2.1];exact O0 (hok (by omega) (EM hg (hx i m1))) (by rw [h2.1];exact ht.len w hw hw2) h2.2 (by rw [h2.1];exact(ht.ent w hw hw2).2)
  | none=>
   rw [hk] at h2;exact h2
theorem MS (l m:List Img) (z w:Int):∀ k,k<=l.length->Cy (l ++ m) z w k=Cy l z w k
 | 0,_=>rfl
 | k+1,hk=>by
  have e:(l ++ m).getD k iz=l.getD k iz:=by
   rw [Ab,Ab,AF (by omega)]
  rw [Cy,Cy,e,MS l m z w k (by omega)]
theorem U1 (l m:List Img) (z w:Int):∀ k,k<=m.length->Cy (l ++ m) z w (l.length+k)=match Cy m z w k with
  | some i=>some i
  | none=>Cy l z w l.length
 | 0,_=>MS l m z w _ (Ah _)
 | k+1,hk=>by
  have e:(l ++ m).getD (l.length+k) iz=m.getD k iz:=by
   rw [Ab,Ab,AH (by omega),Nat.add_sub_cancel_left]
  rw [<-DS,Cy,Cy,e];split
  ·rfl
  ·exact U1 l m z w k (by omega)
theorem J4 {l:List Img} {z w:Int} (h:∀ x∈l,x.zone≠z):∀ k,k<=l.length->Cy l z w k=none
 | 0,_=>rfl
 | k+1,hk=>by
  rw [Cy,if_neg (fun q=>h _ (A7 (by omega)) q.1),J4 h k (by omega)]
def WG (z:Int) (ats:List Int) (bs:List (List UInt8)) (w:Int):Option Img:=(E0 ats bs w.toNat ats.length).map fun b=>⟨z,w,b⟩
theorem Ol (z:Int) (ats:List Int) (bs:List (List UInt8)) (m:List Img) {w:Int} (hw:0<=w):∀ k,k<=ats.length->Cy (((List.range ats.length).map fun i=>(⟨z,ats.getD i 0,bs.getD i []⟩:Img)) ++ m) z w k=(E0 ats bs w.toNat k).map fun b=>⟨z,w,b⟩
 | 0,_=>rfl
 | k+1,hk=>by
  have e:(((List.range ats.length).map fun i=>(⟨z,ats.getD i 0,bs.getD i []⟩:Img)) ++ m).getD k iz=⟨z,ats.getD k 0,bs.getD k []⟩:=by
   rw [Ab,AF (by simp;omega),Bo,BM (by omega)];rfl
  rw [Cy,e,E0,Ol z ats bs m hw k (by omega)];by_cases h:ats.getD k 0=w
  ·rw [if_pos ⟨rfl,h⟩,if_pos (by rw [h];omega)];simp only [Option.map_some,h]
  ·rw [if_neg (fun q=>h q.2),if_neg (by omega)]
theorem Km (z:Int) (t:List Ent) (par:List UInt8) (ats:List Int) (bs:List (List UInt8)) (ha:∀ a∈ats,0<=a/\a<255) (w:Int) (hw:w=255\/(-1<=w/\w<255)):Cy (Cf z t par ats bs) z w (Cf z t par ats bs).length=if w=255 then some ⟨z,255,CY t⟩ else if w = -1 then some ⟨z, -1,par⟩ else WG z ats bs w:=by
 have hl:=Ff z t par ats bs;have e1:(Cf z t par ats bs).getD (ats.length+1) iz=⟨z,255,CY t⟩:=by
  unfold Cf;rw [Ab,AH (by simp),show ats.length+1 - ((List.range ats.length).map fun i=>(⟨z,ats.getD i 0,bs.getD i []⟩:Img)).length=1 by simp];rfl
 have e0:(Cf z t par ats bs).getD ats.length iz=⟨z, -1,par⟩:=by
  unfold Cf;rw [Ab,AH (by simp),show ats.length - ((List.range ats.length).map fun i=>(⟨z,ats.getD i 0,bs.getD i []⟩:Img)).length=0 by simp];rfl
 rw [hl,Cy,Cy,e1,e0];by_cases h1:w=255
 ·rw [if_pos ⟨rfl,h1.symm⟩,if_pos h1]
 ·rw [if_neg (fun q=>h1 q.2.symm),if_neg h1];by_cases h2:w = -1
  ·rw [if_pos ⟨rfl,h2.symm⟩,if_pos h2]
  ·rw [if_neg (fun q=>h2 q.2.symm),if_neg h2];exact Ol z ats bs _ (by omega) _ (Ah _)
def Tq (V:Int->Int->List UInt8) (x:Tx) (z w:Int):List UInt8:=match Cy x.images z w x.images.length with
 | some i=>i.bytes
 | none=>V z w
def aL (g:Geo) (a:An) (l:List Tx) (F:Int->List UInt8) (x:Tx) (z:Int):Prop:=
 (∀ w,Cy x.images z w x.images.length=none)
 \/∃ t ats bs,Ex g (AN a l) F z=some t/\ats.length=bs.length/\(∀ b∈bs,b.length=8)/\∀ w,w=255\/(-1<=w/\w<g.d)->Cy x.images z w x.images.length=if w=255 then some ⟨z,255,CY (Bx g t (Cx g (AN a l) F t z) ats bs x.seq)⟩ else if w = -1 then some ⟨z, -1,DN g t (Cx g (AN a l) F t z) ats bs g.d.toNat⟩ else WG z ats bs w
theorem ZJ {g:Geo} (hg:Bq g=true) {s:Stt} {F:Int->List UInt8} {t:List Ent} {z:Int} {i:Nat} (hi:(i:Int)<g.d):(Cx g s F t z).getD i []=G6 g s F t z (i:Nat):=by
 unfold Cx J0;rw [Ab,AF (by simp;omega),Bo,BM (by omega)];rfl
theorem XG {g:Geo} (hg:Bq g=true) {a:An} {l:List Tx} {x:Tx} (hseq:0<=x.seq/\x.seq<=4294967295) (hl:∀ t∈l,∀ y∈t.images,B4 g y=true) {F:Int->List UInt8} {V:Int->Int->List UInt8} (h:VolV g a l F V) (hx:∀ z,0<=z->z<g.z->aL g a l F x z):VolV g a (l ++ [x]) F (Tq V x):=by
 obtain⟨g1,g2,g3,g4,g5⟩:=Aq.1 hg;intro z h0 h1;obtain⟨t,ht⟩:=h z h0 h1;rcases hx z h0 h1 with hn | ⟨t',ats,bs,e1,e2,e3,e4⟩
 ·have hv:∀ w,Tq V x z w=V z w:=fun w=>by unfold Tq;rw [hn w]
  have hf:∀ w,CO (l ++ [x]) z w=CO l z w:=fun w=>by rw [J3,hn w]
  have hvz:Tq V x z=V z:=funext hv;refine⟨t,?_,fun w q1 q2=>by rw [hv];exact ht.len w q1 q2,fun w q1 q2=>by rw [hv];exact ht.ent w q1 q2,fun w q1 q2=>?_,by rw [hvz];exact ht.par⟩
  ·have:=ht.tab;unfold Ex Cs at this |-
   show (match CO (l ++ [x]) z 255 with | some p=>_ | none=>match BV g _ _ (match CO (l ++ [x]) z 255 with | some p=>p.2 | none=>_) with | some t=>some t | none=>BV g _ _ (match CO (l ++ [x]) z 255 with | some p=>p.2 | none=>_))=_;rw [hf 255];exact this
  ·rw [hf w,hv];exact ht.val w q1 q2
 ·have et:t'=t:=by
   have:=ht.tab;rw [e1] at this;exact Option.some.inj this
  subst et;have htok:=Hw ht.tab;have htl:=IN htok;have hhad:∀ i:Nat,(i:Int)<g.d->(Cx g (AN a l) F t' z).getD i []=V z (i:Nat):=fun i hi=>by
   rw [ZJ hg hi];exact ht.one ⟨by omega,hi⟩
  have hatN:∀ i:Nat,(i:Int)<g.d->(E7 g (i:Nat)).toNat=i:=fun i hi=>by unfold E7;rw [if_neg (by omega)];omega
  have hkn:∀ i:Nat,(i:Int)<g.d->FL g t' (Cx g (AN a l) F t' z) i=V z (i:Nat):=fun i hi=>by
   have:=(ht.ent (i:Nat) (by omega) hi).1;rw [hatN i hi] at this;unfold FL;rw [this,if_neg (by decide),hhad i hi,if_pos (by rw [ht.len (i:Nat) (by omega) hi];decide)]
  have hup:∀ i:Nat,(i:Int)<g.d->Tq V x z (i:Nat)=Gl g t' (Cx g (AN a l) F t' z) ats bs i:=fun i hi=>by
   have e:=e4 (i:Nat) (.inr ⟨by omega,hi⟩);rw [if_neg (by omega),if_neg (by omega)] at e;unfold Tq Gl;rw [e,WG,Ac];cases E0 ats bs i ats.length with
   | some b=>rfl
   | none=>exact(hkn i hi).symm
  have hbn:∀ i:Nat,(i:Int)<g.d->(Gl g t' (Cx g (AN a l) F t' z) ats bs i).length=8:=fun i hi=>by
   unfold Gl;cases hp:E0 ats bs i ats.length with
   | some b=>exact KE e3 (by omega) _ b (Ah _) hp
   | none=>
    show (FL g t' _ i).length=8;rw [hkn i hi];exact ht.len (i:Nat) (by omega) hi
  have hpar:∀ k:Nat,(k:Int)<=g.d->DN g t' (Cx g (AN a l) F t' z) ats bs k=Od (Tq V x z) k:=by
   intro k;induction k with
   | zero=>intro _;rfl
   | succ k ih=>
    intro hk;rw [DN,if_neg (by rw [hbn k (by omega)];decide),ih (by omega),Od,hup k (by omega)]
  have hpv:Tq V x z (-1)=DN g t' (Cx g (AN a l) F t' z) ats bs g.d.toNat:=by
   have e:=e4 (-1) (.inr ⟨by omega,by omega⟩);rw [if_neg (by omega),if_pos rfl] at e;unfold Tq;rw [e]
  have hhb:∀ b∈Cx g (AN a l) F t' z,b.length=0\/b.length=8:=fun b hb=>by
   unfold Cx J0 at hb;rcases A5.1 hb with q | q
   ·obtain⟨i,hi,rfl⟩:=AP.1 q;exact Hb (s:=AN a l) hl (by have:=AO.1 hi;omega)
   ·rw [Az] at q;subst q;exact Hb (s:=AN a l) (w:= -1) hl (by decide)
  have hpl:(DN g t' (Cx g (AN a l) F t' z) ats bs g.d.toNat).length=8:=Fy hhb e3 (by omega) _;have hwt:=FY (g:=g) (t:=t') (had:=Cx g (AN a l) F t' z) (ats:=ats) (bs:=bs) hg htok (stamp:=x.seq) hseq;have htab:Ex g (AN a (l ++ [x])) F z=some (Bx g t' (Cx g (AN a l) F t' z) ats bs x.seq):=by
   have e:=e4 255 (.inl rfl);rw [if_pos rfl] at e;unfold Ex;show (match CO (l ++ [x]) z 255 with | some p=>C8 g p.1.bytes | none=>_)=_;rw [J3,e];exact Jo hwt
  have hent:∀ i:Nat,(i:Int)<g.d->(Bx g t' (Cx g (AN a l) F t' z) ats bs x.seq).getD i ez=match E0 ats bs i ats.length with
    | some b=>⟨x.seq,(CR b:Nat),false⟩
    | none=>t'.getD i ez:=fun i hi=>by
   unfold Bx;rw [Ab,AF (by simp;omega),Bo,BM (by omega)];show J_ g t' _ ats bs x.seq i=_;unfold J_;rw [if_neg (by rw [hbn i hi];decide)];cases E0 ats bs i ats.length <;> rfl
  have hentp:(Bx g t' (Cx g (AN a l) F t' z) ats bs x.seq).getD (E7 g (-1)).toNat ez=⟨x.seq,(CR (Tq V x z (-1)):Nat),false⟩:=by
   rw [show (E7 g (-1)).toNat=g.d.toNat by unfold E7;rw [if_pos rfl]];unfold Bx;rw [Ab,AH (by simp),show g.d.toNat - ((List.range g.d.toNat).map (J_ g t' (Cx g (AN a l) F t' z) ats bs x.seq)).length=0 by simp,hpv];rfl
  refine⟨_,htab,fun w q1 q2=>?_,fun w q1 q2=>?_,fun w q1 q2=>?_,?_⟩
  ·by_cases hw:w = -1
   ·rw [hw,hpv];exact hpl
   ·obtain⟨i,rfl⟩:∃ i:Nat,w=(i:Nat):=⟨w.toNat,by omega⟩;rw [hup i q2];exact hbn i q2
  ·by_cases hw:w = -1
   ·rw [hw,hentp];exact tA
   ·obtain⟨i,rfl⟩:∃ i:Nat,w=(i:Nat):=⟨w.toNat,by omega⟩;rw [hatN i q2,hent i q2,hup i q2];unfold Gl;cases hp:E0 ats bs i ats.length with
    | some b=>exact tA
    | none=>
     have:=ht.ent (i:Nat) q1 q2;rw [hatN i q2] at this;simp only;rw [hkn i q2];exact this
  ·rw [J3];have e:=e4 w (.inr ⟨q1,q2⟩);rw [if_neg (by omega)] at e;by_cases hw:w = -1
   ·subst hw;rw [if_pos rfl] at e;rw [e,hentp,hpv];exact tA
   ·obtain⟨i,rfl⟩:∃ i:Nat,w=(i:Nat):=⟨w.toNat,by omega⟩;rw [if_neg hw,WG,Ac] at e;rw [e,hatN i q2,hent i q2,hup i q2];unfold Gl;cases hp:E0 ats bs i ats.length with
    | some b=>exact tA
    | none=>
     have:=ht.val (i:Nat) q1 q2;rw [hatN i q2] at this;simp only [Option.map_none];rw [hkn i q2];exact this
  ·rw [hpv];exact hpar _ (by omega)
theorem ZU {g:Geo} (hg:Bq g=true) {a:An} {l:List Tx} {F:Int->List UInt8} {lba:Int} {b:List UInt8} (hlba:0<=lba/\lba<g.z*g.d) (hb:b.length=8) (ht:(Ex g (AN a l) F (lba.tdiv g.d)).isSome=true):∀ z,0<=z->z<g.z->aL g a l F (DD g a l F lba b) z:=by
 obtain⟨g1,g2,g3,g4,g5⟩:=Aq.1 hg;intro z h0 h1;obtain⟨t,ht⟩:=C6.1 ht;have hm:0<=lba.tmod g.d/\lba.tmod g.d<g.d:=⟨Bw _ hlba.1,Bh _ (by omega)⟩;have ei:(DD g a l F lba b).images=Cf (lba.tdiv g.d) (Bx g t (Cx g (AN a l) F t (lba.tdiv g.d)) [lba.tmod g.d] [b] (a.seq+(l.length:Int))) (DN g t (Cx g (AN a l) F t (lba.tdiv g.d)) [lba.tmod g.d] [b] g.d.toNat) [lba.tmod g.d] [b]:=by
  show FB g (AN a l) F _ lba b=_;unfold FB;rw [ht]
 by_cases hz:z=lba.tdiv g.d
 ·refine .inr ⟨t, [lba.tmod g.d], [b],by rw [hz];exact ht,rfl,fun x hx=>by rw [Az] at hx;rw [hx];exact hb,fun w hw=>?_⟩;rw [ei,hz];exact Km _ _ _ _ _ (fun x hx=>by rw [Az] at hx;omega) w (by omega)
 ·refine .inl fun w=>?_
  rw [ei];refine J4 (fun y hy=>?_) _ (Ah _);have:y.zone=lba.tdiv g.d:=by
   unfold Cf at hy;rcases A5.1 hy with q | q
   ·obtain⟨i, -,rfl⟩:=AP.1 q;rfl
   ·simp only [AU,CW,or_false] at q;rcases q with rfl | rfl <;> rfl
  rw [this];exact fun e=>hz e.symm
theorem ZT {g:Geo} (hg:Bq g=true) {a:An} {l:List Tx} {F:Int->List UInt8} {lba:Int} {b:List UInt8} (hlba:0<=lba/\lba<g.z*g.d) (ht:(Ex g (AN a l) F (lba.tdiv g.d)).isSome=true) (V:Int->Int->List UInt8) {z w:Int} (hw:0<=w/\w<g.d):Tq V (DD g a l F lba b) z w=if z=lba.tdiv g.d/\w=lba.tmod g.d then b else V z w:=by
 obtain⟨g1,g2,g3,g4,g5⟩:=Aq.1 hg;obtain⟨t,ht⟩:=C6.1 ht;have hm:0<=lba.tmod g.d/\lba.tmod g.d<g.d:=⟨Bw _ hlba.1,Bh _ (by omega)⟩;have ei:(DD g a l F lba b).images=Cf (lba.tdiv g.d) (Bx g t (Cx g (AN a l) F t (lba.tdiv g.d)) [lba.tmod g.d] [b] (a.seq+(l.length:Int))) (DN g t (Cx g (AN a l) F t (lba.tdiv g.d)) [lba.tmod g.d] [b] g.d.toNat) [lba.tmod g.d] [b]:=by
  show FB g (AN a l) F _ lba b=_;unfold FB;rw [ht]
 unfold Tq;rw [ei];by_cases hz:z=lba.tdiv g.d
 ·rw [hz,Km _ _ _ _ _ (fun x hx=>by rw [Az] at hx;omega) w (by omega),if_neg (by omega),if_neg (by omega)];have ep:WG (lba.tdiv g.d) [lba.tmod g.d] [b] w=if lba.tmod g.d=((w.toNat:Nat):Int) then some ⟨lba.tdiv g.d,w,b⟩ else none:=by
   show ((if lba.tmod g.d=((w.toNat:Nat):Int) then some b else none:Option (List UInt8)).map fun b=>(⟨lba.tdiv g.d,w,b⟩:Img))=_;split <;> rfl
  rw [ep];by_cases e:lba.tmod g.d=((w.toNat:Nat):Int)
  ·rw [if_pos e,if_pos ⟨rfl,by omega⟩]
  ·rw [if_neg e,if_neg (fun q:_/\_=>e (by omega))]
 ·rw [if_neg (fun q=>hz q.1),J4 (fun y hy=>?_) _ (Ah _)];have:y.zone=lba.tdiv g.d:=by
   unfold Cf at hy;rcases A5.1 hy with q | q
   ·obtain⟨i, -,rfl⟩:=AP.1 q;rfl
   ·simp only [AU,CW,or_false] at q;rcases q with rfl | rfl <;> rfl
  rw [this];exact fun e=>hz e.symm
theorem Ld {n:Int} {d:Dk} {F:Int->List UInt8} {l:List Wr} (h:Gd n d F) (hl:∀ w∈l,(0<=w.addr/\w.addr<n)/\w.bytes.length<=200) (hn:l.length<=2000):(d.putAll l).2.2=false/\Gd n (d.putAll l).1 (GR F l):=
 ⟨(h.putAll hl hn).2.2.1,(h.putAll hl hn).2.2.2⟩
theorem UI {g:Geo} (hg:Bq g=true) {a:An} {x:Tx} {r:List Tx} {d:Dk} {F:Int->List UInt8} (ha:Bj g a=true) (ha2:Bj g (Bz g a x)=true) (hxi:∀ y∈x.images,B4 g y=true) (hn:x.images.length<=30) (h:Gd (Aw g) d F):∃ d',Gd (Aw g) d' (DY g a x F)/\Gr g (AN a (x::r)) x r d=(AN (Bz g a x) r,d',((x.images.length:Nat):Int),0):=by
 have h1:=Ld h (Kd hg ha hxi (seq:=x.seq)) (by have:=Hh (g:=g) (a:=a) (seq:=x.seq) x.images;omega);have h2:=Ld h1.2 (Gj hg ha2) (by rw [Dc];have:=(Aq.1 hg).2.2.2.2;omega);refine⟨_,h2.2,?_⟩;unfold Gr;show (match d.putAll (BS g a x.seq x.images) with | (d1,_,true)=>_ | (d1,_,false)=>match d1.putAll (AE g (Bz g a x)) with | (d2,_,true)=>_ | (d2,_,false)=>(_,d2,_,(0:Int)):Stt × Dk × Int × Int)=_;generalize d.putAll (BS g a x.seq x.images)=p at h1 h2 |-
 obtain⟨d1,n1,b1⟩:=p;simp only at h1 h2 |-
 rw [h1.1];simp only;generalize d1.putAll (AE g (Bz g a x))=q at h2 |-
 obtain⟨d2,n2,b2⟩:=q;simp only at h2 |-
 rw [h2.1];rfl
theorem Vol.stepOk {g:Geo} {K:Int} {a:An} {x:Tx} {r:List Tx} {d:Dk} (hg:Bq g=true) (h:Vol g K d (AN a (x::r))) (hK:K<=4294967294):Bj g (Bz g a x)=true:=
 (h.home hg (x:=x) (r:=r) rfl hK h.gd).an
theorem Ou (g:Geo) (a:An) (x:Tx) (r:List Tx) (d:Dk) (F:Int->List UInt8) (K:Int) (hg:Bq g=true) (hv:Vol g K d (AN a (x::r))) (hK:K<=4294967294) (h:Gd (Aw g) d F):Fn Tryz.prog 12 [.ag (AT g), .ag (FX d), .ag (Fh (AN a (x::r)))] fun v=>∃ d',Gd (Aw g) d' (DY g a x F)/\v = .tp [.ag (Fh (AN (Bz g a x) r)), .ag (FX d'),iv (x.images.length:Nat),iv 0]:=by
 have hsm:=hv.sm hg;have ha:Bj g a=true:=hv.an;have hring:C4 g (x::r) a.seq a.pos g.sl=true:=hv.ring;obtain⟨a1,a2,a3,a4⟩:=Er ha;have hseq:a.seq+(x::r).length<=K:=hv.seq;have hgen:a.gen<=K:=hv.gen;obtain⟨p1,p2,p3,p4⟩:=Dx hring x (by simp);have hr0:=hring;simp only [C4,Ae,decide_eq_true_eq] at hr0;obtain⟨⟨r1,r2,r3,r4,r5,r6,r7⟩,r8⟩:=hr0;have hx30:x.images.length<=30:=(hsm.t.2 x (by show x∈x::r;simp)).1;have hxi:∀ y∈x.images,B4 g y=true:=fun y hy=>Av.1 p1 y hy
 obtain⟨d',q1,q2⟩:=UI (r:=r) hg ha (hv.stepOk hg hK) hxi hx30 h;have hc:=Xo g (AN a (x::r)) x r d F hg ha rfl hsm rfl (show a.gen<4294967295 by omega) (show a.seq<4294967295 by rw [Al] at hseq;omega) r1 (by rw [r3];exact a3) r6 hxi rfl h.gc (hv.st hg) (by rw [q2];exact(hv.home hg (x:=x) (r:=r) rfl hK (d':=d') ⟨_,q1⟩).sm hg);rw [q2] at hc;simp only at hc;rw [if_neg (by decide),if_neg (by decide)] at hc;exact hc.mono fun v hv=>⟨d',q1,hv⟩
theorem YH (g:Geo) (s:Stt) (d:Dk) (hs:s.txns=[]):ACalls Tryz.prog false 35 [.bp 0 0] (Oz g s d) fun v H=>v = .tp [iv 0,iv 0]/\H=bwG g s d:=by
 have hdrop:=odrop0_fn;rw [<-hs] at hdrop;refine zT tys_ok Tryz.func35 rfl rfl (Ag rfl) ?_;conv=>whnf
 refine z_ hdrop ?_;exact⟨_, .tp [iv 0,iv 0],bwG g s d,fun _ _ h=>h,zI (zK (zy 1 3 (by decide) rfl rfl)) (s:= [0,1,2,3,5]) tA,rfl,rfl⟩
theorem UH (g:Geo) (s:Stt) (d:Dk) (hs:s.txns=[]) (hsm:StSm s) (h:DkOk d) (hst:P9 g d s=true):Fn Tryz.prog 12 [.ag (AT g), .ag (FX d), .ag (Fh s)] fun v=>v = .tp [.ag (Fh s), .ag (FX d),iv 0,iv 0]:=by
 have c1:=Xw g d s h hst hsm;have c2:=YH g s d hs;have c3:=Ks s hsm;have c4:=Kt g s d h;refine zS Tryz.func12 rfl ?_;conv=>whnf
 refine zW c1 rfl ?_;rintro _ _ ⟨rfl,rfl⟩;conv=>whnf
 refine ze9 [5,6,7,8] c2 ?_;rintro _ _ ⟨rfl,rfl⟩;conv=>whnf
 refine z_ c3 ?_;conv=>whnf
 refine ze9 [5,6,7,8,9] c4 ?_;rintro _ _ ⟨rfl,rfl⟩;exact⟨_,ri,rfl⟩
theorem Yn {g:Geo} (hg:Bq g=true) {M:Md} (h:aK g [⟨1,1⟩] 1 M):∃ lba b,(0<=lba/\lba<g.z*g.d)/\M.a=(F6 g).a/\M.l=[DD g (F6 g).a [] (F6 g).F lba b]/\(DD g (F6 g).a [] (F6 g).F lba b).images.length=3/\∃ y∈(DD g (F6 g).a [] (F6 g).F lba b).images,y.what=255/\y.zone=lba.tdiv g.d:=by
 obtain⟨g1,g2,g3,g4,g5⟩:=Aq.1 hg;obtain⟨M1,M2,rfl,⟨lba,b,hl,hb,hc⟩,hM⟩:=h;rw [if_neg (by decide)] at hM;subst hM;have hdz:0<=lba.tdiv g.d/\lba.tdiv g.d<g.z:=by
  rw [Bb hl.1];exact⟨CP hl.1 (by omega),Cd (by omega) hl.2⟩
 obtain⟨t,ht⟩:=Qp hg _ hdz.1 hdz.2;have ht:=ht.tab;rcases hc with ⟨-, -,W, -,rfl⟩ | ⟨hbad, -⟩
 ·refine⟨lba,b,hl,rfl,rfl,?_,?_⟩
  ·show (FB g (AN (F6 g).a []) (F6 g).F _ lba b).length=3;unfold FB;rw [show Ex g (AN (F6 g).a []) (F6 g).F (lba.tdiv g.d)=some t from ht];exact Ff _ _ _ _ _
  ·show ∃ y∈FB g (AN (F6 g).a []) (F6 g).F _ lba b,_;unfold FB;rw [show Ex g (AN (F6 g).a []) (F6 g).F (lba.tdiv g.d)=some t from ht];exact⟨⟨lba.tdiv g.d,255,CY (Bx g t (Cx g (AN (F6 g).a []) (F6 g).F t (lba.tdiv g.d)) [lba.tmod g.d] [b] ((F6 g).a.seq+(([]:List Tx).length:Int)))⟩,by unfold Cf;simp,rfl,rfl⟩
 ·rcases hbad with hb | hb
  ·have:Cp (F6 g).l=0:=rfl;omega
  ·rw [show Ex g (AN (F6 g).a (F6 g).l) (F6 g).F (lba.tdiv g.d)=some t from ht] at hb;cases hb
theorem wakes24_fn:Fn Tryz.prog 11 [] fun r=>r = .v (.bool true):=by
 have h1:=S5 0 1 0 0 1;have hg:=PA 0 1 0 0 1;have hz:(Li 0 1 0 0 1).z=1:=by decide
 have hsl:(Li 0 1 0 0 1).sl=14:=by decide
 generalize Li 0 1 0 0 1=g at h1 hg hz hsl;have hp:=TX g [⟨1,1⟩] hg (by decide);refine zS Tryz.func11 rfl ?_;conv=>whnf
 refine z_ h1 ?_;conv=>whnf
 refine zO hp.go ?_;refine⟨rfl,?_⟩;conv=>whnf
 refine zX [.ag (AT g),Wj [⟨1,1⟩], .v (.slice none 0 0)] ⟨ri,Ba (f:=bi) [⟨1,1⟩] rfl rfl,ri,tv⟩ ?_;refine zG hp rfl ?_;rintro _ ⟨M,d,hpl,hd,hv,rfl⟩;obtain⟨lba,b,hl,e1,e2,e3,y,hy,hy2,hy3⟩:=Yn hg hpl;obtain⟨a,l,F,m⟩:=M;simp only at e1 e2;obtain⟨x,hx⟩:∃ x,x=DD g (F6 g).a [] (F6 g).F lba b:=⟨_,rfl⟩;have hxs:x.seq=1:=by rw [hx];rfl
 have hxp:x.pos=0:=by rw [hx];show (0+Cp []).tmod g.sl=0;rw [hsl];rfl
 have hxn:x.n=4:=by rw [hx];rfl
 have ha1:a.seq=1:=by rw [e1];rfl
 rw [<-hx] at e2 e3 hy;clear hx;subst e2;have hvol:Vol g 14 d (AN a [x]):=hv.vol hd;have c1:=Ou g a x [] d F 14 hg hvol (by decide) hd;conv=>whnf
 refine zG c1 rfl ?_;rintro _ ⟨d1,hd1,rfl⟩;have hso:=hvol.stepOk hg (by decide);have hv2:Vol g 15 d1 (AN (Bz g a x) []):=hvol.home hg (x:=x) (r:= []) rfl (by decide) (d':=d1) ⟨_,hd1⟩;have ha0:Bj g a=true:=hvol.an;have hroot:=Rl ha0 (t:=x) (fun y hy=>Av.1 (Dx hvol.ring x (by show x∈ [x];simp)).1 y hy) hy hy2;have hhl:=(Er hso).2.2.2;have hq1:(Bz g a x).seq=2:=by show a.seq+1=2;omega
 have hq2:(Bz g a x).pos=4:=by show (x.pos+x.n).tmod g.sl=4;rw [hxp,hxn,hsl];rfl
 obtain⟨S,hS⟩:∃ S,S=Bz g a x:=⟨_,rfl⟩;rw [<-hS] at hso hv2 hroot hhl hq1 hq2 |-
 have c2:=UH g (AN S []) d1 rfl (hv2.sm hg) hd1.ok (hv2.st hg);conv=>whnf
 refine z_ c2 ?_;conv=>whnf
 rw [show (((x.images.length:Nat):Int) == 3)=true by rw [e3];rfl];conv=>whnf
 rw [show ((AN S []).a.seq == 2)=true by show (S.seq == 2)=true;rw [hq1];rfl];conv=>whnf
 rw [show ((AN S []).a.pos == 4)=true by show (S.pos == 4)=true;rw [hq2];rfl];conv=>whnf
 rw [show (((AN S []).a.homes.length:Int) == 1)=true by show ((S.homes.length:Int) == 1)=true;rw [hhl,hz];rfl];conv=>whnf
 refine Ad ⟨by decide,by show (0:Int)<(S.homes.length:Nat);omega⟩ ?_;conv=>whnf
 have hz0:y.zone.toNat=0:=by
  have:lba.tdiv g.d<g.z:=by
   rw [Bb hl.1];exact Cd (by have:=Aq.1 hg;omega) hl.2
  omega
 rw [hz0,hxs] at hroot;rw [show (((AN S []).a.homes.getD (Int.toNat 0) ⟨[],0,0⟩).root == 1)=true by show ((S.homes.getD 0 ⟨[],0,0⟩).root == 1)=true;rw [hroot];rfl];exact⟨_,ri,rfl⟩
theorem VolV.far {g:Geo} (hg:Bq g=true) {a:An} (ha:Bj g a=true) {l:List Tx} {F F':Int->List UInt8} {V:Int->Int->List UInt8} (h:VolV g a l F V) (e:∀ q,g.an+2*g.sl<=q->F' q=F q):VolV g a l F' V:=by
 obtain⟨g1,g2,g3,g4,g5⟩:=Aq.1 hg;intro z h0 h1;obtain⟨t,hz⟩:=h z h0 h1;refine⟨t,⟨?_,hz.len,hz.ent,fun w hw hw2=>?_,hz.par⟩⟩
 ·have:=hz.tab;unfold Ex at this |-
  rw [e (AG g z 0) (by unfold AG;omega),e (AG g z 1) (by unfold AG;omega)];exact this
 ·have:=hz.val w hw hw2;obtain⟨sl,e1,e2⟩:=Es hg ha ⟨h0,h1⟩ (w:=w) ⟨hw,hw2⟩;have hsl:=Fs hg ⟨h0,h1⟩ e2;rw [e (B5 g a z w) (by omega)];exact this
theorem Pp {g:Geo} (hg:Bq g=true) {a:An} {l:List Tx} {F:Int->List UInt8} {lba:Int} {b:List UInt8} (himg:∀ t∈l,∀ x∈t.images,B4 g x=true) (hs:0<=a.seq+(l.length:Int)/\a.seq+(l.length:Int)<=4294967295) (hlba:0<=lba/\lba<g.z*g.d) (hb:b.length=8) (ht:(Ex g (AN a l) F (lba.tdiv g.d)).isSome=true):(DD g a l F lba b).images.length=3/\(∀ x∈(DD g a l F lba b).images,B4 g x=true)/\OneTab (DD g a l F lba b).images:=by
 obtain⟨g1,g2,g3,g4,g5⟩:=Aq.1 hg;obtain⟨t,ht⟩:=C6.1 ht;have ei:(DD g a l F lba b).images=Cf (lba.tdiv g.d) (Bx g t (Cx g (AN a l) F t (lba.tdiv g.d)) [lba.tmod g.d] [b] (a.seq+(l.length:Int))) (DN g t (Cx g (AN a l) F t (lba.tdiv g.d)) [lba.tmod g.d] [b] g.d.toNat) [lba.tmod g.d] [b]:=by
  show FB g (AN a l) F _ lba b=_;unfold FB;rw [ht]
 have htok:=Hw ht;obtain⟨Z,hZ⟩:∃ Z,Z=lba.tdiv g.d:=⟨_,rfl⟩;obtain⟨A,hA⟩:∃ A,A=lba.tmod g.d:=⟨_,rfl⟩;have hZ2:0<=Z/\Z<g.z:=by
  rw [hZ,Bb hlba.1];exact⟨CP hlba.1 (by omega),Cd (by omega) hlba.2⟩
 have hA2:0<=A/\A<g.d:=by
  rw [hA];exact⟨Bw _ hlba.1,Bh _ (by omega)⟩
 rw [<-hZ,<-hA] at ei;have hadlen:∀ x∈Cx g (AN a l) F t Z,x.length=0\/x.length=8:=fun x hx=>by
  have himg:∀ t∈(AN a l).txns,∀ x∈t.images,B4 g x=true:=himg;rcases A5.1 hx with q | q
  ·obtain⟨i,hi,rfl⟩:=AP.1 q;exact Hb himg (by have:=AO.1 hi;omega)
  ·rw [Az] at q;rw [q];exact Hb himg (by decide)
 have h01:∀ x∈ [b],x.length=8:=fun x hx=>by rw [Az] at hx;rw [hx];exact hb
 have hA3:∀ x∈ [A],0<=x/\x<g.d:=fun x hx=>by rw [Az] at hx;rw [hx];exact hA2
 rw [ei];refine⟨by rw [Ff];rfl,fun x hx=>?_,?_⟩
 ·exact(MC hg hZ2 (FY hg htok (by omega)) (Fy hadlen h01 (show [A].length<= [b].length from Ah 1) _) hA3 h01 (Ah 1) x hx).1
 ·exact Lt (l:= []) hg List.Pairwise.nil (fun x hx=>by cases hx) hA3
def YT (g:Geo) (M:Md):Prop:=(M.m.length:Int)=g.z*g.d/\∃ V,VolV g M.a M.l M.F V/\∀ z w,0<=z->z<g.z->0<=w->w<g.d->M.m.getD (z*g.d+w).toNat []=V z w
theorem bd {g:Geo} (hg:Bq g=true) {z w:Int} (h0:0<=z) (h1:z<g.z) (h2:0<=w) (h3:w<g.d):0<=z*g.d+w/\z*g.d+w<g.z*g.d:=by
 obtain⟨g1,g2,g3,g4,g5⟩:=Aq.1 hg;have e1:0<=z*g.d:=De h0 (by omega);have e2:(z+1)*g.d<=g.z*g.d:=BH (by omega) (by omega);rw [Int.add_mul,Int.one_mul] at e2;omega
theorem ZD {g:Geo} (hg:Bq g=true):YT g (F6 g):=by
 obtain⟨g1,g2,g3,g4,g5⟩:=Aq.1 hg;have hn:0<=g.z*g.d:=De (by omega) (by omega);refine⟨?_,_,Qp hg,fun z w h0 h1 h2 h3=>?_⟩
 ·show (((List.replicate (g.z*g.d).toNat zero8).length:Nat):Int)=_;rw [Bk];omega
 ·have:=bd hg h0 h1 h2 h3;show (List.replicate (g.z*g.d).toNat zero8).getD _ []=zero8;rw [Ab,Cm,if_pos (by omega)];rfl
theorem aE {g:Geo} (hg:Bq g=true) {K:Int} (hK:K<=4294967294) {D:Dk} {M:Md} (hv:Vol g K D (AN M.a M.l)) (h:YT g M):YT g (YK g M)/\Vol g (K+1) D (AN (YK g M).a (YK g M).l):=by
 obtain⟨a,l,F,m⟩:=M;cases l with
 | nil=>exact⟨h,⟨hv.gd,hv.an,hv.ring,hv.rest,by have q:a.gen<=K:=hv.gen;show a.gen<=K+1;omega,by have q:a.seq+(([]:List Tx).length:Int)<=K:=hv.seq;show a.seq+(([]:List Tx).length:Int)<=K+1;omega,hv.one⟩⟩
 | cons x r=>
  obtain⟨hm,V,hV,hr⟩:=h;have hi:=(Dx hv.ring x (by show x∈x::r;simp)).1;have h2:=hv.home hg (x:=x) (r:=r) rfl hK (d':=D) hv.gd;have ha:Bj g a=true:=hv.an;obtain⟨a1,a2,a3,a4⟩:=Er ha;have hr0:C4 g (x::r) a.seq a.pos g.sl=true:=hv.ring;simp only [C4,Ae,decide_eq_true_eq] at hr0;have hxs:x.seq=a.seq:=hr0.1.1;have hseq:a.seq+(x::r).length<=K:=hv.seq;have hl1:1<=(x::r).length:=by simp
  refine⟨⟨hm,V,T1 hg ha (Av.1 hi) (by omega) hV,hr⟩,h2⟩
theorem aD {g:Geo} (hg:Bq g=true) {K:Int} (hK:K<=4294967294) {D:Dk} {M M':Md} {lba:Int} {b:List UInt8} (hlba:0<=lba/\lba<g.z*g.d) (hb:b.length=8) (hv:Vol g K D (AN M.a M.l)) (h:YT g M) (hc:bc g M lba b M'):YT g M'/\Vol g (K+1) D (AN M'.a M'.l):=by
 obtain⟨g1,g2,g3,g4,g5⟩:=Aq.1 hg;rcases hc with ⟨hu,ht,W,hW,rfl⟩ | ⟨-,rfl⟩
 rotate_left 1
 ·exact⟨h,⟨hv.gd,hv.an,hv.ring,hv.rest,by have:=hv.gen;omega,by have:=hv.seq;omega,hv.one⟩⟩
 obtain⟨a,l,F,m⟩:=M;obtain⟨hm,V,hV,hr⟩:=h;simp only at hu ht hW hm hV hr;have ha:Bj g a=true:=hv.an;obtain⟨a1,a2,a3,a4⟩:=Er ha;have hseq:a.seq+l.length<=K:=hv.seq;have himg:∀ t∈l,∀ x∈t.images,B4 g x=true:=fun t ht=>Av.1 (Dx hv.ring t ht).1
 obtain⟨c1,c2,c3⟩:=Pp hg (F:=F) himg (by omega) hlba hb ht;refine⟨⟨?_,Tq V (DD g a l F lba b),?_,fun z w h0 h1 h2 h3=>?_⟩,?_⟩
 ·show (((m.set lba.toNat b).length:Nat):Int)=_;rw [AW];exact hm
 ·have q:=XG hg (x:=DD g a l F lba b) (by show 0<=a.seq+(l.length:Int)/\a.seq+(l.length:Int)<=4294967295;omega) himg hV (ZU hg hlba hb ht);exact q.far hg ha fun p hp=>JC _ _ rfl fun w hw e=>by have:=(hW w hw).1;omega
 ·rw [ZT hg hlba ht V ⟨h2,h3⟩];show (m.set lba.toNat b).getD (z*g.d+w).toNat []=_;have hz:=bd hg h0 h1 h2 h3;have hdm:g.d*lba.tdiv g.d+lba.tmod g.d=lba:=Int.mul_tdiv_add_tmod lba g.d;rw [Ab,List.getElem?_set];by_cases e:z=lba.tdiv g.d/\w=lba.tmod g.d
  ·rw [if_pos e,if_pos (by rw [e.1,e.2,Int.mul_comm,hdm]),if_pos (by omega)];rfl
  ·rw [if_neg e,if_neg fun q=>e ?_,<-Ab]
   ·exact hr z w h0 h1 h2 h3
   ·have q2:lba=z*g.d+w:=by omega
    have e1:lba.tdiv g.d=lba / g.d:=Bb hlba.1;have e2:lba / g.d=z:=by
     rw [q2,Int.add_comm,Int.add_mul_ediv_right _ _ (by omega),Int.ediv_eq_zero_of_lt h2 h3,Int.zero_add]
    refine⟨by rw [e1,e2],?_⟩;rw [e1,e2,Int.mul_comm] at hdm;omega
 ·exact hv.add hg hK (d':=D) hv.gd (x:=DD g a l F lba b) rfl rfl (by show (2:Int)<=4;omega) (by show (4:Int)<=g.sl - Cp l;omega) (by show (4:Int)=_;rw [c1];rfl) c2 c3
def XK (l:List Tx):Prop:=∀ t∈l,t.n=4/\t.images.length=3
theorem YV {l:List Tx} (h:XK l):Cp l=4*l.length:=by
 rw [Kz fun t ht=>by have:=(h t ht).1;omega];induction l with
 | nil=>rfl
 | cons x r ih=>
  have e:=(h x (by simp)).1;rw [sumT,ih fun t ht=>h t (by simp [ht]),e,Al];omega
theorem WS {g:Geo} (hg:Bq g=true) {K:Int} (hK:K<=4294967294) {M:Md} {d d':Dk} {lba:Int} {b:List UInt8} {W:List Wr} (hlba:0<=lba/\lba<g.z*g.d) (hb:b.length=8) (hv:Vo g K M) (hd:Gd (Aw g) d M.F) (hr:YT g M) (h4:XK M.l) (hu:Cp M.l+4<=g.sl) (hW:∀ w∈W,(g.an<=w.addr/\w.addr<g.an+2*g.sl)/\w.bytes.length<=200) (hv2:Vol g (K+1) d' (AN M.a (M.l ++ [DD g M.a M.l M.F lba b]))) :
  Vo g (K+1) ⟨M.a,M.l ++ [DD g M.a M.l M.F lba b],GR M.F W,M.m.set lba.toNat b⟩/\YT g ⟨M.a,M.l ++ [DD g M.a M.l M.F lba b],GR M.F W,M.m.set lba.toNat b⟩/\XK (M.l ++ [DD g M.a M.l M.F lba b]):=by
 obtain⟨g1,g2,g3,g4,g5⟩:=Aq.1 hg;have hZ2:0<=lba.tdiv g.d/\lba.tdiv g.d<g.z:=by
  rw [Bb hlba.1];exact⟨CP hlba.1 (by omega),Cd (by omega) hlba.2⟩
 have ht:(Ex g (AN M.a M.l) M.F (lba.tdiv g.d)).isSome=true:=by
  obtain⟨hm,V,hV, -⟩:=hr;obtain⟨t,hz⟩:=hV _ hZ2.1 hZ2.2;rw [hz.tab];rfl
 have ha:=(Er hv.an).2.1;have hq:=hv.seq;obtain⟨c1, -, -⟩:=Pp hg (a:=M.a) (l:=M.l) (F:=M.F) (b:=b) (fun t ht=>Av.1 (Dx hv.ring t ht).1) (by omega) hlba hb ht;refine⟨Vo.of (M:=⟨M.a,M.l ++ [DD g M.a M.l M.F lba b],GR M.F W,M.m.set lba.toNat b⟩) hv2 (O7 hv.fb fun w hw=>(hW w hw).2) (by show ((M.m.set lba.toNat b).length:Int)=_;rw [AW];exact hv.m),(aD hg hK hlba hb (hv.vol hd) hr (.inl ⟨hu,ht,W,hW,rfl⟩)).1,fun t ht=>?_⟩;rcases A5.1 ht with q | q
 ·exact h4 t q
 ·rw [Az] at q;rw [q];exact⟨rfl,c1⟩
theorem ay {g:Geo} (hg:Bq g=true) {K:Int} {M:Md} (hv:Vo g K M):Cp M.l<=g.sl:=by
 obtain⟨h1,h2⟩:=Gu hg (CG _) hv.ring;have:=Aq.1 hg;rw [Kz h1];omega
theorem NG (l:List Tx) (hl:l.length<=1000000):Fn Tryz.prog 194 [Dh l] fun r=>r = iv (Cp l):=by
 refine zS Tryz.func194 rfl ?_;conv=>whnf
 refine zU Nat (fun k=>([(0,Dh l),(3,iv (Gy l k)),(6,Dh l),(7,iv (l.length:Nat)),(8,iv k)], [])) (fun k=>k<=l.length) (fun k=>l.length - k) 0 (Aj _)
  (zR (s:= []) tA) ?_
 intro k hk;conv=>whnf
 refine A8 (fun h6=>?_) (fun h6=>?_) <;> (repeat rw [Ac] at h6) <;> conv=>whnf
 ·have hk':k<l.length:=by omega
  have hb:=Ga l k;have hs:Gy l (k+1)=Gy l k+GI (l.getD (k:Int).toNat ⟨0,0,0, []⟩).n:=rfl;have hn:=LO (l.getD (k:Int).toNat ⟨0,0,0, []⟩).n;repeat' (refine zY ?_;conv=>whnf)
  refine⟨⟨by omega,by omega⟩,?_⟩;conv=>whnf
  by_cases h0:(l.getD (k:Int).toNat ⟨0,0,0, []⟩).n>=0
  ·rw [show decide ((l.getD (k:Int).toNat ⟨0,0,0, []⟩).n>=0)=true from decide_eq_true h0];conv=>whnf
   by_cases h1:(l.getD (k:Int).toNat ⟨0,0,0, []⟩).n<=30
   ·rw [show decide ((l.getD (k:Int).toNat ⟨0,0,0, []⟩).n<=30)=true from decide_eq_true h1];have hu:GI (l.getD (k:Int).toNat ⟨0,0,0, []⟩).n=(l.getD (k:Int).toNat ⟨0,0,0, []⟩).n:=if_pos ⟨h0,h1⟩;conv=>whnf
    exact⟨k+1,hk',by omega,zR (s:= []) ⟨⟨rfl,congrArg (fun n:Int=>AV.v (.int .i64 n)) (by rw [hs,hu,wi (by rw [<-hu];omega)]),rfl,rfl,AL (by omega),tv⟩,tv,rfl,rfl,rfl,rfl,rfl⟩⟩
   ·rw [show decide ((l.getD (k:Int).toNat ⟨0,0,0, []⟩).n<=30)=false from decide_eq_false h1];have hu:GI (l.getD (k:Int).toNat ⟨0,0,0, []⟩).n=0:=if_neg fun h=>h1 h.2
    exact⟨k+1,hk',by omega,zR (s:= []) ⟨⟨rfl,congrArg (fun n:Int=>AV.v (.int .i64 n)) (by rw [hs,hu,Int.add_zero]),rfl,rfl,AL (by omega),tv⟩,tv,rfl,rfl,rfl,rfl,rfl⟩⟩
  ·rw [show decide ((l.getD (k:Int).toNat ⟨0,0,0, []⟩).n>=0)=false from decide_eq_false h0];have hu:GI (l.getD (k:Int).toNat ⟨0,0,0, []⟩).n=0:=if_neg fun h=>h0 h.1
   exact⟨k+1,hk',by omega,zR (s:= []) ⟨⟨rfl,congrArg (fun n:Int=>AV.v (.int .i64 n)) (by rw [hs,hu,Int.add_zero]),rfl,rfl,AL (by omega),tv⟩,tv,rfl,rfl,rfl,rfl,rfl⟩⟩
 ·have ek:k=l.length:=by omega
  subst ek;exact⟨_,ri,rfl⟩
theorem TI (g:Geo) (a:An) (l:List Tx) (hg:Bq g=true) (ha:Bj g a=true) (hr:C4 g l a.seq a.pos g.sl=true) (hl:l.length<=1000000) (hi:∀ t∈l,t.images.length<=1000000/\∀ x∈t.images,x.bytes.length<=100000) (hla:a.label.size<=1000000) (hh:a.homes.length<=1000000) (hs:a.seq+(l.length:Int)<=4294967295):Fn Tryz.prog 122 [.ag (AT g), .ag (Ew a),Dh l] fun r=>r = .tp [iv ((a.pos+Cp l).tmod g.sl),iv (a.seq+l.length),iv 0]:=by
 obtain⟨g1,g2,g3,g4,g5⟩:=Aq.1 hg;have hu:=NG l hl;have hb:=Ga l l.length;have hc:=JR g a l hla hh hl hi;rw [hg,ha,hr] at hc;have hp:(1<=a.seq/\a.seq<=4294967295)/\(0<=a.pos/\a.pos<g.sl):=by
  simp only [Bj,Bc,BL,BA,Ae,decide_eq_true_eq,AI] at ha;omega
 have hw:IntKind.i64.wrap (a.seq+(l.length:Int))=a.seq+l.length:=wi (by omega);have ixA:g.sl≠0:=by omega
 refine zS Tryz.func122 rfl ?_;conv=>whnf
 refine z_ hc ?_;conv=>whnf
 apply zP tys_ok mixed (.o [0,1,2,5,6,8,9,10,11,12,3,4,7,13,14] .fin) [6,7,16,17,18,19,20,21,22,23,24,25,26,27,28] (by kernel_rfl)
 ·conv=>whnf
  refine z_ hu ?_;conv=>whnf
  try (refine Ad (by first | omega | exact ixA | exact ixB | (simp;done)) ?_;conv=>whnf)
  exact tA
 conv=>whnf
 rw [hw];rw [show decide (a.seq+(l.length:Int) > 4294967295)=false from decide_eq_false (by omega)];conv=>whnf
 exact⟨_,ri,by rw [wi (n:=a.pos+Cp l) (by unfold Cp;omega)]⟩
theorem Lh (g:Geo) (A:Int) (hA:0<=A/\A<g.d):Fn Tryz.prog 248 [.ag (AT g),iA [A]] fun r=>r = .v (.bool true):=by
 refine zS Tryz.func248 rfl ?_;conv=>whnf
 refine zH 2 ?_;conv=>whnf
 refine Ad ⟨by decide,by show (0:Int)<1;decide⟩ ?_;conv=>whnf
 rw [show [A].getD (Int.toNat 0) 0=A from rfl];rw [show decide (A<0)=false from decide_eq_false (by omega)];conv=>whnf
 rw [show decide (A>=g.d)=false from decide_eq_false (by omega)];conv=>whnf
 repeat' (refine zY ?_;conv=>whnf)
 exact⟨_,ri,rfl⟩
theorem Tp (b:List UInt8):Fn Tryz.prog 277 [bA b] fun r=>r = .v (.bool (((b.length:Nat):Int) != 8)):=by
 refine zS Tryz.func277 rfl ?_;exact⟨_,ri,rfl⟩
theorem Zt (l:List (List UInt8))  (hl:l.length<=1000000):Fn Tryz.prog 271 [EU l, .v (.func (.func 277) #[] #[])] fun r=>r = iv (Vk (fun b=>(((b.length:Nat):Int) != 8)) l):=by
 refine zS Tryz.func271 rfl ?_;conv=>whnf
 refine zM Nat (fun k=>([(0,EU l),(1, .v (.func (.func 277) #[] #[])),(7,iv l.length),(8,iv k)], [])) (fun k=>k<=l.length/\(l.take k).any (fun b=>(((b.length:Nat):Int) != 8))=false) (fun k=>l.length - k) 0 ⟨Aj _,by simp⟩ ⟨[],tv,tA,tv,rfl,rfl,rfl⟩ ?_;rintro k ⟨hk,hI⟩;conv=>whnf
 refine Ao (fun h2=>?_) (fun h2=>?_) <;> simp at h2 <;> conv=>whnf
 ·refine⟨by first | omega | (refine⟨rfl,?_,?_⟩ <;> first | omega | (simp only [Aa];done) | (simp only [Aa];omega)) | (simp only [Aa];omega),?_⟩;conv=>whnf
  refine z_ (Tp (l.getD k [])) ?_;conv=>whnf
  refine Ao (fun h3=>?_) (fun h3=>?_) <;> conv=>whnf
  ·exact⟨_,ri,by rw [IR (d:= []) h2 hI (by first | exact h3 | (rw [Ac] at h3;exact h3) | simpa using h3)]⟩
  ·refine⟨k+1,⟨by omega,Ev (d:= []) h2 hI (by first | exact h3 | (rw [Ac] at h3;exact h3) | simpa using h3)⟩,by omega, [],tv,⟨rfl,rfl,rfl,AL (by omega),tv⟩,tv,rfl,rfl,rfl⟩
 ·exact⟨_,ri,by rw [A3 h2] at hI;rw [Hg hI]⟩
theorem Zu (l:List (List UInt8))  (hl:l.length<=1000000):Fn Tryz.prog 239 [EU l, .v (.func (.func 277) #[] #[])] fun r=>r = .v (.bool (l.any (fun b=>(((b.length:Nat):Int) != 8)))):=by
 refine zS Tryz.func239 rfl ?_;conv=>whnf
 refine z_ (Zt l  hl) ?_;exact⟨_,ri,by rw [KP]⟩

theorem K3 (l:List (List UInt8)) (hl:l.length<=1000000) (h:∀ b∈l,b.length=8):Fn Tryz.prog 249 [EU l] fun r=>r = .v (.bool true):=by
 have hc:=Zu l hl;have e:(l.any fun b=>(((b.length:Nat):Int) != 8))=false:=by
  rw [List.any_eq_false];intro b hb;rw [h b hb];decide
 rw [e] at hc;refine zS Tryz.func249 rfl ?_;conv=>whnf
 refine z_ hc ?_;exact⟨_,ri,rfl⟩
theorem Tk (b:List UInt8):Fn Tryz.prog 238 [bA b] fun r=>r = .v (.bool ((((b.length:Nat):Int) != 0)&&(((b.length:Nat):Int) != 8))):=by
 refine zS Tryz.func238 rfl ?_;conv=>whnf
 by_cases h:((b.length:Nat):Int)=0
 ·rw [show (((b.length:Nat):Int) != 0)=false from bne_eq_false_iff_eq.2 h];exact⟨_,ri,rfl⟩
 ·rw [show (((b.length:Nat):Int) != 0)=true from bne_iff_ne.2 h];exact⟨_,ri,by rw [BF]⟩
theorem Zk (l:List (List UInt8))  (hl:l.length<=1000000):Fn Tryz.prog 271 [EU l, .v (.func (.func 238) #[] #[])] fun r=>r = iv (Vk (fun b=>((((b.length:Nat):Int) != 0)&&(((b.length:Nat):Int) != 8))) l):=by
 refine zS Tryz.func271 rfl ?_;conv=>whnf
 refine zM Nat (fun k=>([(0,EU l),(1, .v (.func (.func 238) #[] #[])),(7,iv l.length),(8,iv k)], [])) (fun k=>k<=l.length/\(l.take k).any (fun b=>((((b.length:Nat):Int) != 0)&&(((b.length:Nat):Int) != 8)))=false) (fun k=>l.length - k) 0 ⟨Aj _,by simp⟩ ⟨[],tv,tA,tv,rfl,rfl,rfl⟩ ?_;rintro k ⟨hk,hI⟩;conv=>whnf
 refine Ao (fun h2=>?_) (fun h2=>?_) <;> simp at h2 <;> conv=>whnf
 ·refine⟨by first | omega | (refine⟨rfl,?_,?_⟩ <;> first | omega | (simp only [Aa];done) | (simp only [Aa];omega)) | (simp only [Aa];omega),?_⟩;conv=>whnf
  refine z_ (Tk (l.getD k [])) ?_;conv=>whnf
  refine Ao (fun h3=>?_) (fun h3=>?_) <;> conv=>whnf
  ·exact⟨_,ri,by rw [IR (d:= []) h2 hI (by first | exact h3 | (rw [Ac] at h3;exact h3) | simpa using h3)]⟩
  ·refine⟨k+1,⟨by omega,Ev (d:= []) h2 hI (by first | exact h3 | (rw [Ac] at h3;exact h3) | simpa using h3)⟩,by omega, [],tv,⟨rfl,rfl,rfl,AL (by omega),tv⟩,tv,rfl,rfl,rfl⟩
 ·exact⟨_,ri,by rw [A3 h2] at hI;rw [Hg hI]⟩
theorem Zl (l:List (List UInt8))  (hl:l.length<=1000000):Fn Tryz.prog 239 [EU l, .v (.func (.func 238) #[] #[])] fun r=>r = .v (.bool (l.any (fun b=>((((b.length:Nat):Int) != 0)&&(((b.length:Nat):Int) != 8))))):=by
 refine zS Tryz.func239 rfl ?_;conv=>whnf
 refine z_ (Zk l  hl) ?_;exact⟨_,ri,by rw [KP]⟩

@[reducible] def zlH (g:Geo) (t:List Ent) (had:List (List UInt8)):List AB:= [.box 320 [iv g.d,Bv t,EU had]]
theorem Tn (g:Geo) (t:List Ent) (had:List (List UInt8)) (hg:Bq g=true) (ht:GG g t=true) (htl:t.length<=1000) (hh:(had.length:Int)=g.d+1) (h8:∀ b∈had,b.length=8):ACalls Tryz.prog false 186 [.ag (AT g), .ag [Bv t],EU had] [] fun r H=>r = .tp [.bp 0 0,iv 0]/\H=zlH g t had:=by
 obtain⟨g1,g2,g3,g4,g5⟩:=Aq.1 hg;have hc:=N0 g t (by omega);rw [ht] at hc;have hz:=Zl had (by omega);have e:(had.any fun b=>((((b.length:Nat):Int) != 0)&&(((b.length:Nat):Int) != 8)))=false:=by
  rw [List.any_eq_false];intro b hb;rw [h8 b hb];decide
 rw [e] at hz;refine zT tys_ok Tryz.func186 rfl rfl (Ag rfl) ?_;conv=>whnf
 refine z_ hc ?_;conv=>whnf
 rw [show (((had.length:Nat):Int) != IntKind.i64.wrap (g.d+1))=false from bne_eq_false_iff_eq.2 (by rw [wi (by omega)];exact hh)];conv=>whnf
 refine z_ hz ?_;exact⟨_, .tp [.bp 0 0,iv 0],zlH g t had,fun _ _ h=>h,zR (s:= [2]) tA,rfl,rfl⟩
theorem Tl (g:Geo) (t:List Ent) (had:List (List UInt8)) (i:Nat) (ht:i<t.length) (hi:i<had.length) (h8:∀ b∈had,b.length=8) (hlo:(t.getD i ez).lost=false):ACalls Tryz.prog false 187 [.bp 0 0,iv (i:Nat)] (zlH g t had) fun r H=>r = .tp [bA (had.getD i []), .v (.bool true)]/\H=zlH g t had:=by
 have hb:=h8 _ (A7 (d:=([]:List UInt8)) hi);have hc:=Ck (had.getD i []) (by omega);have ixA:(0:Int)<=(i:Nat)/\((i:Nat):Int)<(t.length:Nat):=by omega
 have ixB:(0:Int)<=(i:Nat)/\((i:Nat):Int)<(had.length:Nat):=by omega
 refine zT tys_ok Tryz.func187 rfl rfl (Ag rfl) ?_;refine⟨ixA,?_⟩;conv=>whnf
 rw [Ac,show (t.getD i ⟨0,0,false⟩).lost=false from hlo];refine⟨ixB,?_⟩;conv=>whnf
 rw [show decide ((((had.getD (((i:Nat):Int)).toNat []).length:Nat):Int) > 0)=true from decide_eq_true (by rw [Ac];omega)];refine⟨ixB,?_⟩;conv=>whnf
 refine z_ hc ?_;exact⟨_, .tp [bA (had.getD i []), .v (.bool true)],zlH g t had,fun _ _ h=>h,zR (s:= [0]) tA,rfl,rfl⟩
def GL (L b:List UInt8) (k:Nat):List UInt8:=Fj (L.take k) (b.take k) ++ L.drop k
theorem Um {L b:List UInt8} (h:L.length<=b.length) (k:Nat):(GL L b k).length=L.length:=by
 simp only [GL,Ai,Gv,Ar,Ak];omega
theorem Un {L b:List UInt8} {k:Nat} (h:k<L.length) (h2:L.length<=b.length):(GL L b k).getD k 0=L.getD k 0:=by
 have e:(Fj (L.take k) (b.take k)).length=k:=by rw [Gv,Ar,Ar];omega
 rw [GL,Ab,AH (by omega),e,C_,BJ,Da,<-Ab]
theorem Ul {L b:List UInt8} {k:Nat} (h:k<L.length) (h2:L.length<=b.length):(GL L b k).set k (L.getD k 0 ^^^ b.getD k 0)=GL L b (k+1):=by
 have e:(Fj (L.take k) (b.take k)).length=k:=by rw [Gv,Ar,Ar];omega
 have e2:Fj (L.take (k+1)) (b.take (k+1))=Fj (L.take k) (b.take k) ++ [L.getD k 0 ^^^ b.getD k 0]:=by
  rw [A_,A_,Af h,Af (by omega),Fj,List.zipWith_append (by rw [Ar,Ar];omega),Ab,Ab,Af h,Af (show k<b.length by omega)];rfl
 rw [GL,GL,D7 _ _ (by omega),e,C_,Bf h,e2,A6];rfl
theorem Uo {L b:List UInt8} (h:L.length=b.length):GL L b L.length=Fj L b:=by
 rw [GL,List.drop_length,AK,As,h,As]
theorem Th {l:List UInt8} {k:Nat} (h:k<l.length):(l.map Eo).getD k []=Eo (l.getD k 0):=Bg h
theorem Vm (L b:List UInt8) (h:L.length=b.length) (hl:L.length<=1000000):ACalls Tryz.prog false 273 [.ow 0 L.length,bA b] [.row 5 1 (L.map Eo)] fun r H=>r = .tp []/\H=[.row 5 1 ((Fj L b).map Eo)]:=by
 refine zT tys_ok Tryz.func273 rfl rfl (Ag rfl) ?_;conv=>whnf
 refine zU Nat (fun k=>([(0, .ow 0 L.length),(6,bA b),(7,iv (b.length:Nat)),(8,iv (k:Nat))], [.row 5 1 ((GL L b k).map Eo)])) (fun k=>k<=b.length) (fun k=>b.length - k) 0 (Aj _)
  (zR (s:= [0]) tA) ?_
 intro k hk;conv=>whnf
 refine A8 (fun h6=>?_) (fun h6=>?_) <;> (repeat rw [Ac] at h6) <;> conv=>whnf
 ·have hk':k<b.length:=by omega
  have hml:=Um (L:=L) (b:=b) (by omega) k;repeat' (refine zY ?_;conv=>whnf)
  refine⟨⟨by omega,by omega⟩,?_⟩;conv=>whnf
  repeat' (refine zY ?_;conv=>whnf)
  refine⟨⟨by omega,by omega⟩,?_⟩;refine⟨⟨rfl,by rw [Aa,hml],by omega⟩,?_⟩;rw [Ac,Th (by omega),Un (by omega) (by omega)];refine⟨⟨by omega,by omega⟩,?_⟩;refine⟨⟨rfl,by rw [Aa,hml],by omega⟩,?_⟩;rw [Ac,Th (by omega)];refine⟨k+1,hk',by omega,zR (s:= [0]) ⟨⟨rfl,rfl,rfl,AL (by omega),tv⟩,⟨?_,tv⟩,rfl,rfl,rfl,rfl,rfl⟩⟩;have e:((GL L b k).map Eo).set k (Eo (L.getD k 0 ^^^ b.getD k 0))=(GL L b (k+1)).map Eo:=by rw [<-Ch,Ul (by omega) (by omega)]
  have ex:=Vx (L.getD k 0) (b.getD k 0).toNat (b.getD k 0).toNat_lt;rw [UInt8.ofNat_toNat] at ex;rw [<-e];show some (AB.row _ _ _)=some (AB.row _ _ _);rw [show Eo (L.getD k 0 ^^^ b.getD k 0)=[AV.v (.int .u8 ((L.getD k 0 ^^^ b.getD k 0).toNat:Nat))] from rfl,<-ex]
 ·have ek:k=b.length:=by omega
  subst ek;exact⟨_, .tp [], [.row 5 1 ((Fj L b).map Eo)],fun _ _ h=>h,zR (s:= [0]) ⟨tA,⟨congrArg (fun z=>some (AB.row 5 1 (List.map Eo z))) (show GL L b b.length=Fj L b by rw [<-h];exact Uo h),tv⟩,rfl,rfl,rfl,rfl,rfl⟩,rfl,rfl⟩
theorem To (l:List (List UInt8)) (hl:l.length<=1000000) (h:∀ b∈l,b.length=8):Fn Tryz.prog 272 [iv 8,EU l] fun r=>r = .v (.bool true):=by
 refine zS Tryz.func272 rfl ?_;conv=>whnf
 refine zU Nat (fun k=>([(0,iv 8),(7,EU l),(8,iv (l.length:Nat)),(9,iv (k:Nat))], [])) (fun k=>k<=l.length) (fun k=>l.length - k) 0 (Aj _)
  (zR (s:= []) tA) ?_
 intro k hk;conv=>whnf
 refine A8 (fun h6=>?_) (fun h6=>?_) <;> (repeat rw [Ac] at h6) <;> conv=>whnf
 ·have hk':k<l.length:=by omega
  have h8:=h _ (A7 (d:=([]:List UInt8)) hk');repeat' (refine zY ?_;conv=>whnf)
  refine⟨⟨by omega,by omega⟩,?_⟩;conv=>whnf
  repeat' (refine zY ?_;conv=>whnf)
  rw [show (((l.getD (k:Int).toNat []).length:Int) != 8)=false from bne_eq_false_iff_eq.2 (by rw [Ac,h8];rfl)];exact⟨k+1,hk',by omega,zR (s:= []) ⟨⟨rfl,rfl,rfl,AL (by omega),tv⟩,tv,rfl,rfl,rfl,rfl,rfl⟩⟩
 ·exact⟨_,ri,rfl⟩
def L3 (l:List (List UInt8)):List UInt8:=l.foldl Fj zero8
theorem xorL_len:∀ (l:List (List UInt8)) (a:List UInt8),a.length=8->(∀ b∈l,b.length=8)->(l.foldl Fj a).length=8
 | [],_,h,_=>h
 | b::l,a,h,hl=>xorL_len l _ (by rw [Gv,h,hl b (by simp)];rfl) fun c hc=>hl c (by simp [hc])
theorem XO (l:List (List UInt8)) (hl:l.length<=1000000) (h:∀ b∈l,b.length=8):Fn Tryz.prog 241 [EU l,iv 8] fun r=>r = .tp [bA (L3 l),iv 0]:=by
 have ha:=To l hl h;refine zS Tryz.func241 rfl ?_;conv=>whnf
 refine z_ ha ?_;refine⟨⟨rfl,by decide,by decide⟩,?_⟩;conv=>whnf
 refine zU Nat (fun k=>([(0,EU l),(6, .ow 0 8),(23,EU l),(24,iv (l.length:Nat)),(25,iv (k:Nat))], [.row 5 1 ((L3 (l.take k)).map Eo)])) (fun k=>k<=l.length) (fun k=>l.length - k) 0 (Aj _)
  (zR (s:= [0]) tA) ?_
 intro k hk;conv=>whnf
 refine A8 (fun h6=>?_) (fun h6=>?_) <;> (repeat rw [Ac] at h6) <;> conv=>whnf
 ·have hk':k<l.length:=by omega
  have h8:=h _ (A7 (d:=([]:List UInt8)) hk');have hx:(L3 (l.take k)).length=8:=xorL_len _ _ rfl fun b hb=>h b (Cq hb)
  have hi:=Vm (L3 (l.take k)) (l.getD k []) (by omega) (by omega);rw [hx] at hi;have hs:Fj (L3 (l.take k)) (l.getD k [])=L3 (l.take (k+1)):=by
   unfold L3;rw [A_,Ci,Ab,Af hk'];rfl
  rw [hs] at hi;repeat' (refine zY ?_;conv=>whnf)
  refine⟨⟨by omega,by omega⟩,?_⟩;conv=>whnf
  rw [Ac];repeat' (refine zY ?_;conv=>whnf)
  refine hi.mono ?_;rintro _ _ ⟨rfl,rfl⟩;exact⟨k+1,hk',by omega,zR (s:= [0]) ⟨⟨rfl,rfl,rfl,rfl,AL (by omega),tv⟩,tA,rfl,rfl,rfl,rfl,rfl⟩⟩
 ·have ek:k=l.length:=by omega
  subst ek;have hx:(L3 l).length=8:=xorL_len _ _ rfl h;rw [As];refine⟨(by rw [Aa,hx]),?_⟩;exact⟨.tp [bA (L3 l),iv 0],BX (m:= [bA (L3 l),iv 0]) ⟨Fp hx.symm rfl,ri,tv⟩,rfl⟩
theorem QF (stamp:Int) (b:List UInt8) (hs:0<=stamp/\stamp<=4294967295) (hb:b.length=8):Fn Tryz.prog 251 [iv stamp,bA b] fun r=>r = .tp [.ag (Co ⟨stamp,(CR b:Nat),false⟩),iv 0]:=by
 have h1:=LV b;refine zS Tryz.func251 rfl ?_;conv=>whnf
 rw [show decide (stamp<0)=false from decide_eq_false (by omega)];conv=>whnf
 rw [show decide (stamp > 4294967295)=false from decide_eq_false (by omega)];conv=>whnf
 rw [show ((b.length:Int) != 8)=false from bne_eq_false_iff_eq.2 (by rw [hb];rfl)];conv=>whnf
 refine z_ h1 ?_;exact⟨_,ri,rfl⟩
theorem Xg (l:List Ent) (hl:l.length<=1000000000):ACalls Tryz.prog false 278 [Bv l] [] fun r H=>r = .ow 0 l.length/\H=[.row 194 3 (l.map Co)]:=by
 refine zx tys_ok Tryz.func278 rfl rfl (by show 1<=_;decide) ?_;refine Ad (fun h=>?_) ?_
 ·conv=>whnf
  have h0:=AZ.1 h;subst h0;exact⟨_, .ow 0 0, [.row 194 3 []],fun _ _ h=>h,zE ⟨[(0,194,3)],tA,tA,tA,rfl,rfl,rfl⟩,rfl,rfl⟩
 ·refine⟨⟨rfl,by omega⟩,?_⟩;exact⟨.ow 0 l.length, .ow 0 l.length, [.row 194 3 (l.map Co)],fun _ _ h=>by rwa [A4] at h,zE ⟨[],tv,tA,⟨(congrArg (AB.row _ _) (H6 (d:=(⟨0,0,false⟩:Ent)) Co l)).symm,tv⟩,rfl,rfl,rfl⟩,rfl,rfl⟩
theorem Tz (t:List Ent) (ht:t.length<=1000000):ACalls Tryz.prog false 250 [.ag [Bv t]] [] fun r H=>r = .ag [.ow 0 t.length]/\H=[.row 194 3 (t.map Co)]:=by
 have h1:=Xg t (by omega);refine zT tys_ok Tryz.func250 rfl rfl (Ag rfl) ?_;conv=>whnf
 refine zW h1 rfl ?_;rintro _ _ ⟨rfl,rfl⟩;exact⟨.ag [.ow 2 t.length], .ag [.ow 0 t.length], [.row 194 3 (t.map Co)],fun _ _ h=>h,zR (s:= [2]) tA,rfl,rfl⟩
def ZX (b:Bool):List AV:= [.v (.bool b)]
def aF (l:List Bool):AV:= .sl 1 l.length fun i=>ZX (l.getD i false)
theorem ZW {L:List Bool} {n:Nat} {es:List (List AV)} (hn:n=L.length) (he:es=L.map ZX) (c:Ctx) (v:Value) (h:Rd (.sl 1 n fun i=>es.getD i []) c v):Rd (aF L) c v:=Ba (f:=ZX) L hn he c v h
theorem Eg {l:List Nat} {m:Nat} (h:(l.all fun z=>Nat.ble (z+1) m)=true):∀ z∈l,z<m:=fun z hz=>Ag (Av.1 h z hz)
theorem XM (g:Geo) (t:List Ent) (had:List (List UInt8)) (hg:Bq g=true) (ht:GG g t=true) (hh:(had.length:Int)=g.d+1) (h8:∀ b∈had,b.length=8) (hlo:∀ i,i<t.length->(t.getD i ez).lost=false):Fn Tryz.prog 247 [.ag (AT g), .ag [Bv t],EU had] fun r=>r = .tp [EU had,aF (List.replicate had.length true),iv 0]:=by
 obtain⟨g1,g2,g3,g4,g5⟩:=Aq.1 hg;have htl:=IN ht;have hb:=Tn g t had hg ht (by omega) hh h8;have hd1:IntKind.i64.wrap (g.d+1)=g.d+1:=wi (by omega);refine zS Tryz.func247 rfl ?_;conv=>whnf
 refine zW hb rfl ?_;rintro _ _ ⟨rfl,rfl⟩;conv=>whnf
 rw [hd1];refine zU Nat (fun k=>([(6, .ow 3 k),(7, .ow 4 k),(9, .bp 2 0),(25,iv (g.d+1)),(26,iv (k:Nat))], [.box 23 (AT g), .box 141 [Bv t], .box 320 [iv g.d,Bv t,EU had], .row 49 1 ((had.take k).map GO), .row 4 1 ((List.replicate k true).map ZX)])) (fun k=>k<=had.length) (fun k=>had.length - k) 0 (Aj _)
  ⟨_,_,zA _ _, [(6,49,1),(7,4,1)],tA, [0,1,2,3,4],tA,tA,rfl,rfl,rfl,rfl,rfl⟩ ?_
 intro k hk;by_cases hkn:k<had.length
 ·have hkk:=Tl g t had k (by omega) hkn h8 (hlo k (by omega));have e1:(had.take k).map GO ++ [GO (had.getD k [])]=(had.take (k+1)).map GO:=by
   rw [A_,Af hkn,A9,Ab,Af hkn];rfl
  have e2:(List.replicate k true).map ZX ++ [ZX true]=(List.replicate (k+1) true).map ZX:=by
   rw [DJ,A9];rfl
  conv=>whnf
  rw [show decide ((k:Int)<g.d+1)=true from decide_eq_true (by omega)];conv=>whnf
  repeat' (refine zY ?_;conv=>whnf)
  refine ze9 [2] hkk ?_;rintro _ _ ⟨rfl,rfl⟩;conv=>whnf
  repeat' (refine zY ?_;conv=>whnf)
  refine⟨rfl,?_⟩;conv=>whnf
  refine Ad ⟨by rw [Aa,Ar];omega,by omega⟩ ?_;refine⟨rfl,?_⟩;refine⟨⟨by rw [Aa,Bk],by omega⟩,?_⟩;exact⟨k+1,by omega,by omega,zR (s:= [0,1,2,3,4]) ⟨⟨rfl,rfl,rfl,rfl,AL (by omega),tv⟩,⟨rfl,rfl,rfl,congrArg (fun es=>some (AB.row 49 1 es)) e1,congrArg (fun es=>some (AB.row 4 1 es)) e2,tv⟩,rfl,rfl,rfl,rfl,rfl⟩⟩
 ·have ek:k=had.length:=by omega
  subst ek;conv=>whnf
  rw [show decide (((had.length:Nat):Int)<g.d+1)=false from decide_eq_false (by omega)];conv=>whnf
  repeat' (refine zY ?_;conv=>whnf)
  rw [As];refine⟨(by rw [Aa]),?_⟩;refine⟨(by rw [Aa,Bk]),?_⟩;exact⟨.tp [EU had,aF (List.replicate had.length true),iv 0],BX (m:= [EU had,aF (List.replicate had.length true),iv 0]) ⟨DQ rfl rfl,ZW (by rw [Bk]) rfl,ri,tv⟩,rfl⟩
theorem XX (A p:Int):Fn Tryz.prog 200 [iA [A],iv p] fun r=>r = iv (if A=p then 0 else -1):=by
 refine zS Tryz.func200 rfl ?_;conv=>whnf
 refine zH 2 ?_;conv=>whnf
 refine Ad ⟨by decide,by show (0:Int)<1;decide⟩ ?_;conv=>whnf
 rw [show [A].getD (Int.toNat 0) 0=A from rfl];by_cases h:A=p
 ·rw [show (p == A)=true from beq_iff_eq.2 h.symm,if_pos h];exact⟨_,ri,rfl⟩
 ·rw [show (p == A)=false from beq_eq_false_iff_ne.2 (Ne.symm h),if_neg h];conv=>whnf
  repeat' (refine zY ?_;conv=>whnf)
  exact⟨_,ri,rfl⟩
section
variable {g:Geo} {t:List Ent} {had:List (List UInt8)} {A:Int} {b:List UInt8} {stamp:Int}
theorem YY (A:Int) (b:List UInt8) (i:Nat):E0 [A] [b] i 1=if A=(i:Int) then some b else none:=rfl
theorem Zb (h8:∀ b∈had,b.length=8) (hlo:∀ i,i<t.length->(t.getD i ez).lost=false) {i:Nat} (hi:i<t.length) (hi2:i<had.length):Gl g t had [A] [b] i=if A=(i:Int) then b else had.getD i []:=by
 unfold Gl;show (match E0 [A] [b] i 1 with | some b=>b | none=>FL g t had i)=_;rw [YY];by_cases h:A=(i:Int)
 ·rw [if_pos h,if_pos h]
 ·rw [if_neg h,if_neg h];show FL g t had i=_;unfold FL;rw [hlo i hi,if_neg (by decide),if_pos (by rw [h8 _ (A7 hi2)];decide)]
theorem Za (h8:∀ b∈had,b.length=8) (hb:b.length=8) (hlo:∀ i,i<t.length->(t.getD i ez).lost=false) {i:Nat} (hi:i<t.length) (hi2:i<had.length):(Gl g t had [A] [b] i).length=8:=by
 rw [Zb h8 hlo hi hi2];split
 ·exact hb
 ·exact h8 _ (A7 hi2)
theorem aq (h8:∀ b∈had,b.length=8) (hb:b.length=8) (hlo:∀ i,i<t.length->(t.getD i ez).lost=false) {i:Nat} (hi:i<t.length) (hi2:i<had.length):J_ g t had [A] [b] stamp i=if A=(i:Int) then ⟨stamp,(CR b:Nat),false⟩ else t.getD i ez:=by
 unfold J_;rw [if_neg (by rw [Za h8 hb hlo hi hi2];decide)];show (match E0 [A] [b] i 1 with | some b=>_ | none=>_)=_;rw [YY];by_cases h:A=(i:Int)
 ·rw [if_pos h,if_pos h]
 ·rw [if_neg h,if_neg h]
def HZ (g:Geo) (t:List Ent) (had:List (List UInt8)) (A:Int) (b:List UInt8) (k:Nat):List (List UInt8):=(List.range k).map (Gl g t had [A] [b])
theorem P8 {n:Nat} (h:∀ i:Nat,i<n->(Gl g t had [A] [b] i).length=8):∀ k,k<=n->L3 (HZ g t had A b k)=DN g t had [A] [b] k
 | 0,_=>rfl
 | k+1,hk=>by
  have ih:=P8 h k (by omega);unfold L3 HZ at ih |-
  rw [Bm,A9,Ci,ih,DN,if_neg (by rw [h k (by omega)];decide)];rfl
end
theorem Rk (g:Geo) (t:List Ent) (had:List (List UInt8)) (A:Int) (b:List UInt8) (stamp:Int) (hg:Bq g=true) (ht:GG g t=true) (hh:(had.length:Int)=g.d+1) (h8:∀ b∈had,b.length=8) (hlo:∀ i,i<t.length->(t.getD i ez).lost=false) (hA:0<=A/\A<g.d) (hb:b.length=8) (hs:0<=stamp/\stamp<=4294967295) :
  Fn Tryz.prog 195 [.ag (AT g), .ag [Bv t],EU had,iA [A],EU [b],iv stamp] fun r=>r = .tp [.ag [Bv (Bx g t had [A] [b] stamp)],bA (DN g t had [A] [b] g.d.toNat),iv 0]:=by
 obtain⟨g1,g2,g3,g4,g5⟩:=Aq.1 hg;have htl:=IN ht;have hz:=XM g t had hg ht hh h8 hlo;have hr:=Lh g A hA;have hw:=K3 [b] (show 1<=1000000 by decide) (fun x hx=>by rw [Az] at hx;rw [hx];exact hb);have htw:=Tz t (by omega);have hB8:∀ i:Nat,i<g.d.toNat->(Gl g t had [A] [b] i).length=8:=fun i hi=>Za h8 hb hlo (by omega) (by omega)
 have em:=QF stamp b hs hb;refine zS Tryz.func195 rfl ?_;conv=>whnf
 refine z_ hz ?_;conv=>whnf
 refine z_ hr ?_;conv=>whnf
 rw [show decide (stamp<0)=false from decide_eq_false (by omega)];conv=>whnf
 rw [show decide (stamp > 4294967295)=false from decide_eq_false (by omega)];conv=>whnf
 refine z_ hw ?_;conv=>whnf
 refine zW htw rfl ?_;rintro _ _ ⟨rfl,rfl⟩;conv=>whnf
 refine zU Nat (fun i=>([(3,iA [A]),(4,EU [b]),(5,iv stamp),(6, .bp 0 0),(12, .bp 2 0),(15,EU had),(16,aF (List.replicate had.length true)),(17, .ow 4 i),(62,iv g.d),(63,iv (i:Nat))], [.box 23 (AT g), .box 141 [Bv t], .box 141 [.ow 3 t.length], .row 194 3 ((Ey g t had [A] [b] stamp i).map Co), .row 49 1 ((HZ g t had A b i).map GO)])) (fun i=>i<=g.d.toNat) (fun i=>g.d.toNat - i) 0 (Aj _)
  ⟨_,_,zA _ _, [(17,49,1)],tA, [0,1,2,3,4],tA,tA,rfl,rfl,rfl,rfl,rfl⟩ ?_
 intro i hi;by_cases hin:i<g.d.toNat
 ·have hit:i<t.length:=by omega
  have hih:i<had.length:=by omega
  have hE:=aq (g:=g) (A:=A) (b:=b) (stamp:=stamp) h8 hb hlo hit hih;have hN:=Zb (g:=g) (A:=A) (b:=b) h8 hlo hit hih;have hix:=XX A (i:Nat);have hlo2:=JX g t had [A] [b] stamp (Nat.le_of_lt hit);have hsl:(HZ g t had A b i).length=i:=by simp [HZ]
  have hs2:(HZ g t had A b i).map GO ++ [GO (Gl g t had [A] [b] i)]=(HZ g t had A b (i+1)).map GO:=by simp [HZ,Bm]
  by_cases hq:A=(i:Int)
  ·rw [if_pos hq] at hE hN hix;rw [hN] at hs2;conv=>whnf
   rw [show decide ((i:Int)<g.d)=true from decide_eq_true (by omega)];conv=>whnf
   repeat' (refine zY ?_;conv=>whnf)
   refine z_ hix ?_;conv=>whnf
   repeat' (refine zY ?_;conv=>whnf)
   have ixA:(0:Int)<=0/\(0:Int)<(([b]:List (List UInt8)).length:Nat):=in01;apply zV (0) tys_ok mixed (.o [0,1,2,3,4,5,6,7,8,9,10,11,12,13] .fin) (by kernel_rfl);conv=>whnf
   try (refine tI ?_;conv=>whnf)
   refine z_ em ?_;conv=>whnf
   try (refine tI ?_;conv=>whnf)
   try (refine tS ?_;conv=>whnf)
   all_goals rw [show ((Ey g t had [A] [b] stamp i).map Co).getD (((i:Nat):Int)).toNat []=Co ((Ey g t had [A] [b] stamp i).getD i ez) by rw [Ac];exact Bg (by omega)]
   all_goals
    conv=>whnf
    repeat' (refine zY ?_;conv=>whnf)
    refine⟨in01,?_⟩;refine⟨rfl,?_⟩;refine⟨⟨by rw [Aa,hsl],by omega⟩,?_⟩;exact⟨i+1,by omega,by omega,zR (s:= [0,1,2,3,4]) ⟨⟨rfl,rfl,rfl,rfl,rfl,rfl,rfl,rfl,rfl,AL (by omega),tv⟩,⟨rfl,rfl,rfl,congrArg (fun z=>some (AB.row 194 3 z)) (show ((Ey g t had [A] [b] stamp i).map Co).set (((i:Nat):Int)).toNat (Co ⟨stamp,(CR b:Nat),false⟩)=(Ey g t had [A] [b] stamp (i+1)).map Co by rw [Ac,<-Ch,<-hE,IL g t had [A] [b] stamp hit]),congrArg (fun z=>some (AB.row 49 1 z)) hs2,tv⟩,rfl,rfl,rfl,rfl,rfl⟩⟩
  ·rw [if_neg hq] at hE hN hix;rw [hN] at hs2;conv=>whnf
   rw [show decide ((i:Int)<g.d)=true from decide_eq_true (by omega)];conv=>whnf
   repeat' (refine zY ?_;conv=>whnf)
   refine z_ hix ?_;conv=>whnf
   repeat' (refine zY ?_;conv=>whnf)
   refine Ad ⟨by omega,by rw [Bk];omega⟩ ?_;conv=>whnf
   rw [show (List.replicate had.length true).getD ((i:Nat):Int).toNat false=true by rw [Ac,Ab,Cm,if_pos hih];rfl];conv=>whnf
   repeat' (refine zY ?_;conv=>whnf)
   refine⟨⟨by omega,by omega⟩,?_⟩;refine⟨rfl,?_⟩;conv=>whnf
   rw [Ac];refine⟨⟨by rw [Aa,hsl],by omega⟩,?_⟩;exact⟨i+1,by omega,by omega,zR (s:= [0,1,2,3,4]) ⟨⟨rfl,rfl,rfl,rfl,rfl,rfl,rfl,rfl,rfl,AL (by omega),tv⟩,⟨rfl,rfl,rfl,congrArg (fun z=>some (AB.row 194 3 z)) (show (Ey g t had [A] [b] stamp i).map Co=(Ey g t had [A] [b] stamp (i+1)).map Co by rw [<-IL g t had [A] [b] stamp hit,hE,Wq g t had [A] [b] stamp hit]),congrArg (fun z=>some (AB.row 49 1 z)) hs2,tv⟩,rfl,rfl,rfl,rfl,rfl⟩⟩
 ·have ei:i=g.d.toNat:=by omega
  subst ei;conv=>whnf
  rw [show decide (((g.d.toNat:Nat):Int)<g.d)=false from decide_eq_false (by omega)];conv=>whnf
  repeat' (refine zY ?_;conv=>whnf)
  have hsl:(HZ g t had A b g.d.toNat).length=g.d.toNat:=by simp [HZ]
  have hxa:=XO (HZ g t had A b g.d.toNat) (by omega) (fun x hx=>by
   obtain⟨i,hi,rfl⟩:=AP.1 hx;exact hB8 i (AO.1 hi))
  rw [P8 hB8 _ (Ah _)] at hxa;refine Fn.shut (args':= [.sl 1 g.d.toNat fun i=>((HZ g t had A b g.d.toNat).map GO).getD i [],iv 8]) (hxa.subA ⟨DQ hsl.symm rfl,fun _ _ h=>h,tv⟩) ⟨by rw [Aa,hsl],rfl,?_⟩;rintro _ rfl;conv=>whnf
  have hp8:(DN g t had [A] [b] g.d.toNat).length=8:=Fy (g:=g) (t:=t) (had:=had) (ats:= [A]) (bs:= [b]) (fun x hx=> .inr (h8 x hx)) (fun x hx=>by rw [Az] at hx;rw [hx];exact hb) (Ah 1) _;have he:=QF stamp (DN g t had [A] [b] g.d.toNat) hs hp8;apply zV (0) tys_ok mixed (.o [0,1,2,3,4,5,6,7,8,9,10,11] .fin) (by kernel_rfl);conv=>whnf
  refine z_ he ?_;conv=>whnf
  try (refine tI ?_;conv=>whnf)
  try (refine tS ?_;conv=>whnf)
  have hdl:g.d.toNat<t.length:=by omega
  have hlo2:=JX g t had [A] [b] stamp (Nat.le_of_lt hdl);have eW:(Ey g t had [A] [b] stamp g.d.toNat).set g.d.toNat ⟨stamp,(CR (DN g t had [A] [b] g.d.toNat):Nat),false⟩=Bx g t had [A] [b] stamp:=by
   rw [JW g t had [A] [b] stamp hdl,Bx,AD (by omega)]
  have hgl:((Ey g t had [A] [b] stamp g.d.toNat).map Co).getD g.d.toNat []=Co ((Ey g t had [A] [b] stamp g.d.toNat).getD g.d.toNat ez):=Bg (by omega);have eR:((Ey g t had [A] [b] stamp g.d.toNat).map Co).set g.d.toNat (Co ⟨stamp,(CR (DN g t had [A] [b] g.d.toNat):Nat),false⟩)=(Bx g t had [A] [b] stamp).map Co:=by rw [<-Ch,eW]
  have eN:(Bx g t had [A] [b] stamp).length=t.length:=by simp [Bx];omega
  all_goals
   refine⟨⟨rfl,by rw [Aa,hlo2],hdl⟩,?_⟩;rw [hgl];refine⟨(by rw [AW,Aa,hlo2]),?_⟩;exact⟨.tp [.ag [Bv (Bx g t had [A] [b] stamp)],bA (DN g t had [A] [b] g.d.toNat),iv 0],BX ⟨Be ⟨Ba (f:=Co) (Bx g t had [A] [b] stamp) eN.symm eR,tv⟩,ri,ri,tv⟩,rfl⟩
theorem PC (g:Geo) (z:Int) (t:List Ent) (par:List UInt8) (A:Int) (b:List UInt8) (hg:Bq g=true) (hz:0<=z/\z<g.z) (ht:GG g t=true) (hp:par.length=8) (hA:0<=A/\A<g.d) (hb:b.length=8) :
  Fn Tryz.prog 196 [.ag (AT g),iv z, .ag [Bv t],bA par,iA [A],EU [b]] fun r=>r = .tp [DH (Cf z t par [A] [b]),iv 0]:=by
 obtain⟨g1,g2,g3,g4,g5⟩:=Aq.1 hg;have htl:=IN ht;have h1:=Ck par (by omega);have h2:=Ck b (by omega);have h3:=N1 g t (by omega);rw [ht,if_pos rfl] at h3;have hr:=Lh g A hA;have hw:=K3 [b] (show 1<=1000000 by decide) (fun x hx=>by rw [Az] at hx;rw [hx];exact hb);have hwp:=K3 [par] (show 1<=1000000 by decide) (fun x hx=>by rw [Az] at hx;rw [hx];exact hp);refine zS Tryz.func196 rfl ?_;conv=>whnf
 refine z_ h3 ?_;conv=>whnf
 rw [show decide (z<0)=false from decide_eq_false (by omega)];conv=>whnf
 rw [show decide (z>=g.z)=false from decide_eq_false (by omega)];conv=>whnf
 refine z_ hr ?_;conv=>whnf
 refine z_ hw ?_;conv=>whnf
 refine zp (args':= [.sl 1 1 fun i=>([GO par]:List (List AV)).getD i []]) (hwp.subA ⟨DQ (L:= [par]) rfl rfl,tv⟩) tA ?_;rintro _ rfl;refine⟨rfl,?_⟩;conv=>whnf
 refine zU Nat (fun k=>([(1,iv z),(3,bA par),(5,EU [b]),(14,bA (CY t)),(16, .ow 2 k),(61,iA [A]),(62,iv 1),(63,iv (k:Nat))], [.box 23 (AT g), .box 141 [Bv t], .row 51 3 ((([⟨z,A,b⟩]:List Img).take k).map D9)])) (fun k=>k<=1) (fun k=>1 - k) 0 (by decide)
  ⟨_,_,zA _ _, [(16,51,3)],tA, [0,1,3],tA,tA,rfl,rfl,rfl,rfl,rfl⟩ ?_
 intro k hk;by_cases hk1:k=1
 ·subst hk1;conv=>whnf
  repeat' (refine zY ?_;conv=>whnf)
  refine z_ h1 ?_;refine⟨rfl,?_⟩;refine⟨⟨rfl,by decide⟩,?_⟩;refine⟨rfl,?_⟩;exact⟨.tp [DH (Cf z t par [A] [b]),iv 0],BX ⟨Ba (f:=D9) (Cf z t par [A] [b]) rfl rfl,ri,tv⟩,rfl⟩
 ·obtain rfl:k=0:=by omega
  conv=>whnf
  repeat' (refine zY ?_;conv=>whnf)
  refine⟨in01,?_⟩;conv=>whnf
  repeat' (refine zY ?_;conv=>whnf)
  refine⟨in01,?_⟩;conv=>whnf
  refine z_ h2 ?_;refine⟨rfl,?_⟩;refine⟨⟨rfl,by decide⟩,?_⟩;exact⟨1,by omega,by omega,zR (s:= [0,1,2]) tA⟩
end
end Go.Proofs.YtkolckdakddggaaGreatDoor.A
