/-
Several texts in one.
-/
import Derived.Test.YtkolckdakddggaaGreatDoorPPC2P4
import Derived.Test.YtkolckdakddggaaGreatDoorPPC2P3
import Derived.Test.YtkolckdakddggaaGreatDoorPPC2P2
set_option linter.defProp false
set_option maxRecDepth 100000
set_option maxHeartbeats 8000000
set_option linter.unusedSimpArgs false
set_option linter.unusedVariables false
set_option linter.deprecated false
namespace Go.Proofs.YtkolckdakddggaaGreatDoor.A
section
open Go.RowKit
theorem Gl {L:List Int} {n:Nat} {es:List (List AV)} (hn:n=L.length) (he:es=L.map fun x=> [AV.v (.int .i64 x)]) (c:Ctx) (v:Value) (h:Rd (.sl 1 n fun i=>es.getD i []) c v):Rd (iA L) c v:=Bf (f:=fun x=> [AV.v (.int .i64 x)]) L hn he c v h
def G2 (g:Geo) (s:Stt) (F:Int->List UInt8) (seq lba:Int) (b:List UInt8):List Img:=match E6 g s F (lba.tdiv g.d) with
 | some t=>C4 (lba.tdiv g.d) (BJ g t (Dq g s F t (lba.tdiv g.d)) [lba.tmod g.d] [b] seq) (EH g t (Dq g s F t (lba.tdiv g.d)) [lba.tmod g.d] [b] g.d.toNat) [lba.tmod g.d] [b]
 | none=> []
theorem Xv {L L':List Img} {n:Nat} (e:L=L') (hn:n=L'.length) (c:Ctx) (v:Value) (h:Rd (.sl 3 n fun j=>((List.range L'.length).map fun i=>E8 (L'.getD i ⟨0,0, []⟩)).getD j []) c v):Rd (Eg L) c v:=by
 subst e
 refine zE hn (fun i hi=>?_) h
 have:i<L.length:=by omega
 simp [this]
theorem X9 {g:Geo} {seq epoch:Int} {x:Img} (hg:Bt g=true) (h2:CJ seq 0 4294967295=true) (h3:CJ epoch 0 4294967295=true) (h7:B9 g x=true) {k n:Nat} (hk:k<n) (hn:n=3):Fj g ⟨1,seq,epoch,(k:Nat),n+1,x⟩=true:=by
 simp only [Fj,hg,G4,FQ,h2,h3,h7,BG,BH]
 simp only [if_neg (show ¬(1:Int)=0 by omega),if_true,Ad,AL]
 omega
theorem X8 {g:Geo} {seq epoch:Int} (hg:Bt g=true) (h2:CJ seq 0 4294967295=true) (h3:CJ epoch 0 4294967295=true) {n:Nat} (hn:n=3):Fj g ⟨2,seq,epoch,(n:Nat),n+1,noImg⟩=true:=by
 subst hn
 simp only [Fj,hg,G4,FQ,h2,h3,BG]
 simp only [if_neg (show ¬(2:Int)=0 by omega),if_neg (show ¬(2:Int)=1 by omega),if_true,Ad,AL,beq_iff_eq,GP,noImg]
 simp
@[reducible] def rwQ (g:Geo) (a:An) (l:List Tx) (x:Tx) (d:Dk):List AB:= [.box 95 (YI g (.bp 1 0) (.ow 4 a.homes.length) (.ow 5 (l.length+1)) (AO a l) 0), .box 92 (HK (.ow 2 d.cells.length) (.ow 6 d.cache.length) d.reqs d.left), .row 84 3 (d.cells.map BE), .dead, .row 53 3 (a.homes.map DG), .row 45 4 (l.map DH ++ [DH x]), .row 131 2 (d.cache.map E5)]
theorem YJ (g:Geo) (a:An) (l:List Tx) (x:Tx) (d:Dk):rwQ g a l x d=rwP g (AO a (l ++ [x])) 0 d:=by
 have e1:(AO a (l ++ [x])).txns.length=l.length+1:=by show (l ++ [x]).length=_;simp
 have e2:(AO a (l ++ [x])).txns.map DH=l.map DH ++ [DH x]:=by show (l ++ [x]).map DH=_;simp
 show _=rwP g (AO a (l ++ [x])) 0 d
 unfold rwP
 rw [e1,e2]
 rfl
def Gx (g:Geo) (a:An) (l:List Tx) (F:Int->List UInt8) (lba:Int) (b:List UInt8):Tx:=⟨a.seq+(l.length:Int),(a.pos+Ey l).tmod g.sl,4,G2 g (AO a l) F (a.seq+(l.length:Int)) lba b⟩
theorem in01:(0:Int)<=((0:Nat):Int)/\((0:Nat):Int)<((1:Nat):Int):=by decide
def ap (A:Int) (p:Bool):AV:=match p with
 | true=>iA [A]
 | false=> .v (.slice none 0 0)
def aL (b:List UInt8) (p:Bool):AV:=match p with
 | true=>Ji [b]
 | false=> .v (.slice none 0 0)
def ZL (L:List Img) (p:Bool):AV:=match p with
 | true=>Eg L
 | false=> .v (.slice none 0 0)
theorem Q_ (g:Geo) (a:An) (l:List Tx) (d:Dk) (F:Int->List UInt8) (K lba:Int) (b:List UInt8) (hg:Bt g=true) (hv:Vol g K d (AO a l)) (hK:K<=4294967294) (h:Gd (Av g) d F) (hF:∀ a,(F a).length<=100000) (hlba:0<=lba/\lba<g.z*g.d) (hb:b.length=8) :
  ACalls Tryz.prog false 31 [.bp 0 0,iA [lba],Ji [b]] (Fk g (AO a l) 0 d) fun r H=>(r = .v (.int .i64 0)/\Ey l+4<=g.sl/\(E6 g (AO a l) F (lba.tdiv g.d)).isSome=true/\∃ d' W,Gd (Av g) d' (HM F W)/\(∀ w∈W,(g.an<=w.addr/\w.addr<g.an+2*g.sl)/\w.bytes.length<=200)/\Vol g (K+1) d' (AO a (l ++ [Gx g a l F lba b]))/\H=rwP g (AO a (l ++ [Gx g a l F lba b])) 0 d')\/∃ e,e≠0/\r = .v (.int .i64 e)/\(g.sl<Ey l+4\/E6 g (AO a l) F (lba.tdiv g.d)=none)/\∃ d',H=Fk g (AO a l) 0 d':=by
 obtain⟨g1,g2,g3,g4,g5⟩:=As.1 hg
 have hsm:=hv.sm hg
 have ha:Bg g a=true:=hv.an
 have hring:C5 g l a.seq a.pos g.sl=true:=hv.ring
 have hl30:l.length<=30:=hsm.t.1
 have hlb:LogB (AO a l).txns:=⟨by have:=hsm.t.1;omega,fun t ht=>⟨by have:=(hsm.t.2 t ht).1;omega,fun x hx=>by have:=(hsm.t.2 t ht).2 x hx;omega⟩⟩
 have hun:=Jm l l.length
 obtain⟨a1,a2,a3,a4⟩:=EE ha
 have hseq:a.seq+l.length<=K:=hv.seq
 obtain⟨Z,hZ⟩:∃ Z,Z=lba.tdiv g.d:=⟨_,rfl⟩
 obtain⟨A,hA⟩:∃ A,A=lba.tmod g.d:=⟨_,rfl⟩
 have hZ2:0<=Z/\Z<g.z:=by
  rw [hZ,Bl hlba.1]
  exact⟨D3 hlba.1 (by omega),Cp (by omega) hlba.2⟩
 have hA2:0<=A/\A<g.d:=by
  rw [hA]
  exact⟨Bq _ hlba.1,Bb _ (by omega)⟩
 have hneed:=Vl g lba hg hlba
 have hused:=Pq l (by omega)
 have hnext:=Vj g a l hg ha (by omega)
 have tsub:SubL [.sl 4 l.length fun i=>(l.map DH).getD i []] [Di l]:=⟨Bf (f:=DH) l rfl rfl,tv⟩
 have asub:∀ (c:Ctx) (v:Value),Rd (.ag (MP a (.sl 3 a.homes.length fun i=>(a.homes.map DG).getD i []))) c v->Rd (.ag (Ed a)) c v:=Ba ⟨ri,ri,ri,ri,ri,ri,Bf (f:=DG) a.homes rfl rfl,tv⟩
 refine zS tys_ok Tryz.func31 rfl rfl (Ag rfl) ?_
 conv=>whnf
 refine z_ hneed ?_
 conv=>whnf
 apply zQ tys_ok mixed (.one 0 (.one 1 (.one 2 (.one 3 (.one 4 (.one 5 (.one 6 (.one 7 (.one 8 (.one 9 (.one 10 (.one 11 (.one 12 (.one 13 .fin)))))))))))))) [36,37,38,39,40,41,42,43,44,45,46,47,48,49] (by kernel_rfl)
 ·conv=>whnf
  (refine zl (args':= [.sl 4 l.length fun i=>(l.map DH).getD i []]) (hused.subA tsub) ⟨(Ab _).symm,rfl⟩ ?_;rintro _ rfl;refine⟨rfl,?_⟩)
  exact⟨rfl,rfl⟩
 conv=>whnf
 conv=>whnf
 rw [wi (show -9223372036854775808<=g.sl - Ey l/\g.sl - Ey l<=9223372036854775807 by unfold Ey;omega)]
 by_cases hfull:(4:Int) > g.sl - Ey l
 ·rw [decide_eq_true hfull]
  exact⟨ze 21,ze 21,Fk g (AO a l) 0 d,fun _ _ h=>h,zR (s:= [0,1,2,3,4,5]) ⟨⟨rfl,tv⟩,⟨rfl,rfl,rfl,rfl,rfl,rfl,tv⟩,rfl,rfl,rfl,rfl,rfl⟩, .inr ⟨21,by decide,rfl, .inl (by omega),d,rfl⟩⟩
 rw [decide_eq_false hfull]
 conv=>whnf
 apply zQ tys_ok mixed (.one 0 (.one 1 (.one 2 (.one 3 (.one 4 (.one 5 (.one 6 (.one 7 (.one 8 (.one 9 (.one 10 (.one 11 (.one 12 (.one 13 (.one 14 (.one 15 (.one 16 (.one 17 (.one 18 (.one 19 .fin)))))))))))))))))))) [8,9,50,51,52,53,54,55,56,57,58,59,60,61,62,63,64,65,66,67] (by kernel_rfl)
 ·conv=>whnf
  (refine zl (args':= [.ag (AY g), .ag (MP a (.sl 3 a.homes.length fun i=>(a.homes.map DG).getD i [])), .sl 4 l.length fun i=>(l.map DH).getD i []]) (hnext.subA ⟨fun _ _ h=>h,asub,tsub⟩) ⟨(Ab _).symm,(Ab _).symm,rfl⟩ ?_;rintro _ rfl;refine⟨rfl,?_⟩)
  exact⟨rfl,rfl⟩
 conv=>whnf
 conv=>whnf
 rw [decide_eq_false (show ¬a.seq+(l.length:Int) > 4294967295 by omega)]
 conv=>whnf
 obtain⟨S,hS⟩:∃ S,S=a.seq+(l.length:Int):=⟨_,rfl⟩
 obtain⟨P,hP⟩:∃ P,P=(a.pos+Ey l).tmod g.sl:=⟨_,rfl⟩
 rw [<-hS,<-hP]
 have hdiv:IntKind.i64.wrap (([lba].getD (((0:Nat):Int)).toNat 0).tdiv g.d)=Z:=by
  rw [hZ]
  exact wi (by have:=hZ2;rw [hZ] at this;show -9223372036854775808<=lba.tdiv g.d/\lba.tdiv g.d<=9223372036854775807;omega)
 have hadlen:∀ t,∀ x∈Dq g (AO a l) F t Z,x.length=0\/x.length=8:=fun t x hx=>by
  have himg:∀ t∈(AO a l).txns,∀ x∈t.images,B9 g x=true:=fun t ht=>Aw.1 (DU hring t ht).1
  rcases A6.1 hx with q | q
  ·obtain⟨i,hi,rfl⟩:=AR.1 q
   exact GN himg (by have:=AU.1 hi;omega)
  ·rw [AE] at q
   rw [q]
   exact GN himg (by decide)
 obtain⟨L,hL⟩:∃ L,L=G2 g (AO a l) F S lba b:=⟨_,rfl⟩
 refine zV (Nat × Dk × Bool) (fun x=>([(0, .bp 0 0),(1,iA [lba]),(2,Ji [b]),(7,ze 4),(8,ze P),(9,ze S),(10,ZL L x.2.2),(11,ze (x.1:Nat))],Fk g (AO a l) 0 x.2.1)) (fun x=>(x.1:Int)<=g.z/\Gd (Av g) x.2.1 F/\(x.2.2=true->(E6 g (AO a l) F Z).isSome=true)/\(x.2.2=true↔Z<(x.1:Int))) (fun x=>g.z.toNat - x.1) (0,d,false) ⟨by show ((0:Nat):Int)<=g.z;omega,h,fun q=>(by cases q),⟨fun q=>(by cases q),fun q=>absurd q (by show ¬Z<((0:Nat):Int);omega)⟩⟩
  (zR (s:= [0,1,2,3,4,5]) ⟨⟨rfl,rfl,rfl,rfl,rfl,rfl,rfl,rfl,tv⟩,⟨rfl,rfl,rfl,rfl,rfl,rfl,tv⟩,rfl,rfl,rfl,rfl,rfl⟩) ?_
 rintro⟨k,d1,p⟩ ⟨hk,hd1,hz1,hpz⟩
 simp only at hk hd1 hz1 hpz
 by_cases hkz:(k:Int)<g.z
 rotate_left 1
 ·obtain rfl:p=true:=hpz.2 (by omega)
  obtain⟨t,hT⟩:=Cs.1 (hz1 rfl)
  have htok:=Jt hT
  have hL2:L=C4 Z (BJ g t (Dq g (AO a l) F t Z) [A] [b] S) (EH g t (Dq g (AO a l) F t Z) [A] [b] g.d.toNat) [A] [b]:=by
   rw [hL,G2,<-hZ,<-hA,hT]
  have h01:∀ x∈ [b],x.length=8:=fun x hx=>by rw [AE] at hx;rw [hx];exact hb
  have hL3:L.length=3:=by rw [hL2,FJ];rfl
  have hA3:∀ x∈ [A],0<=x/\x<g.d:=fun x hx=>by rw [AE] at hx;rw [hx];exact hA2
  have hLok:∀ x∈L,B9 g x=true:=fun x hx=>by
   rw [hL2] at hx
   exact(Mj hg hZ2 (Gz hg htok (by omega)) (Gg (hadlen t) h01 (show [A].length<= [b].length from Ah 1) _) hA3 h01 (Ah 1) x hx).1
  have hL1:OneTab L:=by
   rw [hL2]
   exact KQ (l:= []) hg List.Pairwise.nil (fun x hx=>by cases hx) hA3
  have hep:0<=a.epoch/\a.epoch<=4294967295:=by
   have:=ha
   simp only [Bg,Bd,BR,BH,Ad,decide_eq_true_eq,AL] at this
   omega
  have hS1:CJ S 0 4294967295=true:=AL.2 (by omega)
  have hLb:∀ x∈L,x.bytes.length<=45:=fun x hx=>EQ hg (hLok x hx)
  have hrec:=QV S a.epoch L (by omega) fun x hx=>by have:=hLb x hx;omega
  obtain⟨R,hR⟩:∃ R,R=FO S a.epoch L:=⟨_,rfl⟩
  have hRl:R.length=4:=by rw [hR,LN,hL3]
  have hRok:∀ k:Nat,k<4->Fj g (R.getD (k:Int).toNat rc0)=true:=fun k hk=>by
   rw [Ac,hR,Tb _ _ _ (by omega)]
   split
   ·rename_i q
    exact X9 hg hS1 (AL.2 hep) (hLok _ (A9 (d:=⟨0,0, []⟩) q)) q hL3
   ·rw [show k=L.length by omega]
    exact X8 hg hS1 (AL.2 hep) hL3
  rw [<-hR] at hrec
  conv=>whnf
  rw [decide_eq_false hkz]
  conv=>whnf
  refine z_ hrec ?_
  conv=>whnf
  refine zV (Nat × Dk × List Wr) (fun x=>([(0, .bp 0 0),(1,iA [lba]),(2,Ji [b]),(7,ze 4),(8,ze P),(9,ze S),(10,Eg L),(19,Vz R),(20,ze (x.1:Nat))],Fk g (AO a l) 0 x.2.1)) (fun x=>x.1<=4/\Gw (Av g) x.2.1 F x.2.2/\x.2.2.length=2*x.1/\∀ w∈x.2.2,(g.an<=w.addr/\w.addr<g.an+2*g.sl)/\w.bytes.length<=200) (fun x=>4 - x.1) (0,d1, []) ⟨by show 0<=4;omega,hd1,rfl,fun w hw=>by cases hw⟩
   (zR (s:= [0,1,2,3,4,5]) ⟨⟨rfl,rfl,rfl,rfl,rfl,rfl,rfl,rfl,rfl,tv⟩,⟨rfl,rfl,rfl,rfl,rfl,rfl,tv⟩,rfl,rfl,rfl,rfl,rfl⟩) ?_
  rintro⟨i,d2,W⟩ ⟨hi,hW,hWl,hWb⟩
  simp only at hi hW hWl hWb
  conv=>whnf
  refine A3 (fun h6=>?_) (fun h6=>?_) <;> (repeat rw [Ac] at h6) <;> conv=>whnf
  ·have hi4:i<4:=by omega
   obtain⟨Q,hQ⟩:∃ Q,Q=DO g P (i:Nat):=⟨_,rfl⟩
   have hQ2:=L9 hg (pos:=P) (at_:=(i:Nat)) (by rw [hP];exact⟨Bq _ (by unfold Ey;omega),Bb _ (by omega)⟩) (by omega)
   rw [<-hQ] at hQ2
   repeat' (refine zX ?_;conv=>whnf)
   refine⟨by omega,?_⟩
   conv=>whnf
   rw [show (IntKind.i64.wrap (P+(i:Nat))).tmod g.sl=Q from hQ.symm]
   have hl0:=Dm g 0 Q hg (LW (.inl rfl) hQ2)
   have hl1:=Dm g 1 Q hg (LW (.inr rfl) hQ2)
   obtain⟨X,hX⟩:∃ X,X=R.getD (i:Int).toNat rc0:=⟨_,rfl⟩
   have hXok:Fj g X=true:=by rw [hX];exact hRok i hi4
   have hc0:=FX g X 0 Q hXok (LW (.inl rfl) hQ2)
   have hc1:=FX g X 1 Q hXok (LW (.inr rfl) hQ2)
   have hcl:=h.len
   have b0:=Ih hg h.len (.inl rfl) hQ2 (c:=0)
   have b1:=Ih hg h.len (.inr rfl) hQ2 (c:=1)
   have hw0:=Z8 g (AO a l) (Av g) d2 F W (BX g 0 Q) (DZ g X 0 Q) hW (by omega) (by omega) (DX hXok 0 Q)
   rw [hX] at hc0 hc1
   apply zW (2 ^ 145) tys_ok mixed (.one 0 (.one 1 (.one 2 (.one 3 (.one 4 (.one 5 (.one 7 (.one 8 (.one 9 (.one 10 (.one 11 (.one 12 (.one 13 (.one 14 (.one 15 (.one 6 (.one 16 (.one 17 (.one 18 .fin))))))))))))))))))) (by kernel_rfl)
   conv=>whnf
   try (refine tI ?_;conv=>whnf)
   refine z_ hl0 ?_
   conv=>whnf
   refine z_ hc0 ?_
   conv=>whnf
   (rw [<-hX];refine zZ [0,1,2,3,4,5] hw0 rfl rfl rfl rfl (by decide) (FI rfl) ⟨rfl,rfl,rfl,rfl,rfl,rfl,tv⟩ ?_;rintro _ _ ⟨rfl,d3,hd3,rfl⟩)
   conv=>whnf
   have c0:=Mf (g:=g) (.inl rfl) hQ2 (c:=0)
   have c1:=Mf (g:=g) (.inr rfl) hQ2 (c:=1)
   have hW2:∀ w∈(W ++ [⟨BX g 0 Q,DZ g X 0 Q⟩]) ++ [⟨BX g 1 Q,DZ g X 1 Q⟩],(g.an<=w.addr/\w.addr<g.an+2*g.sl)/\w.bytes.length<=200:=fun w hw=>by
    rcases A6.1 hw with q | q
    ·rcases A6.1 q with q | q
     ·exact hWb w q
     ·rw [AE] at q
      rw [q]
      exact⟨c0,DX hXok 0 Q⟩
    ·rw [AE] at q
     rw [q]
     exact⟨c1,DX hXok 1 Q⟩
   have hw1:=Z8 g (AO a l) (Av g) d3 F (W ++ [⟨BX g 0 Q,DZ g X 0 Q⟩]) (BX g 1 Q) (DZ g X 1 Q) hd3 (by simp;omega) (by omega) (DX hXok 1 Q)
   apply zW (2 ^ 145) tys_ok mixed (.one 0 (.one 1 (.one 2 (.one 3 (.one 4 (.one 5 (.one 7 (.one 8 (.one 9 (.one 10 (.one 11 (.one 12 (.one 13 (.one 14 (.one 15 (.one 6 (.one 16 (.one 17 (.one 18 .fin))))))))))))))))))) (by kernel_rfl)
   conv=>whnf
   try (refine tI ?_;conv=>whnf)
   refine z_ hl1 ?_
   conv=>whnf
   refine z_ hc1 ?_
   conv=>whnf
   (rw [<-hX];refine zZ [0,1,2,3,4,5] hw1 rfl rfl rfl rfl (by decide) (FI rfl) ⟨rfl,rfl,rfl,rfl,rfl,rfl,tv⟩ ?_;rintro _ _ ⟨rfl,d4,hd4,rfl⟩)
   conv=>whnf
   conv=>whnf
   exact⟨(i+1,d4,(W ++ [⟨BX g 0 Q,DZ g X 0 Q⟩]) ++ [⟨BX g 1 Q,DZ g X 1 Q⟩]),⟨by show i+1<=4;omega,hd4,by show ((W ++ [_]) ++ [_]).length=2*(i+1);simp;omega,hW2⟩,by show 4 - (i+1)<4 - i;omega,zR (s:= [0,1,2,3,4,5]) ⟨⟨rfl,rfl,rfl,rfl,rfl,rfl,rfl,rfl,AS (by omega),tv⟩,⟨rfl,rfl,rfl,rfl,rfl,rfl,tv⟩,rfl,rfl,rfl,rfl,rfl⟩⟩
  ·have hfl:=aG g (AO a l) (Av g) d2 F W hW
   refine zZ [0,1,2,3,4,5] hfl rfl rfl rfl rfl (by decide) (FI rfl) ⟨rfl,rfl,rfl,rfl,rfl,rfl,tv⟩ ?_
   rintro _ _ ⟨rfl,d3,hd3,rfl⟩
   refine⟨rfl,?_⟩
   conv=>whnf
   refine Ae ⟨(Ab _).symm,by show l.length+1<=1000000000;omega⟩ ?_
   conv=>whnf
   refine zV Nat (fun i=>([(0, .bp 0 0),(1,iA [lba]),(24,ze (i:Nat))],rwQ g a l ⟨S,P,4,L⟩ d3)) (fun i=>i<=1) (fun i=>1 - i) 0 (by omega)
    (zR (s:= [0,1,2,3,4,5,6]) ⟨⟨rfl,rfl,rfl,tv⟩,⟨rfl,rfl,rfl,tv,rfl,rfl,rfl,tv⟩,rfl,rfl,rfl,rfl,rfl⟩) ?_
   intro i hi
   conv=>whnf
   refine A3 (fun h7=>?_) (fun h7=>?_) <;> (repeat rw [Ac] at h7) <;> conv=>whnf
   ·have h7:i<1:=h7
    obtain rfl:i=0:=by omega
    repeat' (refine zX ?_;conv=>whnf)
    apply zW (0) tys_ok mixed (.one 0 (.one 1 (.one 2 (.one 3 (.one 4 (.one 5 (.one 6 (.one 7 (.one 8 (.one 9 (.one 10 (.one 11 (.one 12 (.one 13 (.one 14 (.one 15 (.one 16 .fin))))))))))))))))) (by kernel_rfl)
    conv=>whnf
    try (refine tI ?_;conv=>whnf)
    (refine z_ (Ok _) ?_)
    conv=>whnf
    try (refine tS ?_;conv=>whnf)
    all_goals
     exact⟨1,by omega,by omega,zR (s:= [0,1,2,3,4,5,6]) ⟨⟨rfl,rfl,rfl,tv⟩,⟨rfl,rfl,rfl,tv,rfl,rfl,rfl,tv⟩,rfl,rfl,rfl,rfl,rfl⟩⟩
   ·conv=>whnf
    have hcm:Gx g a l F lba b=⟨S,P,4,L⟩:=by rw [hL,hS,hP];rfl
    have hv2:=hv.add hg hK (d':=d3) ⟨_,hd3⟩ (x:=⟨S,P,4,L⟩) hS hP (by show (2:Int)<=4;omega) (by show (4:Int)<=g.sl - Ey l;omega) (by show (4:Int)=(L.length:Int)+1;omega) hLok hL1
    exact⟨ze 0,ze 0,rwQ g a l ⟨S,P,4,L⟩ d3,fun _ _ h=>h,zR (s:= [0,1,2,3,4,5,6]) ⟨⟨rfl,tv⟩,⟨rfl,rfl,rfl,tv,rfl,rfl,rfl,tv⟩,rfl,rfl,rfl,rfl,rfl⟩, .inl ⟨rfl,by omega,by rw [<-hZ,hT];rfl,d3,W,hd3,hWb,by rw [hcm];exact hv2,by rw [hcm];exact YJ g a l _ d3⟩⟩
 by_cases he:(k:Int)=Z
 rotate_left 1
 ·cases p with
  | false=>
   conv=>whnf
   rw [decide_eq_true hkz]
   conv=>whnf
   refine zV Nat (fun i=>([(0, .bp 0 0),(1,iA [lba]),(2,Ji [b]),(7,ze 4),(8,ze P),(9,ze S),(10, .v (.slice none 0 0)),(11,ze (k:Nat)),(12, .v (.slice none 0 0)),(13, .v (.slice none 0 0)),(14,ze (i:Nat))],Fk g (AO a l) 0 d1)) (fun i=>i<=1) (fun i=>1 - i) 0 (by omega)
    (zR (s:= [0,1,2,3,4,5]) ⟨⟨rfl,rfl,rfl,rfl,rfl,rfl,rfl,rfl,rfl,rfl,rfl,tv⟩,⟨rfl,rfl,rfl,rfl,rfl,rfl,tv⟩,rfl,rfl,rfl,rfl,rfl⟩) ?_
   intro i hi
   conv=>whnf
   refine A3 (fun h6=>?_) (fun h6=>?_) <;> (repeat rw [Ac] at h6) <;> conv=>whnf
   ·have h6:i<1:=h6
    obtain rfl:i=0:=by omega
    repeat' (refine zX ?_;conv=>whnf)
    refine zA tys_ok mixed [0,1,2,3,4,5,6,7,8,9,10,11] (by kernel_rfl) ?_
    refine⟨in01,?_⟩
    refine⟨by omega,?_⟩
    conv=>whnf
    rw [hdiv,show (Z == (k:Int))=false from beq_eq_false_iff_ne.2 fun q=>he q.symm]
    exact⟨1,by omega,by omega,zR (s:= [0,1,2,3,4,5]) ⟨⟨rfl,rfl,rfl,rfl,rfl,rfl,rfl,rfl,rfl,rfl,rfl,tv⟩,⟨rfl,rfl,rfl,rfl,rfl,rfl,tv⟩,rfl,rfl,rfl,rfl,rfl⟩⟩
   ·have h6:1<=i:=h6
    conv=>whnf
    exact⟨(k+1,d1,false),⟨by show ((k+1:Nat):Int)<=g.z;omega,hd1,hz1,⟨fun q=>by have:=hpz.1 q;show Z<((k+1:Nat):Int);omega,fun q=>hpz.2 (by have:Z<((k+1:Nat):Int):=q;omega)⟩⟩,by show g.z.toNat - (k+1)<g.z.toNat - k;omega,zR (s:= [0,1,2,3,4,5]) ⟨⟨rfl,rfl,rfl,rfl,rfl,rfl,rfl,AS (by omega),tv⟩,⟨rfl,rfl,rfl,rfl,rfl,rfl,tv⟩,rfl,rfl,rfl,rfl,rfl⟩⟩
  | true=>
   conv=>whnf
   rw [decide_eq_true hkz]
   conv=>whnf
   refine zV Nat (fun i=>([(0, .bp 0 0),(1,iA [lba]),(2,Ji [b]),(7,ze 4),(8,ze P),(9,ze S),(10,Eg L),(11,ze (k:Nat)),(12, .v (.slice none 0 0)),(13, .v (.slice none 0 0)),(14,ze (i:Nat))],Fk g (AO a l) 0 d1)) (fun i=>i<=1) (fun i=>1 - i) 0 (by omega)
    (zR (s:= [0,1,2,3,4,5]) ⟨⟨rfl,rfl,rfl,rfl,rfl,rfl,rfl,rfl,rfl,rfl,rfl,tv⟩,⟨rfl,rfl,rfl,rfl,rfl,rfl,tv⟩,rfl,rfl,rfl,rfl,rfl⟩) ?_
   intro i hi
   conv=>whnf
   refine A3 (fun h6=>?_) (fun h6=>?_) <;> (repeat rw [Ac] at h6) <;> conv=>whnf
   ·have h6:i<1:=h6
    obtain rfl:i=0:=by omega
    repeat' (refine zX ?_;conv=>whnf)
    refine zA tys_ok mixed [0,1,2,3,4,5,6,7,8,9,10,11] (by kernel_rfl) ?_
    refine⟨in01,?_⟩
    refine⟨by omega,?_⟩
    conv=>whnf
    rw [hdiv,show (Z == (k:Int))=false from beq_eq_false_iff_ne.2 fun q=>he q.symm]
    exact⟨1,by omega,by omega,zR (s:= [0,1,2,3,4,5]) ⟨⟨rfl,rfl,rfl,rfl,rfl,rfl,rfl,rfl,rfl,rfl,rfl,tv⟩,⟨rfl,rfl,rfl,rfl,rfl,rfl,tv⟩,rfl,rfl,rfl,rfl,rfl⟩⟩
   ·have h6:1<=i:=h6
    conv=>whnf
    exact⟨(k+1,d1,true),⟨by show ((k+1:Nat):Int)<=g.z;omega,hd1,hz1,⟨fun q=>by have:=hpz.1 q;show Z<((k+1:Nat):Int);omega,fun q=>hpz.2 (by have:Z<((k+1:Nat):Int):=q;omega)⟩⟩,by show g.z.toNat - (k+1)<g.z.toNat - k;omega,zR (s:= [0,1,2,3,4,5]) ⟨⟨rfl,rfl,rfl,rfl,rfl,rfl,rfl,AS (by omega),tv⟩,⟨rfl,rfl,rfl,rfl,rfl,rfl,tv⟩,rfl,rfl,rfl,rfl,rfl⟩⟩
 obtain rfl:p=false:=by
  cases p with
  | false=>rfl
  | true=>exact absurd (hpz.1 rfl) (by omega)
 conv=>whnf
 rw [decide_eq_true hkz]
 conv=>whnf
 refine zV (Nat × Bool) (fun i=>([(0, .bp 0 0),(1,iA [lba]),(2,Ji [b]),(7,ze 4),(8,ze P),(9,ze S),(10, .v (.slice none 0 0)),(11,ze (k:Nat)),(12,ap A i.2),(13,aL b i.2),(14,ze (i.1:Nat))],Fk g (AO a l) 0 d1)) (fun i=>i.1<=1/\(i.2=true↔i.1=1)) (fun i=>1 - i.1) (0,false) ⟨by show 0<=1;omega,by decide⟩
  (zR (s:= [0,1,2,3,4,5]) ⟨⟨rfl,rfl,rfl,rfl,rfl,rfl,rfl,rfl,rfl,rfl,rfl,tv⟩,⟨rfl,rfl,rfl,rfl,rfl,rfl,tv⟩,rfl,rfl,rfl,rfl,rfl⟩) ?_
 rintro⟨i,q⟩ ⟨hi,hq⟩
 simp only at hi hq
 by_cases hi1:i=1
 rotate_left 1
 ·obtain rfl:i=0:=by omega
  obtain rfl:q=false:=by
   cases q with
   | false=>rfl
   | true=>exact absurd (hq.1 rfl) (by decide)
  conv=>whnf
  repeat' (refine zX ?_;conv=>whnf)
  refine zA tys_ok mixed [0,1,2,3,4,5,6,7,8,9,10,11] (by kernel_rfl) ?_
  refine⟨in01,?_⟩
  refine⟨by omega,?_⟩
  conv=>whnf
  rw [hdiv,show (Z == (k:Int))=true from beq_iff_eq.2 he.symm]
  conv=>whnf
  apply zW (131072) tys_ok mixed (.one 0 (.one 1 (.one 2 (.one 3 (.one 4 (.one 5 (.one 6 (.one 7 (.one 8 (.one 9 (.one 10 (.one 13 (.one 14 (.one 15 (.one 16 (.two 11 (.two 12 (.one 17 (.one 18 (.one 19 (.one 20 (.one 21 .fin))))) 17 (.two 12 (.one 18 (.one 19 (.one 20 (.one 21 .fin)))) 18 (.one 12 (.one 19 (.one 20 (.one 21 .fin)))))) 17 (.two 11 (.two 12 (.one 18 (.one 19 (.one 20 (.one 21 .fin)))) 18 (.one 12 (.one 19 (.one 20 (.one 21 .fin))))) 18 (.one 11 (.one 12 (.one 19 (.one 20 (.one 21 .fin)))))))))))))))))))))) (by kernel_rfl)
  conv=>whnf
  try (refine tI ?_;conv=>whnf)
  try (refine tI ?_;conv=>whnf)
  try (refine tI ?_;conv=>whnf)
  refine Ae ?_ ?_
  refine Ae ?_ ?_
  conv=>whnf
  try (refine tJ ?_;conv=>whnf)
  try (refine tK ?_;conv=>whnf)
  try (refine tJ ?_;conv=>whnf)
  try (refine tK ?_;conv=>whnf)
  rotate_left 1
  refine Ae ?_ ?_
  conv=>whnf
  try (refine tJ ?_;conv=>whnf)
  try (refine tK ?_;conv=>whnf)
  try (refine tJ ?_;conv=>whnf)
  try (refine tK ?_;conv=>whnf)
  rotate_left 1
  conv=>whnf
  try (refine tJ ?_;conv=>whnf)
  try (refine tK ?_;conv=>whnf)
  try (refine tJ ?_;conv=>whnf)
  try (refine tK ?_;conv=>whnf)
  rotate_left 1
  refine Ae ?_ ?_
  refine Ae ?_ ?_
  conv=>whnf
  try (refine tJ ?_;conv=>whnf)
  try (refine tK ?_;conv=>whnf)
  try (refine tJ ?_;conv=>whnf)
  try (refine tK ?_;conv=>whnf)
  rotate_left 1
  conv=>whnf
  try (refine tJ ?_;conv=>whnf)
  try (refine tK ?_;conv=>whnf)
  try (refine tJ ?_;conv=>whnf)
  try (refine tK ?_;conv=>whnf)
  rotate_left 1
  conv=>whnf
  try (refine tJ ?_;conv=>whnf)
  try (refine tK ?_;conv=>whnf)
  try (refine tJ ?_;conv=>whnf)
  try (refine tK ?_;conv=>whnf)
  rotate_left 1
  all_goals
   conv=>whnf
   first
   | exact⟨(1,true),⟨by show 1<=1;omega,by decide⟩,by show 1 - 1<1 - 0;omega,zD (zO (zJ 12 7 rfl rfl) (zO (zF 12 rfl (Gl (L:= [A]) rfl (by rw [hA];rfl))) (zO (zJ 13 9 rfl rfl) (zF 13 rfl (Hy (L:= [b]) rfl rfl))))) (s:= [0,1,2,3,4,5]) ⟨⟨rfl,rfl,rfl,rfl,rfl,rfl,rfl,rfl,rfl,rfl,rfl,tv⟩,⟨rfl,rfl,rfl,rfl,rfl,rfl,tv⟩,rfl,rfl,rfl,rfl,rfl⟩⟩
   | exact⟨(1,true),⟨by show 1<=1;omega,by decide⟩,by show 1 - 1<1 - 0;omega,zD (zO (zJ 12 8 rfl rfl) (zO (zF 12 rfl (Gl (L:= [A]) rfl (by rw [hA];rfl))) (zO (zJ 13 9 rfl rfl) (zF 13 rfl (Hy (L:= [b]) rfl rfl))))) (s:= [0,1,2,3,4,5]) ⟨⟨rfl,rfl,rfl,rfl,rfl,rfl,rfl,rfl,rfl,rfl,rfl,tv⟩,⟨rfl,rfl,rfl,rfl,rfl,rfl,tv⟩,rfl,rfl,rfl,rfl,rfl⟩⟩
   | exact⟨(1,true),⟨by show 1<=1;omega,by decide⟩,by show 1 - 1<1 - 0;omega,zD (zO (zJ 12 9 rfl rfl) (zO (zF 12 rfl (Gl (L:= [A]) rfl (by rw [hA];rfl))) (zO (zJ 13 7 rfl rfl) (zF 13 rfl (Hy (L:= [b]) rfl rfl))))) (s:= [0,1,2,3,4,5]) ⟨⟨rfl,rfl,rfl,rfl,rfl,rfl,rfl,rfl,rfl,rfl,rfl,tv⟩,⟨rfl,rfl,rfl,rfl,rfl,rfl,tv⟩,rfl,rfl,rfl,rfl,rfl⟩⟩
   | exact⟨(1,true),⟨by show 1<=1;omega,by decide⟩,by show 1 - 1<1 - 0;omega,zD (zO (zJ 12 9 rfl rfl) (zO (zF 12 rfl (Gl (L:= [A]) rfl (by rw [hA];rfl))) (zO (zJ 13 8 rfl rfl) (zF 13 rfl (Hy (L:= [b]) rfl rfl))))) (s:= [0,1,2,3,4,5]) ⟨⟨rfl,rfl,rfl,rfl,rfl,rfl,rfl,rfl,rfl,rfl,rfl,tv⟩,⟨rfl,rfl,rfl,rfl,rfl,rfl,tv⟩,rfl,rfl,rfl,rfl,rfl⟩⟩
   | exact⟨(1,true),⟨by show 1<=1;omega,by decide⟩,by show 1 - 1<1 - 0;omega,zD (zO (zJ 12 7 rfl rfl) (zO (zF 12 rfl (Gl (L:= [A]) rfl (by rw [hA];rfl))) (zO (zJ 13 8 rfl rfl) (zF 13 rfl (Hy (L:= [b]) rfl rfl))))) (s:= [0,1,2,3,4,5]) ⟨⟨rfl,rfl,rfl,rfl,rfl,rfl,rfl,rfl,rfl,rfl,rfl,tv⟩,⟨rfl,rfl,rfl,rfl,rfl,rfl,tv⟩,rfl,rfl,rfl,rfl,rfl⟩⟩
   | exact⟨(1,true),⟨by show 1<=1;omega,by decide⟩,by show 1 - 1<1 - 0;omega,zD (zO (zJ 12 8 rfl rfl) (zO (zF 12 rfl (Gl (L:= [A]) rfl (by rw [hA];rfl))) (zO (zJ 13 7 rfl rfl) (zF 13 rfl (Hy (L:= [b]) rfl rfl))))) (s:= [0,1,2,3,4,5]) ⟨⟨rfl,rfl,rfl,rfl,rfl,rfl,rfl,rfl,rfl,rfl,rfl,tv⟩,⟨rfl,rfl,rfl,rfl,rfl,rfl,tv⟩,rfl,rfl,rfl,rfl,rfl⟩⟩
   | fail
 subst hi1
 obtain rfl:q=true:=hq.2 rfl
 have hgat:=QQ g (AO a l) d1 F (k:Nat) hg hlb ha hd1 hF ⟨by omega,hkz⟩
 conv=>whnf
 repeat' (refine zX ?_;conv=>whnf)
 rw [he] at hgat |-
 cases hT:E6 g (AO a l) F Z with
 | none=>
  rw [hT] at hgat
  refine zZ [0,1,2,3,4,5] hgat rfl rfl rfl rfl (by decide) (FI rfl) ⟨rfl,rfl,rfl,rfl,rfl,rfl,tv⟩ ?_
  rintro _ _ ⟨rfl,d2,hd2,rfl⟩
  exact⟨ze 14,ze 14,Fk g (AO a l) 0 d2,fun _ _ h=>h,zR (s:= [0,1,2,3,4,5]) ⟨⟨rfl,tv⟩,⟨rfl,rfl,rfl,rfl,rfl,rfl,tv⟩,rfl,rfl,rfl,rfl,rfl⟩, .inr ⟨14,by decide,rfl, .inr (by rw [<-hZ,hT]),d2,rfl⟩⟩
 | some t=>
  rw [hT] at hgat
  refine zZ [0,1,2,3,4,5] hgat rfl rfl rfl rfl (by decide) (FI rfl) ⟨rfl,rfl,rfl,rfl,rfl,rfl,tv⟩ ?_
  rintro _ _ ⟨rfl,d2,hd2,rfl⟩
  have htok:=Jt hT
  have hL2:L=C4 Z (BJ g t (Dq g (AO a l) F t Z) [A] [b] S) (EH g t (Dq g (AO a l) F t Z) [A] [b] g.d.toNat) [A] [b]:=by
   rw [hL,G2,<-hZ,<-hA,hT]
  have h01:∀ x∈ [b],x.length=8:=fun x hx=>by rw [AE] at hx;rw [hx];exact hb
  have hwr:=Pp g t (Dq g (AO a l) F t Z) [A] [b] S hg htok (by simp [Dq,Lc];omega) (hadlen t) rfl h01 (by show 1<=1000;omega)
  have him:=QO g Z (BJ g t (Dq g (AO a l) F t Z) [A] [b] S) (EH g t (Dq g (AO a l) F t Z) [A] [b] g.d.toNat) A b hg (Gz hg htok (by omega)) (Gg (hadlen t) h01 (show [A].length<= [b].length from Ah 1) _) hb
  conv=>whnf
  apply zW (0) tys_ok mixed (.one 0 (.one 1 (.one 2 (.one 3 (.one 4 (.one 5 (.one 6 (.one 7 (.one 8 (.one 9 (.one 10 (.one 11 (.one 12 (.one 13 (.one 14 .fin))))))))))))))) (by kernel_rfl)
  conv=>whnf
  refine z_ hwr ?_
  conv=>whnf
  try (refine tS ?_;conv=>whnf)
  all_goals
   conv=>whnf
   refine z_ him ?_
   conv=>whnf
   refine Ae (by rw [FJ];show 1+2<=1000000000;omega) ?_
   conv=>whnf
   exact⟨(k+1,d2,true),⟨by show ((k+1:Nat):Int)<=g.z;omega,hd2,fun _=>rfl,⟨fun _=>by show Z<((k+1:Nat):Int);omega,fun _=>rfl⟩⟩,by show g.z.toNat - (k+1)<g.z.toNat - k;omega,zD (zO (zJ 10 7 (congrArg (AV.ow 7) (by rw [Ab,DB])) rfl) (zF 10 rfl (Xv hL2 (by rw [Ab,DB])))) (s:= [0,1,2,3,4,5]) ⟨⟨rfl,rfl,rfl,rfl,rfl,rfl,rfl,by rw [<-he];exact AS (by omega),tv⟩,⟨rfl,rfl,rfl,rfl,rfl,rfl,tv⟩,rfl,rfl,rfl,rfl,rfl⟩⟩
def flatY:AV->Bool
 | .v _=>true
 | .top=>true
 | _=>false
def flatP:AV->Bool
 | .v _=>true
 | .ow _ _=>true
 | .sl _ 0 _=>true
 | _=>false
def flatQ:AV->Bool
 | .v _=>true
 | .ow _ _=>true
 | .ag l=>l.all flatP
 | _=>false
def flatS:List AB->Bool
 | []=>true
 | .row _ _ es::r=>es.flatten.all flatY&&flatS r
 | _::_=>false
theorem Qb {c c':Ctx}:∀ {l:List AV} {us:List Value},l.all flatY=true->RdL l c us->RdL l c' us
 | [],us,_,h=>by simpa only [RdL] using h
 | x::l,us,hf,h=>by
  rw [Bd,Ad] at hf
  simp only [RdL] at h |-
  obtain⟨u,vs,rfl,h1,h2⟩:=h
  refine⟨u,vs,rfl,?_,Qb hf.2 h2⟩
  cases x <;> simp [flatY] at hf
  ·simp only [Rd]
  ·simpa only [Rd] using h1
theorem Mx {c c':Ctx} (hr:c'.rho=c.rho) (hl:c'.len=c.len) (hd:c'.dom=c.dom) {x:AV} (hx:flatP x=true) {u:Value} (h:Rd x c u):Rd x c' u:=by
 cases x with
 | v y=>simpa only [Rd] using h
 | ow k n=>
  simp only [Rd] at h |-
  rw [hr,hl,hd]
  exact h
 | sl sz n get=>
  cases n with
  | zero=>
   simp only [Rd] at h |-
   obtain⟨a,k,h1,h2,h3, -⟩:=h
   exact⟨a,k,h1,h2,h3, .inl trivial⟩
  | succ n=>cases hx
 | _=>simp [flatP] at hx
theorem Wt {c c':Ctx} (hr:c'.rho=c.rho) (hl:c'.len=c.len) (hd:c'.dom=c.dom) {x:AV} (hx:flatQ x=true) {u:Value} (h:Rd x c u):Rd x c' u:=by
 cases x with
 | v y=>exact Mx hr hl hd rfl h
 | ow k n=>exact Mx hr hl hd rfl h
 | ag l=>
  simp only [Rd] at h |-
  obtain⟨xs,rfl,hxs⟩:=h
  refine⟨xs,rfl,?_⟩
  simp only [flatQ] at hx
  induction l generalizing xs with
  | nil=>simpa only [RdL] using hxs
  | cons y l ih=>
   rw [Bd,Ad] at hx
   simp only [RdL] at hxs |-
   obtain⟨u,us,rfl,h1,h2⟩:=hxs
   exact⟨u,us,rfl,Mx hr hl hd hx.1 h1,ih hx.2 us h2⟩
 | _=>simp [flatQ] at hx
theorem flatS_mem:∀ {R:List AB} {y:AB},flatS R=true->y∈R->∃ t sz es,y = .row t sz es/\es.flatten.all flatY=true
 | .row t sz es::r,y,h,hy=>by
  rw [flatS,Ad] at h
  rcases AQ.1 hy with rfl | hy
  ·exact⟨t,sz,es,rfl,h.1⟩
  ·exact flatS_mem h.2 hy
theorem ACalls.fnO {P:Program} {q:Bool} {f:FuncId} {args:List AV} {K:AV->List AB->Prop} (h:ACalls P q f args [] K) (hK:∀ r R,K r R->∀ y∈R,∃ t sz es,y = .row t sz es):FnO P f args K:=by
 refine⟨h.go,fun c0 us hg hd hM hr=>?_⟩
 let ce:Ctx:={ c0 with base:=0 }
 have hce:Ext c0 ce:=⟨rfl,rfl,rfl,Ah _,fun _ _ h=>⟨h,rfl⟩,Ah _,fun _ _=>Ah _,fun _ _ _=>rfl,fun _ _ _ h=>h⟩
 have hHS:HS (Fl.all c0.w hg) c0.M ce []:=⟨zj _ hg,rfl,hd,fun _ _=>Iff.rfl,hM,by simp,by simp,by simp⟩
 refine(h.calls (Fl.all c0.w hg) c0.M ce us hHS (RdL.ext _ hce hr)).mono ?_
 rintro e w' ⟨v,c',r,H',rfl,q1,q2,q3,q4,q5, -⟩
 exact⟨v,r,c',H',rfl,q2,q1,q3,q5,hK r H' q2⟩
theorem FnO.lendC {P:Program} {f:FuncId} {args args':List AV} {H:List AB} {K:AV->List AB->Prop} {q:Bool} {k:AV->List AB->Prop} (h:FnO P f args' K) (hs:sealA args H fun a _=>a=args') (hk:∀ r R,K r R->∃ R',ConvH R R'/\(flatQ r=true/\flatS R'=true)/\appK H R' 0 fun d H=>Dz (r.shift d) fun r=>k r H):ACalls P q f args H k:=by
 refine⟨h.go,fun w0 M0 c us hs0 hr=>?_⟩
 obtain⟨l',H',c',rfl,h2,h3,h4,h5,_⟩:=sealA_sound hs0 hr hs
 have hglob:globOk c'.closed.w:=h3.glob
 have hc:=h.calls c'.closed us hglob rfl h3.lt h5
 have ew:c'.closed.w=c.w:=h2
 suffices hh:Calls P f us.toArray c'.closed.w fun e w'=>∃ v c1 r H1,e = .returned v/\c1.w=w'/\k r H1/\HS w0 M0 c1 H1/\Ext c c1/\Rd r c1 v/\(q=true->Old c.w w') by
  rw [ew] at hh
  exact hh
 refine hc.mono ?_
 rintro e w' ⟨v,r,c1,R1,rfl,q1,rfl,q21,q31, -⟩
 obtain⟨R,hconv,⟨f1,f2⟩,hkk⟩:=hk r R1 q1
 obtain⟨c2,ew2,q2,x2⟩:=hconv _ _ _ q21
 have q3:Rd r c2 v:=Rd.ext _ x2 q31
 have q4:∀ y∈R,∃ t sz es,y = .row t sz es:=fun y hy=>by
  obtain⟨t,sz,es,e, -⟩:=flatS_mem f2 hy
  exact⟨t,sz,es,e⟩
 -- the same memory;what the caller holds is not read
 obtain⟨c3,e3⟩:∃ c3:Ctx,c3={ c2 with M:=fun b=>c2.M b\/c.M b }:=⟨_,rfl⟩
 have hsub:∀ b,b<c.w.heap.size->c'.M b->c.M b:=fun b hb hm=>by
  by_cases hx:c.M b
  ·exact hx
  ·exact absurd hm (h4.keep b hb hx).1
 have hlow:=q2.low
 have q2':HS (Fl.all c.w hs0.glob) c.M c3 R:=by
  subst e3
  refine⟨⟨?_,?_,?_,?_,?_⟩,q2.base,q2.dom,fun b hb=>?_,fun b hb=>?_,fun i y hi=>?_,fun i y g hi hl ho=>?_,q2.dis⟩
  ·have:=hlow.os;rw [show (Fl.all c'.closed.w hglob).w=c.w from ew] at this;exact this
  ·have:=hlow.tape;rw [show (Fl.all c'.closed.w hglob).w=c.w from ew] at this;exact this
  ·have:=hlow.output;rw [show (Fl.all c'.closed.w hglob).w=c.w from ew] at this;exact this
  ·have:=hlow.size;rw [show (Fl.all c'.closed.w hglob).w=c.w from ew] at this;exact this
  ·intro b hb
   have:=hlow.block b (by show b<c'.closed.w.heap.size;rw [ew];exact hb)
   rw [show (Fl.all c'.closed.w hglob).w=c.w from ew] at this
   exact this
  ·have hb':b<c.w.heap.size:=hb
   have:=q2.foreign b (by show b<c'.closed.w.heap.size;rw [ew];exact hb')
   exact⟨fun hx=>hx.elim (fun hx=>hsub b hb' (this.1 hx)) (fun hx=>hx),fun hx=> .inr hx⟩
  ·have hsz:c.w.heap.size<=c2.w.heap.size:=by
    have:=hlow.size;rw [show (Fl.all c'.closed.w hglob).w=c.w from ew] at this;exact this
   rcases hb with hb | hb
   ·exact q2.lt b hb
   ·exact At (hs0.lt b hb) hsz
  ·obtain⟨t,sz,es,rfl,hfl⟩:=flatS_mem f2 (DA hi)
   obtain⟨a1,a2,a3,xs,a4,a5,a6⟩:=q2.blk i _ hi
   exact⟨a1,a2,a3,xs,a4,Qb hfl a5,a6⟩
  ·have:=q2.own i y g hi hl ho
   refine⟨.inl this.1,fun hx=>this.2 ?_⟩
   show g<c'.closed.w.heap.size
   rw [ew]
   exact hx
 have q3':Rd r c3 v:=Wt (by rw [e3]) (by rw [e3]) (by rw [e3]) f1 q3
 have q5:c3.w=c2.w:=by rw [e3]
 obtain⟨p1,p2⟩:=hs0.beside (c':=c3) q2' q4
 have h1:=BP (appK_iff hkk)
 rw [Az,<-hs0.dom] at h1
 exact⟨v,c.beside c3,_,_,rfl,by show c3.w=_;rw [q5,ew2],h1,p1,p2,Rd.shift r q3',fun _=>by have:=q2'.low.below.old;rw [q5,ew2] at this;exact this⟩
theorem NL (n:Nat) (l:List AV) (h:l.all flatY=true):(List.replicate n l).flatten.all flatY=true:=by
 induction n with
 | zero=>rfl
 | succ n ih=>rw [Dg,AK,Df,h,ih];rfl
theorem SubL.tops:∀ (l:List AV),SubL l (List.replicate l.length .top)
 | []=>trivial
 | x::l=>⟨fun _ _ _=>by simp [Rd],SubL.tops l⟩
theorem ACalls.lendBox2 {P:Program} {q:Bool} {f:FuncId} {x:AV} {H:List AB} {K:AV->List AB->Prop} (j k:Nat) {t t':TypeId} {sz':Nat} {ar ar2 cs cs2:List AV} {es':List (List AV)} (hj:H[j]? = some (.box t cs)) (hk:H[k]? = some (.row t' sz' es'))
  (he:cs.map (AV.slIn k es'.length (.sl sz' es'.length fun i=>es'.getD i []))=cs2) (ha:ar.map (AV.slIn k es'.length (.sl sz' es'.length fun i=>es'.getD i []))=ar2) (hc:ACalls P q f [x, .ag ar2] ((H.set k .dead).set j (.box t cs2)) K):ACalls P q f [x, .ag ar] H K:=by
 refine⟨hc.go,fun w0 M0 c us hs hr=>?_⟩
 subst he
 subst ha
 have hjk:j≠k:=by rintro rfl;rw [hj] at hk;cases hk
 obtain⟨c1,e1,s1,x1,r1⟩:=hs.freeze hk
 have hj1:(H.set k .dead)[j]? = some (.box t cs):=by rw [A7 (Ne.symm hjk)];exact hj
 have h8:∀ (l:List AV) (us:List Value),RdL l c us->RdL (l.map (AV.slIn k es'.length (.sl sz' es'.length fun i=>es'.getD i []))) c1 us:=by
  intro l
  induction l with
  | nil=>intro us h;simp only [RdL] at h;subst h;simp [RdL]
  | cons x l ih=>
   intro us h
   simp only [RdL] at h
   obtain⟨u,vs,rfl,a1,a2⟩:=h
   simp only [A0,RdL]
   refine⟨u,vs,rfl,?_,ih vs a2⟩
   unfold AV.slIn
   split
   ·rename_i i n
    split
    ·rename_i hik
     subst hik
     split
     ·grind
     ·simp [Rd]
    ·exact Rd.ext _ x1 a1
   ·exact Rd.ext _ x1 a1
 have s2:HS w0 M0 c1 ((H.set k .dead).set j (.box t (cs.map (AV.slIn k es'.length (.sl sz' es'.length fun i=>es'.getD i []))))):=by
  refine s1.recell hj1 rfl ?_
  rintro⟨g,xs,h1,h2,_,h4⟩
  obtain⟨g0,ys,q1,q2,q3,_⟩:=hs.blk j _ hj
  have hg:=x1.box j _ (hs.klt hj) q1
  rw [h1] at hg
  injection hg with hg
  injection hg with hg
  injection hg with hg
  subst hg
  rw [e1,q2] at h2
  injection h2 with h2
  have hxy:ys.toArray=xs.toArray:=by injection h2
  have hxy:ys=xs:=by simpa using hxy
  subst hxy
  exact⟨g,ys,h1,by rw [e1];exact q2,h8 _ _ q3,h4⟩
 have hr2:RdL [x, .ag (ar.map (AV.slIn k es'.length (.sl sz' es'.length fun i=>es'.getD i [])))] c1 us:=by
  simp only [RdL] at hr
  obtain⟨u1,_,rfl,p1,u2,_,rfl,p2,rfl⟩:=hr
  simp only [Rd] at p2
  obtain⟨zs,rfl,p3⟩:=p2
  simp only [RdL]
  exact⟨u1,_,rfl,Rd.ext _ x1 p1,_,_,rfl,by simp only [Rd];exact⟨zs,rfl,h8 _ _ p3⟩,rfl⟩
 have:=hc.calls w0 M0 c1 us s2 hr2
 rw [e1] at this
 refine this.mono ?_
 rintro e w' ⟨v,c',r,H2,rfl,rfl,q1,q2,q3,q4,q5⟩
 exact⟨v,c',r,H2,rfl,rfl,q1,q2,x1.trans q3,q4,q5⟩
theorem Ei {a s:Int} {p:List UInt8} (h:p.length<=96):(Bk a s p).length<=200:=by rw [Ea];omega
theorem Vv (g:Geo) (s:Stt) (d:Dk) (F:Int->List UInt8) (l:List Wr) (z w stamp:Int) (b:List UInt8) (hg:Bt g=true) (ha:Bg g s.a=true) (hz:0<=z/\z<g.z) (hw : -1<=w/\w<g.d) (h:Gw (Av g) d F l) (hl:l.length<2000) (hst:0<=stamp/\stamp<=4294967295) (hb:b.length<=96) :
  ACalls Tryz.prog false 78 [.bp 0 0, .v (.int .i64 z), .v (.int .i64 w), .v (.int .i64 stamp),bA b] (Fk g s 0 d) fun r H=>r = .v (.bool true)/\∃ d',Gw (Av g) d' F (l ++ [⟨Bw g s.a z w,Bk (Bw g s.a z w) stamp b⟩])/\H=Fk g s 0 d':=by
 have hA:=LR g s.a z w hg ha hz hw
 obtain⟨sl,e1,e2,e3⟩:=D_ hg ha hz hw
 obtain⟨q1,q2⟩:=E_ hg hz ⟨e2,e3⟩
 obtain⟨g1,g2,g3,g4,g5⟩:=As.1 hg
 have hcb:=Eu hg
 obtain⟨X,hX⟩:∃ X,X=Bw g s.a z w:=⟨_,rfl⟩
 rw [<-hX] at hA e1 |-
 have hc:=Fw X stamp b ⟨by omega,by omega,hst.1,hst.2,hb⟩
 have hwr:=Z8 g s (Av g) d F l X (Bk X stamp b) h hl (by omega) (Ei hb)
 refine zS tys_ok Tryz.func78 rfl rfl (Ag rfl) ?_
 conv=>whnf
 apply zQ tys_ok mixed (.one 0 (.one 1 (.one 2 (.one 3 (.one 4 (.one 5 (.one 6 (.one 7 (.one 8 (.one 9 (.one 10 (.one 11 (.one 12 .fin))))))))))))) [11,12,13,14,15,16,17,18,19,20,21,22,23] (by kernel_rfl)
 ·conv=>whnf
  (refine zl (args':= [.ag (AY g), .ag (MP s.a (.sl 3 s.a.homes.length fun i=>(s.a.homes.map DG).getD i [])), .v (.int .i64 z), .v (.int .i64 w)]) (hA.subA ⟨ri,Ba ⟨ri,ri,ri,ri,ri,ri,Bf (f:=DG) s.a.homes rfl rfl,tv⟩,ri,ri,tv⟩) ⟨(Ab _).symm,rfl⟩ ?_;rintro _ rfl;refine⟨rfl,?_⟩)
  exact⟨rfl,rfl⟩
 conv=>whnf
 refine z7 1 ?_
 conv=>whnf
 refine z_ hc ?_
 conv=>whnf
 refine zZ [0,1,2,3,4,5] hwr rfl rfl rfl rfl (by decide) (FI rfl) ⟨rfl,rfl,rfl,rfl,rfl,rfl,tv⟩ ?_
 rintro _ _ ⟨rfl,d2,hd2,rfl⟩
 exact⟨.v (.bool true), .v (.bool true),Fk g s 0 d2,fun _ _ h=>h,zR (s:= [0,1,2,3,4,5]) ⟨⟨rfl,tv⟩,⟨rfl,rfl,rfl,rfl,rfl,rfl,tv⟩,rfl,rfl,rfl,rfl,rfl⟩,rfl,d2,hd2,rfl⟩
theorem Gw.puts {n:Int} {d:Dk} {F:Int->List UInt8} {W l:List Wr} (h:Gw n d F W) (hl:∀ w∈l,(0<=w.addr/\w.addr<n)/\w.bytes.length<=200) (hn:W.length+l.length<=2000):∀ k:Nat,k<=l.length->(d.writes (l.take k)).2.1=k/\(d.writes (l.take k)).2.2=false/\Gw n (d.writes (l.take k)).1 F (W ++ l.take k)
 | 0,_=>⟨rfl,rfl,by rw [List.take_zero,AM];exact h⟩
 | k+1,hk=>by
  obtain⟨q1,q2,q3⟩:=Gw.puts h hl hn k (by omega)
  have hx:=Jl (d:=d) (l:=l) (k:=k) (by omega) q2
  have hm:=hl _ (A9 (d:=(⟨0, []⟩:Wr)) (show k<l.length by omega))
  obtain⟨e0,hw⟩:=q3.write (by rw [Ai,Au];omega) hm.1.1 hm.1.2 hm.2
  rw [hx,e0]
  refine⟨by simp only [q1];rfl,rfl,?_⟩
  have e:l.take (k+1)=l.take k ++ [l.getD k ⟨0, []⟩]:=by
   rw [Bj,Af (by omega),Aa,Af (by omega)]
   rfl
  rw [e,<-A5]
  exact hw
theorem Gd.putAll {n:Int} {d:Dk} {F:Int->List UInt8} {l:List Wr} (h:Gd n d F) (hl:∀ w∈l,(0<=w.addr/\w.addr<n)/\w.bytes.length<=200) (hn:l.length<=2000):(d.writes l).2.1=l.length/\(d.putAll l).2.1=l.length/\(d.putAll l).2.2=false/\Gd n (d.putAll l).1 (HM F l):=by
 obtain⟨q1,q2,q3⟩:=Gw.puts h hl (by simpa using hn) l.length (Ah _)
 rw [Ar] at q1 q2 q3
 have e:=DP q2
 rw [if_neg (by rw [q3.left];decide)] at e
 rw [e]
 exact⟨q1,q1,rfl,by simpa using q3.flush⟩
theorem FN {g:Geo} {a:An} (hg:Bt g=true) (ha:Bg g a=true):∀ w∈AD g a,(0<=w.addr/\w.addr<Av g)/\w.bytes.length<=200:=fun w hw=>by
 obtain⟨g1,g2,g3,g4,g5⟩:=As.1 hg
 have hcb:=Et hg
 obtain⟨i,hi,rfl⟩:=JU hw
 exact⟨⟨by show 0<=((i:Nat):Int);omega,by show ((i:Nat):Int)<Av g;omega⟩,JV hg ha _⟩
theorem To (g:Geo) (s:Stt) (d:Dk) (a:An) (F:Int->List UInt8) (hg:Bt g=true) (ha:Bg g a=true) (h:Gd (Av g) d F) :
  ACalls Tryz.prog false 80 [.bp 0 0, .ag (Ed a)] (J0 g s 0 d) fun r H=>r = .v (.int .i64 (g.an.toNat:Nat))/\∃ d',Gd (Av g) d' (HM F (AD g a))/\H=Nq g s 0 d':=by
 have hin:=FN hg ha
 have hlen:=h.len
 have hr:=KL g s d a hg ha h.ok fun w hw=>⟨by have:=(hin w hw).1;omega,(hin w hw).2⟩
 obtain⟨q1,q2,q3,q4⟩:=h.putAll hin (by rw [CV];have:=(As.1 hg).2.2.2.2;omega)
 rw [q1,q3,CV] at hr
 exact hr.mono fun r H ⟨e1,e2⟩=>⟨e1,_,q4,e2⟩
@[reducible] def rwZ (g:Geo) (s:Stt) (d:Dk):List AB:= [.box 95 (YM g (.bp 1 0) s 0), .box 92 (HK (.ow 2 d.cells.length) (.ow 6 d.cache.length) d.reqs d.left), .row 84 3 (d.cells.map BE), .dead, .dead, .dead, .row 131 2 (d.cache.map E5)]
theorem FV {k:Nat} {m:Nat} {x:AV} {n:Nat} (h:n=m):AV.slIn k m x (.ow k n)=x:=by
 subst h
 simp [AV.slIn]
theorem RV {k j:Nat} {m n:Nat} {x:AV} (h:(j == k)=false):AV.slIn k m x (.ow j n) = .ow j n:=by
 have:j≠k:=by simpa using h
 simp [AV.slIn,this]
theorem Tn (g:Geo) (s:Stt) (d:Dk) (F:Int->List UInt8) (hg:Bt g=true) (ha:Bg g s.a=true) (h:Gd (Av g) d F) :
  ACalls Tryz.prog false 80 [.bp 0 0, .ag (MP s.a (.ow 4 s.a.homes.length))] (Fk g s 0 d) fun r H=>r = .v (.int .i64 (g.an.toNat:Nat))/\∃ d',Gd (Av g) d' (HM F (AD g s.a))/\H=rwZ g s d':=by
 have hr:=To g s d s.a F hg ha h
 obtain⟨T,hT⟩:∃ T:AV,T = .sl 4 (s.txns.map DH).length fun i=>(s.txns.map DH).getD i []:=⟨_,rfl⟩
 obtain⟨M,hM⟩:∃ M:AV,M = .sl 3 (s.a.homes.map DG).length fun i=>(s.a.homes.map DG).getD i []:=⟨_,rfl⟩
 have t1:∀ (c:Ctx) (v:Value),Rd T c v->Rd (Di s.txns) c v:=by rw [hT];exact Bf (f:=DH) s.txns (Ab _) rfl
 have m1:∀ (c:Ctx) (v:Value),Rd M c v->Rd (I8 s.a.homes) c v:=by rw [hM];exact Bf (f:=DG) s.a.homes (Ab _) rfl
 refine zh (zt (H:=Fk g s 0 d) 0 5 (cs2:=YI g (.bp 1 0) (.ow 4 s.a.homes.length) T s 0) rfl rfl ?_) ?_
 ·rw [<-hT]
  simp only [YI,A0,Bp,FV (Ab _).symm]
  rfl
 refine ACalls.lendBox2 (cs2:=YI g (.bp 1 0) M T s 0) (ar2:=MP s.a M) 0 4 rfl rfl ?_ ?_ ?_
 ·rw [<-hM]
  subst hT
  simp only [YI,A0,Bp,FV (Ab _).symm]
  rfl
 ·rw [<-hM]
  simp only [MP,A0,Bp,FV (Ab _).symm]
  rfl
 refine zh (zq (cs':=YM g (.bp 1 0) s 0) 0 rfl ⟨ri,ri,ri,ri,ri,ri,ri,ri,ri,ri,ri,ri,m1,t1,ri,ri,ri,ri,ri,ri,ri,tv⟩) ?_
 refine zY [.bp 0 0, .ag (Ed s.a)] ⟨ri,Ba ⟨ri,ri,ri,ri,ri,ri,m1,tv⟩,tv⟩ ?_
 refine zZ [0,1,2,3] hr rfl rfl rfl rfl (by decide) (Er rfl) ⟨rfl,rfl,rfl,rfl,tv⟩ ?_
 rintro _ _ ⟨rfl,d',hd',rfl⟩
 exact⟨rfl,d',hd',rfl⟩
theorem EI {g:Geo} {a:An} {seq:Int}:∀ (l m:List Img),BL g a seq (l ++ m)=BL g a seq l ++ BL g a seq m
 | [],m=>rfl
 | x::l,m=>by
  show B_ g a seq x ++ BL g a seq (l ++ m)=(B_ g a seq x ++ BL g a seq l) ++ BL g a seq m
  rw [EI l m,A5]
theorem GT {g:Geo} {a:An} {seq:Int}:∀ (l:List Img),(BL g a seq l).length<=2*l.length
 | []=>Ah _
 | x::l=>by
  have:=GT (g:=g) (a:=a) (seq:=seq) l
  have h2:(B_ g a seq x).length<=2:=by unfold B_;split <;> simp
  show (B_ g a seq x ++ BL g a seq l).length<=2*(x::l).length
  rw [Ai,Al]
  omega
theorem KC (a:An) (seq:Int) (l:List Img) (x:Img):BI a seq (l ++ [x])=Cq (BI a seq l) seq x:=by
 unfold BI
 rw [CB]
 rfl
theorem ZI {m:Nat} (h:Nat.ble 7 m=true):∀ z∈ [0,1,2,6,4,5],z<m:=fun z hz=>by
 have:=Ag h
 simp at hz
 omega
theorem Pd (x:Tx) (r:List Tx) (c:Ctx) (v:Value) (h:Rd (.sl 4 ((((x::r).length:Nat):Int).toNat - Int.toNat 1) fun i=>DH ((x::r).getD (i+Int.toNat 1) ⟨0,0,0, []⟩)) c v):Rd (Di r) c v:=
 zE (by simp) (fun i _=>by show DH ((x::r).getD (i+1) _)=_;simp) h
def hmT:List AV:= [.top, .top, .top]
def txT:List AV:= [.top, .top, .top, .top]
theorem SH (s:Stt):∀ (r:AV) (R:List AB),(r = .ag (stX s (.ow 0 s.a.homes.length) (.ow 1 s.txns.length))/\R=[.row 53 3 (s.a.homes.map DG), .row 45 4 (s.txns.map DH)])->ConvH R [.row 53 3 (List.replicate s.a.homes.length hmT), .row 45 4 (List.replicate s.txns.length txT)]:=by
 rintro _ _ ⟨-,rfl⟩
 refine zr (zB (k:=0) (es':=List.replicate s.a.homes.length hmT) rfl (by simp) fun i=>?_) (zB (k:=1) (es':=List.replicate s.txns.length txT) rfl (by simp) fun i=>?_)
 ·by_cases hi:i<s.a.homes.length
  ·have e1:(s.a.homes.map DG).getD i []=DG (s.a.homes.getD i ⟨[],0,0⟩):=Bn hi
   have e2:(List.replicate s.a.homes.length hmT).getD i []=hmT:=by simp [hi]
   rw [e1,e2]
   exact SubL.tops (DG _)
  ·rw [Aa,AJ (by simpa using hi),Aa,AJ (by simpa using hi)]
   trivial
 ·by_cases hi:i<s.txns.length
  ·have e1:(s.txns.map DH).getD i []=DH (s.txns.getD i ⟨0,0,0, []⟩):=Bn hi
   have e2:(List.replicate s.txns.length txT).getD i []=txT:=by simp [hi]
   rw [e1,e2]
   exact SubL.tops (DH _)
  ·rw [Aa,AJ (by simpa using hi),Aa,AJ (by simpa using hi)]
   trivial
theorem Ra (g:Geo) (a:An) (d:Dk) :
  ACalls Tryz.prog false 32 [.bp 0 0] (Fk g (AO a []) 0 d) fun r H=>r = .tp [.v (.int .i64 0), .v (.int .i64 0)]/\H=Fk g (AO a []) 0 d:=by
 refine zS tys_ok Tryz.func32 rfl rfl (Ag rfl) ?_
 exact⟨.tp [ze 0,ze 0], .tp [ze 0,ze 0],Fk g (AO a []) 0 d,fun _ _ h=>h,zR (s:= [0,1,2,3,4,5]) ⟨⟨rfl,tv⟩,⟨rfl,rfl,rfl,rfl,rfl,rfl,tv⟩,rfl,rfl,rfl,rfl,rfl⟩,rfl,rfl⟩
theorem Tk (g:Geo) (a:An) (x:Tx) (r:List Tx) (d:Dk) (F:Int->List UInt8) (K:Int) (hg:Bt g=true) (hv:Vol g K d (AO a (x::r))) (hK:K<=4294967294) (h:Gd (Av g) d F) :
  ACalls Tryz.prog false 32 [.bp 0 0] (Fk g (AO a (x::r)) 0 d) fun v H=>v = .tp [.v (.int .i64 (x.images.length:Nat)), .v (.int .i64 0)]/\∃ d',Gd (Av g) d' (EL g a x F)/\H=rwZ g (AO (B8 g a x) r) d':=by
 obtain⟨g1,g2,g3,g4,g5⟩:=As.1 hg
 have hsm:=hv.sm hg
 have ha:Bg g a=true:=hv.an
 have hring:C5 g (x::r) a.seq a.pos g.sl=true:=hv.ring
 obtain⟨a1,a2,a3,a4⟩:=EE ha
 have hseq:a.seq+(x::r).length<=K:=hv.seq
 have hgen:a.gen<=K:=hv.gen
 obtain⟨p1,p2,p3,p4⟩:=DU hring x (by simp)
 have hr0:=hring
 simp only [C5,Ad,decide_eq_true_eq] at hr0
 obtain⟨⟨r1,r2,r3,r4,r5,r6,r7⟩,r8⟩:=hr0
 have htw:=(IB (AO a (x::r)) hsm).fnO fun q R hq y hy=>by
  rw [hq.2] at hy
  simp only [AQ,Do,or_false] at hy
  rcases hy with rfl | rfl
  ·exact⟨_,_,_,rfl⟩
  ·exact⟨_,_,_,rfl⟩
 have htt:=SH (AO a (x::r))
 have ssub:SubL [.ag (stX (AO a (x::r)) (.sl 3 a.homes.length fun i=>(a.homes.map DG).getD i []) (.sl 4 (x::r).length fun i=>((x::r).map DH).getD i []))] [.ag (Fi (AO a (x::r)))]:=⟨Ba ⟨ri,ri,ri,ri,ri,ri,Bf (f:=DG) a.homes rfl rfl,Bf (f:=DH) (x::r) rfl rfl,ri,ri,ri,ri,ri,ri,tv⟩,tv⟩
 have e0:(((x::r).length:Int) == 0)=false:=by rw [beq_eq_false_iff_ne,Al];omega
 refine zS tys_ok Tryz.func32 rfl rfl (Ag rfl) ?_
 conv=>whnf
 rw [show (((AO a (x::r)).txns.length:Int) == 0)=false from e0]
 conv=>whnf
 rw [show decide ((AO a (x::r)).a.gen>=4294967295)=false from decide_eq_false (by show ¬a.gen>=4294967295;omega)]
 conv=>whnf
 rw [show decide ((AO a (x::r)).a.seq>=4294967295)=false from decide_eq_false (by show ¬a.seq>=4294967295;rw [Al] at hseq;omega)]
 conv=>whnf
 refine FnO.lendC (htw.subA ssub) ⟨(Ab _).symm,(Ab _).symm,rfl⟩ ?_
 intro q R hq
 refine⟨_,htt q R hq,?_,?_⟩
 ·rw [hq.1]
  exact⟨rfl,by rw [flatS,flatS,flatS,NL _ _ rfl,NL _ _ rfl];rfl⟩
 rw [hq.1]
 conv=>whnf
 refine Ae ⟨by omega,by show (0:Int)<((x::r).length:Nat);rw [Al];omega⟩ ?_
 conv=>whnf
 refine Ae ⟨rfl,(Ab _).symm,by show 0<(x::r).length;rw [Al];omega⟩ ?_
 conv=>whnf
 have hx30:x.images.length<=30:=by omega
 have hxi:∀ i:Nat,i<x.images.length->B9 g (x.images.getD i ⟨0,0, []⟩)=true:=fun i hi=>Aw.1 p1 _ (A9 (d:=⟨0,0, []⟩) hi)
 refine zV (Nat × Dk) (fun y=>([(0, .bp 0 0),(4, .bp 8 0),(5, .bp 9 0),(6, .v (.bool true)),(7,ze 0),(8,ze (y.1:Nat))],Fk g (AO (BI a x.seq (x.images.take y.1)) (x::r)) 0 y.2 ++ ([.row 53 3 (List.replicate a.homes.length hmT), .row 45 4 (List.replicate (x::r).length txT), .box 34 (stX (AO a (x::r)) (.ow 6 a.homes.length) (.ow 7 (x::r).length)), .box 45 (DH x)]:List AB))) (fun y=>y.1<=x.images.length/\Gw (Av g) y.2 F (BL g a x.seq (x.images.take y.1))) (fun y=>x.images.length - y.1) (0,d) ⟨Aj _,h⟩
  (zR (s:= [0,1,2,3,4,5,6,7,8,9]) ⟨⟨rfl,rfl,rfl,rfl,rfl,rfl,tv⟩,⟨rfl,rfl,rfl,rfl,rfl,rfl,rfl,rfl,rfl,rfl,tv⟩,rfl,rfl,rfl,rfl,rfl⟩) ?_
 rintro⟨i,d1⟩ ⟨hi,hd1⟩
 simp only at hi hd1
 have hAok:=Ha (g:=g) (seq:=x.seq) (by omega) (x.images.take i) ha
 have hAl:=HR x.seq (x.images.take i) a
 have hAs:=FT x.seq (x.images.take i) a
 obtain⟨A,hA⟩:∃ A,A=BI a x.seq (x.images.take i):=⟨_,rfl⟩
 rw [<-hA] at hAok hAl hAs |-
 by_cases hin:i<x.images.length
 ·obtain⟨y,hy⟩:∃ y,y=x.images.getD i ⟨0,0, []⟩:=⟨_,rfl⟩
  have hyk:=hxi i hin
  rw [<-hy] at hyk
  obtain⟨hz,hyw⟩:=Db hyk
  have hyl:=EQ hg hyk
  have htk:x.images.take (i+1)=x.images.take i ++ [y]:=by
   rw [Bj,Af hin,hy,Aa,Af hin]
   rfl
  have hup:BI a x.seq (x.images.take (i+1))=Cq A x.seq y:=by rw [htk,KC,<-hA]
  have hwl:(BL g a x.seq (x.images.take i)).length<=2*i:=Bi (GT _) (by rw [Au];omega)
  have hzl:y.zone.toNat<a.homes.length:=by omega
  have had:∀ w,Bw g A y.zone w=Bw g a y.zone w:=fun w=>by rw [hA];exact G7 _ hzl
  conv=>whnf
  rw [show decide ((i:Int)<(x.images.length:Nat))=true from decide_eq_true (by omega)]
  conv=>whnf
  repeat' (refine zX ?_;conv=>whnf)
  refine⟨⟨by omega,by omega⟩,?_⟩
  conv=>whnf
  repeat' (refine zX ?_;conv=>whnf)
  rw [Ac,<-hy]
  by_cases h255:y.what=255
  ·rw [show (y.what != 255)=false by rw [h255];rfl]
   conv=>whnf
   repeat' (refine zX ?_;conv=>whnf)
   have ht0:=Iv g y.zone 0 hg hz (by decide)
   have ht1:=Iv g y.zone 1 hg hz (by decide)
   obtain⟨u1,u2⟩:=Ft hg hz (k:=0) (by decide)
   obtain⟨u3,u4⟩:=Ft hg hz (k:=1) (by decide)
   have hcb:=Eu hg
   have hc0:=Fw (AG g y.zone 0) x.seq y.bytes ⟨by omega,by omega,by omega,by omega,by omega⟩
   have hc1:=Fw (AG g y.zone 1) x.seq y.bytes ⟨by omega,by omega,by omega,by omega,by omega⟩
   have hw0:=Z8 g (AO A (x::r)) (Av g) d1 F _ (AG g y.zone 0) (Bk (AG g y.zone 0) x.seq y.bytes) hd1 (by omega) (by omega) (Ei (by omega))
   refine z7 3 ?_
   conv=>whnf
   repeat' (refine zX ?_;conv=>whnf)
   apply zQ tys_ok mixed (.one 0 (.one 1 (.one 2 (.one 3 (.one 4 (.one 5 (.one 6 (.one 7 (.one 8 .fin))))))))) [13,128,129,130,131,132,133,134,135] (by kernel_rfl)
   ·conv=>whnf
    refine z_ ht0 ?_
    exact⟨rfl,rfl⟩
   conv=>whnf
   conv=>whnf
   refine z_ hc0 ?_
   conv=>whnf
   refine zZ [0,1,2,3,4,5] hw0 rfl rfl rfl rfl (by decide) (FI rfl) ⟨rfl,rfl,rfl,rfl,rfl,rfl,tv⟩ ?_
   rintro _ _ ⟨rfl,d2,hd2,rfl⟩
   have hw1:=Z8 g (AO A (x::r)) (Av g) d2 F _ (AG g y.zone 1) (Bk (AG g y.zone 1) x.seq y.bytes) hd2 (by rw [Ai];show _+1<2000;omega) (by omega) (Ei (by omega))
   conv=>whnf
   repeat' (refine zX ?_;conv=>whnf)
   apply zQ tys_ok mixed (.one 0 (.one 1 (.one 2 (.one 3 (.one 4 (.one 5 (.one 6 (.one 7 (.one 8 .fin))))))))) [13,128,129,130,131,132,133,134,135] (by kernel_rfl)
   ·conv=>whnf
    refine z_ ht1 ?_
    exact⟨rfl,rfl⟩
   conv=>whnf
   conv=>whnf
   refine z_ hc1 ?_
   conv=>whnf
   refine zZ [0,1,2,3,4,5] hw1 rfl rfl rfl rfl (by decide) (FI rfl) ⟨rfl,rfl,rfl,rfl,rfl,rfl,tv⟩ ?_
   rintro _ _ ⟨rfl,d3,hd3,rfl⟩
   conv=>whnf
   repeat' (refine zX ?_;conv=>whnf)
   apply zW (0) tys_ok mixed (.one 0 (.one 1 (.one 2 (.one 3 (.one 4 (.one 5 (.one 6 (.one 7 (.one 8 (.one 9 (.one 10 (.one 11 (.one 12 .fin))))))))))))) (by kernel_rfl)
   conv=>whnf
   try (refine tI ?_;conv=>whnf)
   try (refine tS ?_;conv=>whnf)
   have hzA:y.zone.toNat<A.homes.length:=by omega
   refine Ae ⟨by omega,by show y.zone<(A.homes.length:Nat);omega⟩ ?_
   refine⟨⟨rfl,(Ab _).symm,hzA⟩,?_⟩
   conv=>whnf
   rw [show ((AO A (x::r)).a.homes.map DG).getD y.zone.toNat []=DG (A.homes.getD y.zone.toNat ⟨[],0,0⟩) from Bn hzA]
   conv=>whnf
   refine⟨(i+1,d3),⟨by show i+1<=x.images.length;omega,?_⟩,by show x.images.length - (i+1)<x.images.length - i;omega,?_⟩
   ·show Gw (Av g) d3 F (BL g a x.seq (x.images.take (i+1)))
    rw [htk,EI]
    show Gw (Av g) d3 F (_ ++ (B_ g a x.seq y ++ []))
    rw [B_,if_pos h255,AM]
    simpa using hd3
   ·show WkR _ _ _ _ (Fk g (AO (BI a x.seq (x.images.take (i+1))) (x::r)) 0 d3 ++ _)
    rw [hup,show Cq A x.seq y={ A with homes:=A.homes.set y.zone.toNat { A.homes.getD y.zone.toNat ⟨[],0,0⟩ with root:=x.seq } } from if_pos h255]
    have hl2:(AO { A with homes:=A.homes.set y.zone.toNat { A.homes.getD y.zone.toNat ⟨[],0,0⟩ with root:=x.seq } } (x::r)).a.homes.length=A.homes.length:=Bh
    exact zR (s:= [0,1,2,3,4,5,6,7,8,9]) ⟨⟨rfl,rfl,rfl,rfl,rfl,AS (by omega),tv⟩,⟨by rw [hl2];rfl,rfl,rfl,rfl,congrArg (fun es=>some (AB.row 53 3 es)) (CA (f:=DG) (l:=A.homes) (i:=y.zone.toNat) (a:={ A.homes.getD y.zone.toNat ⟨[],0,0⟩ with root:=x.seq })).symm,rfl,rfl,rfl,rfl,rfl,tv⟩,rfl,rfl,rfl,rfl,rfl⟩
  ·rw [show (y.what != 255)=true from bne_iff_ne.2 h255]
   obtain⟨w1,w2,w3⟩:=hyw h255
   have hadr:=LR g A y.zone y.what hg hAok hz ⟨w1,w2⟩
   have hho:=Vv g (AO A (x::r)) d1 F _ y.zone y.what x.seq y.bytes hg hAok hz ⟨w1,w2⟩ hd1 (by omega) (by omega) (by omega)
   have asub:SubL [.ag (AY g), .ag (MP A (.sl 3 A.homes.length fun i=>(A.homes.map DG).getD i [])), .v (.int .i64 y.zone), .v (.int .i64 y.what)] [.ag (AY g), .ag (Ed A), .v (.int .i64 y.zone), .v (.int .i64 y.what)]:=⟨ri,Ba ⟨ri,ri,ri,ri,ri,ri,Bf (f:=DG) A.homes rfl rfl,tv⟩,ri,ri,tv⟩
   conv=>whnf
   repeat' (refine zX ?_;conv=>whnf)
   apply zQ tys_ok mixed (.one 0 (.one 1 (.one 2 (.one 3 (.one 4 (.one 5 (.one 6 (.one 7 (.one 8 (.one 9 (.one 10 (.one 11 (.one 12 (.one 13 (.one 14 .fin))))))))))))))) [10,79,80,81,82,83,84,85,86,87,88,89,90,91,92] (by kernel_rfl)
   ·conv=>whnf
    (refine zl (args':= [.ag (AY g), .ag (MP A (.sl 3 A.homes.length fun i=>(A.homes.map DG).getD i [])), .v (.int .i64 y.zone), .v (.int .i64 y.what)]) (hadr.subA asub) ⟨(Ab _).symm,rfl⟩ ?_;rintro _ rfl;refine⟨rfl,?_⟩)
    exact⟨rfl,rfl⟩
   conv=>whnf
   conv=>whnf
   refine zZ [0,1,2,3,4,5] hho rfl rfl rfl rfl (by decide) (FI rfl) ⟨rfl,rfl,rfl,rfl,rfl,rfl,tv⟩ ?_
   rintro _ _ ⟨rfl,d2,hd2,rfl⟩
   conv=>whnf
   repeat' (refine zX ?_;conv=>whnf)
   apply zQ tys_ok mixed (.one 0 (.one 1 (.one 2 (.one 3 (.one 4 (.one 5 (.one 6 (.one 7 (.one 8 (.one 9 (.one 10 (.one 11 (.one 12 (.one 13 (.one 14 (.one 16 (.one 15 (.one 17 (.one 18 .fin))))))))))))))))))) [103,104,105,106,107,108,109,110,111,112,113,114,115,116,117,118,119,120,121] (by kernel_rfl)
   ·conv=>whnf
    (refine zl (args':= [.ag (AY g), .ag (MP A (.sl 3 A.homes.length fun i=>(A.homes.map DG).getD i [])), .v (.int .i64 y.zone), .v (.int .i64 y.what)]) (hadr.subA asub) ⟨(Ab _).symm,rfl⟩ ?_;rintro _ rfl;refine⟨rfl,?_⟩)
    exact⟨rfl,rfl⟩
   conv=>whnf
   conv=>whnf
   rw [show (Bw g A y.zone y.what != Bw g A y.zone y.what)=false by simp]
   conv=>whnf
   refine⟨(i+1,d2),⟨by show i+1<=x.images.length;omega,?_⟩,by show x.images.length - (i+1)<x.images.length - i;omega,?_⟩
   ·show Gw (Av g) d2 F (BL g a x.seq (x.images.take (i+1)))
    rw [htk,EI]
    show Gw (Av g) d2 F (_ ++ (B_ g a x.seq y ++ []))
    rw [B_,if_neg h255,AM,<-had]
    exact hd2
   ·show WkR _ _ _ _ (Fk g (AO (BI a x.seq (x.images.take (i+1))) (x::r)) 0 d2 ++ _)
    rw [hup,show Cq A x.seq y=A from if_neg h255]
    exact zR (s:= [0,1,2,3,4,5,6,7,8,9]) ⟨⟨rfl,rfl,rfl,rfl,rfl,AS (by omega),tv⟩,⟨rfl,rfl,rfl,rfl,rfl,rfl,rfl,rfl,rfl,rfl,tv⟩,rfl,rfl,rfl,rfl,rfl⟩
 ·have ei:i=x.images.length:=by omega
  rw [ei,Ar] at hd1 hA
  have hfl:=aG g (AO A (x::r)) (Av g) d1 F _ hd1
  conv=>whnf
  rw [show decide ((i:Int)<(x.images.length:Nat))=false from decide_eq_false (by omega)]
  conv=>whnf
  refine aSeq.cutR Dk (fun d2=>([(0, .bp 0 0),(5, .bp 7 0),(6, .v (.bool true)),(7,ze 0)],rwP g (AO A (x::r)) 0 d2 ++ ([.box 45 (DH x)]:List AB))) (fun d2=>Gd (Av g) d2 (HM F (BL g a x.seq x.images))) ?_ ?_
  ·conv=>whnf
   refine zZ [0,1,2,3,4,5] hfl rfl rfl rfl rfl (by decide) (FI rfl) ⟨rfl,rfl,rfl,rfl,rfl,rfl,tv⟩ ?_
   rintro _ _ ⟨rfl,d2,hd2,rfl⟩
   exact⟨d2,hd2,zR (s:= [0,1,2,3,4,5,10,9]) ⟨⟨rfl,rfl,rfl,rfl,tv⟩,⟨rfl,rfl,rfl,tv,rfl,rfl,rfl,rfl,tv⟩,rfl,rfl,rfl,rfl,rfl⟩⟩
  intro d2 hd2
  clear hi hin hd1 hfl
  conv=>whnf
  refine aSeq.cutR Dk (fun d3=>([(0, .bp 0 0),(5, .bp 7 0),(6, .v (.bool true)),(7,ze 0)],rwZ g (AO (B8 g a x) (x::r)) d3 ++ ([.box 45 (DH x)]:List AB))) (fun d3=>Gd (Av g) d3 (EL g a x F)) ?_ ?_
  ·conv=>whnf
   apply aDraw.dag (67239936) tys_ok mixed [([],43,(.one 0 (.one 1 (.one 2 (.one 3 (.one 4 (.one 5 (.one 6 (.one 7 (.one 8 (.one 9 (.one 10 (.one 11 (.one 12 (.one 13 (.one 14 (.one 15 (.one 16 (.one 19 (.one 20 (.one 21 (.one 22 (.one 23 (.one 25 (.one 28 (.one 29 (.one 30 (.one 31 (.alt 17 (.one 18 (.one 24 (.alt 26 (.one 27 (.one 32 (.one 33 (.one 34 (.one 35 (.one 36 (.one 37 (.one 38 (.one 39 (.one 40 (.one 41 (.one 42 .fin)))))))))))) (.alt 32 (.one 33 (.one 34 (.one 35 (.one 36 (.alt 26 (.jump 1) (.alt 37 (.jump 2) .non)))))) .non)))) (.alt 26 (.one 27 (.alt 17 (.one 18 (.one 24 (.one 32 (.one 33 (.one 34 (.one 35 (.one 36 (.one 37 (.one 38 (.one 39 (.one 40 (.one 41 (.one 42 .fin))))))))))))) (.alt 32 (.one 17 (.one 18 (.one 24 (.one 33 (.one 34 (.one 35 (.one 36 (.one 37 (.one 38 (.one 39 (.one 40 (.one 41 (.one 42 .fin))))))))))))) .non))) (.alt 32 (.alt 17 (.one 18 (.one 24 (.one 33 (.one 34 (.one 35 (.one 36 (.alt 26 (.jump 1) (.alt 37 (.jump 2) .non)))))))) (.alt 26 (.one 27 (.one 17 (.one 18 (.one 24 (.one 33 (.one 34 (.one 35 (.one 36 (.one 37 (.one 38 (.one 39 (.one 40 (.one 41 (.one 42 .fin)))))))))))))) .non)) .non))))))))))))))))))))))))))))))),([0,1,2,3,4,5,6,7,8,9,10,11,12,13,14,15,16,17,18,19,20,21,22,23,24,25,26,28,29,30,31,32,33,34,35,36],7,(.one 27 (.one 37 (.one 38 (.one 39 (.one 40 (.one 41 (.one 42 .fin)))))))),([0,1,2,3,4,5,6,7,8,9,10,11,12,13,14,15,16,17,18,19,20,21,22,23,24,25,28,29,30,31,32,33,34,35,36,37],7,(.one 26 (.one 27 (.one 38 (.one 39 (.one 40 (.one 41 (.one 42 .fin))))))))] [172,173,174,175,176,177,178,179,180,181,182,183,184,185,186,187,188,189,190,191,192,193,194,195,196,197,198,199,200,201,202,203,204,205,206,207,208,209,210,211] [(_,_),(_,_)] (by kernel_rfl)
   ·refine Ae ?_ ?_
    ·refine Ae ?_ (Ae ?_ (Ae ?_ (trivial)))
     ·conv=>whnf
      try (refine tI ?_;conv=>whnf)
      refine Ae ?_ (Ae ?_ (trivial))
      ·conv=>whnf
       try (refine tS ?_;conv=>whnf)
       try (refine tS ?_;conv=>whnf)
       try (refine tS ?_;conv=>whnf)
       exact⟨rfl,rfl⟩
      ·conv=>whnf
       try (refine tS ?_;conv=>whnf)
       refine Ae ?_ (Ae ?_ (trivial))
       ·exact⟨rfl,rfl⟩
       ·conv=>whnf
        try (refine tS ?_;conv=>whnf)
        exact⟨rfl,rfl⟩
     ·refine Ae ?_ (Ae ?_ (trivial))
      ·conv=>whnf
       try (refine tI ?_;conv=>whnf)
       try (refine tS ?_;conv=>whnf)
       try (refine tS ?_;conv=>whnf)
       try (refine tS ?_;conv=>whnf)
       exact⟨rfl,rfl⟩
      ·conv=>whnf
       try (refine tS ?_;conv=>whnf)
       try (refine tI ?_;conv=>whnf)
       try (refine tS ?_;conv=>whnf)
       try (refine tS ?_;conv=>whnf)
       exact⟨rfl,rfl⟩
     ·conv=>whnf
      try (refine tS ?_;conv=>whnf)
      refine Ae ?_ (Ae ?_ (trivial))
      ·conv=>whnf
       try (refine tI ?_;conv=>whnf)
       refine Ae ?_ (Ae ?_ (trivial))
       ·exact⟨rfl,rfl⟩
       ·conv=>whnf
        try (refine tS ?_;conv=>whnf)
        exact⟨rfl,rfl⟩
      ·conv=>whnf
       try (refine tI ?_;conv=>whnf)
       try (refine tS ?_;conv=>whnf)
       try (refine tS ?_;conv=>whnf)
       exact⟨rfl,rfl⟩
    refine Ae ?_ ?_
    ·conv=>whnf
     try (refine tS ?_;conv=>whnf)
     try (refine tS ?_;conv=>whnf)
     exact⟨rfl,rfl⟩
    refine Ae ?_ ?_
    ·conv=>whnf
     try (refine tS ?_;conv=>whnf)
     exact⟨rfl,rfl⟩
    conv=>whnf
    exact trivial
   conv=>whnf
   conv=>whnf
   apply zH (0) tys_ok mixed (.one 0 (.one 1 (.one 2 (.one 3 (.one 4 (.one 5 (.one 6 (.one 7 (.one 8 (.one 9 (.one 10 (.one 11 (.one 12 (.one 13 (.one 14 .fin))))))))))))))) [212,213,214,215,216,217,218,219,220,221,222,223,224,225] (by kernel_rfl)
   ·conv=>whnf
    try (refine tS ?_;conv=>whnf)
    exact⟨rfl,rfl⟩
   conv=>whnf
   conv=>whnf
   have hsx:x.seq=a.seq:=r1
   have hpx:x.pos=a.pos:=r3
   have E1:IntKind.i64.wrap ((AO A (x::r)).a.gen+1)=(B8 g a x).gen:=by
    show IntKind.i64.wrap (A.gen+1)=a.gen+1
    rw [hAs.1]
    exact wi (by omega)
   have E2:(IntKind.i64.wrap ((AO A (x::r)).a.pos+x.n)).tmod g.sl=(B8 g a x).pos:=by
    show (IntKind.i64.wrap (A.pos+x.n)).tmod g.sl=(x.pos+x.n).tmod g.sl
    rw [hAs.2.2.1,hpx,wi (by omega)]
   have E3:IntKind.i64.wrap (x.seq+1)=(B8 g a x).seq:=by
    show IntKind.i64.wrap (x.seq+1)=a.seq+1
    rw [hsx]
    exact wi (by omega)
   have E4:(if (AO A (x::r)).a.last<x.seq then x.seq else (AO A (x::r)).a.last)=(B8 g a x).last:=by
    show (if A.last<x.seq then x.seq else A.last)=max a.last a.seq
    rw [hAs.2.2.2.2.1,hsx]
    split <;> omega
   have hok2:=Jv (x:=x) hg ha (by omega) (by omega) hsx (by omega) (by omega)
   have hran:=Tn g (AO (B8 g a x) (x::r)) d2 _ hg hok2 hd2
   dsimp only
   rw [E1,E2,E3,E4]
   subst hA
   refine zZ [0,1,2,6,4,5] hran rfl rfl rfl rfl (by decide) (ZI rfl) ⟨rfl,rfl,rfl,rfl,rfl,rfl,tv⟩ ?_
   rintro _ _ ⟨rfl,d3,hd3,rfl⟩
   conv=>whnf
   rw [show decide (((g.an.toNat:Nat):Int) > 0)=true from decide_eq_true (by omega)]
   exact⟨d3,hd3,zR (s:= [0,1,2,3,4,5,8,7]) ⟨⟨rfl,rfl,rfl,rfl,tv⟩,⟨rfl,rfl,rfl,tv,tv,tv,rfl,rfl,tv⟩,rfl,rfl,rfl,rfl,rfl⟩⟩
  intro d3 hd3
  have hl1:1<=((AO (B8 g a x) (x::r)).txns.length:Int):=by show 1<=((x::r).length:Int);rw [Al];omega
  conv=>whnf
  repeat' (refine zX ?_;conv=>whnf)
  apply zW (0) tys_ok mixed (.one 0 (.one 1 (.one 2 (.one 3 (.one 4 (.one 5 (.one 6 (.one 7 (.one 8 (.one 9 (.one 10 (.one 11 (.one 12 (.one 13 (.one 14 (.one 15 (.one 16 (.one 17 (.one 18 (.one 19 (.one 20 (.one 21 (.one 22 (.one 23 (.one 24 .fin))))))))))))))))))))))))) (by kernel_rfl)
  conv=>whnf
  try (refine tI ?_;conv=>whnf)
  try (refine tS ?_;conv=>whnf)
  try (refine tS ?_;conv=>whnf)
  all_goals
   exact⟨.tp [ze (x.images.length:Nat),ze 0], .tp [ze (x.images.length:Nat),ze 0],rwZ g (AO (B8 g a x) r) d3,ri,zD (zK (zq (cs':=YM g (.bp 1 0) (AO (B8 g a x) r) 0) 0 rfl ⟨ri,ri,ri,ri,ri,ri,ri,ri,ri,ri,ri,ri,ri,Pd x r,ri,ri,ri,ri,ri,ri,ri,tv⟩)) (s:= [0,1,2,3,4,5,6]) ⟨⟨rfl,tv⟩,⟨rfl,rfl,rfl,tv,tv,tv,rfl,tv⟩,rfl,rfl,rfl,rfl,rfl⟩,rfl,d3,hd3,rfl⟩
def JS (d:Dk) (a:Int) (c:Cel):Dk:={ d with cells:=d.cells.set a.toNat c }
def Dk.fault (d:Dk) (kind a frm bit bits:Int):Dk × Int:=
 if CJ a 0 ((d.cells.length:Int) - 1)=false then (d,1) else if 0<d.cache.length then (d,9) else
 let c:=d.cells.getD a.toNat cz
 if kind=11 then (JS d a { c with state:=if c.state=0 then 1 else c.state },0)
 else if kind=12 then (JS d a { c with state:=2 },0)
 else if kind=13 then (if bit<0\/bits<0 then (d,1) else (JS d a { c with bytes:=Yz c.bytes bit bits },0))
 else if kind=14 then (JS d a { c with bytes:=c.old },0)
 else if kind=15 then (if CJ frm 0 ((d.cells.length:Int) - 1)=false then (d,1) else (JS d a { c with bytes:=(d.cells.getD frm.toNat cz).bytes },0))
 else (d,1)
structure Q4 where
 a:Int
 b:Int
 c:Int
 d:Int
theorem Yl {d:Dk} {a:Int} {c:Cel} (h:DkOk d) (hc:(0<=c.state/\c.state<=2)/\c.bytes.length<=200/\c.old.length<=200):DkOk (JS d a c):=by
 refine⟨by simpa [JS] using h.n,h.m,h.r,h.l,fun x hx=>?_,fun w hw=>by simpa [JS] using h.w w hw⟩
 rcases Cm hx with hx | rfl
 ·exact h.c x hx
 ·exact hc
theorem Sy {d:Dk} (h:DkOk d) (i:Nat):(0<=(d.cells.getD i cz).state/\(d.cells.getD i cz).state<=2)/\(d.cells.getD i cz).bytes.length<=200/\(d.cells.getD i cz).old.length<=200:=by
 by_cases hi:i<d.cells.length
 ·exact h.c _ (A9 (d:=cz) hi)
 ·rw [Aa,AJ (by omega)]
  exact⟨⟨CG _,show (0:Int)<=2 by decide⟩,by simp [cz],by simp [cz]⟩
theorem DkOk.fault {d:Dk} (h:DkOk d) (kind a frm bit bits:Int):DkOk (d.fault kind a frm bit bits).1/\(d.fault kind a frm bit bits).1.cells.length=d.cells.length/\(d.fault kind a frm bit bits).1.cache=d.cache/\(d.fault kind a frm bit bits).1.left=d.left/\(d.fault kind a frm bit bits).1.reqs=d.reqs:=by
 have hc:=Sy h a.toNat
 have hf:=Sy h frm.toNat
 have go:∀ c:Cel,((0<=c.state/\c.state<=2)/\c.bytes.length<=200/\c.old.length<=200)->DkOk (JS d a c)/\(JS d a c).cells.length=d.cells.length/\(JS d a c).cache=d.cache/\(JS d a c).left=d.left/\(JS d a c).reqs=d.reqs:=fun c h1=>⟨Yl h h1,by simp [JS],rfl,rfl,rfl⟩
 have st:DkOk d/\d.cells.length=d.cells.length/\d.cache=d.cache/\d.left=d.left/\d.reqs=d.reqs:=⟨h,rfl,rfl,rfl,rfl⟩
 unfold Dk.fault
 split
 ·exact st
 ·split
  ·exact st
  ·simp only
   split
   ·refine go _ ⟨?_,hc.2⟩
    simp only
    split
    ·exact⟨by decide,by decide⟩
    ·exact hc.1
   ·split
    ·exact go _ ⟨⟨show (0:Int)<=2 by decide,CG 2⟩,hc.2⟩
    ·split
     ·split
      ·exact st
      ·exact go _ ⟨hc.1,by simp only [OI];exact hc.2.1,hc.2.2⟩
     ·split
      ·exact go _ ⟨hc.1,hc.2.2,hc.2.2⟩
      ·split
       ·split
        ·exact st
        ·exact go _ ⟨hc.1,hf.2.1,hc.2.2⟩
       ·exact st
end
section
open Go.RowKit Go.ChangeShapes Go.WideShapes Go.ChangeAt Go.Deep
section
variable {H:Type} {enc:TypeId × Value->H} {w:World}
end
end
section
open Go.RowKit
structure Q2 where
 a:Int
 b:Int
def Z_ (x:Q2):List AV:= [.v (.int .i64 x.a), .v (.int .i64 x.b)]
def Rg (l:List Q2):AV:= .sl 2 l.length fun i=>Z_ (l.getD i ⟨0,0⟩)
section
open Go.ChangeShapes Go.WideShapes Go.ChangeAt Go.Deep
variable {H:Type} {enc:TypeId × Value->H} {w:World}
theorem oQ2:OpenE enc w 81 2 fun L=>∃ x,L=Z_ x:=
 (Y_ Tryz.underlying81 (by kernel_rfl)).mono fun L h=>by
  obtain⟨l,hl,rfl, -⟩:=h
  match l,hl with
  | [a,b],_=>exact⟨⟨a,b⟩,rfl⟩
def ai (L:List AV):Prop:=∃ l,L=[Rg l]
theorem oQ2s:OpenE enc w 24 1 ai:=
 (ZF (α:=Q2) (sz:=2) (f:=Z_) (d:=⟨0,0⟩) Tryz.underlying24 (by kernel_rfl) (by decide) oQ2).mono fun L ⟨l,h⟩=>⟨l,h⟩
end
structure Md where
 a:An
 l:List Tx
 F:Int->List UInt8
 m:List (List UInt8)
def ae (g:Geo) (M:Md) (lba:Int) (b:List UInt8) (M':Md):Prop:=
 (Ey M.l+4<=g.sl/\(E6 g (AO M.a M.l) M.F (lba.tdiv g.d)).isSome=true/\∃ W:List Wr,(∀ w∈W,(g.an<=w.addr/\w.addr<g.an+2*g.sl)/\w.bytes.length<=200)/\M'=⟨M.a,M.l ++ [Gx g M.a M.l M.F lba b],HM M.F W,M.m.set lba.toNat b⟩)
 \/((g.sl<Ey M.l+4\/E6 g (AO M.a M.l) M.F (lba.tdiv g.d)=none)/\M'=M)
def Xc (g:Geo) (M:Md):Md:=match M.l with
 | []=>M
 | x::r=>⟨B8 g M.a x,r,EL g M.a x M.F,M.m⟩
def MG (n:Int) (F:Int->List UInt8) (q:Int):List UInt8:=if 0<=q/\q<n then F q else []
def Fp (g:Geo):Md:=⟨DL (BZ g ⟨#[]⟩) 0, [],MG (Av g) (aa g (DL (BZ g ⟨#[]⟩) 0)),List.replicate (g.z*g.d).toNat zero8⟩
def Z0 (g:Geo) (L:List Q2):Nat->Md->Prop
 | 0,M=>M=Fp g
 | i+1,M=>∃ M1 M2,Z0 g L i M1/\(∃ lba b,(0<=lba/\lba<g.z*g.d)/\b.length=8/\ae g M1 lba b M2)/\M=if (L.getD i ⟨0,0⟩).b.tmod 3=0 then Xc g M2 else M2
structure Vo (g:Geo) (K:Int) (M:Md):Prop where
 an:Bg g M.a=true
 ring:C5 g M.l M.a.seq M.a.pos g.sl=true
 gen:M.a.gen<=K
 seq:M.a.seq+M.l.length<=K
 one:∀ t∈M.l,OneTab t.images
 fb:∀ q,(M.F q).length<=200
 m:(M.m.length:Int)=g.z*g.d
theorem Vo.vol {g:Geo} {K:Int} {M:Md} (h:Vo g K M) {d:Dk} (hd:Gd (Av g) d M.F):Vol g K d (AO M.a M.l):=⟨⟨_,hd⟩,h.an,h.ring,⟨rfl,rfl,rfl,rfl,rfl,rfl⟩,h.gen,h.seq,h.one⟩
theorem Vo.of {g:Geo} {K:Int} {M:Md} {d:Dk} (h:Vol g K d (AO M.a M.l)) (hf:∀ q,(M.F q).length<=200) (hm:(M.m.length:Int)=g.z*g.d):Vo g K M:=⟨h.an,h.ring,h.gen,h.seq,h.one,hf,hm⟩
theorem N8 {a:Int}:∀ (n:Nat) (l:List Wr) (w:Wr),l.length=n->H8 l a=some w->w∈l
 | 0,l,w,hn,h=>by
  obtain rfl:=AX.1 hn
  rw [N7] at h
  cases h
 | n+1,l,w,hn,h=>by
  rcases CM l with rfl | ⟨m,x,rfl⟩
  ·cases hn
  ·rw [CN] at h |-
   rw [Es] at h
   split at h
   ·obtain rfl:=Option.some.inj h
    simp
   ·exact List.mem_append_left _ (N8 n m w (by simpa using hn) h)
theorem Q1 {F:Int->List UInt8} {n:Nat} (hF:∀ q,(F q).length<=n) {W:List Wr} (hW:∀ w∈W,w.bytes.length<=n) (q:Int):(HM F W q).length<=n:=by
 unfold HM
 split
 ·rename_i w hw
  exact hW w (N8 _ _ _ rfl hw)
 ·exact hF q
theorem UM {g:Geo} (hg:Bt g=true) {a:An} {x:Tx} (ha:Bg g (B8 g a x)=true) {F:Int->List UInt8} (hF:∀ q,(F q).length<=200) (hx:∀ y∈x.images,B9 g y=true) (q:Int):(EL g a x F q).length<=200:=by
 unfold EL
 refine Q1 (Q1 hF fun w hw=>?_) (fun w hw=>(FN hg ha w hw).2) q
 obtain⟨y,hy,hw⟩:=Hq.1 hw
 have:=EQ hg (hx y hy)
 unfold B_ at hw
 split at hw
 ·simp only [AQ,Do,or_false] at hw
  rcases hw with rfl | rfl <;> exact Ei (by omega)
 ·rw [AE] at hw
  rw [hw]
  exact Ei (by omega)
theorem Vo.ck {g:Geo} (hg:Bt g=true) {K:Int} {M:Md} (h:Vo g K M) (hK:K<=4294967294) {d d':Dk} (hd:Gd (Av g) d M.F) (hd':Gd (Av g) d' (Xc g M).F):Vo g (K+1) (Xc g M):=by
 obtain⟨a,l,F,m⟩:=M
 cases l with
 | nil=>exact⟨h.an,h.ring,by have q:a.gen<=K:=h.gen;show a.gen<=K+1;omega,by have q:a.seq+(([]:List Tx).length:Int)<=K:=h.seq;show a.seq+(([]:List Tx).length:Int)<=K+1;omega,h.one,h.fb,h.m⟩
 | cons x r=>
  have hv:=h.vol hd
  have h2:=hv.home hg (x:=x) (r:=r) rfl hK (d':=d') ⟨_,hd'⟩
  have hi:=(DU h.ring x (List.mem_cons_self)).1
  exact Vo.of (d:=d') h2 (UM hg h2.an h.fb (Aw.1 hi)) h.m
theorem Gd.clip {n:Int} {d:Dk} {F:Int->List UInt8} (h:Gd n d F):Gd n d (MG n F)/\∀ q,(MG n F q).length<=200:=by
 refine⟨⟨h.ok,h.left,h.len,h.cache,fun q h0 h1=>?_⟩,fun q=>?_⟩
 ·have:=h.cell q h0 h1
  unfold MG
  rw [if_pos ⟨h0,h1⟩]
  exact this
 ·unfold MG
  split
  ·rename_i hq
   have hc:=(h.cell q hq.1 hq.2).2
   rw [<-hc]
   have hl:=h.len
   exact(h.ok.c _ (A9 (by omega))).2.1
  ·simp
theorem VC {g:Geo} (hg:Bt g=true):∃ D,Dj g (HJ g ⟨#[]⟩)=(D,0,AO (Fp g).a (Fp g).l)/\DkOk (HJ g ⟨#[]⟩)/\((HJ g ⟨#[]⟩).cells.length:Int)=Av g/\Gd (Av g) D (Fp g).F/\Vo g 2 (Fp g):=by
 obtain⟨D,h1,h2,h3,h4,h5⟩:=YX hg
 obtain⟨q1,q2⟩:=h5.clip
 refine⟨D,h1,h2,h3,q1,Vo.of (d:=D) (M:=Fp g) ⟨⟨_,q1⟩,h4.an,h4.ring,h4.rest,h4.gen,h4.seq,h4.one⟩ q2 ?_⟩
 obtain⟨g1,g2,g3,g4,g5⟩:=As.1 hg
 have:0<=g.z*g.d:=CW (by omega) (by omega)
 show (((List.replicate (g.z*g.d).toNat zero8).length:Nat):Int)=_
 rw [B4]
 omega
structure Gc (n:Int) (d:Dk) (F:Int->List UInt8) (l:List Wr):Prop where
 ok:DkOk d
 len:(d.cells.length:Int)=n
 cache:d.cache=l
 cell:∀ a:Int,0<=a->a<n->(d.cells.getD a.toNat cz).state=0/\(d.cells.getD a.toNat cz).bytes=F a
theorem Gw.gc {n:Int} {d:Dk} {F:Int->List UInt8} {l:List Wr} (h:Gw n d F l):Gc n d F l:=⟨h.ok,h.len,h.cache,h.cell⟩
theorem Gc.write {n:Int} {d:Dk} {F:Int->List UInt8} {l:List Wr} (h:Gc n d F l) (hl:l.length<2000) {a:Int} (h0:0<=a) (h1:a<n) {b:List UInt8} (hb:b.length<=200):(d.left=0/\d.write a b=(d,8))\/(d.left≠0/\(d.write a b).2=0/\Gc n (d.write a b).1 F (l ++ [⟨a,b⟩])):=by
 by_cases hz:d.left=0
 ·exact .inl ⟨hz,by unfold Dk.write;rw [if_pos hz]⟩
 ·have hw:=h.ok.write (a:=a) (b:=b) (by rw [<-h.len] at h1;omega) hb
  have e:d.write a b=({ d.req with cache:=d.cache ++ [⟨a,b⟩] },0):=by
   unfold Dk.write
   rw [if_neg hz,if_neg]
   rintro(h2 | h2)
   ·have:=(h.cell a h0 h1).1
    unfold cz at this
    omega
   ·rw [h.cache] at h2;omega
  rw [e] at hw |-
  exact .inr ⟨hz,rfl,hw,h.len,by rw [h.cache],h.cell⟩
theorem Gc.puts {n:Int} {d:Dk} {F:Int->List UInt8} {W l:List Wr} (h:Gc n d F W) (hl:∀ w∈l,(0<=w.addr/\w.addr<n)/\w.bytes.length<=200) (hn:W.length+l.length<=2000):∀ k:Nat,k<=l.length->(d.writes (l.take k)).2.2=false->(d.writes (l.take k)).2.1=k/\Gc n (d.writes (l.take k)).1 F (W ++ l.take k)
 | 0,_,_=>⟨rfl,by rw [List.take_zero,AM];exact h⟩
 | k+1,hk,hv=>by
  have hx0:=FD d (l:=l) (k:=k) (by omega)
  have hv0:(d.writes (l.take k)).2.2=false:=by
   cases hc:(d.writes (l.take k)).2.2 with
   | false=>rfl
   | true=>
    rw [hx0] at hv
    unfold CO at hv
    rw [hc] at hv
    simp only [if_true] at hv
    rw [hc] at hv
    cases hv
  obtain⟨q1,q3⟩:=Gc.puts h hl hn k (by omega) hv0
  have hx:=Jl (d:=d) (l:=l) (k:=k) (by omega) hv0
  have hm:=hl _ (A9 (d:=(⟨0, []⟩:Wr)) (show k<l.length by omega))
  rcases q3.write (by rw [Ai,Au];omega) hm.1.1 hm.1.2 hm.2 with ⟨-,e8⟩ | ⟨-,e0,hw⟩
  ·rw [hx,e8] at hv
   cases hv
  ·rw [hx,e0]
   have e:l.take (k+1)=l.take k ++ [l.getD k ⟨0, []⟩]:=by
    rw [Bj,Af (by omega),Aa,Af (by omega)]
    rfl
   refine⟨by simp only [q1];rfl,?_⟩
   rw [e,<-A5]
   exact hw
theorem Gc.flush {n:Int} {d:Dk} {F:Int->List UInt8} {l:List Wr} (h:Gc n d F l):Gc n d.flush (HM F l) []:=by
 have e:d.flush=⟨DD d.cells l, [],d.req.reqs,d.req.left⟩:=by
  unfold Dk.flush
  rw [allFin_cells,h.cache]
  rfl
 have ho:=h.ok.flush
 rw [e] at ho |-
 refine⟨ho,by show ((DD d.cells l).length:Int)=n;rw [finL_len];exact h.len,rfl,fun a h0 h1=>?_⟩
 have hl:=h.len
 refine R3 h0 (by omega) (h.cell a h0 h1) _ l rfl fun w hw=>?_
 rw [<-h.cache] at hw
 exact(h.ok.w w hw).1.1
theorem Gc.putAll {n:Int} {d:Dk} {F:Int->List UInt8} {l:List Wr} (h:Gc n d F []) (hl:∀ w∈l,(0<=w.addr/\w.addr<n)/\w.bytes.length<=200) (hn:l.length<=2000) (hv:(d.putAll l).2.2=false):(d.putAll l).2.1=l.length/\Gc n (d.putAll l).1 (HM F l) []:=by
 cases hw:(d.writes l).2.2 with
 | true=>rw [En hw] at hv;cases hv
 | false=>
  have hp:=Gc.puts h hl (by simpa using hn) l.length (Ah _)
  rw [Ar] at hp
  obtain⟨q1,q2⟩:=hp hw
  have e:=DP hw
  by_cases h0:(d.writes l).1.left=0
  ·rw [if_pos h0] at e
   rw [e] at hv
   cases hv
  ·rw [if_neg h0] at e
   rw [e]
   exact⟨q1,by simpa using q2.flush⟩
theorem Qz (d:Dk) (l m:List Wr) (h:(d.writes l).2.2=true):d.writes (l ++ m)=d.writes l:=by
 have hk:=KB d (l:=l ++ m) (k:=l.length) (by simp) (by rw [List.take_left];exact h)
 rw [hk,List.take_left]
theorem FE (d:Dk) (n:Nat) (w:Wr):CO (d,n,false) w=((d.write w.addr w.bytes).1,(if (d.write w.addr w.bytes).2=8 then n else n+if (d.write w.addr w.bytes).2=0 then 1 else 0),decide ((d.write w.addr w.bytes).2=8)):=by
 unfold CO
 rw [if_neg (by simp)]
 simp only
 split
 ·rename_i h;rw [decide_eq_true h]
 ·rename_i h;rw [decide_eq_false h]
theorem wrs_dead:∀ (m:List Wr) (d:Dk) (n:Nat),m.foldl CO (d,n,true)=(d,n,true)
 | [],_,_=>rfl
 | w::m,d,n=>by rw [List.foldl_cons,HN w rfl];exact wrs_dead m d n
theorem writes_more:∀ (m:List Wr) (d:Dk) (n:Nat),m.foldl CO (d,n,false)=((d.writes m).1,n+(d.writes m).2.1,(d.writes m).2.2)
 | [],_,_=>rfl
 | w::m,d,n=>by
  show m.foldl CO (CO (d,n,false) w)=_
  have e:d.writes (w::m)=m.foldl CO (CO (d,0,false) w):=rfl
  rw [e,FE,FE]
  generalize d.write w.addr w.bytes=q
  obtain⟨d1,e⟩:=q
  simp only
  by_cases h8:e=8
  ·rw [if_pos h8,if_pos h8,decide_eq_true h8,wrs_dead,wrs_dead]
   rfl
  ·rw [if_neg h8,if_neg h8,decide_eq_false h8,writes_more m d1,writes_more m d1]
   simp only [Az,C7]
theorem OU {d:Dk} {l:List Wr} (m:List Wr) (h:(d.writes l).2.2=false):d.writes (l ++ m)=(((d.writes l).1.writes m).1,(d.writes l).2.1+((d.writes l).1.writes m).2.1,((d.writes l).1.writes m).2.2):=by
 show (l ++ m).foldl CO (d,0,false)=_
 rw [CB]
 have e:l.foldl CO (d,0,false)=d.writes l:=rfl
 rw [e]
 generalize d.writes l=q at h |-
 obtain⟨d1,n,b⟩:=q
 simp only at h |-
 rw [h,writes_more]
theorem PS {g:Geo} {a:An} {seq:Int} {x:Img} {l:List Img} {q:Int} (h:x.zone.toNat<a.homes.length):B_ g (BI a q l) seq x=B_ g a seq x:=by
 unfold B_
 rw [G7 l h]
def FY (g:Geo) (s:Stt) (x:Tx) (r:List Tx) (d:Dk):Stt × Dk × Int × Int:=
 match d.putAll (BL g s.a x.seq x.images) with
 | (d1,_,true)=>(s,d1,0,8)
 | (d1,_,false)=>match d1.putAll (AD g (B8 g s.a x)) with
  | (d2,_,true)=>(s,d2,0,8)
  | (d2,_,false)=>({ s with a:=B8 g s.a x,txns:=r },d2,(x.images.length:Nat),0)
theorem U0 (a:An) (hh:a.homes.length<=1000) (hp:∀ h∈a.homes,h.places.length<=1000000):ACalls Tryz.prog false 83 [.ag (Ed a)] [] fun r H=>r = .ag (MP a (.ow 0 a.homes.length))/\H=[.row 53 3 (a.homes.map DG)]:=by
 have hc:=NE a.homes (by omega)
 refine zS tys_ok Tryz.func83 rfl rfl (Ag rfl) ?_
 conv=>whnf
 refine zU hc rfl ?_
 rintro _ _ ⟨rfl,rfl⟩
 conv=>whnf
 refine zV Nat (fun k=>([(1, .bp 0 0),(2, .bp 1 0),(10, .v (.int .i64 a.homes.length)),(11, .v (.int .i64 k))], [.box 28 [.v (.int .i64 a.gen), .v (.int .i64 a.epoch), .v (.int .i64 a.pos), .v (.int .i64 a.seq), .v (.int .i64 a.last), .v (.string a.label), .ow 2 a.homes.length], .box 28 [.v (.int .i64 0), .v (.int .i64 0), .v (.int .i64 0), .v (.int .i64 0), .v (.int .i64 0), .v (.string ⟨#[]⟩), .v (.slice none 0 0)], .row 53 3 (a.homes.map DG)])) (fun k=>k<=a.homes.length) (fun k=>a.homes.length - k) 0 (Aj _)
  (zR (s:= [0,1,2]) ⟨⟨rfl,rfl,rfl,rfl,tv⟩,⟨rfl,rfl,rfl,tv⟩,rfl,rfl,rfl,rfl,rfl⟩) ?_
 intro k hk
 conv=>whnf
 refine A3 (fun h6=>?_) (fun h6=>?_) <;> (repeat rw [Ac] at h6) <;> conv=>whnf
 ·have hk':k<a.homes.length:=by omega
  have hi:=Mk (a.homes.getD k ⟨[],0,0⟩).places (by have:=hp _ (A9 (d:=(⟨[],0,0⟩:Hm)) hk');omega)
  have hE:(a.homes.map DG).getD (k:Int).toNat []=DG (a.homes.getD k ⟨[],0,0⟩):=by rw [Ac];exact Bn hk'
  apply zW (0) tys_ok mixed (.one 0 (.one 1 (.one 2 (.one 3 (.one 4 (.one 5 (.one 6 (.one 7 (.one 8 (.one 9 (.one 10 (.one 11 (.one 12 .fin))))))))))))) (by kernel_rfl)
  conv=>whnf
  try (first | (refine Ae ⟨rfl,(Ab _).symm,by omega⟩ ?_;(conv=>whnf);rw [hE]) | skip;conv=>whnf)
  try (first | (refine Ae ⟨rfl,(Ab _).symm,by omega⟩ ?_;(conv=>whnf);rw [hE]) | skip;conv=>whnf)
  try (refine tI ?_;conv=>whnf)
  try (first | (refine Ae ⟨rfl,(Ab _).symm,by omega⟩ ?_;(conv=>whnf);rw [hE]) | skip;conv=>whnf)
  (refine zU hi rfl ?_;rintro _ _ ⟨rfl,rfl⟩)
  conv=>whnf
  try (refine tI ?_;conv=>whnf)
  try (refine tS ?_;conv=>whnf)
  (refine Ae (Ab _).symm ?_;(conv=>whnf);refine Ae ⟨rfl,(Ab _).symm,by omega⟩ ?_;(conv=>whnf);rw [hE])
  refine⟨k+1,hk',by omega,zD (zK (zB (k:=2) rfl (es':=a.homes.map DG) (by simp) ?_)) (s:= [0,1,2]) ⟨⟨rfl,rfl,rfl,AS (by omega),tv⟩,⟨rfl,rfl,rfl,tv⟩,rfl,rfl,rfl,rfl,rfl⟩⟩
  rw [Ac]
  exact GG (d:=(⟨[],0,0⟩:Hm)) hk' (V_ _)
 ·have ek:k=a.homes.length:=by omega
  exact⟨.ag (MP a (.ow 2 a.homes.length)), .ag (MP a (.ow 0 a.homes.length)), [.row 53 3 (a.homes.map DG)],fun _ _ h=>h,zR (s:= [2]) ⟨⟨rfl,tv⟩,⟨by subst ek;rfl,tv⟩,rfl,rfl,rfl,rfl,rfl⟩,rfl,rfl⟩
theorem Nx (g:Geo) (w:Int) (hw : -1<=w/\w<g.d):Fn Tryz.prog 234 [.ag (AY g), .v (.int .i64 w)] fun r=>r = .tp [.v (.int .i64 (E0 g w)), .v (.bool true)]:=by
 unfold E0
 by_cases h:w = -1
 ·rw [if_pos h]
  refine zT Tryz.func234 rfl ?_
  conv=>whnf
  rw [show (w == -1)=true by simpa using h]
  exact⟨_,ri,rfl⟩
 ·rw [if_neg h]
  refine zT Tryz.func234 rfl ?_
  conv=>whnf
  rw [show (w == -1)=false by simpa using h]
  refine zA tys_ok mixed [0,1,2,3,4,5,6,7,8,9,10] (by kernel_rfl) ?_
  conv=>whnf
  rw [show decide (w>=0)=true from decide_eq_true (by omega)]
  conv=>whnf
  rw [show decide (w<g.d)=true from decide_eq_true (by omega)]
  exact⟨_,ri,rfl⟩
theorem WP {g:Geo} {a:An} (hg:Bt g=true) (ha:Bg g a=true):a.label.size<=1000000/\a.homes.length<=1000/\∀ h∈a.homes,h.places.length<=1000000:=by
 have:=EF hg ha 0 (Aj _)
 exact⟨by have:=this.2.2.2.1;omega,by have:=this.2.1;omega,fun h hh=>KW hg ha h hh⟩
theorem Tq (g:Geo) (a:An) (z w:Int) (hg:Bt g=true) (ha:Bg g a=true) (hz:0<=z/\z<g.z) (hw : -1<=w/\w<g.d):Fn Tryz.prog 233 [.ag (AY g), .ag (Ed a), .v (.int .i64 z), .v (.int .i64 w)] fun r=>r = .v (.int .i64 0):=by
 obtain⟨s1,s2, -⟩:=WP hg ha
 have c1:=K7 g a s1 (by omega)
 rw [hg,ha] at c1
 have c2:=Nx g w hw
 refine zT Tryz.func233 rfl ?_
 conv=>whnf
 refine z_ c1 ?_
 conv=>whnf
 refine z_ c2 ?_
 conv=>whnf
 rw [show decide (z<0)=false from decide_eq_false (by omega)]
 conv=>whnf
 rw [show decide (z>=g.z)=false from decide_eq_false (by omega)]
 exact⟨_,ri,rfl⟩
theorem P9 (g:Geo) (a:An) (z w:Int) (hg:Bt g=true) (ha:Bg g a=true) (hz:0<=z/\z<g.z) (hw : -1<=w/\w<g.d):Fn Tryz.prog 183 [.ag (AY g), .ag (Ed a), .v (.int .i64 z), .v (.int .i64 w)] fun r=>r = .tp [.v (.int .i64 (Bw g a z w)), .v (.int .i64 0)]:=by
 obtain⟨g1,g2,g3,g4,g5⟩:=As.1 hg
 obtain⟨hi,hh⟩:=JG ha hz
 simp only [DN,Ad,decide_eq_true_eq,AL] at hh
 obtain⟨p1,p2,p3,p4⟩:=hh
 have hat:0<=E0 g w/\E0 g w<=g.d:=by unfold E0;split <;> omega
 have hk:(E0 g w).toNat<(a.homes.getD z.toNat ⟨[],0,0⟩).places.length:=by omega
 have hp:=Aw.1 p4 (E0 g w).toNat (by simpa using hk)
 simp only [Ad,AL] at hp
 have c1:=Tq g a z w hg ha hz hw
 have c2:=Nx g w hw
 have c3:=Wd g z ((a.homes.getD z.toNat ⟨[],0,0⟩).places.getD (E0 g w).toNat 0) hg hz (by unfold Cy;omega)
 refine zT Tryz.func183 rfl ?_
 conv=>whnf
 refine z_ c1 ?_
 conv=>whnf
 refine z_ c2 ?_
 conv=>whnf
 apply zQ tys_ok mixed (.one 0 (.one 1 (.one 2 (.one 3 (.one 4 (.one 5 (.one 6 (.one 7 (.one 8 (.one 9 (.one 10 (.one 11 (.one 12 (.one 13 (.one 14 (.one 15 .fin)))))))))))))))) [8,9,27,28,29,30,31,32,33,34,35,36,37,38,39,40] (by kernel_rfl)
 ·conv=>whnf
  try (refine Ae (by first | omega | exact ixA | exact ixB | (simp;done)) ?_;conv=>whnf)
  try (refine Ae (by first | omega | exact ixA | exact ixB | (simp;done)) ?_;conv=>whnf)
  refine z_ c3 ?_
  exact⟨rfl,rfl⟩
 exact⟨_,ri,rfl⟩
theorem OP (g:Geo) (s:Stt) (d:Dk) (F:Int->List UInt8) (l:List Wr) (a stamp:Int) (b:List UInt8) (h:Gc (Av g) d F l) (hl:l.length<2000) (ha:0<=a/\a<Av g) (hok:U6 a stamp b) :
  ACalls Tryz.prog false 213 [.bp 0 0, .v (.int .i64 a), .v (.int .i64 stamp),bA b] (GC g s d) fun r H=>(d.left=0/\r = .tp [.v (.bool false), .v (.int .i64 8)]/\H=GC g s d)\/(d.left≠0/\r = .tp [.v (.bool true), .v (.int .i64 0)]/\Gc (Av g) (d.write a (Bk a stamp b)).1 F (l ++ [⟨a,Bk a stamp b⟩])/\(d.write a (Bk a stamp b)).2=0/\H=GC g s (d.write a (Bk a stamp b)).1):=by
 have hs:=Pg a stamp b hok
 have hsl:(Bk a stamp b).length<=200:=by rw [Ea];have:=hok.2.2.2.2;omega
 have hc:=S4 g s d a (Bk a stamp b) h.ok (by have:=h.len;omega) hsl
 have hw:=h.write hl ha.1 ha.2 hsl
 refine zS tys_ok Tryz.func213 rfl rfl (Ag rfl) ?_
 conv=>whnf
 refine z_ hs ?_
 conv=>whnf
 refine zZ [0,1,2,3] hc rfl rfl rfl rfl (by decide) (Er rfl) ⟨rfl,rfl,rfl,rfl,tv⟩ ?_
 rintro _ _ ⟨rfl,rfl⟩
 rcases hw with ⟨h0,e8⟩ | ⟨h0,e0,hw⟩
 ·rw [e8]
  exact⟨_, .tp [.v (.bool false), .v (.int .i64 8)],GC g s d,fun _ _ h=>h,zR (s:= [0,1,2,3]) ⟨⟨rfl,tv⟩,⟨rfl,rfl,rfl,rfl,tv⟩,rfl,rfl,rfl,rfl,rfl⟩, .inl ⟨h0,rfl,rfl⟩⟩
 ·rw [e0]
  exact⟨_, .tp [.v (.bool true), .v (.int .i64 0)],GC g s (d.write a (Bk a stamp b)).1,fun _ _ h=>h,zR (s:= [0,1,2,3]) ⟨⟨rfl,tv⟩,⟨rfl,rfl,rfl,rfl,tv⟩,rfl,rfl,rfl,rfl,rfl⟩, .inr ⟨h0,rfl,hw,rfl,rfl⟩⟩
theorem RC (g:Geo) (d:Dk) (s:Stt) (h:DkOk d) (hst:MT g d s=true) (hs:StSm s):ACalls Tryz.prog false 34 [.ag (AY g), .ag (Fq d), .ag (Fi s)] [] fun r H=>r = .tp [.bp 0 0, .v (.int .i64 0)]/\H=GC g s d:=by
 have hN:=h.n
 have hM:=h.m
 have c1:=K3 g d s (by omega) (by omega) hs.big
 rw [hst] at c1
 have c2:=Yd d (by omega) (by omega)
 have c3:=MJ s hs
 refine zS tys_ok Tryz.func34 rfl rfl (Ag rfl) ?_
 conv=>whnf
 refine z_ c1 ?_
 conv=>whnf
 apply zW (0) tys_ok mixed (.one 0 (.one 1 (.one 3 (.one 2 (.one 4 (.one 5 (.one 6 (.one 7 (.one 8 .fin))))))))) (by kernel_rfl)
 conv=>whnf
 (refine zU c2 rfl ?_;rintro _ _ ⟨rfl,rfl⟩)
 conv=>whnf
 refine z_ c3 ?_
 conv=>whnf
 all_goals exact⟨_, .tp [.bp 0 0, .v (.int .i64 0)],GC g s d,fun _ _ h=>h,zR (s:= [6,3,4,5]) ⟨⟨rfl,tv⟩,⟨rfl,rfl,rfl,rfl,tv⟩,rfl,rfl,rfl,rfl,rfl⟩,rfl,rfl⟩
@[reducible] def txZ:List AV:= [.v (.int .i64 0), .v (.int .i64 0), .v (.int .i64 0), .v (.slice none 0 0)]
theorem odrop0_fn:Fn Tryz.prog 82 [Di []] fun r=>r = .tp [.ag (DH ⟨0,0,0, []⟩), .v (.slice none 0 0), .v (.int .i64 10)]:=by
 refine zT Tryz.func82 rfl ?_
 exact⟨_,Cg (m:= [.ag (DH ⟨0,0,0, []⟩), .v (.slice none 0 0), .v (.int .i64 10)]) ⟨Ba ⟨ri,ri,ri,Br 3 _,tv⟩,ri,ri,tv⟩,rfl⟩
theorem VF (x:Tx) (r:List Tx) (hl:(x::r).length<=1000000) (hi:∀ t∈x::r,t.images.length<=1000000/\∀ y∈t.images,y.bytes.length<=1000000000):Fn Tryz.prog 82 [Di (x::r)] fun v=>v = .tp [.ag (DH x),Di r, .v (.int .i64 0)]:=by
 have c1:=Sj (x::r) hl hi
 have c2:=Nb r (by rw [Al] at hl;omega)
 have h1:1<=(x::r).length:=by simp
 have e0:(((x::r).length:Int) == 0)=false:=by rw [beq_eq_false_iff_ne,Al];omega
 refine zT Tryz.func82 rfl ?_
 conv=>whnf
 rw [e0]
 conv=>whnf
 refine z_ c1 ?_
 conv=>whnf
 apply zW (0) tys_ok mixed (.one 0 (.one 1 (.one 2 (.one 3 (.one 4 (.one 5 (.one 6 (.one 7 (.one 8 .fin))))))))) (by kernel_rfl)
 conv=>whnf
 try (refine tI ?_;conv=>whnf)
 try (refine tI ?_;conv=>whnf)
 (refine zY [Di r] ⟨Pd x r,tv⟩ ?_;refine zU c2 rfl ?_;rintro _ _ ⟨rfl,rfl⟩)
 conv=>whnf
 try (refine tS ?_;conv=>whnf)
 refine Ae (Ab _).symm ?_
 exact⟨_,Cg (m:= [.ag (DH x),Di r, .v (.int .i64 0)]) ⟨ri,Bf (f:=DH) r rfl rfl,ri,tv⟩,rfl⟩
@[reducible] def hoH (g:Geo) (s:Stt) (A:An) (d:Dk):List AB:= [.box 165 [.bp 1 0, .v (.int .i64 A.gen), .v (.int .i64 A.epoch), .v (.int .i64 A.pos), .v (.int .i64 A.seq), .v (.int .i64 A.last), .v (.string A.label), .ow 5 A.homes.length, .v (.int .i64 0)], .box 107 (Z5 g (.bp 2 0) s), .box 113 (HK (.ow 3 d.cells.length) (.ow 4 d.cache.length) d.reqs d.left), .row 84 3 (d.cells.map BE), .row 131 2 (d.cache.map E5), .row 53 3 (A.homes.map DG)]
theorem IX {m:Nat} (h:Nat.ble 5 m=true):∀ z∈ [1,2,3,4],z<m:=fun z hz=>by
 have:=Ag h
 simp at hz
 omega
theorem Lx (d:Dk) (w:Wr):d.writes [w]=((d.write w.addr w.bytes).1,(if (d.write w.addr w.bytes).2=8 then 0 else 0+if (d.write w.addr w.bytes).2=0 then 1 else 0),decide ((d.write w.addr w.bytes).2=8)):=FE d 0 w
theorem S8 (g:Geo) (A:An) (l:List AV):SubL ([.ag (AY g), .ag (MP A (.sl 3 A.homes.length fun i=>(A.homes.map DG).getD i []))] ++ l) ([.ag (AY g), .ag (Ed A)] ++ l):=
 ⟨ri,Ba ⟨ri,ri,ri,ri,ri,ri,Bf (f:=DG) A.homes rfl rfl,tv⟩,SubL.refl l⟩
theorem TL (g:Geo) (s:Stt) (A:An) (d:Dk) (F:Int->List UInt8) (l:List Wr) (seq:Int) (x:Img) (hg:Bt g=true) (hA:Bg g A=true) (hx:B9 g x=true) (h255:x.what≠255) (hs:0<=seq/\seq<=4294967295) (h:Gc (Av g) d F l) (hl:l.length<1900) :
  ACalls Tryz.prog false 157 [.bp 0 0, .v (.int .i64 seq), .ag (E8 x)] (hoH g s A d) fun r H=>(d.left=0/\r = .tp [.v (.bool false), .v (.int .i64 8)]/\H=hoH g s A d)\/(d.left≠0/\r = .tp [.v (.bool true), .v (.int .i64 0)]/\Gc (Av g) (d.write (Bw g A x.zone x.what) (Bk (Bw g A x.zone x.what) seq x.bytes)).1 F (l ++ [⟨Bw g A x.zone x.what,Bk (Bw g A x.zone x.what) seq x.bytes⟩])/\(d.write (Bw g A x.zone x.what) (Bk (Bw g A x.zone x.what) seq x.bytes)).2=0/\H=hoH g s A (d.write (Bw g A x.zone x.what) (Bk (Bw g A x.zone x.what) seq x.bytes)).1):=by
 obtain⟨g1,g2,g3,g4,g5⟩:=As.1 hg
 obtain⟨hz,hb⟩:=Db hx
 have hb:=hb h255
 have hcb:=Eu hg
 obtain⟨sl,e1,e2⟩:=D_ hg hA hz (w:=x.what) (by omega)
 have hsl:=E_ hg hz e2
 have hadr:=P9 g A x.zone x.what hg hA hz (by omega)
 obtain⟨X,hX⟩:∃ X,X=Bw g A x.zone x.what:=⟨_,rfl⟩
 rw [<-hX] at hadr e1 |-
 have hput:=OP g s d F l X seq x.bytes h (by omega) (by omega) ⟨by omega,by omega,hs.1,hs.2,by omega⟩
 by_cases h0:d.left=0
 ·have hput:=hput.mono (K':=fun r H=>r = .tp [.v (.bool false), .v (.int .i64 8)]/\H=GC g s d) fun r H hh=>by
   rcases hh with ⟨-,h1,h2⟩ | ⟨h1, -⟩
   ·exact⟨h1,h2⟩
   ·exact absurd h0 h1
  refine zS tys_ok Tryz.func157 rfl rfl (Ag rfl) ?_
  conv=>whnf
  apply zQ tys_ok mixed (.one 0 (.one 1 (.one 2 (.one 3 (.one 4 (.one 5 (.one 6 (.one 7 (.one 8 (.one 9 (.one 10 (.one 11 (.one 12 (.one 13 (.one 14 (.one 15 (.one 16 (.one 17 .fin)))))))))))))))))) [9,10,18,19,20,21,22,23,24,25,26,27,28,29,30,31,32,33] (by kernel_rfl)
  ·conv=>whnf
   (refine zl (args':= [.ag (AY g), .ag (MP A (.sl 3 A.homes.length fun i=>(A.homes.map DG).getD i [])), .v (.int .i64 x.zone), .v (.int .i64 x.what)]) (hadr.subA (S8 g A [.v (.int .i64 x.zone), .v (.int .i64 x.what)])) ⟨(Ab _).symm,rfl⟩ ?_;rintro _ rfl;refine⟨rfl,?_⟩)
   exact⟨rfl,rfl⟩
  conv=>whnf
  refine z7 1 ?_
  conv=>whnf
  repeat' (refine zX ?_;conv=>whnf)
  apply zW (2 ^ 136) tys_ok mixed (.one 0 (.one 1 (.one 2 (.one 3 (.one 4 (.one 5 (.one 6 (.one 7 (.one 8 (.one 9 (.one 10 (.one 11 (.one 12 (.one 13 .fin)))))))))))))) (by kernel_rfl)
  conv=>whnf
  (refine zZ [1,2,3,4] hput rfl rfl rfl rfl (by decide) (IX rfl) ⟨rfl,rfl,rfl,rfl,tv⟩ ?_;rintro _ _ ⟨rfl,rfl⟩)
  conv=>whnf
  repeat' (refine zX ?_;conv=>whnf)
  exact⟨_, .tp [.v (.bool false), .v (.int .i64 8)],hoH g s A d,fun _ _ h=>h,zR (s:= [0,1,2,3,4,5]) ⟨⟨rfl,tv⟩,⟨rfl,rfl,rfl,rfl,rfl,rfl,tv⟩,rfl,rfl,rfl,rfl,rfl⟩, .inl ⟨h0,rfl,rfl⟩⟩
 ·obtain⟨D,hD⟩:∃ D,D=(d.write X (Bk X seq x.bytes)).1:=⟨_,rfl⟩
  rw [<-hD] at hput |-
  have hput:=hput.mono (K':=fun r H=>(Gc (Av g) D F (l ++ [⟨X,Bk X seq x.bytes⟩])/\(d.write X (Bk X seq x.bytes)).2=0)/\r = .tp [.v (.bool true), .v (.int .i64 0)]/\H=GC g s D) fun r H hh=>by
   rcases hh with ⟨h1, -⟩ | ⟨-,h1,h2,h3,h4⟩
   ·exact absurd h1 h0
   ·exact⟨⟨h2,h3⟩,h1,h4⟩
  refine zS tys_ok Tryz.func157 rfl rfl (Ag rfl) ?_
  conv=>whnf
  apply zQ tys_ok mixed (.one 0 (.one 1 (.one 2 (.one 3 (.one 4 (.one 5 (.one 6 (.one 7 (.one 8 (.one 9 (.one 10 (.one 11 (.one 12 (.one 13 (.one 14 (.one 15 (.one 16 (.one 17 .fin)))))))))))))))))) [9,10,18,19,20,21,22,23,24,25,26,27,28,29,30,31,32,33] (by kernel_rfl)
  ·conv=>whnf
   (refine zl (args':= [.ag (AY g), .ag (MP A (.sl 3 A.homes.length fun i=>(A.homes.map DG).getD i [])), .v (.int .i64 x.zone), .v (.int .i64 x.what)]) (hadr.subA (S8 g A [.v (.int .i64 x.zone), .v (.int .i64 x.what)])) ⟨(Ab _).symm,rfl⟩ ?_;rintro _ rfl;refine⟨rfl,?_⟩)
   exact⟨rfl,rfl⟩
  conv=>whnf
  refine z7 1 ?_
  conv=>whnf
  repeat' (refine zX ?_;conv=>whnf)
  apply zW (2 ^ 136) tys_ok mixed (.one 0 (.one 1 (.one 2 (.one 3 (.one 4 (.one 5 (.one 6 (.one 7 (.one 8 (.one 9 (.one 10 (.one 11 (.one 12 (.one 13 .fin)))))))))))))) (by kernel_rfl)
  conv=>whnf
  (refine zZ [1,2,3,4] hput rfl rfl rfl rfl (by decide) (IX rfl) ⟨rfl,rfl,rfl,rfl,tv⟩ ?_;rintro _ _ ⟨⟨hw,e0⟩,rfl,rfl⟩)
  conv=>whnf
  repeat' (refine zX ?_;conv=>whnf)
  exact⟨_, .tp [.v (.bool true), .v (.int .i64 0)],hoH g s A D,fun _ _ h=>h,zR (s:= [0,1,2,3,4,5]) ⟨⟨rfl,tv⟩,⟨rfl,rfl,rfl,rfl,rfl,rfl,tv⟩,rfl,rfl,rfl,rfl,rfl⟩, .inr ⟨h0,rfl,hw,e0,rfl⟩⟩
theorem TG (g:Geo) (s:Stt) (A:An) (d:Dk) (F:Int->List UInt8) (l:List Wr) (seq:Int) (x:Img) (hg:Bt g=true) (hA:Bg g A=true) (hx:B9 g x=true) (h255:x.what=255) (hs:0<=seq/\seq<=4294967295) (h:Gc (Av g) d F l) (hl:l.length<1900) :
  ACalls Tryz.prog false 156 [.bp 0 0, .v (.int .i64 seq), .ag (E8 x)] (hoH g s A d) fun r H=>((d.writes (B_ g A seq x)).2.2=true/\r = .tp [.v (.bool false), .v (.int .i64 8)]/\H=hoH g s A (d.writes (B_ g A seq x)).1)\/((d.writes (B_ g A seq x)).2.2=false/\r = .tp [.v (.bool true), .v (.int .i64 0)]/\Gc (Av g) (d.writes (B_ g A seq x)).1 F (l ++ B_ g A seq x)/\H=hoH g s (Cq A seq x) (d.writes (B_ g A seq x)).1):=by
 obtain⟨g1,g2,g3,g4,g5⟩:=As.1 hg
 obtain⟨hz, -⟩:=Db hx
 have hxl:=EQ hg hx
 have hcb:=Eu hg
 have hzA:=(JG hA hz).1
 have ht0:=Kw g x.zone 0 hg hz (by decide)
 have ht1:=Kw g x.zone 1 hg hz (by decide)
 obtain⟨u1,u2,u3⟩:=Ft hg hz (k:=0) (by decide)
 obtain⟨v1,v2,v3⟩:=Ft hg hz (k:=1) (by decide)
 have ei:B_ g A seq x=[⟨AG g x.zone 0,Bk (AG g x.zone 0) seq x.bytes⟩,⟨AG g x.zone 1,Bk (AG g x.zone 1) seq x.bytes⟩]:=if_pos h255
 obtain⟨P,hP⟩:∃ P,P=AG g x.zone 0:=⟨_,rfl⟩
 obtain⟨Q,hQ⟩:∃ Q,Q=AG g x.zone 1:=⟨_,rfl⟩
 rw [ei]
 rw [<-hP] at ht0 u1 u2 u3 |-
 rw [<-hQ] at ht1 v1 v2 v3 |-
 have hp0:=OP g s d F l P seq x.bytes h (by omega) (by omega) ⟨by omega,by omega,hs.1,hs.2,by omega⟩
 have hw0:=h.write (a:=P) (b:=Bk P seq x.bytes) (by omega) (by omega) u3 (by rw [Ea];omega)
 have ew:d.writes [⟨P,Bk P seq x.bytes⟩,⟨Q,Bk Q seq x.bytes⟩]=CO (CO (d,0,false) ⟨P,Bk P seq x.bytes⟩) ⟨Q,Bk Q seq x.bytes⟩:=rfl
 have en:((d.writes [⟨P,Bk P seq x.bytes⟩]).2.2=decide ((d.write P (Bk P seq x.bytes)).2=8)):=by rw [Lx]
 obtain⟨S,hS⟩:∃ S,S=d.writes [⟨P,Bk P seq x.bytes⟩,⟨Q,Bk Q seq x.bytes⟩]:=⟨_,rfl⟩
 rw [<-hS]
 by_cases h0:d.left=0
 ·have hp0:=hp0.mono (K':=fun r H=>r = .tp [.v (.bool false), .v (.int .i64 8)]/\H=GC g s d) fun r H hh=>by
   rcases hh with ⟨-,h1,h2⟩ | ⟨h1, -⟩
   ·exact⟨h1,h2⟩
   ·exact absurd h0 h1
  have hSd:S=(d,0,true):=by
   rcases hw0 with ⟨-,e8⟩ | ⟨h1, -⟩
   ·rw [hS,ew]
    unfold CO
    simp only [e8]
    rfl
   ·exact absurd h0 h1
  rw [hSd]
  refine zS tys_ok Tryz.func156 rfl rfl (Ag rfl) ?_
  conv=>whnf
  refine z7 1 ?_
  conv=>whnf
  repeat' (refine zX ?_;conv=>whnf)
  apply zQ tys_ok mixed (.one 0 (.one 1 (.one 2 (.one 3 (.one 4 (.one 5 (.one 6 (.one 7 (.one 8 (.one 9 (.one 10 (.one 11 (.one 12 (.one 13 (.one 14 (.one 15 .fin)))))))))))))))) [10,11,17,18,19,20,21,22,23,24,25,26,27,28,29,30] (by kernel_rfl)
  ·conv=>whnf
   refine z_ ht0 ?_
   exact⟨rfl,rfl⟩
  conv=>whnf
  apply zW (2 ^ 136) tys_ok mixed (.one 0 (.one 1 (.one 2 (.one 3 (.one 4 (.one 5 (.one 6 (.one 7 (.one 8 (.one 9 (.one 10 (.one 11 (.one 12 (.one 13 .fin)))))))))))))) (by kernel_rfl)
  conv=>whnf
  (refine zZ [1,2,3,4] hp0 rfl rfl rfl rfl (by decide) (IX rfl) ⟨rfl,rfl,rfl,rfl,tv⟩ ?_;rintro _ _ ⟨rfl,rfl⟩)
  conv=>whnf
  repeat' (refine zX ?_;conv=>whnf)
  exact⟨_, .tp [.v (.bool false), .v (.int .i64 8)],hoH g s A d,fun _ _ h=>h,zR (s:= [0,1,2,3,4,5]) ⟨⟨rfl,tv⟩,⟨rfl,rfl,rfl,rfl,rfl,rfl,tv⟩,rfl,rfl,rfl,rfl,rfl⟩, .inl ⟨rfl,rfl,rfl⟩⟩
 ·obtain⟨D,hD⟩:∃ D,D=(d.write P (Bk P seq x.bytes)).1:=⟨_,rfl⟩
  have hw0:Gc (Av g) D F (l ++ [⟨P,Bk P seq x.bytes⟩])/\(d.write P (Bk P seq x.bytes)).2=0:=by
   rcases hw0 with ⟨h1, -⟩ | ⟨-,h1,h2⟩
   ·exact absurd h1 h0
   ·rw [hD];exact⟨h2,h1⟩
  obtain⟨hwD,e0⟩:=hw0
  have hp0:=hp0.mono (K':=fun r H=>r = .tp [.v (.bool true), .v (.int .i64 0)]/\H=GC g s D) fun r H hh=>by
   rcases hh with ⟨h1, -⟩ | ⟨-,h1,h2,h3,h4⟩
   ·exact absurd h1 h0
   ·rw [hD];exact⟨h1,h4⟩
  have hp1:=OP g s D F _ Q seq x.bytes hwD (by rw [Ai];show _+1<2000;omega) (by omega) ⟨by omega,by omega,hs.1,hs.2,by omega⟩
  have hw1:=hwD.write (a:=Q) (b:=Bk Q seq x.bytes) (by rw [Ai];show _+1<2000;omega) (by omega) v3 (by rw [Ea];omega)
  have hS1:S=CO (D,1,false) ⟨Q,Bk Q seq x.bytes⟩:=by
   rw [hS,ew,FE d 0]
   simp only [e0]
   rw [<-hD]
   rfl
  by_cases h1:D.left=0
  ·have hp1:=hp1.mono (K':=fun r H=>r = .tp [.v (.bool false), .v (.int .i64 8)]/\H=GC g s D) fun r H hh=>by
    rcases hh with ⟨-,q1,q2⟩ | ⟨q1, -⟩
    ·exact⟨q1,q2⟩
    ·exact absurd h1 q1
   have hSd:S=(D,1,true):=by
    rcases hw1 with ⟨-,e8⟩ | ⟨q1, -⟩
    ·rw [hS1]
     unfold CO
     simp only [e8]
     rfl
    ·exact absurd h1 q1
   rw [hSd]
   refine zS tys_ok Tryz.func156 rfl rfl (Ag rfl) ?_
   conv=>whnf
   refine z7 2 ?_
   conv=>whnf
   repeat' (refine zX ?_;conv=>whnf)
   apply zQ tys_ok mixed (.one 0 (.one 1 (.one 2 (.one 3 (.one 4 (.one 5 (.one 6 (.one 7 (.one 8 (.one 9 (.one 10 (.one 11 (.one 12 (.one 13 (.one 14 (.one 15 .fin)))))))))))))))) [10,11,17,18,19,20,21,22,23,24,25,26,27,28,29,30] (by kernel_rfl)
   ·conv=>whnf
    refine z_ ht0 ?_
    exact⟨rfl,rfl⟩
   conv=>whnf
   apply zW (2 ^ 136) tys_ok mixed (.one 0 (.one 1 (.one 2 (.one 3 (.one 4 (.one 5 (.one 6 (.one 7 (.one 8 (.one 9 (.one 10 (.one 11 (.one 12 (.one 13 .fin)))))))))))))) (by kernel_rfl)
   conv=>whnf
   (refine zZ [1,2,3,4] hp0 rfl rfl rfl rfl (by decide) (IX rfl) ⟨rfl,rfl,rfl,rfl,tv⟩ ?_;rintro _ _ ⟨rfl,rfl⟩)
   conv=>whnf
   repeat' (refine zX ?_;conv=>whnf)
   apply zQ tys_ok mixed (.one 0 (.one 1 (.one 2 (.one 3 (.one 4 (.one 5 (.one 6 (.one 7 (.one 8 (.one 9 (.one 10 (.one 11 (.one 12 (.one 13 (.one 14 (.one 15 .fin)))))))))))))))) [10,11,17,18,19,20,21,22,23,24,25,26,27,28,29,30] (by kernel_rfl)
   ·conv=>whnf
    refine z_ ht1 ?_
    exact⟨rfl,rfl⟩
   conv=>whnf
   apply zW (2 ^ 136) tys_ok mixed (.one 0 (.one 1 (.one 2 (.one 3 (.one 4 (.one 5 (.one 6 (.one 7 (.one 8 (.one 9 (.one 10 (.one 11 (.one 12 (.one 13 .fin)))))))))))))) (by kernel_rfl)
   conv=>whnf
   (refine zZ [1,2,3,4] hp1 rfl rfl rfl rfl (by decide) (IX rfl) ⟨rfl,rfl,rfl,rfl,tv⟩ ?_;rintro _ _ ⟨rfl,rfl⟩)
   conv=>whnf
   repeat' (refine zX ?_;conv=>whnf)
   exact⟨_, .tp [.v (.bool false), .v (.int .i64 8)],hoH g s A D,fun _ _ h=>h,zR (s:= [0,1,2,3,4,5]) ⟨⟨rfl,tv⟩,⟨rfl,rfl,rfl,rfl,rfl,rfl,tv⟩,rfl,rfl,rfl,rfl,rfl⟩, .inl ⟨rfl,rfl,rfl⟩⟩
  ·obtain⟨E,hE⟩:∃ E,E=(D.write Q (Bk Q seq x.bytes)).1:=⟨_,rfl⟩
   have hw1:Gc (Av g) E F (l ++ [⟨P,Bk P seq x.bytes⟩] ++ [⟨Q,Bk Q seq x.bytes⟩])/\(D.write Q (Bk Q seq x.bytes)).2=0:=by
    rcases hw1 with ⟨q1, -⟩ | ⟨-,q1,q2⟩
    ·exact absurd q1 h1
    ·rw [hE];exact⟨q2,q1⟩
   obtain⟨hwE,e1⟩:=hw1
   have hp1:=hp1.mono (K':=fun r H=>r = .tp [.v (.bool true), .v (.int .i64 0)]/\H=GC g s E) fun r H hh=>by
    rcases hh with ⟨q1, -⟩ | ⟨-,q1,q2,q3,q4⟩
    ·exact absurd q1 h1
    ·rw [hE];exact⟨q1,q4⟩
   have hSd:S=(E,2,false):=by
    rw [hS1,FE D 1]
    simp only [e1]
    rw [<-hE]
    rfl
   rw [hSd]
   refine zS tys_ok Tryz.func156 rfl rfl (Ag rfl) ?_
   conv=>whnf
   refine z7 3 ?_
   conv=>whnf
   repeat' (refine zX ?_;conv=>whnf)
   apply zQ tys_ok mixed (.one 0 (.one 1 (.one 2 (.one 3 (.one 4 (.one 5 (.one 6 (.one 7 (.one 8 (.one 9 (.one 10 (.one 11 (.one 12 (.one 13 (.one 14 (.one 15 .fin)))))))))))))))) [10,11,17,18,19,20,21,22,23,24,25,26,27,28,29,30] (by kernel_rfl)
   ·conv=>whnf
    refine z_ ht0 ?_
    exact⟨rfl,rfl⟩
   conv=>whnf
   apply zW (2 ^ 136) tys_ok mixed (.one 0 (.one 1 (.one 2 (.one 3 (.one 4 (.one 5 (.one 6 (.one 7 (.one 8 (.one 9 (.one 10 (.one 11 (.one 12 (.one 13 .fin)))))))))))))) (by kernel_rfl)
   conv=>whnf
   (refine zZ [1,2,3,4] hp0 rfl rfl rfl rfl (by decide) (IX rfl) ⟨rfl,rfl,rfl,rfl,tv⟩ ?_;rintro _ _ ⟨rfl,rfl⟩)
   conv=>whnf
   repeat' (refine zX ?_;conv=>whnf)
   apply zQ tys_ok mixed (.one 0 (.one 1 (.one 2 (.one 3 (.one 4 (.one 5 (.one 6 (.one 7 (.one 8 (.one 9 (.one 10 (.one 11 (.one 12 (.one 13 (.one 14 (.one 15 .fin)))))))))))))))) [10,11,17,18,19,20,21,22,23,24,25,26,27,28,29,30] (by kernel_rfl)
   ·conv=>whnf
    refine z_ ht1 ?_
    exact⟨rfl,rfl⟩
   conv=>whnf
   apply zW (2 ^ 136) tys_ok mixed (.one 0 (.one 1 (.one 2 (.one 3 (.one 4 (.one 5 (.one 6 (.one 7 (.one 8 (.one 9 (.one 10 (.one 11 (.one 12 (.one 13 .fin)))))))))))))) (by kernel_rfl)
   conv=>whnf
   (refine zZ [1,2,3,4] hp1 rfl rfl rfl rfl (by decide) (IX rfl) ⟨rfl,rfl,rfl,rfl,tv⟩ ?_;rintro _ _ ⟨rfl,rfl⟩)
   conv=>whnf
   repeat' (refine zX ?_;conv=>whnf)
   apply zW (0) tys_ok mixed (.one 0 (.one 1 (.one 2 (.one 3 (.one 4 (.one 5 (.one 6 (.one 7 (.one 8 (.one 9 (.one 10 .fin))))))))))) (by kernel_rfl)
   conv=>whnf
   try (refine tI ?_;conv=>whnf)
   try (refine tS ?_;conv=>whnf)
   rw [show (A.homes.map DG).getD x.zone.toNat []=DG (A.homes.getD x.zone.toNat ⟨[],0,0⟩) from Bn hzA]
   conv=>whnf
   have eu:Cq A seq x={ A with homes:=A.homes.set x.zone.toNat { A.homes.getD x.zone.toNat ⟨[],0,0⟩ with root:=seq } }:=if_pos h255
   have hl2:(Cq A seq x).homes.length=A.homes.length:=Fs A seq x
   refine⟨_, .tp [.v (.bool true), .v (.int .i64 0)],hoH g s (Cq A seq x) E,fun _ _ h=>h,zR (s:= [0,1,2,3,4,5]) ⟨⟨rfl,tv⟩,⟨?_,rfl,rfl,rfl,rfl,?_,tv⟩,rfl,rfl,rfl,rfl,rfl⟩, .inr ⟨rfl,rfl,by rw [A5] at hwE;exact hwE,rfl⟩⟩
   ·rw [hl2,eu]
    rfl
   ·rw [eu]
    exact congrArg (fun es=>some (AB.row 53 3 es)) (CA (f:=DG) (l:=A.homes) (i:=x.zone.toNat) (a:={ A.homes.getD x.zone.toNat ⟨[],0,0⟩ with root:=seq })).symm
theorem TJ (g:Geo) (s:Stt) (A:An) (d:Dk) (F:Int->List UInt8) (l:List Wr) (seq:Int) (x:Img) (hg:Bt g=true) (hA:Bg g A=true) (hx:B9 g x=true) (hs:0<=seq/\seq<=4294967295) (h:Gc (Av g) d F l) (hl:l.length<1900) :
  ACalls Tryz.prog false 84 [.bp 0 0, .v (.int .i64 seq), .ag (E8 x)] (hoH g s A d) fun r H=>((d.writes (B_ g A seq x)).2.2=true/\r = .tp [.v (.bool false), .v (.int .i64 8)]/\H=hoH g s A (d.writes (B_ g A seq x)).1)\/((d.writes (B_ g A seq x)).2.2=false/\r = .tp [.v (.bool true), .v (.int .i64 0)]/\Gc (Av g) (d.writes (B_ g A seq x)).1 F (l ++ B_ g A seq x)/\H=hoH g s (Cq A seq x) (d.writes (B_ g A seq x)).1):=by
 by_cases h255:x.what=255
 ·have hc:=TG g s A d F l seq x hg hA hx h255 hs h hl
  refine zS tys_ok Tryz.func84 rfl rfl (Ag rfl) ?_
  conv=>whnf
  rw [show (x.what == 255)=true from beq_iff_eq.2 h255]
  conv=>whnf
  refine zZ [0,1,2,3,4,5] hc rfl rfl rfl rfl (by decide) (FI rfl) ⟨rfl,rfl,rfl,rfl,rfl,rfl,tv⟩ ?_
  rintro _ _ (⟨q1,rfl,rfl⟩ | ⟨q1,rfl,q2,rfl⟩)
  ·exact⟨_, .tp [.v (.bool false), .v (.int .i64 8)],hoH g s A (d.writes (B_ g A seq x)).1,fun _ _ h=>h,zR (s:= [0,1,2,3,4,5]) ⟨⟨rfl,tv⟩,⟨rfl,rfl,rfl,rfl,rfl,rfl,tv⟩,rfl,rfl,rfl,rfl,rfl⟩, .inl ⟨q1,rfl,rfl⟩⟩
  ·exact⟨_, .tp [.v (.bool true), .v (.int .i64 0)],hoH g s (Cq A seq x) (d.writes (B_ g A seq x)).1,fun _ _ h=>h,zR (s:= [0,1,2,3,4,5]) ⟨⟨rfl,tv⟩,⟨rfl,rfl,rfl,rfl,rfl,rfl,tv⟩,rfl,rfl,rfl,rfl,rfl⟩, .inr ⟨q1,rfl,q2,rfl⟩⟩
 ·have hc:=TL g s A d F l seq x hg hA hx h255 hs h hl
  have ei:B_ g A seq x=[⟨Bw g A x.zone x.what,Bk (Bw g A x.zone x.what) seq x.bytes⟩]:=if_neg h255
  have eu:Cq A seq x=A:=if_neg h255
  have hw8:d.left=0->d.write (Bw g A x.zone x.what) (Bk (Bw g A x.zone x.what) seq x.bytes)=(d,8):=fun h0=>by unfold Dk.write;rw [if_pos h0]
  rw [ei,Lx,eu]
  simp only
  generalize Bk (Bw g A x.zone x.what) seq x.bytes=B at hc hw8 |-
  generalize Bw g A x.zone x.what=X at hc hw8 |-
  refine zS tys_ok Tryz.func84 rfl rfl (Ag rfl) ?_
  conv=>whnf
  rw [show (x.what == 255)=false from beq_eq_false_iff_ne.2 h255]
  conv=>whnf
  refine zZ [0,1,2,3,4,5] hc rfl rfl rfl rfl (by decide) (FI rfl) ⟨rfl,rfl,rfl,rfl,rfl,rfl,tv⟩ ?_
  rintro _ _ (⟨q1,rfl,rfl⟩ | ⟨q1,rfl,q2,q3,rfl⟩)
  ·rw [hw8 q1]
   exact⟨_, .tp [.v (.bool false), .v (.int .i64 8)],hoH g s A d,fun _ _ h=>h,zR (s:= [0,1,2,3,4,5]) ⟨⟨rfl,tv⟩,⟨rfl,rfl,rfl,rfl,rfl,rfl,tv⟩,rfl,rfl,rfl,rfl,rfl⟩, .inl ⟨rfl,rfl,rfl⟩⟩
  ·rw [q3]
   exact⟨_, .tp [.v (.bool true), .v (.int .i64 0)],hoH g s A (d.write X B).1,fun _ _ h=>h,zR (s:= [0,1,2,3,4,5]) ⟨⟨rfl,tv⟩,⟨rfl,rfl,rfl,rfl,rfl,rfl,tv⟩,rfl,rfl,rfl,rfl,rfl⟩, .inr ⟨rfl,rfl,q2,rfl⟩⟩
@[reducible] def aE (g:Geo) (s:Stt) (x:Tx) (A:An) (d:Dk):List AB:=GC g s d ++ ([.box 45 (DH x), .row 53 3 (A.homes.map DG), .box 165 [.bp 0 0, .v (.int .i64 A.gen), .v (.int .i64 A.epoch), .v (.int .i64 A.pos), .v (.int .i64 A.seq), .v (.int .i64 A.last), .v (.string A.label), .ow 5 A.homes.length, .v (.int .i64 0)]]:List AB)
theorem ah {m:Nat} (h:Nat.ble 7 m=true):∀ z∈ [6,0,1,2,3,5],z<m:=fun z hz=>by
 have:=Ag h
 simp at hz
 omega
theorem Ze {m:Nat} (h:Nat.ble 8 m=true):∀ z∈ [0,1,2,7],z<m:=fun z hz=>by
 have:=Ag h
 simp at hz
 omega
theorem Zs (g:Geo) (s:Stt) (x:Tx) (r:List Tx) (d:Dk) (F:Int->List UInt8) (hg:Bt g=true) (ha:Bg g s.a=true) (hs:s.txns=x::r) (hsm:StSm s) (honly:s.only=false) (hgen:s.a.gen<4294967295) (hseq:s.a.seq<4294967295) (hxs:x.seq=s.a.seq) (hxp:0<=x.pos/\x.pos<g.sl) (hxn:x.n=(x.images.length:Nat)+1) (hxi:∀ y∈x.images,B9 g y=true) (hmv:s.moved=0) (h:Gc (Av g) d F []) :
  ACalls Tryz.prog false 35 [.bp 0 0] (GC g s d) fun v H=>v = .tp [.v (.int .i64 (FY g s x r d).2.2.1), .v (.int .i64 (FY g s x r d).2.2.2)]/\H=bwG g (FY g s x r d).1 (FY g s x r d).2.1:=by
 obtain⟨g1,g2,g3,g4,g5⟩:=As.1 hg
 obtain⟨a1,a2,a3,a4⟩:=EE ha
 have hi30:x.images.length<=30:=(hsm.t.2 x (by rw [hs];simp)).1
 have hdrop:=VF x r (by rw [<-hs];have:=hsm.t.1;omega) (fun t ht=>by
  have:=hsm.t.2 t (by rw [hs];exact ht)
  exact⟨by omega,fun y hy=>by have:=this.2 y hy;omega⟩)
 rw [<-hs] at hdrop
 have hatw:=U0 s.a (by have:=hsm.h.1;omega) hsm.h.2
 refine zS tys_ok Tryz.func35 rfl rfl (Ag rfl) ?_
 conv=>whnf
 refine z_ hdrop ?_
 conv=>whnf
 rw [honly]
 conv=>whnf
 rw [show (s.a.gen == 4294967295)=false from beq_eq_false_iff_ne.2 (by omega)]
 conv=>whnf
 rw [show (s.a.seq == 4294967295)=false from beq_eq_false_iff_ne.2 (by omega)]
 conv=>whnf
 refine zU hatw rfl ?_
 rintro _ _ ⟨rfl,rfl⟩
 conv=>whnf
 have hin0:=NB hg ha hxi (seq:=x.seq)
 refine zV (Nat × Dk) (fun y=>([(0, .bp 0 0),(4, .bp 4 0),(5,Di r),(7, .bp 6 0),(60,Eg x.images),(61, .v (.int .i64 (x.images.length:Nat))),(62, .v (.int .i64 (y.1:Nat)))],aE g s x (BI s.a x.seq (x.images.take y.1)) y.2)) (fun y=>y.1<=x.images.length/\(d.writes (BL g s.a x.seq (x.images.take y.1))).1=y.2/\(d.writes (BL g s.a x.seq (x.images.take y.1))).2.2=false/\Gc (Av g) y.2 F (BL g s.a x.seq (x.images.take y.1))) (fun y=>x.images.length - y.1) (0,d) ⟨Aj _,rfl,rfl,h⟩
  (zR (s:= [0,1,2,3,4,5,6]) ⟨⟨rfl,rfl,rfl,rfl,rfl,rfl,rfl,tv⟩,⟨rfl,rfl,rfl,rfl,rfl,rfl,rfl,tv⟩,rfl,rfl,rfl,rfl,rfl⟩) ?_
 rintro⟨i,d1⟩ ⟨hi,hd1,hlv,hg1⟩
 simp only at hi hd1 hlv hg1
 have hAok:=Ha (g:=g) (seq:=x.seq) (by omega) (x.images.take i) ha
 have hAl:=HR x.seq (x.images.take i) s.a
 obtain⟨A,hA⟩:∃ A,A=BI s.a x.seq (x.images.take i):=⟨_,rfl⟩
 rw [<-hA] at hAok hAl |-
 by_cases hin:i<x.images.length
 ·obtain⟨y,hy⟩:∃ y,y=x.images.getD i ⟨0,0, []⟩:=⟨_,rfl⟩
  have hym:y∈x.images:=by rw [hy];exact A9 hin
  have hyk:=hxi y hym
  have htk:x.images.take (i+1)=x.images.take i ++ [y]:=by
   rw [Bj,Af hin,hy,Aa,Af hin]
   rfl
  have hup:BI s.a x.seq (x.images.take (i+1))=Cq A x.seq y:=by rw [htk,KC,<-hA]
  have hwl:(BL g s.a x.seq (x.images.take i)).length<=2*i:=Bi (GT _) (by rw [Au];omega)
  have hzl:y.zone.toNat<s.a.homes.length:=(JG ha (Db hyk).1).1
  have ewr:B_ g A x.seq y=B_ g s.a x.seq y:=by rw [hA];exact PS hzl
  have eW:BL g s.a x.seq (x.images.take (i+1))=BL g s.a x.seq (x.images.take i) ++ B_ g s.a x.seq y:=by
   rw [htk,EI]
   show _ ++ (B_ g s.a x.seq y ++ [])=_
   rw [AM]
  have hc:=TJ g s A d1 F _ x.seq y hg hAok hyk (by omega) hg1 (by omega)
  rw [ewr] at hc
  have hthen:=OU (d:=d) (l:=BL g s.a x.seq (x.images.take i)) (B_ g s.a x.seq y) hlv
  rw [hd1,<-eW] at hthen
  conv=>whnf
  rw [show decide ((i:Int)<(x.images.length:Nat))=true from decide_eq_true (by omega)]
  conv=>whnf
  repeat' (refine zX ?_;conv=>whnf)
  refine⟨⟨by omega,by omega⟩,?_⟩
  conv=>whnf
  rw [Ac,<-hy]
  refine zZ [6,0,1,2,3,5] hc rfl rfl rfl rfl (by decide) (ah rfl) ⟨rfl,rfl,rfl,rfl,rfl,rfl,tv⟩ ?_
  rintro _ _ (⟨q1,rfl,rfl⟩ | ⟨q1,rfl,q2,rfl⟩)
  ·conv=>whnf
   repeat' (refine zX ?_;conv=>whnf)
   have hdead:(d.writes (BL g s.a x.seq (x.images.take (i+1)))).2.2=true:=by rw [hthen];exact q1
   have hall:d.writes (BL g s.a x.seq x.images)=d.writes (BL g s.a x.seq (x.images.take (i+1))):=by
    have:=Qz d (BL g s.a x.seq (x.images.take (i+1))) (BL g s.a x.seq (x.images.drop (i+1))) hdead
    rwa [<-EI,B3] at this
   have hck:FY g s x r d=(s,(d1.writes (B_ g s.a x.seq y)).1,0,8):=by
    unfold FY
    rw [En (by rw [hall];exact hdead),hall,hthen]
   rw [hck]
   exact⟨_, .tp [.v (.int .i64 0), .v (.int .i64 8)],bwG g s (d1.writes (B_ g s.a x.seq y)).1,fun _ _ h=>h,zD (zK (zz 1 3 (by decide) rfl rfl)) (s:= [0,1,2,3,8]) ⟨⟨rfl,tv⟩,⟨rfl,rfl,rfl,tv,rfl,tv⟩,rfl,rfl,rfl,rfl,rfl⟩,rfl,rfl⟩
  ·conv=>whnf
   repeat' (refine zX ?_;conv=>whnf)
   refine⟨(i+1,(d1.writes (B_ g s.a x.seq y)).1),⟨by show i+1<=x.images.length;omega,?_,?_,?_⟩,by show x.images.length - (i+1)<x.images.length - i;omega,?_⟩
   ·show (d.writes (BL g s.a x.seq (x.images.take (i+1)))).1=_
    rw [hthen]
   ·show (d.writes (BL g s.a x.seq (x.images.take (i+1)))).2.2=false
    rw [hthen]
    exact q1
   ·show Gc (Av g) _ F (BL g s.a x.seq (x.images.take (i+1)))
    rw [eW]
    exact q2
   ·show WkR _ _ _ _ (aE g s x (BI s.a x.seq (x.images.take (i+1))) _)
    rw [hup]
    exact zR (s:= [0,1,2,3,4,5,6]) ⟨⟨rfl,rfl,rfl,rfl,rfl,rfl,AS (by omega),tv⟩,⟨rfl,rfl,rfl,rfl,rfl,rfl,rfl,tv⟩,rfl,rfl,rfl,rfl,rfl⟩
 ·have ei:i=x.images.length:=by omega
  rw [ei,Ar] at hd1 hlv hg1 hA
  have hA2:=FT x.seq x.images s.a
  rw [<-hA] at hA2
  have hW:=GT (g:=g) (a:=s.a) (seq:=x.seq) x.images
  have hok1:=hg1.ok
  have hfl:=MF d1 hok1.l hok1.m fun w hw=>(hok1.w w hw).1
  have hp:=DP hlv
  rw [hd1] at hp
  conv=>whnf
  rw [show decide ((i:Int)<(x.images.length:Nat))=false from decide_eq_false (by omega)]
  conv=>whnf
  repeat' (refine zX ?_;conv=>whnf)
  refine zZ [1,2,3] hfl rfl rfl rfl rfl (by decide) (IF rfl) ⟨rfl,rfl,rfl,tv⟩ ?_
  rintro _ _ ⟨rfl,rfl⟩
  by_cases h0:d1.left=0
  ·simp only [h0,if_true] at hp |-
   conv=>whnf
   repeat' (refine zX ?_;conv=>whnf)
   have hck:FY g s x r d=(s,d1,0,8):=by
    unfold FY
    rw [hp]
   rw [hck]
   exact⟨_, .tp [.v (.int .i64 0), .v (.int .i64 8)],bwG g s d1,fun _ _ h=>h,zR (s:= [0,1,2,3,7]) ⟨⟨rfl,tv⟩,⟨rfl,rfl,rfl,tv,rfl,tv⟩,rfl,rfl,rfl,rfl,rfl⟩,rfl,rfl⟩
  ·simp only [h0,if_false] at hp |-
   conv=>whnf
   repeat' (refine zX ?_;conv=>whnf)
   apply aDraw.dag (4176) tys_ok mixed [([],23,(.one 0 (.one 1 (.one 2 (.one 3 (.one 5 (.one 8 (.one 9 (.one 10 (.one 11 (.one 14 (.one 15 (.one 16 (.one 17 (.alt 4 (.alt 6 (.jump 1) (.alt 12 (.jump 2) (.alt 18 (.jump 3) .non))) (.alt 6 (.alt 4 (.jump 1) (.alt 12 (.jump 4) (.alt 18 (.jump 5) .non))) (.alt 12 (.alt 4 (.jump 2) (.alt 6 (.jump 4) (.alt 18 (.jump 6) .non))) (.alt 18 (.alt 4 (.jump 3) (.alt 6 (.jump 5) (.alt 12 (.jump 6) .non))) .non)))))))))))))))))),([0,1,2,3,4,5,6,8,9,10,11,14,15,16,17],8,(.one 7 (.alt 12 (.one 13 (.one 18 (.one 19 (.one 20 (.one 21 (.one 22 .fin)))))) (.alt 18 (.one 12 (.one 13 (.one 19 (.one 20 (.one 21 (.one 22 .fin)))))) .non)))),([0,1,2,3,4,5,8,9,10,11,12,14,15,16,17],8,(.alt 6 (.jump 7) (.alt 18 (.jump 9) .non))),([0,1,2,3,4,5,8,9,10,11,14,15,16,17,18],8,(.alt 6 (.jump 8) (.alt 12 (.jump 9) .non))),([0,1,2,3,5,6,8,9,10,11,12,14,15,16,17],8,(.alt 4 (.jump 7) (.alt 18 (.jump 10) .non))),([0,1,2,3,5,6,8,9,10,11,14,15,16,17,18],8,(.alt 4 (.jump 8) (.alt 12 (.jump 10) .non))),([0,1,2,3,5,8,9,10,11,12,14,15,16,17,18],8,(.alt 4 (.jump 9) (.alt 6 (.jump 10) .non))),([0,1,2,3,4,5,6,8,9,10,11,12,14,15,16,17],7,(.one 7 (.one 13 (.one 18 (.one 19 (.one 20 (.one 21 (.one 22 .fin)))))))),([0,1,2,3,4,5,6,8,9,10,11,14,15,16,17,18],7,(.one 7 (.one 12 (.one 13 (.one 19 (.one 20 (.one 21 (.one 22 .fin)))))))),([0,1,2,3,4,5,8,9,10,11,12,14,15,16,17,18],7,(.one 6 (.one 7 (.one 13 (.one 19 (.one 20 (.one 21 (.one 22 .fin)))))))),([0,1,2,3,5,6,8,9,10,11,12,14,15,16,17,18],7,(.one 4 (.one 7 (.one 13 (.one 19 (.one 20 (.one 21 (.one 22 .fin))))))))] [94,95,96,97,98,99,100,101,102,103,104,105,106,107,108,109,110,111,112,113] [(_,_),(_,_),(_,_),(_,_),(_,_),(_,_),(_,_),(_,_),(_,_),(_,_)] (by kernel_rfl)
   ·refine Ae ?_ ?_
    ·refine Ae ?_ (Ae ?_ (Ae ?_ (Ae ?_ (trivial))))
     ·refine Ae ?_ (Ae ?_ (Ae ?_ (trivial)))
      ·exact⟨rfl,rfl⟩
      ·exact⟨rfl,rfl⟩
      ·conv=>whnf
       try (refine tS ?_;conv=>whnf)
       exact⟨rfl,rfl⟩
     ·refine Ae ?_ (Ae ?_ (Ae ?_ (trivial)))
      ·exact⟨rfl,rfl⟩
      ·exact⟨rfl,rfl⟩
      ·conv=>whnf
       try (refine tS ?_;conv=>whnf)
       exact⟨rfl,rfl⟩
     ·refine Ae ?_ (Ae ?_ (Ae ?_ (trivial)))
      ·exact⟨rfl,rfl⟩
      ·exact⟨rfl,rfl⟩
      ·conv=>whnf
       try (refine tS ?_;conv=>whnf)
       exact⟨rfl,rfl⟩
     ·conv=>whnf
      try (refine tS ?_;conv=>whnf)
      refine Ae ?_ (Ae ?_ (Ae ?_ (trivial)))
      ·exact⟨rfl,rfl⟩
      ·exact⟨rfl,rfl⟩
      ·exact⟨rfl,rfl⟩
    refine Ae ?_ ?_
    ·refine Ae ?_ (Ae ?_ (trivial))
     ·conv=>whnf
      try (refine tI ?_;conv=>whnf)
      try (refine tS ?_;conv=>whnf)
      try (refine tS ?_;conv=>whnf)
      try (refine tS ?_;conv=>whnf)
      exact⟨rfl,rfl⟩
     ·conv=>whnf
      try (refine tS ?_;conv=>whnf)
      try (refine tI ?_;conv=>whnf)
      try (refine tS ?_;conv=>whnf)
      try (refine tS ?_;conv=>whnf)
      exact⟨rfl,rfl⟩
    refine Ae ?_ ?_
    ·refine Ae ?_ (Ae ?_ (trivial))
     ·exact⟨rfl,rfl⟩
     ·conv=>whnf
      try (refine tS ?_;conv=>whnf)
      exact⟨rfl,rfl⟩
    refine Ae ?_ ?_
    ·refine Ae ?_ (Ae ?_ (trivial))
     ·exact⟨rfl,rfl⟩
     ·exact⟨rfl,rfl⟩
    refine Ae ?_ ?_
    ·refine Ae ?_ (Ae ?_ (trivial))
     ·exact⟨rfl,rfl⟩
     ·conv=>whnf
      try (refine tS ?_;conv=>whnf)
      exact⟨rfl,rfl⟩
    refine Ae ?_ ?_
    ·refine Ae ?_ (Ae ?_ (trivial))
     ·exact⟨rfl,rfl⟩
     ·exact⟨rfl,rfl⟩
    refine Ae ?_ ?_
    ·refine Ae ?_ (Ae ?_ (trivial))
     ·exact⟨rfl,rfl⟩
     ·exact⟨rfl,rfl⟩
    refine Ae ?_ ?_
    ·conv=>whnf
     try (refine tI ?_;conv=>whnf)
     try (refine tS ?_;conv=>whnf)
     try (refine tS ?_;conv=>whnf)
     try (refine tS ?_;conv=>whnf)
     exact⟨rfl,rfl⟩
    refine Ae ?_ ?_
    ·conv=>whnf
     try (refine tI ?_;conv=>whnf)
     try (refine tS ?_;conv=>whnf)
     try (refine tS ?_;conv=>whnf)
     exact⟨rfl,rfl⟩
    refine Ae ?_ ?_
    ·conv=>whnf
     try (refine tI ?_;conv=>whnf)
     try (refine tS ?_;conv=>whnf)
     try (refine tS ?_;conv=>whnf)
     exact⟨rfl,rfl⟩
    refine Ae ?_ ?_
    ·conv=>whnf
     try (refine tI ?_;conv=>whnf)
     try (refine tS ?_;conv=>whnf)
     try (refine tS ?_;conv=>whnf)
     exact⟨rfl,rfl⟩
    conv=>whnf
    exact trivial
   conv=>whnf
   have E1:IntKind.i64.wrap (A.gen+1)=(B8 g s.a x).gen:=by
    rw [hA2.1]
    exact wi (by omega)
   have E2:(IntKind.i64.wrap (x.pos+x.n)).tmod g.sl=(B8 g s.a x).pos:=by
    rw [wi (by omega)]
    rfl
   have E3:IntKind.i64.wrap (A.seq+1)=(B8 g s.a x).seq:=by
    rw [hA2.2.2.2.1]
    exact wi (by omega)
   have E4:(if A.last<IntKind.i64.wrap ((B8 g s.a x).seq - 1) then IntKind.i64.wrap ((B8 g s.a x).seq - 1) else A.last)=(B8 g s.a x).last:=by
    show (if A.last<IntKind.i64.wrap (s.a.seq+1 - 1) then IntKind.i64.wrap (s.a.seq+1 - 1) else A.last)=max s.a.last s.a.seq
    rw [hA2.2.2.2.2.1,wi (by omega)]
    split <;> omega
   dsimp only
   rw [E1,E2,E3,E4]
   have hS:=Jv hg ha hgen hseq hxs hxp.1 (by rw [hxn];omega)
   have hokf:=hok1.flush
   have hlf:=S0 d1
   have hban:=Qr g s d1.flush (B8 g s.a x) hg hS hokf (Jg hg hS (by rw [hlf];exact hg1.len))
   have hgf:=(Gc.flush hg1).putAll (l:=AD g (B8 g s.a x)) (FN hg hS) (by rw [CV];omega)
   rw [CV] at hgf
   subst hA
   obtain⟨M,hM⟩:∃ M:AV,M = .sl 3 ((BI s.a x.seq x.images).homes.map DG).length fun i=>((BI s.a x.seq x.images).homes.map DG).getD i []:=⟨_,rfl⟩
   have m1:∀ (c:Ctx) (v:Value),Rd M c v->Rd (I8 (B8 g s.a x).homes) c v:=by rw [hM];exact Bf (f:=DG) (BI s.a x.seq x.images).homes (Ab _) rfl
   refine ACalls.lendBox2 (cs2:=MP (B8 g s.a x) M) (ar2:=MP (B8 g s.a x) M) 8 5 rfl rfl ?_ ?_ ?_
   ·rw [<-hM]
    simp only [A0,Bp,FV (Ab _).symm]
    rfl
   ·rw [<-hM]
    simp only [A0,Bp,FV (Ab _).symm]
    rfl
   subst hM
   refine zY [.bp 0 0, .ag (Ed (B8 g s.a x))] ⟨ri,Ba ⟨ri,ri,ri,ri,ri,ri,m1,tv⟩,tv⟩ ?_
   refine zZ [0,1,2,7] hban rfl rfl rfl rfl (by decide) (Ze rfl) ⟨rfl,rfl,rfl,rfl,tv⟩ ?_
   rintro _ _ ⟨rfl,rfl⟩
   have hck:FY g s x r d=match d1.flush.putAll (AD g (B8 g s.a x)) with
     | (d2,_,true)=>(s,d2,0,8)
     | (d2,_,false)=>({ s with a:=B8 g s.a x,txns:=r },d2,(x.images.length:Nat),0):=by
    unfold FY
    rw [hp]
    try rfl
   generalize d1.flush.putAll (AD g (B8 g s.a x))=p at hck hgf |-
   obtain⟨d2,n2,b2⟩:=p
   rw [hck]
   cases b2 with
   | true=>
    simp only [if_true]
    conv=>whnf
    repeat' (refine zX ?_;conv=>whnf)
    exact⟨_, .tp [.v (.int .i64 0), .v (.int .i64 8)],bwG g s d2,fun _ _ h=>h,zR (s:= [0,1,2,3,9]) ⟨⟨rfl,tv⟩,⟨rfl,rfl,rfl,tv,rfl,tv⟩,rfl,rfl,rfl,rfl,rfl⟩,rfl,rfl⟩
   | false=>
    obtain⟨n2e, -⟩:=hgf rfl
    simp only at n2e
    simp only [Cd,if_false]
    conv=>whnf
    repeat' (refine zX ?_;conv=>whnf)
    rw [show ((n2:Int) == 0)=false from beq_eq_false_iff_ne.2 (by omega)]
    conv=>whnf
    repeat' (refine zX ?_;conv=>whnf)
    apply zW (0) tys_ok mixed (.one 0 (.one 1 (.one 2 (.one 3 (.one 4 (.one 5 (.one 6 (.one 7 (.one 8 (.one 9 (.one 10 (.one 11 (.one 12 (.one 13 (.one 14 (.one 15 .fin)))))))))))))))) (by kernel_rfl)
    conv=>whnf
    try (refine tS ?_;conv=>whnf)
    rw [show IntKind.i64.wrap (s.moved+0)=s.moved by rw [hmv];rfl]
    exact⟨_, .tp [.v (.int .i64 (x.images.length:Nat)), .v (.int .i64 0)],bwG g { s with a:=B8 g s.a x,txns:=r } d2,ri,zD (zK (zq (cs':=Z5 g (.bp 1 0) { s with a:=B8 g s.a x,txns:=r }) 0 rfl ⟨ri,ri,ri,ri,ri,ri,ri,ri,ri,ri,ri,ri,m1,ri,ri,ri,ri,ri,ri,ri,tv⟩)) (s:= [0,1,2,3,9]) ⟨⟨rfl,tv⟩,⟨rfl,rfl,rfl,tv,rfl,tv⟩,rfl,rfl,rfl,rfl,rfl⟩,rfl,rfl⟩
theorem JE {g:Geo} (hg:Bt g=true) {a:An} (ha:Bg g a=true) {l:List Img} (hl:∀ x∈l,B9 g x=true) {seq:Int}:∀ w∈BL g a seq l,(0<=w.addr/\w.addr<Av g)/\w.bytes.length<=200:=fun w hw=>by
 have hi:=NB hg ha hl w hw
 obtain⟨y,hy,hwy⟩:=Hq.1 hw
 have hyl:=EQ hg (hl y hy)
 obtain⟨g1,g2,g3,g4,g5⟩:=As.1 hg
 refine⟨⟨by omega,hi.2⟩,?_⟩
 unfold B_ at hwy
 split at hwy
 ·simp only [AQ,Do,or_false] at hwy
  rcases hwy with rfl | rfl <;> exact Ei (by omega)
 ·rw [AE] at hwy
  rw [hwy]
  exact Ei (by omega)
theorem Yk {g:Geo} (hg:Bt g=true) {s:Stt} {x:Tx} {r:List Tx} {d:Dk} (ha:Bg g s.a=true) (ha2:Bg g (B8 g s.a x)=true) (hxi:∀ y∈x.images,B9 g y=true) (h:DkOk d) (hn:(d.cells.length:Int)=Av g):DkOk (FY g s x r d).2.1/\((FY g s x r d).2.2.2=8\/(FY g s x r d).2.2.2=0):=by
 have h1:=GK h (l:=BL g s.a x.seq x.images) fun w hw=>by
  have:=JE hg ha hxi w hw
  exact⟨by omega,this.2⟩
 unfold FY
 generalize d.putAll (BL g s.a x.seq x.images)=p at h1 |-
 obtain⟨d1,n1,b1⟩:=p
 simp only at h1
 have h2:=GK h1.1 (l:=AD g (B8 g s.a x)) fun w hw=>by
  have:=FN hg ha2 w hw
  exact⟨by omega,this.2⟩
 cases b1 with
 | true=>exact⟨h1.1, .inl rfl⟩
 | false=>
  simp only
  generalize d1.putAll (AD g (B8 g s.a x))=q at h2 |-
  obtain⟨d2,n2,b2⟩:=q
  simp only at h2
  cases b2 with
  | true=>exact⟨h2.1, .inl rfl⟩
  | false=>exact⟨h2.1, .inr rfl⟩
theorem Rm {m:Nat} (h:Nat.ble 9 m=true):∀ z∈ [5,6,7,8],z<m:=fun z hz=>by
 have:=Ag h
 simp at hz
 omega
theorem Rl {m:Nat} (h:Nat.ble 10 m=true):∀ z∈ [5,6,7,8,9],z<m:=fun z hz=>by
 have:=Ag h
 simp at hz
 omega
theorem W8 (g:Geo) (s:Stt) (x:Tx) (r:List Tx) (d:Dk) (F:Int->List UInt8) (hg:Bt g=true) (ha:Bg g s.a=true) (hs:s.txns=x::r) (hsm:StSm s) (honly:s.only=false) (hgen:s.a.gen<4294967295) (hseq:s.a.seq<4294967295) (hxs:x.seq=s.a.seq) (hxp:0<=x.pos/\x.pos<g.sl) (hxn:x.n=(x.images.length:Nat)+1) (hxi:∀ y∈x.images,B9 g y=true) (hmv:s.moved=0) (h:Gc (Av g) d F []) (hst:MT g d s=true) (hsm2:StSm (FY g s x r d).1) :
  Fn Tryz.prog 12 [.ag (AY g), .ag (Fq d), .ag (Fi s)] fun v=>v = .tp [.ag (Fi (if (FY g s x r d).2.2.2=8 then st0 else (FY g s x r d).1)), .ag (Fq (FY g s x r d).2.1), .v (.int .i64 (if (FY g s x r d).2.2.2=8 then 0 else (FY g s x r d).2.2.1)), .v (.int .i64 (FY g s x r d).2.2.2)]:=by
 have c1:=RC g d s h.ok hst hsm
 have c2:=Zs g s x r d F hg ha hs hsm honly hgen hseq hxs hxp hxn hxi hmv h
 have ha2:=Jv hg ha hgen hseq hxs hxp.1 (by rw [hxn];omega)
 obtain⟨hok,he⟩:=Yk (r:=r) hg ha ha2 hxi h.ok h.len
 generalize FY g s x r d=R at c2 hok he hsm2 |-
 obtain⟨S,D,n,e⟩:=R
 simp only at c2 hok he hsm2 |-
 have c3:=MJ S hsm2
 have c4:=ML g S D hok
 rcases he with rfl | rfl
 ·rw [if_pos rfl,if_pos rfl]
  refine zT Tryz.func12 rfl ?_
  conv=>whnf
  refine zU c1 rfl ?_
  rintro _ _ ⟨rfl,rfl⟩
  conv=>whnf
  refine zZ [5,6,7,8] c2 rfl rfl rfl rfl (by decide) (Rm rfl) ⟨rfl,rfl,rfl,rfl,tv⟩ ?_
  rintro _ _ ⟨rfl,rfl⟩
  conv=>whnf
  refine zZ [5,6,7,8,9] c4 rfl rfl rfl rfl (by decide) (Rl rfl) ⟨rfl,rfl,rfl,rfl,rfl,tv⟩ ?_
  rintro _ _ ⟨rfl,rfl⟩
  exact⟨.tp [.ag (Fi st0), .ag (Fq D), .v (.int .i64 0), .v (.int .i64 8)],Cg ⟨Ba st0_sub,ri,ri,ri,tv⟩,rfl⟩
 ·rw [if_neg (by decide),if_neg (by decide)]
  refine zT Tryz.func12 rfl ?_
  conv=>whnf
  refine zU c1 rfl ?_
  rintro _ _ ⟨rfl,rfl⟩
  conv=>whnf
  refine zZ [5,6,7,8] c2 rfl rfl rfl rfl (by decide) (Rm rfl) ⟨rfl,rfl,rfl,rfl,tv⟩ ?_
  rintro _ _ ⟨rfl,rfl⟩
  conv=>whnf
  refine z_ c3 ?_
  conv=>whnf
  refine zZ [5,6,7,8,9] c4 rfl rfl rfl rfl (by decide) (Rl rfl) ⟨rfl,rfl,rfl,rfl,rfl,tv⟩ ?_
  rintro _ _ ⟨rfl,rfl⟩
  exact⟨_,ri,rfl⟩
theorem OC {m:Nat} (h:Nat.ble 8 m=true):∀ z∈ [4,5,6,7],z<m:=fun z hz=>by
 have:=Ag h
 simp at hz
 omega
theorem QN (g:Geo) (d:Dk) (hg:Bt g=true) (h:DkOk d) (hn:(d.cells.length:Int)=Av g):Fn Tryz.prog 56 [.ag (AY g), .ag (Fq d)] fun r=>r = .tp [.ag (Fi (Dj g d).2.2), .ag (Fq (Dj g d).1), .v (.int .i64 (Dj g d).2.1)]:=by
 have hb:=Tm g d st0 h st0_sm
 have hm:=SX g st0 d hg h hn
 have herr:=Rj (g:=g) (d:=d)
 generalize Dj g d=M at hm herr |-
 obtain⟨D,e,S⟩:=M
 simp only at herr hm
 refine zT Tryz.func56 rfl ?_
 conv=>whnf
 refine zY [.ag (AY g), .ag (Fq d), .ag (Fi st0)] ⟨ri,ri,Ba st0_sub,tv⟩ ?_
 refine zU hb rfl ?_
 rintro _ _ ⟨rfl,rfl⟩
 conv=>whnf
 refine zZ [4,5,6,7] hm rfl rfl rfl rfl (by decide) (OC rfl) ⟨rfl,rfl,rfl,rfl,tv⟩ ?_
 rintro _ _ ⟨⟨S',rfl,hS⟩,rfl⟩
 by_cases he:e=0
 ·subst he
  have:=hS rfl
  subst this
  conv=>whnf
  apply aDraw.dag (144) tys_ok mixed [([],11,(.one 0 (.one 1 (.one 2 (.one 3 (.alt 4 (.one 5 (.one 6 (.alt 7 (.one 8 (.one 9 (.one 10 .fin))) (.alt 8 (.one 7 (.one 9 (.one 10 .fin))) .non)))) (.alt 8 (.one 4 (.one 5 (.one 6 (.one 7 (.one 9 (.one 10 .fin)))))) .non)))))))] [6,32,33,34,35,36,37,38,39] [] (by kernel_rfl)
  ·refine Ae ?_ ?_
   ·refine Ae ?_ (Ae ?_ (trivial))
    ·refine Ae ?_ (Ae ?_ (trivial))
     ·conv=>whnf
      try (refine tS ?_;conv=>whnf)
      try (refine tS ?_;conv=>whnf)
      exact⟨rfl,rfl⟩
     ·conv=>whnf
      try (refine tS ?_;conv=>whnf)
      try (refine tS ?_;conv=>whnf)
      exact⟨rfl,rfl⟩
    ·conv=>whnf
     try (refine tS ?_;conv=>whnf)
     try (refine tS ?_;conv=>whnf)
     exact⟨rfl,rfl⟩
   conv=>whnf
   exact trivial
  refine Ae (Ab _).symm ?_
  refine Ae (Ab _).symm ?_
  exact⟨.tp [.ag (Fi S'), .ag (Fq D), .v (.int .i64 0)],Cg ⟨ri,Ba ⟨Bf (f:=BE) D.cells rfl rfl,Bf (f:=E5) D.cache rfl rfl,ri,ri,tv⟩,ri,tv⟩,rfl⟩
 ·have hbe:(e != 0)=true:=bne_iff_ne.2 he
  have:=herr he
  subst this
  conv=>whnf
  rw [hbe]
  conv=>whnf
  apply aDraw.dag (2192) tys_ok mixed [([],15,(.one 0 (.one 1 (.one 2 (.one 3 (.one 8 (.one 9 (.one 10 (.alt 4 (.one 5 (.one 6 (.alt 7 (.alt 11 (.jump 2) (.alt 12 (.jump 3) .non)) (.alt 11 (.alt 7 (.jump 2) (.alt 12 (.jump 4) .non)) (.alt 12 (.alt 7 (.jump 3) (.alt 11 (.jump 4) .non)) .non))))) (.alt 11 (.alt 4 (.one 5 (.one 6 (.alt 7 (.jump 2) (.alt 12 (.jump 4) .non)))) (.alt 12 (.jump 1) .non)) (.alt 12 (.alt 4 (.one 5 (.one 6 (.alt 7 (.jump 3) (.alt 11 (.jump 4) .non)))) (.alt 11 (.jump 1) .non)) .non))))))))))),([0,1,2,3,8,9,10,11,12],6,(.one 4 (.one 5 (.one 6 (.one 7 (.one 13 (.one 14 .fin))))))),([0,1,2,3,4,5,6,7,8,9,10,11],3,(.one 12 (.one 13 (.one 14 .fin)))),([0,1,2,3,4,5,6,7,8,9,10,12],3,(.alt 11 (.one 13 (.one 14 .fin)) (.alt 13 (.one 11 (.one 14 .fin)) .non))),([0,1,2,3,4,5,6,8,9,10,11,12],3,(.one 7 (.one 13 (.one 14 .fin))))] [6,20,21,22,23,24,25,26,27,28,29,30,31] [(_,_),(_,_),(_,_),(_,_)] (by kernel_rfl)
  ·refine Ae ?_ ?_
   ·refine Ae ?_ (Ae ?_ (Ae ?_ (trivial)))
    ·refine Ae ?_ (Ae ?_ (Ae ?_ (trivial)))
     ·refine Ae ?_ (Ae ?_ (trivial))
      ·exact⟨rfl,rfl⟩
      ·conv=>whnf
       try (refine tS ?_;conv=>whnf)
       exact⟨rfl,rfl⟩
     ·refine Ae ?_ (Ae ?_ (trivial))
      ·exact⟨rfl,rfl⟩
      ·conv=>whnf
       try (refine tS ?_;conv=>whnf)
       exact⟨rfl,rfl⟩
     ·conv=>whnf
      try (refine tS ?_;conv=>whnf)
      refine Ae ?_ (Ae ?_ (trivial))
      ·exact⟨rfl,rfl⟩
      ·exact⟨rfl,rfl⟩
    ·refine Ae ?_ (Ae ?_ (trivial))
     ·refine Ae ?_ (Ae ?_ (trivial))
      ·exact⟨rfl,rfl⟩
      ·conv=>whnf
       try (refine tS ?_;conv=>whnf)
       exact⟨rfl,rfl⟩
     ·conv=>whnf
      try (refine tS ?_;conv=>whnf)
      exact⟨rfl,rfl⟩
    ·conv=>whnf
     try (refine tS ?_;conv=>whnf)
     refine Ae ?_ (Ae ?_ (trivial))
     ·refine Ae ?_ (Ae ?_ (trivial))
      ·exact⟨rfl,rfl⟩
      ·exact⟨rfl,rfl⟩
     ·exact⟨rfl,rfl⟩
   refine Ae ?_ ?_
   ·conv=>whnf
    try (refine tS ?_;conv=>whnf)
    exact⟨rfl,rfl⟩
   refine Ae ?_ ?_
   ·conv=>whnf
    try (refine tS ?_;conv=>whnf)
    try (refine tS ?_;conv=>whnf)
    exact⟨rfl,rfl⟩
   refine Ae ?_ ?_
   ·refine Ae ?_ (Ae ?_ (trivial))
    ·conv=>whnf
     try (refine tS ?_;conv=>whnf)
     exact⟨rfl,rfl⟩
    ·conv=>whnf
     try (refine tS ?_;conv=>whnf)
     exact⟨rfl,rfl⟩
   refine Ae ?_ ?_
   ·conv=>whnf
    try (refine tS ?_;conv=>whnf)
    exact⟨rfl,rfl⟩
   conv=>whnf
   exact trivial
  refine Ae (Ab _).symm ?_
  refine Ae (Ab _).symm ?_
  exact⟨.tp [.ag (Fi st0), .ag (Fq D), .v (.int .i64 e)],Cg ⟨Ba st0_sub,Ba ⟨Bf (f:=BE) D.cells rfl rfl,Bf (f:=E5) D.cache rfl rfl,ri,ri,tv⟩,ri,tv⟩,rfl⟩
theorem YP (g:Geo) (hg:Bt g=true):Fn Tryz.prog 22 [.ag (AY g)] fun r=>∃ D,r = .tp [.ag (Fi (AO (Fp g).a (Fp g).l)), .ag (Fq D)]/\Gd (Av g) D (Fp g).F:=by
 obtain⟨D,h1,h2,h3,h4,h5⟩:=VC hg
 have hfm:=QR g ⟨#[]⟩ hg (by exact lab_nil)
 have hmn:=QN g (HJ g ⟨#[]⟩) hg h2 h3
 rw [h1] at hmn
 refine zT Tryz.func22 rfl ?_
 conv=>whnf
 apply zW (0) tys_ok mixed (.one 0 (.one 1 (.three 2 (.three 3 (.one 4 (.one 5 (.one 6 (.one 7 (.two 8 (.one 9 (.one 10 (.one 11 (.one 12 .fin)))) 9 (.one 8 (.one 10 (.one 11 (.one 12 .fin))))))))) 8 (.two 3 (.one 4 (.one 5 (.one 6 (.one 7 (.one 9 (.one 10 (.one 11 (.one 12 .fin)))))))) 9 (.one 3 (.one 4 (.one 5 (.one 6 (.one 7 (.one 10 (.one 11 (.one 12 .fin))))))))) 9 (.two 3 (.one 4 (.one 5 (.one 6 (.one 7 (.one 8 (.one 10 (.one 11 (.one 12 .fin)))))))) 8 (.one 3 (.one 4 (.one 5 (.one 6 (.one 7 (.one 10 (.one 11 (.one 12 .fin)))))))))) 8 (.two 2 (.two 3 (.one 4 (.one 5 (.one 6 (.one 7 (.one 9 (.one 10 (.one 11 (.one 12 .fin)))))))) 9 (.one 3 (.one 4 (.one 5 (.one 6 (.one 7 (.one 10 (.one 11 (.one 12 .fin))))))))) 9 (.one 2 (.one 3 (.one 4 (.one 5 (.one 6 (.one 7 (.one 10 (.one 11 (.one 12 .fin)))))))))) 9 (.two 2 (.two 3 (.one 4 (.one 5 (.one 6 (.one 7 (.one 8 (.one 10 (.one 11 (.one 12 .fin)))))))) 8 (.one 3 (.one 4 (.one 5 (.one 6 (.one 7 (.one 10 (.one 11 (.one 12 .fin))))))))) 8 (.one 2 (.one 3 (.one 4 (.one 5 (.one 6 (.one 7 (.one 10 (.one 11 (.one 12 .fin))))))))))))) (by kernel_rfl)
 refine Ae ?_ (Ae ?_ ?_)
 conv=>whnf
 refine z_ hfm ?_
 refine Ae ?_ (Ae ?_ ?_)
 conv=>whnf
 refine z_ hmn ?_
 refine Ae ?_ ?_
 conv=>whnf
 try (refine tS ?_;conv=>whnf)
 try (refine tS ?_;conv=>whnf)
 rotate_left 1
 conv=>whnf
 try (refine tS ?_;conv=>whnf)
 try (refine tS ?_;conv=>whnf)
 rotate_left 1
 refine Ae ?_ ?_
 conv=>whnf
 refine z_ hmn ?_
 conv=>whnf
 try (refine tS ?_;conv=>whnf)
 try (refine tS ?_;conv=>whnf)
 rotate_left 1
 conv=>whnf
 refine z_ hmn ?_
 conv=>whnf
 try (refine tS ?_;conv=>whnf)
 try (refine tS ?_;conv=>whnf)
 rotate_left 1
 refine Ae ?_ ?_
 conv=>whnf
 refine z_ hmn ?_
 conv=>whnf
 try (refine tS ?_;conv=>whnf)
 try (refine tS ?_;conv=>whnf)
 rotate_left 1
 conv=>whnf
 refine z_ hmn ?_
 conv=>whnf
 try (refine tS ?_;conv=>whnf)
 try (refine tS ?_;conv=>whnf)
 rotate_left 1
 refine Ae ?_ ?_
 conv=>whnf
 refine z_ hfm ?_
 refine Ae ?_ ?_
 conv=>whnf
 refine z_ hmn ?_
 conv=>whnf
 try (refine tS ?_;conv=>whnf)
 try (refine tS ?_;conv=>whnf)
 rotate_left 1
 conv=>whnf
 refine z_ hmn ?_
 conv=>whnf
 try (refine tS ?_;conv=>whnf)
 try (refine tS ?_;conv=>whnf)
 rotate_left 1
 conv=>whnf
 refine z_ hfm ?_
 conv=>whnf
 refine z_ hmn ?_
 conv=>whnf
 try (refine tS ?_;conv=>whnf)
 try (refine tS ?_;conv=>whnf)
 rotate_left 1
 refine Ae ?_ ?_
 conv=>whnf
 refine z_ hfm ?_
 refine Ae ?_ ?_
 conv=>whnf
 refine z_ hmn ?_
 conv=>whnf
 try (refine tS ?_;conv=>whnf)
 try (refine tS ?_;conv=>whnf)
 rotate_left 1
 conv=>whnf
 refine z_ hmn ?_
 conv=>whnf
 try (refine tS ?_;conv=>whnf)
 try (refine tS ?_;conv=>whnf)
 rotate_left 1
 conv=>whnf
 refine z_ hfm ?_
 conv=>whnf
 refine z_ hmn ?_
 conv=>whnf
 try (refine tS ?_;conv=>whnf)
 try (refine tS ?_;conv=>whnf)
 rotate_left 1
 all_goals
  apply zW (2) tys_ok mixed (.one 0 (.two 1 (.one 2 (.one 3 .fin)) 2 (.one 1 (.one 3 .fin)))) (by kernel_rfl)
  refine Ae ?_ ?_
  conv=>whnf
  try (refine tS ?_;conv=>whnf)
  try (refine tS ?_;conv=>whnf)
  rotate_left 1
  conv=>whnf
  try (refine tS ?_;conv=>whnf)
  try (refine tS ?_;conv=>whnf)
  rotate_left 1
  all_goals
   exact⟨_,ri,D,rfl,h4⟩
theorem aDraw.conv {P:Program} {T:Tys} {n d0 id:Nat} {ops:Array Oper} {K:Fr->List AB->Prop} {fr:Fr} {H:List AB} (h:aDraw P T n d0 id ops (fun fr H=>∃ fr2 H2,ConvF fr H fr2 H2/\K fr2 H2) fr H):aDraw P T n d0 id ops K fr H:=
 ⟨fun w0 M0 ce c a hs hf he hd Q hq=>h.wp w0 M0 ce c a hs hf he hd Q fun c' fr' H' a' ⟨fr2,H2,hc,hk⟩ hs' hf' he'=>by
  obtain⟨c2,e,s2,f2,x2⟩:=hc _ _ _ _ _ hs' hf'
  have:=hq c2 fr2 H2 a' hk s2 f2 (he'.trans x2)
  rwa [e] at this⟩
theorem Q9 (g:Geo) (d:Dk) (h:DkOk d):Fn Tryz.prog 33 [.ag (AY g), .ag (Fq d), .v (.slice none 0 0)] fun r=>r = .ag (Fq d):=by
 obtain⟨q1,q2,q3,q4⟩:=h.big
 have ho:=Ot d q1 q2 q3 q4
 refine zT Tryz.func33 rfl ?_
 conv=>whnf
 refine zU ho rfl ?_
 rintro _ _ ⟨rfl,rfl⟩
 conv=>whnf
 refine z7 1 ?_
 refine Ae (Ab _).symm ?_
 refine Ae (Ab _).symm ?_
 exact⟨.ag (Fq d),Ba ⟨Bf (f:=BE) _ rfl rfl,Bf (f:=E5) _ rfl rfl,ri,ri,tv⟩,rfl⟩
theorem RdL.seal1 {c c1:Ctx} (x1:Ext c c1) {x y:AV} (r1:∀ v,Rd x c v->Rd y c1 v):∀ {l:List AV} {us:List Value} {i:Nat},RdL l c us->l[i]? = some x->RdL (l.set i y) c1 us
 | [],us,i,h,hi=>by simp at hi
 | a::l,us,0,h,hi=>by
  simp only [Dd,Option.some.injEq] at hi
  subst hi
  simp only [List.set_cons_zero,RdL] at h |-
  obtain⟨u,vs,rfl,h1,h2⟩:=h
  exact⟨u,vs,rfl,r1 u h1,RdL.ext _ x1 h2⟩
 | a::l,us,i+1,h,hi=>by
  simp only [List.getElem?_cons_succ] at hi
  simp only [List.set_cons_succ,RdL] at h |-
  obtain⟨u,vs,rfl,h1,h2⟩:=h
  exact⟨u,vs,rfl,Rd.ext _ x1 h1,RdL.seal1 x1 r1 h2 hi⟩
theorem ACalls.sealArg {P:Program} {q:Bool} {f:FuncId} {args:List AV} {H:List AB} {K:AV->List AB->Prop} (i k:Nat) {t:TypeId} {sz:Nat} {es:List (List AV)} (hx:args[i]? = some (.ow k es.length)) (hk:H[k]? = some (.row t sz es))
  (hc:ACalls P q f (args.set i (.sl sz es.length fun j=>es.getD j [])) (H.set k .dead) K):ACalls P q f args H K:=by
 refine⟨hc.go,fun w0 M0 c us hs hr=>?_⟩
 obtain⟨c1,e1,s1,x1,r1⟩:=hs.freeze hk
 have:=hc.calls w0 M0 c1 us s1 (RdL.seal1 x1 r1 hr hx)
 rw [e1] at this
 refine this.mono ?_
 rintro e w' ⟨v,c',r,H2,rfl,rfl,q1,q2,q3,q4,q5⟩
 exact⟨v,c',r,H2,rfl,rfl,q1,q2,x1.trans q3,q4,q5⟩
theorem Y2 {H:List AB} {s:Stt} {t tH tT:TypeId} (j a b:Nat) (hj:H[j]? = some (.box t (stX s (.ow a s.a.homes.length) (.ow b s.txns.length)))) (ha:H[a]? = some (.row tH 3 (s.a.homes.map DG))) (hb:H[b]? = some (.row tT 4 (s.txns.map DH))) (hab:a≠b) (hjb:j≠b) (hja:j≠a) :
  ConvH H (((((H.set a .dead).set j (.box t (stX s (.sl 3 (s.a.homes.map DG).length fun i=>(s.a.homes.map DG).getD i []) (.ow b s.txns.length)))).set b .dead).set j (.box t (stX s (.sl 3 (s.a.homes.map DG).length fun i=>(s.a.homes.map DG).getD i []) (.sl 4 (s.txns.map DH).length fun i=>(s.txns.map DH).getD i [])))).set j (.box t (Fi s))):=by
 have hlt:=(Aq.1 hj).1
 obtain⟨T,hT⟩:∃ T:AV,T = .sl 4 (s.txns.map DH).length fun i=>(s.txns.map DH).getD i []:=⟨_,rfl⟩
 obtain⟨M,hM⟩:∃ M:AV,M = .sl 3 (s.a.homes.map DG).length fun i=>(s.a.homes.map DG).getD i []:=⟨_,rfl⟩
 have t1:∀ (c:Ctx) (v:Value),Rd T c v->Rd (Di s.txns) c v:=by rw [hT];exact Bf (f:=DH) s.txns (Ab _) rfl
 have m1:∀ (c:Ctx) (v:Value),Rd M c v->Rd (I8 s.a.homes) c v:=by rw [hM];exact Bf (f:=DG) s.a.homes (Ab _) rfl
 rw [<-hT,<-hM]
 refine zr (zt j a (cs2:=stX s M (.ow b s.txns.length)) hj ha ?_) (zr (zt j b (cs2:=stX s M T) (t:=t) (cs:=stX s M (.ow b s.txns.length)) ?_ (es':=s.txns.map DH) (t':=tT) (sz':=4) ?_ ?_) (zq j (t:=t) (cs:=stX s M T) ?_ ⟨ri,ri,ri,ri,ri,ri,m1,t1,ri,ri,ri,ri,ri,ri,tv⟩))
 ·rw [<-hM]
  simp only [stX,A0,Bp,FV (Ab _).symm,RV (show (b == a)=false by simpa using Ne.symm hab)]
  rfl
 ·rw [AA (by simpa using hlt)]
 ·rw [A7 hjb,A7 hab,hb]
 ·rw [<-hT]
  subst hM
  simp only [stX,A0,Bp,FV (Ab _).symm]
  rfl
 ·rw [AA (by simpa using hlt)]
theorem WA {H:List AB} {d:Dk} {t tC tW:TypeId} (j a b:Nat) (hj:H[j]? = some (.box t (HK (.ow a d.cells.length) (.ow b d.cache.length) d.reqs d.left))) (ha:H[a]? = some (.row tC 3 (d.cells.map BE))) (hb:H[b]? = some (.row tW 2 (d.cache.map E5))) (hab:a≠b) (hjb:j≠b) (hja:j≠a) :
  ConvH H (((((H.set a .dead).set j (.box t (HK (.sl 3 (d.cells.map BE).length fun i=>(d.cells.map BE).getD i []) (.ow b d.cache.length) d.reqs d.left))).set b .dead).set j (.box t (HK (.sl 3 (d.cells.map BE).length fun i=>(d.cells.map BE).getD i []) (.sl 2 (d.cache.map E5).length fun i=>(d.cache.map E5).getD i []) d.reqs d.left))).set j (.box t (Fq d))):=by
 have hlt:=(Aq.1 hj).1
 obtain⟨T,hT⟩:∃ T:AV,T = .sl 2 (d.cache.map E5).length fun i=>(d.cache.map E5).getD i []:=⟨_,rfl⟩
 obtain⟨M,hM⟩:∃ M:AV,M = .sl 3 (d.cells.map BE).length fun i=>(d.cells.map BE).getD i []:=⟨_,rfl⟩
 have t1:∀ (c:Ctx) (v:Value),Rd T c v->Rd (II d.cache) c v:=by rw [hT];exact Bf (f:=E5) d.cache (Ab _) rfl
 have m1:∀ (c:Ctx) (v:Value),Rd M c v->Rd (NW d.cells) c v:=by rw [hM];exact Bf (f:=BE) d.cells (Ab _) rfl
 rw [<-hT,<-hM]
 refine zr (zt j a (cs2:=HK M (.ow b d.cache.length) d.reqs d.left) hj ha ?_) (zr (zt j b (cs2:=HK M T d.reqs d.left) (t:=t) (cs:=HK M (.ow b d.cache.length) d.reqs d.left) ?_ (es':=d.cache.map E5) (t':=tW) (sz':=2) ?_ ?_) (zq j (t:=t) (cs:=HK M T d.reqs d.left) ?_ ⟨m1,t1,ri,ri,tv⟩))
 ·rw [<-hM]
  simp only [HK,A0,Bp,FV (Ab _).symm,RV (show (b == a)=false by simpa using Ne.symm hab)]
  rfl
 ·rw [AA (by simpa using hlt)]
 ·rw [A7 hjb,A7 hab,hb]
 ·rw [<-hT]
  subst hM
  simp only [HK,A0,Bp,FV (Ab _).symm]
  rfl
 ·rw [AA (by simpa using hlt)]
theorem Xp {es:List (List AV)} {k:Nat} {e e':List AV} (h:SubL e e') (i:Nat):SubL ((es.set k e).getD i []) ((es.set k e').getD i []):=by
 rw [Aa,Aa,List.getElem?_set,List.getElem?_set]
 split
 ·split
  ·exact h
  ·exact SubL.refl _
 ·exact SubL.refl _
def IP (n k:Nat):List (List UInt8):=List.replicate k zero8 ++ List.replicate (n - k) []
theorem Vh {n k:Nat} (h:k<=n):(IP n k).length=n:=by simp [IP];omega
theorem Vg {n k:Nat} (h:k<n):(IP n k).set k zero8=IP n (k+1):=by
 obtain⟨m,rfl⟩:∃ m,n=k+1+m:=⟨n - (k+1),by omega⟩
 unfold IP
 rw [show k+1+m - k=m+1 by omega,show k+1+m - (k+1)=m by omega,Dg,List.set_append_right _ _ (by simp)]
 simp only [B4,D7,List.set_cons_zero]
 rw [List.replicate_succ' (n:=k),A5]
 rfl
theorem Vf (n i:Nat):SubL ((List.replicate ((n:Int).toNat) (List.map AV.v [Value.slice none 0 0])).getD i []) (((IP n 0).map Lg).getD i []):=by
 rw [Ac,IP,List.replicate_zero,Bu,Nat.sub_zero,List.map_replicate]
 by_cases h:i<n
 ·rw [show (List.replicate n (List.map AV.v [Value.slice none 0 0])).getD i []=List.map AV.v [Value.slice none 0 0] by simp [h],show (List.replicate n (Lg [])).getD i []=Lg [] by simp [h]]
  exact⟨Br 1 _,tv⟩
 ·rw [show (List.replicate n (List.map AV.v [Value.slice none 0 0])).getD i []=[] by simp [h],show (List.replicate n (Lg [])).getD i []=[] by simp [h]]
  trivial
theorem zero8_sub:SubL [.sl 1 (Int.toNat 8) fun i=>(List.replicate (Int.toNat 8) (List.map AV.v [Value.int IntKind.u8 0])).getD i []] (Lg zero8):=⟨FU rfl rfl,tv⟩
theorem RP (x:Int) : [AV.v (Value.int .u8 (IntKind.u8.wrap x))]=EK (UInt8.ofNat (IntKind.u8.wrap x).toNat):=by
 rw [EK,IntKind.wrap_u8]
 have h1:0<=x % 256/\x % 256<256:=by omega
 have h2:(UInt8.ofNat (x % 256).toNat).toNat=(x % 256).toNat:=BB (by show (x % 256).toNat<256;omega)
 rw [h2,CE h1.1]
theorem YD (x0 x1 x2 x7:Int):∃ b:List UInt8,b.length=8/\ [[AV.v (Value.int .u8 (IntKind.u8.wrap x0))], [AV.v (Value.int .u8 (IntKind.u8.wrap x1))], [AV.v (Value.int .u8 (IntKind.u8.wrap x2))], [AV.v (Value.int .u8 1)], [AV.v (Value.int .u8 1)], [AV.v (Value.int .u8 1)], [AV.v (Value.int .u8 1)], [AV.v (Value.int .u8 (IntKind.u8.wrap x7))]]=b.map EK:=
 ⟨[UInt8.ofNat (IntKind.u8.wrap x0).toNat,UInt8.ofNat (IntKind.u8.wrap x1).toNat,UInt8.ofNat (IntKind.u8.wrap x2).toNat,1,1,1,1,UInt8.ofNat (IntKind.u8.wrap x7).toNat],rfl,by rw [RP,RP,RP,RP];rfl⟩
theorem af {m:Nat} (h:Nat.ble 13 m=true):∀ z∈ [7,8,9,10,11,12],z<m:=fun z hz=>by
 have:=Ag h
 simp at hz
 omega
theorem Vo.mono {g:Geo} {K K':Int} {M:Md} (h:Vo g K M) (hk:K<=K'):Vo g K' M:=⟨h.an,h.ring,Int.le_trans h.gen hk,Int.le_trans h.seq hk,h.one,h.fb,h.m⟩
theorem ZH {m:Nat} (h:Nat.ble 12 m=true):∀ z∈ [6,7,8,9,10,11],z<m:=fun z hz=>by
 have:=Ag h
 simp at hz
 omega
theorem Yt {g:Geo} (hg:Bt g=true):1<=g.z*g.d/\g.z*g.d<=16:=by
 obtain⟨g1,g2,g3,g4,g5⟩:=As.1 hg
 rcases(show g.z=1\/g.z=2\/g.z=3\/g.z=4 by omega) with h | h | h | h <;> rw [h] <;> omega
@[reducible] def stZ:List AV:= [.v (.int .i64 0), .v (.int .i64 0), .v (.int .i64 0), .v (.int .i64 0), .v (.int .i64 0), .v (.string ⟨#[]⟩), .v (.slice none 0 0), .v (.slice none 0 0), .v (.bool false), .v (.int .i64 0), .v (.int .i64 0), .v (.int .i64 0), .v (.int .i64 0), .v (.slice none 0 0)]
@[reducible] def dkZ:List AV:= [.v (.slice none 0 0), .v (.slice none 0 0), .v (.int .i64 0), .v (.int .i64 0)]
@[reducible] def plH (g:Geo) (M:Md) (d:Dk):List AB:= [.box 23 (AY g), .box 34 stZ, .box 38 dkZ, .box 34 (Fi (AO M.a M.l)), .box 38 (Fq d), .row 49 1 (M.m.map Lg)]
theorem Nw (g:Geo) (L:List Q2) (hg:Bt g=true) (hl:L.length<=1000000):Fn Tryz.prog 10 [.ag (AY g),Rg L, .v (.slice none 0 0)] fun r=>∃ M d,Z0 g L (min L.length 6) M/\Gd (Av g) d M.F/\Vo g 14 M/\r = .tp [.ag (Fi (AO M.a M.l)), .ag (Fq d),Ji M.m]:=by
 obtain⟨g1,g2,g3,g4,g5⟩:=As.1 hg
 obtain⟨n1,n2⟩:=Yt hg
 obtain⟨n,hn⟩:∃ n:Nat,(n:Int)=g.z*g.d:=⟨(g.z*g.d).toNat,by omega⟩
 have hon:=YP g hg
 obtain⟨-, -, -, -, -,hvo⟩:=VC hg
 refine zT Tryz.func10 rfl ?_
 conv=>whnf
 refine zI hon rfl ?_
 rintro _ ⟨D,rfl,hD⟩
 conv=>whnf
 rw [wi (show -9223372036854775808<=g.z*g.d/\g.z*g.d<=9223372036854775807 by omega),<-hn]
 refine⟨⟨rfl,by omega,by omega⟩,?_⟩
 conv=>whnf
 refine zV Nat (fun k=>([(1,Rg L),(2, .v (.slice none 0 0)),(3, .bp 0 0),(6, .bp 1 0),(7, .bp 2 0),(9, .bp 3 0),(10, .bp 4 0),(11, .v (.int .i64 (n:Nat))),(12, .ow 5 n),(13, .v (.int .i64 (k:Nat)))], [.box 23 (AY g), .box 34 stZ, .box 38 dkZ, .box 34 (Fi (AO (Fp g).a (Fp g).l)), .box 38 (Fq D), .row 49 1 ((IP n k).map Lg)])) (fun k=>k<=n) (fun k=>n - k) 0 (Aj _)
  (zD (zK (zB (k:=5) (es':=(IP n 0).map Lg) rfl (by simp [IP]) fun i=>Vf n i)) (s:= [0,1,2,3,4,5]) ⟨⟨rfl,rfl,rfl,rfl,rfl,rfl,rfl,rfl,rfl,rfl,tv⟩,⟨rfl,rfl,rfl,rfl,rfl,rfl,tv⟩,rfl,rfl,rfl,rfl,rfl⟩) ?_
 intro k hk
 conv=>whnf
 refine A3 (fun h6=>?_) (fun h6=>?_) <;> (repeat rw [Ac] at h6) <;> conv=>whnf
 ·have hk2:k<n:=by omega
  have hkl:=Vh hk
  repeat' (refine zX ?_;conv=>whnf)
  refine⟨⟨by omega,by omega⟩,?_⟩
  refine⟨⟨by omega,by omega⟩,?_⟩
  refine⟨rfl,?_⟩
  conv=>whnf
  refine Ae ⟨rfl,by rw [Ab,hkl],by show k<n;omega⟩ ?_
  conv=>whnf
  rw [Ac,show ((IP n k).map Lg).getD k []=Lg ((IP n k).getD k []) from Bn (by omega)]
  exact⟨k+1,by omega,by omega,zD (zK (zB (k:=5) (es':=((IP n k).map Lg).set k (Lg zero8)) rfl (by simp) fun j=>Xp zero8_sub j)) (s:= [0,1,2,3,4,5]) ⟨⟨rfl,rfl,rfl,rfl,rfl,rfl,rfl,rfl,rfl,AS (by omega),tv⟩,⟨rfl,rfl,rfl,rfl,rfl,congrArg (fun es=>some (AB.row 49 1 es)) (by rw [<-Vg hk2,CA]),tv⟩,rfl,rfl,rfl,rfl,rfl⟩⟩
 have ek:k=n:=by omega
 subst ek
 have hm0:IP k k=(Fp g).m:=by
  show _=List.replicate (g.z*g.d).toNat zero8
  unfold IP
  rw [<-hn]
  simp
 rw [hm0]
 conv=>whnf
 refine zV (Nat × Md × Dk) (fun x=>([(1,Rg L),(2, .v (.slice none 0 0)),(3, .bp 0 0),(6, .bp 1 0),(7, .bp 2 0),(9, .bp 3 0),(10, .bp 4 0),(11, .v (.int .i64 (k:Nat))),(12, .ow 5 k),(14, .v (.int .i64 (x.1:Nat)))],plH g x.2.1 x.2.2)) (fun x=>x.1<=min L.length 6/\Z0 g L x.1 x.2.1/\Gd (Av g) x.2.2 x.2.1.F/\Vo g (2+2*(x.1:Nat)) x.2.1) (fun x=>min L.length 6 - x.1) (0,Fp g,D) ⟨Aj _,rfl,hD,hvo⟩
  (zR (s:= [0,1,2,3,4,5]) ⟨⟨rfl,rfl,rfl,rfl,rfl,rfl,rfl,rfl,rfl,rfl,tv⟩,⟨rfl,rfl,rfl,rfl,rfl,rfl,tv⟩,rfl,rfl,rfl,rfl,rfl⟩) ?_
 rintro⟨i,M,d⟩ ⟨hi,hpl,hd,hv⟩
 simp only at hi hpl hd hv
 by_cases him:i<min L.length 6
 ·have hiL:i<L.length:=by omega
  conv=>whnf
  rw [show decide ((i:Int)<(L.length:Nat))=true from decide_eq_true (by omega)]
  conv=>whnf
  rw [show decide ((i:Int)<6)=true from decide_eq_true (by omega)]
  conv=>whnf
  repeat' (refine zX ?_;conv=>whnf)
  refine⟨⟨by omega,by omega⟩,?_⟩
  refine⟨by decide,?_⟩
  conv=>whnf
  have ek:IntKind.u64.wrap (k:Int)=k:=by rw [IntKind.wrap_u64];omega
  rw [ek]
  refine⟨by omega,?_⟩
  conv=>whnf
  obtain⟨A,hA⟩:∃ A,A=Km (L.getD (i:Int).toNat ⟨0,0⟩).a (k:Nat):=⟨_,rfl⟩
  have hA2:0<=A/\A<(k:Nat):=by rw [hA];exact FB (by omega) (by omega)
  rw [show IntKind.i64.wrap ((IntKind.u64.wrap (L.getD (i:Int).toNat ⟨0,0⟩).a).tmod (k:Int))=A from hA.symm]
  refine aDraw.conv ?_
  apply zW (0) tys_ok mixed (.one 0 (.one 1 (.one 2 (.one 3 (.one 4 (.one 5 (.one 6 (.one 7 (.one 8 (.one 9 (.one 10 (.one 11 (.one 12 (.one 13 (.one 14 (.one 15 (.one 16 (.one 17 (.one 18 .fin))))))))))))))))))) (by kernel_rfl)
  conv=>whnf
  try (refine tI ?_;conv=>whnf)
  try (refine tI ?_;conv=>whnf)
  try (refine tI ?_;conv=>whnf)
  try (refine tI ?_;conv=>whnf)
  refine⟨by decide,?_⟩
  conv=>whnf
  obtain⟨b,hb8,hbe⟩:=YD (L.getD (i:Int).toNat ⟨0,0⟩).b ((L.getD (i:Int).toNat ⟨0,0⟩).b.fdiv (2 ^ min (Int.toNat 8) IntKind.i64.bits)) (i:Nat) A
  refine⟨_,_,zO (zJ 16 6 rfl rfl) (zF 16 rfl (FU (L:=b) hb8.symm hbe)),?_⟩
  have e3:(3+2*(i:Nat):Int)=2+2*(i:Nat)+1:=by omega
  have hvol:=hv.vol hd
  have hbeg:=LP g d (AO M.a M.l) hd.ok (hvol.sm hg)
  have hcm:=Q_ g M.a M.l d M.F (2+2*(i:Nat)) A b hg hvol (by omega) hd (fun q=>Bi (hv.fb q) (by decide)) (by omega) hb8
  conv=>whnf
  refine zU hbeg rfl ?_
  rintro _ _ ⟨rfl,rfl⟩
  conv=>whnf
  refine aSeq.cutR (Md × Dk) (fun x=>([(1,Rg L),(2, .v (.slice none 0 0)),(3, .bp 0 0),(6, .bp 1 0),(7, .bp 2 0),(9, .bp 3 0),(10, .bp 4 0),(11, .v (.int .i64 (k:Nat))),(12, .ow 5 k),(14, .v (.int .i64 (i:Nat)))],plH g x.1 x.2)) (fun x=>ae g M A b x.1/\Gd (Av g) x.2 x.1.F/\Vo g (3+2*(i:Nat)) x.1) ?_ ?_
  ·conv=>whnf
   refine ACalls.sealArg 1 13 rfl rfl ?_
   refine ACalls.sealArg 2 14 rfl rfl ?_
   refine zY [.bp 7 0,iA [A],Ji [b]] ⟨ri,Gl (L:= [A]) rfl rfl,Hy (L:= [b]) rfl rfl,tv⟩ ?_
   refine zZ [7,8,9,10,11,12] hcm rfl rfl rfl rfl (by decide) (af rfl) ⟨rfl,rfl,rfl,rfl,rfl,rfl,tv⟩ ?_
   rintro _ _ (⟨rfl,ok1,ok2,d2,W,hd2,hW,hv2,rfl⟩ | ⟨e,he,rfl,hbad,d2,rfl⟩)
   ·conv=>whnf
    apply zW (1024) tys_ok mixed (.one 0 (.one 1 (.one 2 (.one 3 (.one 4 (.one 5 (.one 6 (.one 7 (.one 8 (.one 9 (.two 10 (.one 11 (.one 12 .fin)) 11 (.one 10 (.one 12 .fin))))))))))))) (by kernel_rfl)
    refine Ae ?_ ?_
    conv=>whnf
    try (refine tS ?_;conv=>whnf)
    try (refine tS ?_;conv=>whnf)
    rotate_left 1
    conv=>whnf
    try (refine tS ?_;conv=>whnf)
    try (refine tS ?_;conv=>whnf)
    rotate_left 1
    all_goals
     refine⟨⟨by omega,by omega⟩,?_⟩
     conv=>whnf
     refine Ae ⟨rfl,by rw [Ab];show k=M.m.length;have:=hv.m;omega,by omega⟩ ?_
     conv=>whnf
     rw [show (M.m.map Lg).getD A.toNat []=Lg (M.m.getD A.toNat []) from Bn (by have:=hv.m;omega)]
     conv=>whnf
     exact⟨(⟨M.a,M.l ++ [Gx g M.a M.l M.F A b],HM M.F W,M.m.set A.toNat b⟩,d2),⟨.inl ⟨ok1,ok2,W,hW,rfl⟩,hd2,Vo.of (M:=⟨M.a,M.l ++ [Gx g M.a M.l M.F A b],HM M.F W,M.m.set A.toNat b⟩) (by rw [e3];exact hv2) (Q1 hv.fb fun w hw=>(hW w hw).2) (by show ((M.m.set A.toNat b).length:Int)=_;rw [Bh];exact hv.m)⟩,zD (zK (zr (Y2 (s:=AO M.a (M.l ++ [Gx g M.a M.l M.F A b])) 3 11 12 rfl rfl rfl (by decide) (by decide) (by decide)) (WA (d:=d2) 4 9 15 rfl rfl rfl (by decide) (by decide) (by decide)))) (s:= [0,1,2,3,4,5]) ⟨⟨rfl,rfl,rfl,rfl,rfl,rfl,rfl,rfl,rfl,rfl,tv⟩,⟨rfl,rfl,rfl,rfl,rfl,congrArg (fun es=>some (AB.row 49 1 es)) (CA (f:=Lg)).symm,tv⟩,rfl,rfl,rfl,rfl,rfl⟩⟩
   ·conv=>whnf
    rw [show (e == 0)=false from beq_eq_false_iff_ne.2 he]
    exact⟨(M,d),⟨.inr ⟨hbad,rfl⟩,hd,hv.mono (by omega)⟩,zR (s:= [0,1,2,3,4,5]) ⟨⟨rfl,rfl,rfl,rfl,rfl,rfl,rfl,rfl,rfl,rfl,tv⟩,⟨rfl,rfl,rfl,rfl,rfl,rfl,tv⟩,rfl,rfl,rfl,rfl,rfl⟩⟩
  rintro⟨M2,d2⟩ ⟨hcr,hd2,hv2⟩
  simp only at hcr hd2 hv2
  have hstep:∀ M3,M3=(if (L.getD i ⟨0,0⟩).b.tmod 3=0 then Xc g M2 else M2)->Z0 g L (i+1) M3:=fun M3 h=>⟨M,M2,hpl,⟨A,b,by omega,hb8,hcr⟩,h⟩
  refine⟨⟨by omega,by omega⟩,?_⟩
  refine⟨by decide,?_⟩
  conv=>whnf
  rw [Ac]
  refine⟨by decide,?_⟩
  conv=>whnf
  by_cases h3:(L.getD i ⟨0,0⟩).b.tmod 3=0
  rotate_left 1
  ·rw [show ((L.getD i ⟨0,0⟩).b.tmod 3 == 0)=false from beq_eq_false_iff_ne.2 h3]
   conv=>whnf
   exact⟨(i+1,M2,d2),⟨by show i+1<=min L.length 6;omega,hstep M2 (if_neg h3).symm,hd2,hv2.mono (by omega)⟩,by show min L.length 6 - (i+1)<min L.length 6 - i;omega,zR (s:= [0,1,2,3,4,5]) ⟨⟨rfl,rfl,rfl,rfl,rfl,rfl,rfl,rfl,rfl,AS (by omega),tv⟩,⟨rfl,rfl,rfl,rfl,rfl,rfl,tv⟩,rfl,rfl,rfl,rfl,rfl⟩⟩
  rw [show ((L.getD i ⟨0,0⟩).b.tmod 3 == 0)=true from beq_iff_eq.2 h3]
  have hvol2:=hv2.vol hd2
  have hbeg2:=LP g d2 (AO M2.a M2.l) hd2.ok (hvol2.sm hg)
  obtain⟨a2,l2,F2,m2⟩:=M2
  conv=>whnf
  refine zU hbeg2 rfl ?_
  rintro _ _ ⟨rfl,rfl⟩
  conv=>whnf
  cases l2 with
  | nil=>
   have hck:=Ra g a2 d2
   refine zZ [6,7,8,9,10,11] hck rfl rfl rfl rfl (by decide) (ZH rfl) ⟨rfl,rfl,rfl,rfl,rfl,rfl,tv⟩ ?_
   rintro _ _ ⟨rfl,rfl⟩
   conv=>whnf
   apply zW (1024) tys_ok mixed (.one 0 (.one 1 (.one 2 (.one 3 (.one 4 (.one 5 (.one 6 (.one 7 (.one 8 (.one 9 (.two 10 (.one 11 (.one 12 .fin)) 11 (.one 10 (.one 12 .fin))))))))))))) (by kernel_rfl)
   refine Ae ?_ ?_
   conv=>whnf
   try (refine tS ?_;conv=>whnf)
   try (refine tS ?_;conv=>whnf)
   rotate_left 1
   conv=>whnf
   try (refine tS ?_;conv=>whnf)
   try (refine tS ?_;conv=>whnf)
   rotate_left 1
   all_goals
    exact⟨(i+1,⟨a2, [],F2,m2⟩,d2),⟨by show i+1<=min L.length 6;omega,hstep _ ((show (⟨a2, [],F2,m2⟩:Md)=Xc g ⟨a2, [],F2,m2⟩ from rfl).trans (if_pos h3).symm),hd2,hv2.mono (by omega)⟩,by show min L.length 6 - (i+1)<min L.length 6 - i;omega,zD (zK (zr (Y2 (s:=AO a2 []) 3 10 11 rfl rfl rfl (by decide) (by decide) (by decide)) (WA (d:=d2) 4 8 9 rfl rfl rfl (by decide) (by decide) (by decide)))) (s:= [0,1,2,3,4,5]) ⟨⟨rfl,rfl,rfl,rfl,rfl,rfl,rfl,rfl,rfl,AS (by omega),tv⟩,⟨rfl,rfl,rfl,rfl,rfl,rfl,tv⟩,rfl,rfl,rfl,rfl,rfl⟩⟩
  | cons x r=>
   have hck:=Tk g a2 x r d2 F2 (3+2*(i:Nat)) hg hvol2 (by omega) hd2
   refine zZ [6,7,8,9,10,11] hck rfl rfl rfl rfl (by decide) (ZH rfl) ⟨rfl,rfl,rfl,rfl,rfl,rfl,tv⟩ ?_
   rintro _ _ ⟨rfl,d3,hd3,rfl⟩
   conv=>whnf
   have hvc:=Vo.ck hg hv2 (by omega) hd2 (d':=d3) hd3
   apply zW (1024) tys_ok mixed (.one 0 (.one 1 (.one 2 (.one 3 (.one 4 (.one 5 (.one 6 (.one 7 (.one 8 (.one 9 (.two 10 (.one 11 (.one 12 .fin)) 11 (.one 10 (.one 12 .fin))))))))))))) (by kernel_rfl)
   refine Ae ?_ ?_
   conv=>whnf
   try (refine tS ?_;conv=>whnf)
   try (refine tS ?_;conv=>whnf)
   rotate_left 1
   conv=>whnf
   try (refine tS ?_;conv=>whnf)
   try (refine tS ?_;conv=>whnf)
   rotate_left 1
   all_goals
    exact⟨(i+1,⟨B8 g a2 x,r,EL g a2 x F2,m2⟩,d3),⟨by show i+1<=min L.length 6;omega,hstep _ ((show (⟨B8 g a2 x,r,EL g a2 x F2,m2⟩:Md)=Xc g ⟨a2,x::r,F2,m2⟩ from rfl).trans (if_pos h3).symm),hd3,hvc.mono (by omega)⟩,by show min L.length 6 - (i+1)<min L.length 6 - i;omega,zD (zK (WA (d:=d3) 4 8 12 rfl rfl rfl (by decide) (by decide) (by decide))) (s:= [0,1,2,3,4,5]) ⟨⟨rfl,rfl,rfl,rfl,rfl,rfl,rfl,rfl,rfl,AS (by omega),tv⟩,⟨rfl,rfl,rfl,rfl,rfl,rfl,tv⟩,rfl,rfl,rfl,rfl,rfl⟩⟩
 ·have ei:i=min L.length 6:=by omega
  have hsp:=Q9 g d hd.ok
  conv=>whnf
  by_cases hiL:i<L.length
  rw [show decide ((i:Int)<(L.length:Nat))=true from decide_eq_true (by omega)]
  conv=>whnf
  rw [show decide ((i:Int)<6)=false from decide_eq_false (by omega)]
  conv=>whnf
  rotate_left 1
  rw [show decide ((i:Int)<(L.length:Nat))=false from decide_eq_false (by omega)]
  conv=>whnf
  all_goals
   apply zW (0) tys_ok mixed (.one 0 (.one 1 (.one 2 (.one 3 (.one 5 (.one 4 (.one 6 (.one 7 (.one 8 .fin))))))))) (by kernel_rfl)
   conv=>whnf
   refine z_ hsp ?_
   conv=>whnf
   try (refine tS ?_;conv=>whnf)
   try (refine tS ?_;conv=>whnf)
  all_goals
   refine Ae (by rw [Ab];show k=M.m.length;have:=hv.m;omega) ?_
   conv=>whnf
   exact⟨.tp [.ag (Fi (AO M.a M.l)), .ag (Fq d),Ji M.m],Cg (m:= [.ag (Fi (AO M.a M.l)), .ag (Fq d),Ji M.m]) ⟨ri,ri,Hy (by have:=hv.m;omega) rfl,tv⟩,M,d,ei ▸ hpl,hd,hv.mono (by omega),rfl⟩
theorem My (l:List Tx) (x:Tx) (z w:Int):∀ k,k<=l.length->Ez (l ++ [x]) z w k=Ez l z w k
 | 0,_=>rfl
 | k+1,hk=>by
  have e:(l ++ [x]).getD k tz=l.getD k tz:=by
   rw [Aa,Aa,AC (by omega)]
  rw [Ez,Ez,e,My l x z w k (by omega)]
theorem Jd (l:List Tx) (x:Tx) (z w:Int):CL (l ++ [x]) z w=match Ck x.images z w x.images.length with
  | some i=>some (i,x.seq)
  | none=>CL l z w:=by
 unfold CL
 rw [Ai,Al,AW,Az,Ez,My l x z w _ (Ah _),show (l ++ [x]).getD l.length tz=x by simp]
 cases Ck x.images z w x.images.length <;> rfl
theorem Mz (x:Tx) (r:List Tx) (z w:Int):∀ k,Ez (x::r) z w (k+1)=match Ez r z w k with
  | some p=>some p
  | none=>match Ck x.images z w x.images.length with
   | some i=>some (i,x.seq)
   | none=>none
 | 0=>rfl
 | k+1=>by
  rw [Ez,Mz x r z w k,Ez,show (x::r).getD (k+1) tz=r.getD k tz from rfl]
  cases Ck (r.getD k tz).images z w (r.getD k tz).images.length <;> rfl
theorem M4 (x:Tx) (r:List Tx) (z w:Int):CL (x::r) z w=match CL r z w with
  | some p=>some p
  | none=>match Ck x.images z w x.images.length with
   | some i=>some (i,x.seq)
   | none=>none:=Mz x r z w r.length
theorem QC {g:Geo} (hg:Bt g=true) {z z' s s':Int} (hz:0<=z/\z<g.z) (hz':0<=z'/\z'<g.z) (hs:0<=s/\s<Cy g) (hs':0<=s'/\s'<Cy g) (h:Cb g z s=Cb g z' s'):z=z'/\s=s':=by
 obtain⟨g1,g2,g3,g4,g5⟩:=As.1 hg
 have hp:=GA hg
 unfold Cb at h
 have e:z*Cy g+s=z'*Cy g+s':=by omega
 have key:z=z':=by
  rcases Int.lt_trichotomy z z' with q | q | q
  ·have:=BT (show z+1<=z' by omega) (show 0<=Cy g by omega)
   rw [Int.add_mul,Int.one_mul] at this
   omega
  ·exact q
  ·have:=BT (show z'+1<=z by omega) (show 0<=Cy g by omega)
   rw [Int.add_mul,Int.one_mul] at this
   omega
 subst key
 exact⟨rfl,by omega⟩
theorem V7 {l:List Int} {n:Int} (h:O1 l n=true) {i j:Nat} (hi:i<l.length) (hj:j<l.length) (e:l.getD i 0=l.getD j 0):i=j:=by
 have key:∀ i j:Nat,i<j->j<l.length->l.getD i 0≠l.getD j 0:=fun i j hij hj e=>by
  have h1:=Aw.1 h j (by simpa using hj)
  simp only [Ad,Bm,List.any_eq_false] at h1
  refine h1.2 (l.getD i 0) ?_ (by rw [e];simp)
  rw [Aa,Af (by omega),Bz]
  exact List.mem_take_iff_getElem.2 ⟨i,by omega,rfl⟩
 rcases Nat.lt_trichotomy i j with q | q | q
 ·exact absurd e (key i j q hj)
 ·exact q
 ·exact absurd e.symm (key j i q hi)
theorem U1 {g:Geo} (hg:Bt g=true) {a:An} (ha:Bg g a=true) {z z' w w':Int} (hz:0<=z/\z<g.z) (hz':0<=z'/\z'<g.z) (hw : -1<=w/\w<g.d) (hw' : -1<=w'/\w'<g.d) (h:Bw g a z w=Bw g a z' w'):z=z'/\w=w':=by
 obtain⟨g1,g2,g3,g4,g5⟩:=As.1 hg
 obtain⟨s,e1,e2⟩:=D_ hg ha hz hw
 obtain⟨s',e1',e2'⟩:=D_ hg ha hz' hw'
 have hz0:=(QC hg hz hz' e2 e2' (by rw [<-e1,<-e1'];exact h)).1
 subst hz0
 obtain⟨hi,hh⟩:=JG ha hz
 simp only [DN,Ad,decide_eq_true_eq,AL] at hh
 obtain⟨p1,p2,p3,p4⟩:=hh
 have hat:∀ w,(-1<=w/\w<g.d)->0<=E0 g w/\E0 g w<=g.d:=fun w hw=>by unfold E0;split <;> omega
 unfold Bw Cb at h
 have:=V7 p4 (i:=(E0 g w).toNat) (j:=(E0 g w').toNat) (by have:=hat w hw;omega) (by have:=hat w' hw';omega) (by omega)
 refine⟨rfl,?_⟩
 have h1:=hat w hw
 have h2:=hat w' hw'
 have h3:E0 g w=E0 g w':=by omega
 unfold E0 at h3
 split at h3 <;> split at h3 <;> omega
theorem Oc {F:Int->List UInt8} (l m:List Wr) (a:Int):HM F (l ++ m) a=HM (HM F l) m a:=by
 have key:∀ (n:Nat) (m:List Wr),m.length=n->HM F (l ++ m) a=HM (HM F l) m a:=by
  intro n
  induction n with
  | zero=>
   intro m hm
   obtain rfl:=AX.1 hm
   rw [AM]
   rfl
  | succ n ih=>
   intro m hm
   rcases CM m with rfl | ⟨k,x,rfl⟩
   ·cases hm
   ·have:=ih k (by simpa using hm)
    rw [CN,<-A5]
    unfold HM at this |-
    rw [Es,Es]
    by_cases hx:x.addr=a
    ·rw [if_pos hx,if_pos hx]
    ·rw [if_neg hx,if_neg hx]
     exact this
 exact key _ m rfl
theorem Lh {F:Int->List UInt8} (w:Wr) (a:Int):HM F [w] a=if w.addr=a then w.bytes else F a:=by
 show (match H8 ([] ++ [w]) a with | some w=>w.bytes | none=>F a)=_
 rw [Es]
 by_cases hx:w.addr=a
 ·rw [if_pos hx,if_pos hx]
 ·rw [if_neg hx,if_neg hx]
  rfl
theorem Ng {α:Type} {d:α} {l:List α} {k:Nat} (h:k<l.length):l.take (k+1)=l.take k ++ [l.getD k d]:=by
 rw [Bj,Af h,Aa,Af h]
 rfl
theorem UE {g:Geo} (hg:Bt g=true) {a:An} (ha:Bg g a=true) {l:List Img} (hl:∀ x∈l,B9 g x=true) {seq:Int} {F:Int->List UInt8} {z w:Int} (hz:0<=z/\z<g.z) (hw : -1<=w/\w<g.d):∀ k,k<=l.length->HM F (BL g a seq (l.take k)) (Bw g a z w)=match Ck l z w k with
  | some i=>Bk (Bw g a z w) seq i.bytes
  | none=>F (Bw g a z w)
 | 0,_=>rfl
 | k+1,hk=>by
  obtain⟨g1,g2,g3,g4,g5⟩:=As.1 hg
  have ih:=UE hg ha hl (seq:=seq) (F:=F) hz hw k (by omega)
  have hy:=hl _ (A9 (d:=iz) (show k<l.length by omega))
  obtain⟨hyz,hyb⟩:=Db hy
  rw [Ng (d:=iz) (show k<l.length by omega),EI,Oc,Ck]
  obtain⟨y,ey⟩:∃ y,y=l.getD k iz:=⟨_,rfl⟩
  rw [<-ey] at hy hyz hyb |-
  show HM (HM F (BL g a seq (l.take k))) (B_ g a seq y ++ []) (Bw g a z w)=_
  rw [AM]
  obtain⟨s,e1,e2⟩:=D_ hg ha hz hw
  have hsl:=E_ hg hz e2
  by_cases h255:y.what=255
  ·rw [if_neg (by omega),Jn _ _ rfl fun v hv e=>?_]
   ·exact ih
   ·unfold B_ at hv
    rw [if_pos h255] at hv
    have t0:=Ft hg hyz (k:=0) (by omega)
    have t1:=Ft hg hyz (k:=1) (by omega)
    rw [e1] at e
    rcases AQ.1 hv with rfl | hv
    ·simp only at e;omega
    ·rw [AE] at hv
     subst hv
     simp only at e
     omega
  ·have hb:=hyb h255
   unfold B_
   rw [if_neg h255,Lh]
   by_cases hyw:y.zone=z/\y.what=w
   ·rw [if_pos hyw,if_pos (by rw [hyw.1,hyw.2])]
    show Bk (Bw g a y.zone y.what) seq y.bytes=Bk (Bw g a z w) seq y.bytes
    rw [hyw.1,hyw.2]
   ·rw [if_neg hyw,if_neg (fun e=>hyw (U1 hg ha hyz hz (by omega) hw e))]
    exact ih
theorem UD {g:Geo} (hg:Bt g=true) {a:An} (ha:Bg g a=true) {l:List Img} (hl:∀ x∈l,B9 g x=true) {seq:Int} {F:Int->List UInt8} {z c:Int} (hz:0<=z/\z<g.z) (hc:0<=c/\c<=1):∀ k,k<=l.length->HM F (BL g a seq (l.take k)) (AG g z c)=match Ck l z 255 k with
  | some i=>Bk (AG g z c) seq i.bytes
  | none=>F (AG g z c)
 | 0,_=>rfl
 | k+1,hk=>by
  obtain⟨g1,g2,g3,g4,g5⟩:=As.1 hg
  have ih:=UD hg ha hl (seq:=seq) (F:=F) hz hc k (by omega)
  have hy:=hl _ (A9 (d:=iz) (show k<l.length by omega))
  obtain⟨hyz,hyb⟩:=Db hy
  rw [Ng (d:=iz) (show k<l.length by omega),EI,Oc,Ck]
  obtain⟨y,ey⟩:∃ y,y=l.getD k iz:=⟨_,rfl⟩
  rw [<-ey] at hy hyz hyb |-
  show HM (HM F (BL g a seq (l.take k))) (B_ g a seq y ++ []) (AG g z c)=_
  rw [AM]
  have ht:=Ft hg hz hc
  by_cases h255:y.what=255
  ·have e2:B_ g a seq y=[⟨AG g y.zone 0,Bk (AG g y.zone 0) seq y.bytes⟩] ++ [⟨AG g y.zone 1,Bk (AG g y.zone 1) seq y.bytes⟩]:=by unfold B_;rw [if_pos h255];rfl
   rw [e2,Oc,Lh,Lh,ih]
   by_cases hyw:y.zone=z
   ·rw [hyw]
    have h01:¬AG g z 1=AG g z 0:=by unfold AG;omega
    rcases(show c=0\/c=1 by omega) with rfl | rfl
    ·rw [if_neg h01,if_pos rfl,if_pos ⟨rfl,h255⟩]
    ·rw [if_pos rfl,if_pos ⟨rfl,h255⟩]
   ·have n0:¬AG g y.zone 0=AG g z c:=by unfold AG;omega
    have n1:¬AG g y.zone 1=AG g z c:=by unfold AG;omega
    rw [if_neg n1,if_neg n0,if_neg (fun h:y.zone=z/\y.what=255=>hyw h.1)]
  ·have hb:=hyb h255
   obtain⟨s,e1,e2⟩:=D_ hg ha hyz (show -1<=y.what/\y.what<g.d by omega)
   have hsl:=E_ hg hyz e2
   have n0:¬Bw g a y.zone y.what=AG g z c:=by omega
   unfold B_
   rw [if_neg h255,Lh,if_neg n0,if_neg (fun h:y.zone=z/\y.what=255=>h255 h.2)]
   exact ih
theorem S7 {g:Geo} {a:An} {F:Int->List UInt8} {q:Int} (hq:g.an<=q):HM F (AD g a) q=F q:=by
 refine Jn _ _ rfl fun w hw e=>?_
 obtain⟨j,hj,rfl⟩:=JU hw
 have e':(j:Int)=q:=e
 omega
theorem Pk {x:Gt} {a s:Int} {p:List UInt8} (he:x.err=0) (hx:x.bytes=Bk a s p) (h:U6 a s p):BK x a=some ⟨a,s,p⟩:=by
 obtain⟨h1,h2,h3,h4⟩:=Kb h
 unfold BK
 rw [he,hx,h1,h2,h3,h4,if_pos ⟨rfl,rfl,rfl⟩]
theorem NY {a s:Int} {p:List UInt8} {e:Ent} (h:U6 a s p) (h8:p.length=8) (h1:e.stamp=s) (h2:((De p:Nat):Int)=e.sum):Ec ⟨0,Bk a s p⟩ a e=some p:=by
 unfold Ec
 rw [Pk rfl rfl h]
 simp only
 rw [if_pos ⟨h1.symm,h8,h2⟩]
theorem Nh {g:Geo} {a s:Int} {p:List UInt8} (h:U6 a s p):BO g ⟨0,Bk a s p⟩ a s=Cu g p:=by
 unfold BO
 rw [Pk rfl rfl h]
 simp only [if_true]
def NG (v:Int->List UInt8):Nat->List UInt8
 | 0=>zero8
 | k+1=>I5 (NG v k) (v (k:Nat))
structure ZoneV (g:Geo) (a:An) (l:List Tx) (F:Int->List UInt8) (z:Int) (t:List Ent) (v:Int->List UInt8):Prop where
 tab:E6 g (AO a l) F z=some t
 len:∀ w, -1<=w->w<g.d->(v w).length=8
 ent:∀ w, -1<=w->w<g.d->(t.getD (E0 g w).toNat ez).lost=false/\((De (v w):Nat):Int)=(t.getD (E0 g w).toNat ez).sum
 val:∀ w, -1<=w->w<g.d->match CL l z w with
  | some p=>p.1.bytes=v w/\(t.getD (E0 g w).toNat ez).stamp=p.2
  | none=>Ec ⟨0,F (Bw g a z w)⟩ (Bw g a z w) (t.getD (E0 g w).toNat ez)=some (v w)
 par:v (-1)=NG v g.d.toNat
def VolV (g:Geo) (a:An) (l:List Tx) (F:Int->List UInt8) (V:Int->Int->List UInt8):Prop:=∀ z,0<=z->z<g.z->∃ t,ZoneV g a l F z t (V z)
theorem ZoneV.one {g:Geo} {a:An} {l:List Tx} {F:Int->List UInt8} {z:Int} {t:List Ent} {v:Int->List UInt8} (h:ZoneV g a l F z t v) {w:Int} (hw : -1<=w/\w<g.d):K_ g (AO a l) F t z w=v w:=by
 have:=h.val w hw.1 hw.2
 unfold K_
 show (match CL l z w with | some p=>p.1.bytes | none=>_)=_
 cases hf:CL l z w with
 | some p=>rw [hf] at this;exact this.1
 | none=>
  rw [hf] at this
  simp only at this |-
  show (Ec ⟨0,F (Bw g a z w)⟩ (Bw g a z w) (t.getD (E0 g w).toNat ez)).getD []=_
  rw [this]
  rfl
theorem Yj {n:Int} {F:Int->List UInt8} {q:Int} (h0:0<=q) (h1:q<n):MG n F q=F q:=if_pos ⟨h0,h1⟩
theorem fold_zero:∀ k,NG (fun _=>zero8) k=zero8
 | 0=>rfl
 | k+1=>by rw [NG,fold_zero k];rfl
theorem PJ {g:Geo} (hg:Bt g=true):VolV g (Fp g).a (Fp g).l (Fp g).F fun _ _=>zero8:=by
 obtain⟨g1,g2,g3,g4,g5⟩:=As.1 hg
 intro z h0 h1
 obtain⟨k,rfl⟩:∃ k:Nat,z=(k:Nat):=⟨z.toNat,by omega⟩
 have hcb:=Eu hg
 have hpb:=GA hg
 have ht0:=Xj hg
 have hzh:((Fp g).a.homes.getD k ⟨[],0,0⟩)=⟨(List.range (g.d+1).toNat).map Int.ofNat,g.d+1,0⟩:=by
  show (List.replicate g.z.toNat _).getD k _=_
  rw [Aa,C3,if_pos (by omega)]
  rfl
 have hF:∀ q,g.an+2*g.sl<=q->q<Av g->(Fp g).F q=Hs g ⟨#[]⟩ q:=fun q hq hq2=>by
  show MG (Av g) (aa g _) q=_
  rw [Yj (by omega) hq2]
  exact if_neg (by omega)
 have hti:=Ft hg (z:=(k:Nat)) (k:=0) ⟨h0,h1⟩ (by omega)
 have htab:E6 g (AO (Fp g).a (Fp g).l) (Fp g).F (k:Nat)=some (EW g):=by
  have hroot:Ce (Fp g).a (Fp g).l (k:Nat)=0:=by
   show ((Fp g).a.homes.getD ((k:Nat):Int).toNat ⟨[],0,0⟩).root=0
   rw [Ac,hzh]
  show (match BO g ⟨0,(Fp g).F (AG g (k:Nat) 0)⟩ (AG g (k:Nat) 0) (Ce (Fp g).a (Fp g).l (k:Nat)) with | some t=>some t | none=>_)=_
  have e:=P_ (g:=g) (s:=⟨#[]⟩) (z:=k) (k:=0) (by omega) h1 (by omega)
  rw [hroot,hF _ hti.1 hti.2.2,show AG g ((k:Nat):Int) (0:Int)=AG g (k:Nat) ((0:Nat):Int) from rfl,e,Nh ⟨by show 0<=AG g (k:Nat) 0;omega,by show AG g (k:Nat) 0<=65535;omega,by omega,by omega,by rw [EU];unfold EW;rw [B4];omega⟩,IR ht0]
 have hent:∀ w, -1<=w->w<g.d->(EW g).getD (E0 g w).toNat ez=ent0:=fun w hw hw2=>by
  have hat:0<=E0 g w/\E0 g w<=g.d:=by unfold E0;split <;> omega
  unfold EW
  rw [Aa,C3,if_pos (by omega)]
  rfl
 refine⟨EW g,htab,fun _ _ _=>rfl,fun w hw hw2=>?_,fun w hw hw2=>?_,(fold_zero _).symm⟩
 ·rw [hent w hw hw2];exact⟨rfl,rfl⟩
 ·show Ec ⟨0,(Fp g).F (Bw g (Fp g).a (k:Nat) w)⟩ (Bw g (Fp g).a (k:Nat) w) ((EW g).getD (E0 g w).toNat ez)=some zero8
  have hat:0<=E0 g w/\E0 g w<=g.d:=by unfold E0;split <;> omega
  have hadr:Bw g (Fp g).a (k:Nat) w=Cb g (k:Nat) ((E0 g w).toNat:Nat):=by
   unfold Bw
   rw [Ac,hzh]
   congr 1
   rw [Bn (d:=0) (by simp;omega),Aa,BF (by omega)]
   rfl
  have hsl:=E_ hg (z:=(k:Nat)) (s:=((E0 g w).toNat:Nat)) ⟨h0,h1⟩ (by unfold Cy;omega)
  rw [hadr,hF _ (by omega) hsl.2,NJ (by omega) (by omega) (by omega),hent w hw hw2]
  exact NY ⟨by omega,by omega,by omega,by omega,by decide⟩ rfl rfl rfl
theorem SL {g:Geo} (hg:Bt g=true) {a:An} (ha:Bg g a=true) {x:Tx} {r:List Tx} (hx:∀ y∈x.images,B9 g y=true) (hseq:0<=x.seq/\x.seq<=4294967295) {F:Int->List UInt8} {V:Int->Int->List UInt8} (h:VolV g a (x::r) F V):VolV g (B8 g a x) r (EL g a x F) V:=by
 obtain⟨g1,g2,g3,g4,g5⟩:=As.1 hg
 have hcb:=Eu hg
 intro z h0 h1
 obtain⟨t,ht⟩:=h z h0 h1
 obtain⟨hi, -⟩:=JG ha ⟨h0,h1⟩
 have hadr:∀ w,Bw g (B8 g a x) z w=Bw g a z w:=fun w=>by
  show Bw g { BI a x.seq x.images with gen:=_,pos:=_,seq:=_,last:=_ } z w=_
  exact G7 (g:=g) (seq:=x.seq) (z:=z) (w:=w) x.images hi
 have hFb:∀ w, -1<=w->w<g.d->EL g a x F (Bw g a z w)=match Ck x.images z w x.images.length with
   | some i=>Bk (Bw g a z w) x.seq i.bytes
   | none=>F (Bw g a z w):=fun w hw hw2=>by
  obtain⟨s,e1,e2⟩:=D_ hg ha ⟨h0,h1⟩ ⟨hw,hw2⟩
  have hsl:=E_ hg ⟨h0,h1⟩ e2
  unfold EL
  rw [S7 (by omega)]
  have:=UE hg ha hx (seq:=x.seq) (F:=F) ⟨h0,h1⟩ ⟨hw,hw2⟩ _ (Ah _)
  rwa [Ar] at this
 have hFt:∀ c,(0<=c/\c<=1)->EL g a x F (AG g z c)=match Ck x.images z 255 x.images.length with
   | some i=>Bk (AG g z c) x.seq i.bytes
   | none=>F (AG g z c):=fun c hc=>by
  have hti:=Ft hg ⟨h0,h1⟩ hc
  unfold EL
  rw [S7 (by omega)]
  have:=UD hg ha hx (seq:=x.seq) (F:=F) ⟨h0,h1⟩ hc _ (Ah _)
  rwa [Ar] at this
 have hok:∀ {q:Int} {p:List UInt8},(0<=q/\q<Av g)->p.length<=45->U6 q x.seq p:=fun hq hp=>⟨by omega,by omega,by omega,by omega,by omega⟩
 have htab:E6 g (AO (B8 g a x) r) (EL g a x F) z=some t:=by
  have h2:=ht.tab
  unfold E6 at h2 |-
  have ec:=M4 x r z 255
  show (match CL r z 255 with | some p=>Cu g p.1.bytes | none=>_)=_
  replace h2:(match CL (x::r) z 255 with | some p=>Cu g p.1.bytes | none=>match BO g ⟨0,F (AG g z 0)⟩ (AG g z 0) (Ce a (x::r) z) with | some t=>some t | none=>BO g ⟨0,F (AG g z 1)⟩ (AG g z 1) (Ce a (x::r) z))=some t:=h2
  cases hr:CL r z 255 with
  | some p=>
   rw [hr] at ec
   rw [ec] at h2
   exact h2
  | none=>
   rw [hr] at ec
   simp only at ec |-
   show (match BO g ⟨0,EL g a x F (AG g z 0)⟩ (AG g z 0) (Ce (B8 g a x) r z) with | some t=>some t | none=>BO g ⟨0,EL g a x F (AG g z 1)⟩ (AG g z 1) (Ce (B8 g a x) r z))=some t
   have ero:Ce (B8 g a x) r z=((B8 g a x).homes.getD z.toNat ⟨[],0,0⟩).root:=by unfold Ce;rw [hr]
   cases hk:Ck x.images z 255 x.images.length with
   | some i=>
    rw [hk] at ec
    rw [ec] at h2
    simp only at h2
    obtain⟨m1,m2,m3⟩:=I3 (Ah _) hk
    have hroot:Ce (B8 g a x) r z=x.seq:=by
     rw [ero]
     exact HT x.images hi ⟨i,m1,m3,by rw [m2]⟩
    have hti:=Ft hg ⟨h0,h1⟩ (k:=0) (by omega)
    have hf:=hFt 0 (by omega)
    rw [hk] at hf
    rw [hroot,hf]
    simp only
    rw [Nh (hok (by omega) (EQ hg (hx i m1))),h2]
   | none=>
    rw [hk] at ec
    rw [ec] at h2
    have hf0:=hFt 0 (by omega)
    have hf1:=hFt 1 (by omega)
    rw [hk] at hf0 hf1
    have er2:Ce a (x::r) z=(a.homes.getD z.toNat ⟨[],0,0⟩).root:=by unfold Ce;rw [ec]
    have hroot:Ce (B8 g a x) r z=Ce a (x::r) z:=by
     rw [ero,er2]
     have:=G8 (seq:=x.seq) (z:=z.toNat) x.images hi (fun y hy y255 ey=>?_)
     ·show ((BI a x.seq x.images).homes.getD z.toNat _).root=_
      rw [this]
     ·have hyz:=(Db (hx y hy)).1
      have hn:∀ k,k<=x.images.length->Ck x.images z 255 k=none->∀ j,j<k->¬((x.images.getD j iz).zone=z/\(x.images.getD j iz).what=255):=by
       intro k
       induction k with
       | zero=>intro _ _ j hj;omega
       | succ k ih=>
        intro hk2 hfk j hj
        rw [Ck] at hfk
        split at hfk
        ·cases hfk
        ·rename_i hc
         rcases Nat.lt_succ_iff_lt_or_eq.1 hj with q | rfl
         ·exact ih (by omega) hfk j q
         ·exact hc
      obtain⟨j,hj,rfl⟩:=List.getElem_of_mem hy
      refine hn _ (Ah _) hk j hj ?_
      rw [Aa,Af hj,Bz]
      exact⟨by omega,y255⟩
    rw [hroot,hf0,hf1]
    exact h2
 refine⟨t,htab,ht.len,ht.ent,fun w hw hw2=>?_,ht.par⟩
 have h2:=ht.val w hw hw2
 rw [M4] at h2
 rw [hadr,hFb w hw hw2]
 cases hr:CL r z w with
 | some p=>
  rw [hr] at h2
  exact h2
 | none=>
  rw [hr] at h2
  simp only at h2 |-
  cases hk:Ck x.images z w x.images.length with
  | some i=>
   rw [hk] at h2
   simp only at h2 |-
   obtain⟨m1,m2,m3⟩:=I3 (Ah _) hk
   obtain⟨s,e1,e2⟩:=D_ hg ha ⟨h0,h1⟩ ⟨hw,hw2⟩
   have hsl:=E_ hg ⟨h0,h1⟩ e2
   rw [<-h2.1]
   exact NY (hok (by omega) (EQ hg (hx i m1))) (by rw [h2.1];exact ht.len w hw hw2) h2.2 (by rw [h2.1];exact(ht.ent w hw hw2).2)
  | none=>
   rw [hk] at h2
   exact h2
theorem M5 (l m:List Img) (z w:Int):∀ k,k<=l.length->Ck (l ++ m) z w k=Ck l z w k
 | 0,_=>rfl
 | k+1,hk=>by
  have e:(l ++ m).getD k iz=l.getD k iz:=by
   rw [Aa,Aa,AC (by omega)]
  rw [Ck,Ck,e,M5 l m z w k (by omega)]
theorem TR (l m:List Img) (z w:Int):∀ k,k<=m.length->Ck (l ++ m) z w (l.length+k)=match Ck m z w k with
  | some i=>some i
  | none=>Ck l z w l.length
 | 0,_=>M5 l m z w _ (Ah _)
 | k+1,hk=>by
  have e:(l ++ m).getD (l.length+k) iz=m.getD k iz:=by
   rw [Aa,Aa,AH (by omega),Nat.add_sub_cancel_left]
  rw [<-C7,Ck,Ck,e]
  split
  ·rfl
  ·exact TR l m z w k (by omega)
theorem Je {l:List Img} {z w:Int} (h:∀ x∈l,x.zone≠z):∀ k,k<=l.length->Ck l z w k=none
 | 0,_=>rfl
 | k+1,hk=>by
  rw [Ck,if_neg (fun q=>h _ (A9 (by omega)) q.1),Je h k (by omega)]
def VZ (z:Int) (ats:List Int) (bs:List (List UInt8)) (w:Int):Option Img:=(EC ats bs w.toNat ats.length).map fun b=>⟨z,w,b⟩
theorem NO (z:Int) (ats:List Int) (bs:List (List UInt8)) (m:List Img) {w:Int} (hw:0<=w):∀ k,k<=ats.length->Ck (((List.range ats.length).map fun i=>(⟨z,ats.getD i 0,bs.getD i []⟩:Img)) ++ m) z w k=(EC ats bs w.toNat k).map fun b=>⟨z,w,b⟩
 | 0,_=>rfl
 | k+1,hk=>by
  have e:(((List.range ats.length).map fun i=>(⟨z,ats.getD i 0,bs.getD i []⟩:Img)) ++ m).getD k iz=⟨z,ats.getD k 0,bs.getD k []⟩:=by
   rw [Aa,AC (by simp;omega),Be,BF (by omega)]
   rfl
  rw [Ck,e,EC,NO z ats bs m hw k (by omega)]
  by_cases h:ats.getD k 0=w
  ·rw [if_pos ⟨rfl,h⟩,if_pos (by rw [h];omega)]
   simp only [Option.map_some,h]
  ·rw [if_neg (fun q=>h q.2),if_neg (by omega)]
theorem JN (z:Int) (t:List Ent) (par:List UInt8) (ats:List Int) (bs:List (List UInt8)) (ha:∀ a∈ats,0<=a/\a<255) (w:Int) (hw:w=255\/(-1<=w/\w<255)):Ck (C4 z t par ats bs) z w (C4 z t par ats bs).length=if w=255 then some ⟨z,255,CU t⟩ else if w = -1 then some ⟨z, -1,par⟩ else VZ z ats bs w:=by
 have hl:=FJ z t par ats bs
 have e1:(C4 z t par ats bs).getD (ats.length+1) iz=⟨z,255,CU t⟩:=by
  unfold C4
  rw [Aa,AH (by simp),show ats.length+1 - ((List.range ats.length).map fun i=>(⟨z,ats.getD i 0,bs.getD i []⟩:Img)).length=1 by simp]
  rfl
 have e0:(C4 z t par ats bs).getD ats.length iz=⟨z, -1,par⟩:=by
  unfold C4
  rw [Aa,AH (by simp),show ats.length - ((List.range ats.length).map fun i=>(⟨z,ats.getD i 0,bs.getD i []⟩:Img)).length=0 by simp]
  rfl
 rw [hl,Ck,Ck,e1,e0]
 by_cases h1:w=255
 ·rw [if_pos ⟨rfl,h1.symm⟩,if_pos h1]
 ·rw [if_neg (fun q=>h1 q.2.symm),if_neg h1]
  by_cases h2:w = -1
  ·rw [if_pos ⟨rfl,h2.symm⟩,if_pos h2]
  ·rw [if_neg (fun q=>h2 q.2.symm),if_neg h2]
   exact NO z ats bs _ (by omega) _ (Ah _)
def SC (V:Int->Int->List UInt8) (x:Tx) (z w:Int):List UInt8:=match Ck x.images z w x.images.length with
 | some i=>i.bytes
 | none=>V z w
def ZX (g:Geo) (a:An) (l:List Tx) (F:Int->List UInt8) (x:Tx) (z:Int):Prop:=
 (∀ w,Ck x.images z w x.images.length=none)
 \/∃ t ats bs,E6 g (AO a l) F z=some t/\ats.length=bs.length/\(∀ b∈bs,b.length=8)/\∀ w,w=255\/(-1<=w/\w<g.d)->Ck x.images z w x.images.length=if w=255 then some ⟨z,255,CU (BJ g t (Dq g (AO a l) F t z) ats bs x.seq)⟩ else if w = -1 then some ⟨z, -1,EH g t (Dq g (AO a l) F t z) ats bs g.d.toNat⟩ else VZ z ats bs w
theorem Zi {g:Geo} (hg:Bt g=true) {s:Stt} {F:Int->List UInt8} {t:List Ent} {z:Int} {i:Nat} (hi:(i:Int)<g.d):(Dq g s F t z).getD i []=K_ g s F t z (i:Nat):=by
 unfold Dq Lc
 rw [Aa,AC (by simp;omega),Be,BF (by omega)]
 rfl
theorem WW {g:Geo} (hg:Bt g=true) {a:An} {l:List Tx} {x:Tx} (hseq:0<=x.seq/\x.seq<=4294967295) (hl:∀ t∈l,∀ y∈t.images,B9 g y=true) {F:Int->List UInt8} {V:Int->Int->List UInt8} (h:VolV g a l F V) (hx:∀ z,0<=z->z<g.z->ZX g a l F x z):VolV g a (l ++ [x]) F (SC V x):=by
 obtain⟨g1,g2,g3,g4,g5⟩:=As.1 hg
 intro z h0 h1
 obtain⟨t,ht⟩:=h z h0 h1
 rcases hx z h0 h1 with hn | ⟨t',ats,bs,e1,e2,e3,e4⟩
 ·have hv:∀ w,SC V x z w=V z w:=fun w=>by unfold SC;rw [hn w]
  have hf:∀ w,CL (l ++ [x]) z w=CL l z w:=fun w=>by rw [Jd,hn w]
  have hvz:SC V x z=V z:=funext hv
  refine⟨t,?_,fun w q1 q2=>by rw [hv];exact ht.len w q1 q2,fun w q1 q2=>by rw [hv];exact ht.ent w q1 q2,fun w q1 q2=>?_,by rw [hvz];exact ht.par⟩
  ·have:=ht.tab
   unfold E6 Ce at this |-
   show (match CL (l ++ [x]) z 255 with | some p=>_ | none=>match BO g _ _ (match CL (l ++ [x]) z 255 with | some p=>p.2 | none=>_) with | some t=>some t | none=>BO g _ _ (match CL (l ++ [x]) z 255 with | some p=>p.2 | none=>_))=_
   rw [hf 255]
   exact this
  ·rw [hf w,hv]
   exact ht.val w q1 q2
 ·have et:t'=t:=by
   have:=ht.tab
   rw [e1] at this
   exact Option.some.inj this
  subst et
  have htok:=Jt ht.tab
  have htl:=So htok
  have hhad:∀ i:Nat,(i:Int)<g.d->(Dq g (AO a l) F t' z).getD i []=V z (i:Nat):=fun i hi=>by
   rw [Zi hg hi];exact ht.one ⟨by omega,hi⟩
  have hatN:∀ i:Nat,(i:Int)<g.d->(E0 g (i:Nat)).toNat=i:=fun i hi=>by unfold E0;rw [if_neg (by omega)];omega
  have hkn:∀ i:Nat,(i:Int)<g.d->GB g t' (Dq g (AO a l) F t' z) i=V z (i:Nat):=fun i hi=>by
   have:=(ht.ent (i:Nat) (by omega) hi).1
   rw [hatN i hi] at this
   unfold GB
   rw [this,if_neg (by decide),hhad i hi,if_pos (by rw [ht.len (i:Nat) (by omega) hi];decide)]
  have hup:∀ i:Nat,(i:Int)<g.d->SC V x z (i:Nat)=HG g t' (Dq g (AO a l) F t' z) ats bs i:=fun i hi=>by
   have e:=e4 (i:Nat) (.inr ⟨by omega,hi⟩)
   rw [if_neg (by omega),if_neg (by omega)] at e
   unfold SC HG
   rw [e,VZ,Ac]
   cases EC ats bs i ats.length with
   | some b=>rfl
   | none=>exact(hkn i hi).symm
  have hbn:∀ i:Nat,(i:Int)<g.d->(HG g t' (Dq g (AO a l) F t' z) ats bs i).length=8:=fun i hi=>by
   unfold HG
   cases hp:EC ats bs i ats.length with
   | some b=>exact Kj e3 (by omega) _ b (Ah _) hp
   | none=>
    show (GB g t' _ i).length=8
    rw [hkn i hi]
    exact ht.len (i:Nat) (by omega) hi
  have hpar:∀ k:Nat,(k:Int)<=g.d->EH g t' (Dq g (AO a l) F t' z) ats bs k=NG (SC V x z) k:=by
   intro k
   induction k with
   | zero=>intro _;rfl
   | succ k ih=>
    intro hk
    rw [EH,if_neg (by rw [hbn k (by omega)];decide),ih (by omega),NG,hup k (by omega)]
  have hpv:SC V x z (-1)=EH g t' (Dq g (AO a l) F t' z) ats bs g.d.toNat:=by
   have e:=e4 (-1) (.inr ⟨by omega,by omega⟩)
   rw [if_neg (by omega),if_pos rfl] at e
   unfold SC
   rw [e]
  have hhb:∀ b∈Dq g (AO a l) F t' z,b.length=0\/b.length=8:=fun b hb=>by
   unfold Dq Lc at hb
   rcases A6.1 hb with q | q
   ·obtain⟨i,hi,rfl⟩:=AR.1 q
    rw [AU] at hi
    exact GN (s:=AO a l) (w:=((i:Nat):Int)) hl (by omega)
   ·rw [AE] at q
    subst q
    exact GN (s:=AO a l) (w:= -1) hl (by decide)
  have hpl:(EH g t' (Dq g (AO a l) F t' z) ats bs g.d.toNat).length=8:=Gg hhb e3 (by rw [e2];exact Ah _) _
  have hwt:=Gz (g:=g) (t:=t') (had:=Dq g (AO a l) F t' z) (ats:=ats) (bs:=bs) hg htok (stamp:=x.seq) hseq
  have htab:E6 g (AO a (l ++ [x])) F z=some (BJ g t' (Dq g (AO a l) F t' z) ats bs x.seq):=by
   have e:=e4 255 (.inl rfl)
   rw [if_pos rfl] at e
   unfold E6
   show (match CL (l ++ [x]) z 255 with | some p=>Cu g p.1.bytes | none=>_)=_
   rw [Jd,e]
   exact IR hwt
  have hent:∀ i:Nat,(i:Int)<g.d->(BJ g t' (Dq g (AO a l) F t' z) ats bs x.seq).getD i ez=match EC ats bs i ats.length with
    | some b=>⟨x.seq,(De b:Nat),false⟩
    | none=>t'.getD i ez:=fun i hi=>by
   unfold BJ
   rw [Aa,AC (by simp;omega),Be,BF (by omega)]
   show Lb g t' _ ats bs x.seq i=_
   unfold Lb
   rw [if_neg (by rw [hbn i hi];decide)]
   cases EC ats bs i ats.length <;> rfl
  have hentp:(BJ g t' (Dq g (AO a l) F t' z) ats bs x.seq).getD (E0 g (-1)).toNat ez=⟨x.seq,(De (SC V x z (-1)):Nat),false⟩:=by
   rw [show (E0 g (-1)).toNat=g.d.toNat by unfold E0;rw [if_pos rfl]]
   unfold BJ
   rw [Aa,AH (by simp),show g.d.toNat - ((List.range g.d.toNat).map (Lb g t' (Dq g (AO a l) F t' z) ats bs x.seq)).length=0 by simp,hpv]
   rfl
  refine⟨_,htab,fun w q1 q2=>?_,fun w q1 q2=>?_,fun w q1 q2=>?_,?_⟩
  ·by_cases hw:w = -1
   ·rw [hw,hpv];exact hpl
   ·obtain⟨i,rfl⟩:∃ i:Nat,w=(i:Nat):=⟨w.toNat,by omega⟩
    rw [hup i q2];exact hbn i q2
  ·by_cases hw:w = -1
   ·rw [hw,hentp];exact⟨rfl,rfl⟩
   ·obtain⟨i,rfl⟩:∃ i:Nat,w=(i:Nat):=⟨w.toNat,by omega⟩
    rw [hatN i q2,hent i q2,hup i q2]
    unfold HG
    cases hp:EC ats bs i ats.length with
    | some b=>exact⟨rfl,rfl⟩
    | none=>
     have:=ht.ent (i:Nat) q1 q2
     rw [hatN i q2] at this
     simp only
     rw [hkn i q2]
     exact this
  ·rw [Jd]
   have e:=e4 w (.inr ⟨q1,q2⟩)
   rw [if_neg (by omega)] at e
   by_cases hw:w = -1
   ·subst hw
    rw [if_pos rfl] at e
    rw [e,hentp,hpv]
    exact⟨rfl,rfl⟩
   ·obtain⟨i,rfl⟩:∃ i:Nat,w=(i:Nat):=⟨w.toNat,by omega⟩
    rw [if_neg hw,VZ,Ac] at e
    rw [e,hatN i q2,hent i q2,hup i q2]
    unfold HG
    cases hp:EC ats bs i ats.length with
    | some b=>exact⟨rfl,rfl⟩
    | none=>
     have:=ht.val (i:Nat) q1 q2
     rw [hatN i q2] at this
     simp only [Option.map_none]
     rw [hkn i q2]
     exact this
  ·rw [hpv];exact hpar _ (by omega)
theorem Zv {g:Geo} (hg:Bt g=true) {a:An} {l:List Tx} {F:Int->List UInt8} {lba:Int} {b:List UInt8} (hlba:0<=lba/\lba<g.z*g.d) (hb:b.length=8) (ht:(E6 g (AO a l) F (lba.tdiv g.d)).isSome=true):∀ z,0<=z->z<g.z->ZX g a l F (Gx g a l F lba b) z:=by
 obtain⟨g1,g2,g3,g4,g5⟩:=As.1 hg
 intro z h0 h1
 obtain⟨t,ht⟩:=Cs.1 ht
 have hm:0<=lba.tmod g.d/\lba.tmod g.d<g.d:=⟨Bq _ hlba.1,Bb _ (by omega)⟩
 have ei:(Gx g a l F lba b).images=C4 (lba.tdiv g.d) (BJ g t (Dq g (AO a l) F t (lba.tdiv g.d)) [lba.tmod g.d] [b] (a.seq+(l.length:Int))) (EH g t (Dq g (AO a l) F t (lba.tdiv g.d)) [lba.tmod g.d] [b] g.d.toNat) [lba.tmod g.d] [b]:=by
  show G2 g (AO a l) F _ lba b=_
  unfold G2
  rw [ht]
 by_cases hz:z=lba.tdiv g.d
 ·refine .inr ⟨t, [lba.tmod g.d], [b],by rw [hz];exact ht,rfl,fun x hx=>by rw [AE] at hx;rw [hx];exact hb,fun w hw=>?_⟩
  rw [ei,hz]
  exact JN _ _ _ _ _ (fun x hx=>by rw [AE] at hx;omega) w (by omega)
 ·refine .inl fun w=>?_
  rw [ei]
  refine Je (fun y hy=>?_) _ (Ah _)
  have:y.zone=lba.tdiv g.d:=by
   unfold C4 at hy
   rcases A6.1 hy with q | q
   ·obtain⟨i, -,rfl⟩:=AR.1 q
    rfl
   ·simp only [AQ,Do,or_false] at q
    rcases q with rfl | rfl <;> rfl
  rw [this]
  exact fun e=>hz e.symm
theorem Zt {g:Geo} (hg:Bt g=true) {a:An} {l:List Tx} {F:Int->List UInt8} {lba:Int} {b:List UInt8} (hlba:0<=lba/\lba<g.z*g.d) (ht:(E6 g (AO a l) F (lba.tdiv g.d)).isSome=true) (V:Int->Int->List UInt8) {z w:Int} (hw:0<=w/\w<g.d):SC V (Gx g a l F lba b) z w=if z=lba.tdiv g.d/\w=lba.tmod g.d then b else V z w:=by
 obtain⟨g1,g2,g3,g4,g5⟩:=As.1 hg
 obtain⟨t,ht⟩:=Cs.1 ht
 have hm:0<=lba.tmod g.d/\lba.tmod g.d<g.d:=⟨Bq _ hlba.1,Bb _ (by omega)⟩
 have ei:(Gx g a l F lba b).images=C4 (lba.tdiv g.d) (BJ g t (Dq g (AO a l) F t (lba.tdiv g.d)) [lba.tmod g.d] [b] (a.seq+(l.length:Int))) (EH g t (Dq g (AO a l) F t (lba.tdiv g.d)) [lba.tmod g.d] [b] g.d.toNat) [lba.tmod g.d] [b]:=by
  show G2 g (AO a l) F _ lba b=_
  unfold G2
  rw [ht]
 unfold SC
 rw [ei]
 by_cases hz:z=lba.tdiv g.d
 ·rw [hz,JN _ _ _ _ _ (fun x hx=>by rw [AE] at hx;omega) w (by omega),if_neg (by omega),if_neg (by omega)]
  have ep:VZ (lba.tdiv g.d) [lba.tmod g.d] [b] w=if lba.tmod g.d=((w.toNat:Nat):Int) then some ⟨lba.tdiv g.d,w,b⟩ else none:=by
   show ((if lba.tmod g.d=((w.toNat:Nat):Int) then some b else none:Option (List UInt8)).map fun b=>(⟨lba.tdiv g.d,w,b⟩:Img))=_
   split <;> rfl
  rw [ep]
  by_cases e:lba.tmod g.d=((w.toNat:Nat):Int)
  ·rw [if_pos e,if_pos ⟨rfl,by omega⟩]
  ·rw [if_neg e,if_neg (fun q:_/\_=>e (by omega))]
 ·rw [if_neg (fun q=>hz q.1),Je (fun y hy=>?_) _ (Ah _)]
  have:y.zone=lba.tdiv g.d:=by
   unfold C4 at hy
   rcases A6.1 hy with q | q
   ·obtain⟨i, -,rfl⟩:=AR.1 q
    rfl
   ·simp only [AQ,Do,or_false] at q
    rcases q with rfl | rfl <;> rfl
  rw [this]
  exact fun e=>hz e.symm
theorem KA {n:Int} {d:Dk} {F:Int->List UInt8} {l:List Wr} (h:Gd n d F) (hl:∀ w∈l,(0<=w.addr/\w.addr<n)/\w.bytes.length<=200) (hn:l.length<=2000):(d.putAll l).2.2=false/\Gd n (d.putAll l).1 (HM F l):=
 ⟨(h.putAll hl hn).2.2.1,(h.putAll hl hn).2.2.2⟩
theorem Us {g:Geo} (hg:Bt g=true) {a:An} {x:Tx} {r:List Tx} {d:Dk} {F:Int->List UInt8} (ha:Bg g a=true) (ha2:Bg g (B8 g a x)=true) (hxi:∀ y∈x.images,B9 g y=true) (hn:x.images.length<=30) (h:Gd (Av g) d F):∃ d',Gd (Av g) d' (EL g a x F)/\FY g (AO a (x::r)) x r d=(AO (B8 g a x) r,d',((x.images.length:Nat):Int),0):=by
 have h1:=KA h (JE hg ha hxi (seq:=x.seq)) (by have:=GT (g:=g) (a:=a) (seq:=x.seq) x.images;omega)
 have h2:=KA h1.2 (FN hg ha2) (by rw [CV];have:=(As.1 hg).2.2.2.2;omega)
 refine⟨_,h2.2,?_⟩
 unfold FY
 show (match d.putAll (BL g a x.seq x.images) with | (d1,_,true)=>_ | (d1,_,false)=>match d1.putAll (AD g (B8 g a x)) with | (d2,_,true)=>_ | (d2,_,false)=>(_,d2,_,(0:Int)):Stt × Dk × Int × Int)=_
 generalize d.putAll (BL g a x.seq x.images)=p at h1 h2 |-
 obtain⟨d1,n1,b1⟩:=p
 simp only at h1 h2 |-
 rw [h1.1]
 simp only
 generalize d1.putAll (AD g (B8 g a x))=q at h2 |-
 obtain⟨d2,n2,b2⟩:=q
 simp only at h2 |-
 rw [h2.1]
 rfl
theorem Vol.stepOk {g:Geo} {K:Int} {a:An} {x:Tx} {r:List Tx} {d:Dk} (hg:Bt g=true) (h:Vol g K d (AO a (x::r))) (hK:K<=4294967294):Bg g (B8 g a x)=true:=
 (h.home hg (x:=x) (r:=r) rfl hK h.gd).an
theorem NT (g:Geo) (a:An) (x:Tx) (r:List Tx) (d:Dk) (F:Int->List UInt8) (K:Int) (hg:Bt g=true) (hv:Vol g K d (AO a (x::r))) (hK:K<=4294967294) (h:Gd (Av g) d F):Fn Tryz.prog 12 [.ag (AY g), .ag (Fq d), .ag (Fi (AO a (x::r)))] fun v=>∃ d',Gd (Av g) d' (EL g a x F)/\v = .tp [.ag (Fi (AO (B8 g a x) r)), .ag (Fq d'), .v (.int .i64 (x.images.length:Nat)), .v (.int .i64 0)]:=by
 have hsm:=hv.sm hg
 have ha:Bg g a=true:=hv.an
 have hring:C5 g (x::r) a.seq a.pos g.sl=true:=hv.ring
 obtain⟨a1,a2,a3,a4⟩:=EE ha
 have hseq:a.seq+(x::r).length<=K:=hv.seq
 have hgen:a.gen<=K:=hv.gen
 obtain⟨p1,p2,p3,p4⟩:=DU hring x (by simp)
 have hr0:=hring
 simp only [C5,Ad,decide_eq_true_eq] at hr0
 obtain⟨⟨r1,r2,r3,r4,r5,r6,r7⟩,r8⟩:=hr0
 have hx30:x.images.length<=30:=(hsm.t.2 x (by show x∈x::r;simp)).1
 have hxi:∀ y∈x.images,B9 g y=true:=fun y hy=>Aw.1 p1 y hy
 obtain⟨d',q1,q2⟩:=Us (r:=r) hg ha (hv.stepOk hg hK) hxi hx30 h
 have hc:=W8 g (AO a (x::r)) x r d F hg ha rfl hsm rfl (show a.gen<4294967295 by omega) (show a.seq<4294967295 by rw [Al] at hseq;omega) r1 (by rw [r3];exact a3) r6 hxi rfl h.gc (hv.st hg) (by rw [q2];exact(hv.home hg (x:=x) (r:=r) rfl hK (d':=d') ⟨_,q1⟩).sm hg)
 rw [q2] at hc
 simp only at hc
 rw [if_neg (by decide),if_neg (by decide)] at hc
 exact hc.mono fun v hv=>⟨d',q1,hv⟩
theorem Yh (g:Geo) (s:Stt) (d:Dk) (hs:s.txns=[]):ACalls Tryz.prog false 35 [.bp 0 0] (GC g s d) fun v H=>v = .tp [.v (.int .i64 0), .v (.int .i64 0)]/\H=bwG g s d:=by
 have hdrop:=odrop0_fn
 rw [<-hs] at hdrop
 refine zS tys_ok Tryz.func35 rfl rfl (Ag rfl) ?_
 conv=>whnf
 refine z_ hdrop ?_
 exact⟨_, .tp [.v (.int .i64 0), .v (.int .i64 0)],bwG g s d,fun _ _ h=>h,zD (zK (zz 1 3 (by decide) rfl rfl)) (s:= [0,1,2,3,5]) ⟨⟨rfl,tv⟩,⟨rfl,rfl,rfl,tv,rfl,tv⟩,rfl,rfl,rfl,rfl,rfl⟩,rfl,rfl⟩
theorem NU (g:Geo) (s:Stt) (d:Dk) (hs:s.txns=[]) (hsm:StSm s) (h:DkOk d) (hst:MT g d s=true):Fn Tryz.prog 12 [.ag (AY g), .ag (Fq d), .ag (Fi s)] fun v=>v = .tp [.ag (Fi s), .ag (Fq d), .v (.int .i64 0), .v (.int .i64 0)]:=by
 have c1:=RC g d s h hst hsm
 have c2:=Yh g s d hs
 have c3:=MJ s hsm
 have c4:=ML g s d h
 refine zT Tryz.func12 rfl ?_
 conv=>whnf
 refine zU c1 rfl ?_
 rintro _ _ ⟨rfl,rfl⟩
 conv=>whnf
 refine zZ [5,6,7,8] c2 rfl rfl rfl rfl (by decide) (Rm rfl) ⟨rfl,rfl,rfl,rfl,tv⟩ ?_
 rintro _ _ ⟨rfl,rfl⟩
 conv=>whnf
 refine z_ c3 ?_
 conv=>whnf
 refine zZ [5,6,7,8,9] c4 rfl rfl rfl rfl (by decide) (Rl rfl) ⟨rfl,rfl,rfl,rfl,rfl,tv⟩ ?_
 rintro _ _ ⟨rfl,rfl⟩
 exact⟨_,ri,rfl⟩
theorem XD {g:Geo} (hg:Bt g=true) {M:Md} (h:Z0 g [⟨1,1⟩] 1 M):∃ lba b,(0<=lba/\lba<g.z*g.d)/\M.a=(Fp g).a/\M.l=[Gx g (Fp g).a [] (Fp g).F lba b]/\(Gx g (Fp g).a [] (Fp g).F lba b).images.length=3/\∃ y∈(Gx g (Fp g).a [] (Fp g).F lba b).images,y.what=255/\y.zone=lba.tdiv g.d:=by
 obtain⟨g1,g2,g3,g4,g5⟩:=As.1 hg
 obtain⟨M1,M2,rfl,⟨lba,b,hl,hb,hc⟩,hM⟩:=h
 rw [if_neg (by decide)] at hM
 subst hM
 have hdz:0<=lba.tdiv g.d/\lba.tdiv g.d<g.z:=by
  rw [Bl hl.1]
  exact⟨D3 hl.1 (by omega),Cp (by omega) hl.2⟩
 obtain⟨t,ht⟩:=PJ hg _ hdz.1 hdz.2
 have ht:=ht.tab
 rcases hc with ⟨-, -,W, -,rfl⟩ | ⟨hbad, -⟩
 ·refine⟨lba,b,hl,rfl,rfl,?_,?_⟩
  ·show (G2 g (AO (Fp g).a []) (Fp g).F _ lba b).length=3
   unfold G2
   rw [show E6 g (AO (Fp g).a []) (Fp g).F (lba.tdiv g.d)=some t from ht]
   exact FJ _ _ _ _ _
  ·show ∃ y∈G2 g (AO (Fp g).a []) (Fp g).F _ lba b,_
   unfold G2
   rw [show E6 g (AO (Fp g).a []) (Fp g).F (lba.tdiv g.d)=some t from ht]
   exact⟨⟨lba.tdiv g.d,255,CU (BJ g t (Dq g (AO (Fp g).a []) (Fp g).F t (lba.tdiv g.d)) [lba.tmod g.d] [b] ((Fp g).a.seq+(([]:List Tx).length:Int)))⟩,by unfold C4;simp,rfl,rfl⟩
 ·rcases hbad with hb | hb
  ·have:Ey (Fp g).l=0:=rfl
   omega
  ·rw [show E6 g (AO (Fp g).a (Fp g).l) (Fp g).F (lba.tdiv g.d)=some t from ht] at hb
   cases hb
theorem wakes24_fn:Fn Tryz.prog 11 [] fun r=>r = .v (.bool true):=by
 have h1:=Xm 0 1 0 0 1
 have hg:=UQ 0 1 0 0 1
 have hz:(L8 0 1 0 0 1).z=1:=by decide
 have hsl:(L8 0 1 0 0 1).sl=14:=by decide
 generalize L8 0 1 0 0 1=g at h1 hg hz hsl
 have hp:=Nw g [⟨1,1⟩] hg (by decide)
 refine zT Tryz.func11 rfl ?_
 conv=>whnf
 refine z_ h1 ?_
 conv=>whnf
 refine zM hp.go ?_
 refine⟨rfl,?_⟩
 conv=>whnf
 refine zY [.ag (AY g),Rg [⟨1,1⟩], .v (.slice none 0 0)] ⟨ri,Bf (f:=Z_) [⟨1,1⟩] rfl rfl,ri,tv⟩ ?_
 refine zI hp rfl ?_
 rintro _ ⟨M,d,hpl,hd,hv,rfl⟩
 obtain⟨lba,b,hl,e1,e2,e3,y,hy,hy2,hy3⟩:=XD hg hpl
 obtain⟨a,l,F,m⟩:=M
 simp only at e1 e2
 obtain⟨x,hx⟩:∃ x,x=Gx g (Fp g).a [] (Fp g).F lba b:=⟨_,rfl⟩
 have hxs:x.seq=1:=by rw [hx];rfl
 have hxp:x.pos=0:=by rw [hx];show (0+Ey []).tmod g.sl=0;rw [hsl];rfl
 have hxn:x.n=4:=by rw [hx];rfl
 have ha1:a.seq=1:=by rw [e1];rfl
 rw [<-hx] at e2 e3 hy
 clear hx
 subst e2
 have hvol:Vol g 14 d (AO a [x]):=hv.vol hd
 have c1:=NT g a x [] d F 14 hg hvol (by decide) hd
 conv=>whnf
 refine zI c1 rfl ?_
 rintro _ ⟨d1,hd1,rfl⟩
 have hso:=hvol.stepOk hg (by decide)
 have hv2:Vol g 15 d1 (AO (B8 g a x) []):=hvol.home hg (x:=x) (r:= []) rfl (by decide) (d':=d1) ⟨_,hd1⟩
 have ha0:Bg g a=true:=hvol.an
 have hroot:=Q7 ha0 (t:=x) (fun y hy=>Aw.1 (DU hvol.ring x (by show x∈ [x];simp)).1 y hy) hy hy2
 have hhl:=(EE hso).2.2.2
 have hq1:(B8 g a x).seq=2:=by show a.seq+1=2;omega
 have hq2:(B8 g a x).pos=4:=by show (x.pos+x.n).tmod g.sl=4;rw [hxp,hxn,hsl];rfl
 obtain⟨S,hS⟩:∃ S,S=B8 g a x:=⟨_,rfl⟩
 rw [<-hS] at hso hv2 hroot hhl hq1 hq2 |-
 have c2:=NU g (AO S []) d1 rfl (hv2.sm hg) hd1.ok (hv2.st hg)
 conv=>whnf
 refine z_ c2 ?_
 conv=>whnf
 rw [show (((x.images.length:Nat):Int) == 3)=true by rw [e3];rfl]
 conv=>whnf
 rw [show ((AO S []).a.seq == 2)=true by show (S.seq == 2)=true;rw [hq1];rfl]
 conv=>whnf
 rw [show ((AO S []).a.pos == 4)=true by show (S.pos == 4)=true;rw [hq2];rfl]
 conv=>whnf
 rw [show (((AO S []).a.homes.length:Int) == 1)=true by show ((S.homes.length:Int) == 1)=true;rw [hhl,hz];rfl]
 conv=>whnf
 refine Ae ⟨by decide,by show (0:Int)<(S.homes.length:Nat);omega⟩ ?_
 conv=>whnf
 have hz0:y.zone.toNat=0:=by
  have:lba.tdiv g.d<g.z:=by
   rw [Bl hl.1]
   exact Cp (by have:=As.1 hg;omega) hl.2
  omega
 rw [hz0,hxs] at hroot
 rw [show (((AO S []).a.homes.getD (Int.toNat 0) ⟨[],0,0⟩).root == 1)=true by show ((S.homes.getD 0 ⟨[],0,0⟩).root == 1)=true;rw [hroot];rfl]
 exact⟨_,ri,rfl⟩
end
section
open Go.RowKit Go.Shelf
attribute [local go_sem] Oper.semAt_some

theorem WF (F:Fence) (n:Nat) (h7:F.fn 265) (hro:F.round=none) (hn:1<=n) (l Bs n₀ b off len cap:Nat) (X0 X1 X2 X3:Nat->Value) (hlen:len<=1000000000) (hb:b<n₀) (hBn:Bs<n₀) (J Jx:List Nat->World->Prop)
  (hY:∀ pre x W,J pre W->pre.length<len->x<len->YieldAt F (n - 1) Tryz.prog l #[.int .i64 (x:Nat), .agg #[X0 x,X1 x,X2 x,X3 x]] W fun e W'=>
   (e = .returned (.bool true)/\J (pre ++ [x]) W'/\Below n₀ W W')\/(e = .returned (.bool false)/\Jx (pre ++ [x]) W'))
  (W:World) (hBs:W.cell? ⟨Bs,0,none⟩=some (.slice (some ⟨b,off,none⟩) len cap)) (hc0:∀ j,j<len->W.cell? ⟨b,off+j*4,none⟩=some (X0 j)) (hc1:∀ j,j<len->W.cell? ⟨b,off+j*4+1,none⟩=some (X1 j)) (hc2:∀ j,j<len->W.cell? ⟨b,off+j*4+2,none⟩=some (X2 j)) (hc3:∀ j,j<len->W.cell? ⟨b,off+j*4+3,none⟩=some (X3 j)) (h0:J [] W) :
  CallsIn F n Tryz.prog 265 #[.func (.yield l) #[] #[], .pointer (some ⟨Bs,0,none⟩)] W fun e W'=>(∃ v,e = .returned v)/\
   ((∃ ys,ys=Dl len len/\J ys W')\/(∃ pre,(∃ k,k<=len/\pre=Dl len k)/\Jx pre W')):=by
 have Hc0:=Lib.hid hc0
 have Hc1:=Lib.hid hc1
 have Hc2:=Lib.hid hc2
 have Hc3:=Lib.hid hc3
 clear hc0 hc1 hc2 hc3
 refine callsIn_of_wp Tryz.func265 rfl h7 ?_ hro
 simp only [Tryz.ntmps265,BM,Al,AW,Nat.reduceAdd,Nat.reduceSub,CY,CX,D8,Dh,Bu,Bo]
 gi_wp2
 gi_loopw [3] (fun i wr=>∃ k:Nat,k<=len/\i = .int .i64 ((len:Int) - 1 - k)/\J (Dl len k) wr/\Below n₀ W wr)
  (fun i _=>(intOf i+1).toNat)
 case atStart=>exact⟨0,Aj _,by simp,h0,Below.refl _ _⟩
 case round=>
  obtain⟨k,hk,rfl,hJs,hnx⟩:=hrel
  by_cases hlt:k<len
  ·obtain⟨m,hmk⟩:∃ m,len=k+1+m:=⟨len - (k+1),by omega⟩
   rw [show (len:Int) - 1 - k=(m:Int) by omega]
   obtain⟨fn,tmps,assign,body,hy,hR⟩:=hY _ m wr hJs (by rw [Hw];exact hlt) (by omega)
   have e0:=(hnx.cell (p:=⟨b,off+m*4,none⟩) hb).trans (Hc0.out m (by omega))
   have e1:=(hnx.cell (p:=⟨b,off+m*4+1,none⟩) hb).trans (Hc1.out m (by omega))
   have e2:=(hnx.cell (p:=⟨b,off+m*4+2,none⟩) hb).trans (Hc2.out m (by omega))
   have e3:=(hnx.cell (p:=⟨b,off+m*4+3,none⟩) hb).trans (Hc3.out m (by omega))
   have eb:=(hnx.cell (p:=⟨Bs,0,none⟩) hBn).trans hBs
   have hm:(m:Int)<(len:Int):=by omega
   have Hm:=Lib.hid hmk
   clear hmk
   gi_wp2
   refine hR.mono ?_
   rintro e W3 (⟨rfl,hJ3,hk3⟩ | ⟨rfl,hJx3⟩)
   ·gi_wp2
    go_roundw
    case rel=>exact⟨k+1,by omega,congrArg (Value.int .i64) (by have:=Hm.out;omega),by rw [F5,show len - 1 - k=m by have:=Hm.out;omega];exact hJ3,hnx.trans hk3⟩
    case measure=>simp [intOf]
   ·gi_wp2
    refine bodyPost_ret (results_none rfl _ _ _) rfl ?_
    exact⟨⟨_,rfl⟩, .inr ⟨_,⟨k+1,by omega,by rw [F5,show len - 1 - k=m by have:=Hm.out;omega]⟩,hJx3⟩⟩
  ·obtain rfl:k=len:=by omega
   rw [show ((k:Nat):Int) - 1 - k = -1 by omega]
   gi_wp2
   go_end0
   exact⟨⟨_,rfl⟩, .inl ⟨_,rfl,hJs⟩⟩

theorem WG (F:Fence) (n:Nat) (h7:F.fn 265) (hro:F.round=none) (l Bs:Nat) (a:Option Addr) (cap:Nat) (J:List Nat->World->Prop) (W:World) (hBs:W.cell? ⟨Bs,0,none⟩=some (.slice a 0 cap)) (h0:J [] W) :
  CallsIn F n Tryz.prog 265 #[.func (.yield l) #[] #[], .pointer (some ⟨Bs,0,none⟩)] W fun e W'=>(∃ v,e = .returned v)/\J [] W':=by
 refine callsIn_of_wp Tryz.func265 rfl h7 ?_ hro
 simp only [Tryz.ntmps265,BM,Al,AW,Nat.reduceAdd,Nat.reduceSub,CY,CX,D8,Dh,Bu,Bo]
 gi_wp2
 gi_loopw [3] (fun i wr=>i = .int .i64 (-1)/\J [] wr) (fun _ _=>0)
 case atStart=>exact⟨rfl,h0⟩
 case round=>
  obtain⟨rfl,hJs⟩:=hrel
  gi_wp2
  go_end0
  exact⟨⟨_,rfl⟩,hJs⟩

theorem RE (F:Fence) (n:Nat) (h7:F.fn 265) (hro:F.round=none) (hn:1<=n) (Bs n₀:Nat) (a:Option Addr) (len cap:Nat) (X0 X1 X2 X3:Nat->Value) (hlen:len<=1000000000) (w:World) (hBs:Bs<n₀) (hn₀:n₀<=w.heap.size)
  (hc:w.cell? ⟨Bs,0,none⟩=some (.slice a len cap)) (hI:0<len->∃ b off,a=some ⟨b,off,none⟩/\b<n₀/\∀ j,j<len->w.cell? ⟨b,off+j*4,none⟩=some (X0 j)/\w.cell? ⟨b,off+j*4+1,none⟩=some (X1 j)/\w.cell? ⟨b,off+j*4+2,none⟩=some (X2 j)/\w.cell? ⟨b,off+j*4+3,none⟩=some (X3 j)) :
  SeqStopsK F n Tryz.prog 265 #[.pointer (some ⟨Bs,0,none⟩)] (fun x:Fin len=> #[Value.int .i64 x.val, .agg #[X0 x,X1 x,X2 x,X3 x]]) (Below n₀) (fun ys=>ys.map Fin.val=Dl len len) (fun pre=>∃ k,k<=len/\pre.map Fin.val=Dl len k) len w:=fun l J Jx W hW _ _ hY h0=>by
 have hc':=(hW.cell (p:=⟨Bs,0,none⟩) (by show Bs<_;omega)).trans hc
 rcases Dt len with rfl | hp
 ·exact(WG F n h7 hro l Bs a cap (fun _ W=>J [] W) W hc' h0).mono fun e W' ⟨he,hj⟩=>⟨he, .inl ⟨[],rfl,hj⟩⟩
 ·obtain⟨b,off,rfl,hb,hj⟩:=hI hp
  refine(WF F n h7 hro hn l Bs n₀ b off len cap X0 X1 X2 X3 hlen hb hBs (fun pre W=>∃ q:List (Fin len),q.map Fin.val=pre/\J q W) (fun pre W=>∃ q:List (Fin len),q.map Fin.val=pre/\Jx q W) ?_ W hc' (fun j h=>(hW.cell (p:=⟨b,off+j*4,none⟩) (by show b<_;omega)).trans (hj j h).1) (fun j h=>(hW.cell (p:=⟨b,off+j*4+1,none⟩) (by show b<_;omega)).trans (hj j h).2.1) (fun j h=>(hW.cell (p:=⟨b,off+j*4+2,none⟩) (by show b<_;omega)).trans (hj j h).2.2.1) (fun j h=>(hW.cell (p:=⟨b,off+j*4+3,none⟩) (by show b<_;omega)).trans (hj j h).2.2.2) ⟨[],rfl,h0⟩).mono ?_
  ·rintro pre x W1 ⟨q,hq,hJ⟩ hlt hx
   obtain⟨fn,tmps,assign,body,hy,hR⟩:=hY q ⟨x,hx⟩ W1 hJ (by rw [<-hq,Ab] at hlt;exact hlt)
   refine⟨fn,tmps,assign,body,hy,hR.mono ?_⟩
   rintro e W' (⟨he,h1,h2⟩ | ⟨he,h1⟩)
   ·exact .inl ⟨he,⟨_,by simp [hq],h1⟩,h2⟩
   ·exact .inr ⟨he,⟨_,by simp [hq],h1⟩⟩
  ·rintro e W' ⟨he,⟨ys,rfl,q,hq,hJ⟩ | ⟨pre,⟨k,hk,rfl⟩,q,hq,hJ⟩⟩
   ·exact⟨he, .inl ⟨q,hq,hJ⟩⟩
   ·exact⟨he, .inr ⟨q,⟨k,hk,hq⟩,hJ⟩⟩

theorem bktx_is:IsBack Tryz.prog 265 4:=by
 refine⟨enters_of Tryz.func265 (by kernel_rfl) rfl,fun m hm B a len cap X w hlen hc hl hI=>?_⟩
 have e:(fun x:Fin len=>(#[Value.int .i64 x.val, .agg (X x.val).toArray]:Array Value))=fun x:Fin len=> #[Value.int .i64 x.val, .agg #[(X x.val).getD 0 undef,(X x.val).getD 1 undef,(X x.val).getD 2 undef,(X x.val).getD 3 undef]]:=by
  funext x
  have:=hl x.val
  match h:X x.val with
  | [u0,u1,u2,u3]=>rfl
  | []=>rw [h] at this;simp at this
  | [_]=>rw [h] at this;simp at this
  | [_,_]=>rw [h] at this;simp at this
  | [_,_,_]=>rw [h] at this;simp at this
  | _::_::_::_::_::_=>rw [h] at this;simp at this
 rw [e]
 refine RE Fence.wide m trivial rfl hm B w.heap.size a len cap (fun j=>(X j).getD 0 undef) (fun j=>(X j).getD 1 undef) (fun j=>(X j).getD 2 undef) (fun j=>(X j).getD 3 undef) hlen w (World.block_lt_of_cell? w _ hc) (Ah _) hc fun hp=>?_
 obtain⟨b,off,h1,h2,h3⟩:=hI hp
 refine⟨b,off,h1,h2,fun j hj=>?_⟩
 have h4:=hl j
 match h:X j with
 | [u0,u1,u2,u3]=>exact⟨h3 j hj 0 u0 (by rw [h];rfl),h3 j hj 1 u1 (by rw [h];rfl),h3 j hj 2 u2 (by rw [h];rfl),h3 j hj 3 u3 (by rw [h];rfl)⟩
 | []=>rw [h] at h4;simp at h4
 | [_]=>rw [h] at h4;simp at h4
 | [_,_]=>rw [h] at h4;simp at h4
 | [_,_,_]=>rw [h] at h4;simp at h4
 | _::_::_::_::_::_=>rw [h] at h4;simp at h4

theorem WH (F:Fence) (n:Nat) (h7:F.fn 266) (hro:F.round=none) (hn:1<=n) (l Bs n₀ b off len cap:Nat) (X0 X1 X2:Nat->Value) (hlen:len<=1000000000) (hb:b<n₀) (hBn:Bs<n₀) (J Jx:List Nat->World->Prop)
  (hY:∀ pre x W,J pre W->pre.length<len->x<len->YieldAt F (n - 1) Tryz.prog l #[.int .i64 (x:Nat), .agg #[X0 x,X1 x,X2 x]] W fun e W'=>
   (e = .returned (.bool true)/\J (pre ++ [x]) W'/\Below n₀ W W')\/(e = .returned (.bool false)/\Jx (pre ++ [x]) W'))
  (W:World) (hBs:W.cell? ⟨Bs,0,none⟩=some (.slice (some ⟨b,off,none⟩) len cap)) (hc0:∀ j,j<len->W.cell? ⟨b,off+j*3,none⟩=some (X0 j)) (hc1:∀ j,j<len->W.cell? ⟨b,off+j*3+1,none⟩=some (X1 j)) (hc2:∀ j,j<len->W.cell? ⟨b,off+j*3+2,none⟩=some (X2 j)) (h0:J [] W) :
  CallsIn F n Tryz.prog 266 #[.func (.yield l) #[] #[], .pointer (some ⟨Bs,0,none⟩)] W fun e W'=>(∃ v,e = .returned v)/\
   ((∃ ys,ys=Dl len len/\J ys W')\/(∃ pre,(∃ k,k<=len/\pre=Dl len k)/\Jx pre W')):=by
 have Hc0:=Lib.hid hc0
 have Hc1:=Lib.hid hc1
 have Hc2:=Lib.hid hc2
 clear hc0 hc1 hc2
 refine callsIn_of_wp Tryz.func266 rfl h7 ?_ hro
 simp only [Tryz.ntmps266,BM,Al,AW,Nat.reduceAdd,Nat.reduceSub,CY,CX,D8,Dh,Bu,Bo]
 gi_wp2
 gi_loopw [3] (fun i wr=>∃ k:Nat,k<=len/\i = .int .i64 ((len:Int) - 1 - k)/\J (Dl len k) wr/\Below n₀ W wr)
  (fun i _=>(intOf i+1).toNat)
 case atStart=>exact⟨0,Aj _,by simp,h0,Below.refl _ _⟩
 case round=>
  obtain⟨k,hk,rfl,hJs,hnx⟩:=hrel
  by_cases hlt:k<len
  ·obtain⟨m,hmk⟩:∃ m,len=k+1+m:=⟨len - (k+1),by omega⟩
   rw [show (len:Int) - 1 - k=(m:Int) by omega]
   obtain⟨fn,tmps,assign,body,hy,hR⟩:=hY _ m wr hJs (by rw [Hw];exact hlt) (by omega)
   have e0:=(hnx.cell (p:=⟨b,off+m*3,none⟩) hb).trans (Hc0.out m (by omega))
   have e1:=(hnx.cell (p:=⟨b,off+m*3+1,none⟩) hb).trans (Hc1.out m (by omega))
   have e2:=(hnx.cell (p:=⟨b,off+m*3+2,none⟩) hb).trans (Hc2.out m (by omega))
   have eb:=(hnx.cell (p:=⟨Bs,0,none⟩) hBn).trans hBs
   have hm:(m:Int)<(len:Int):=by omega
   have Hm:=Lib.hid hmk
   clear hmk
   gi_wp2
   refine hR.mono ?_
   rintro e W3 (⟨rfl,hJ3,hk3⟩ | ⟨rfl,hJx3⟩)
   ·gi_wp2
    go_roundw
    case rel=>exact⟨k+1,by omega,congrArg (Value.int .i64) (by have:=Hm.out;omega),by rw [F5,show len - 1 - k=m by have:=Hm.out;omega];exact hJ3,hnx.trans hk3⟩
    case measure=>simp [intOf]
   ·gi_wp2
    refine bodyPost_ret (results_none rfl _ _ _) rfl ?_
    exact⟨⟨_,rfl⟩, .inr ⟨_,⟨k+1,by omega,by rw [F5,show len - 1 - k=m by have:=Hm.out;omega]⟩,hJx3⟩⟩
  ·obtain rfl:k=len:=by omega
   rw [show ((k:Nat):Int) - 1 - k = -1 by omega]
   gi_wp2
   go_end0
   exact⟨⟨_,rfl⟩, .inl ⟨_,rfl,hJs⟩⟩

theorem WI (F:Fence) (n:Nat) (h7:F.fn 266) (hro:F.round=none) (l Bs:Nat) (a:Option Addr) (cap:Nat) (J:List Nat->World->Prop) (W:World) (hBs:W.cell? ⟨Bs,0,none⟩=some (.slice a 0 cap)) (h0:J [] W) :
  CallsIn F n Tryz.prog 266 #[.func (.yield l) #[] #[], .pointer (some ⟨Bs,0,none⟩)] W fun e W'=>(∃ v,e = .returned v)/\J [] W':=by
 refine callsIn_of_wp Tryz.func266 rfl h7 ?_ hro
 simp only [Tryz.ntmps266,BM,Al,AW,Nat.reduceAdd,Nat.reduceSub,CY,CX,D8,Dh,Bu,Bo]
 gi_wp2
 gi_loopw [3] (fun i wr=>i = .int .i64 (-1)/\J [] wr) (fun _ _=>0)
 case atStart=>exact⟨rfl,h0⟩
 case round=>
  obtain⟨rfl,hJs⟩:=hrel
  gi_wp2
  go_end0
  exact⟨⟨_,rfl⟩,hJs⟩

theorem RF (F:Fence) (n:Nat) (h7:F.fn 266) (hro:F.round=none) (hn:1<=n) (Bs n₀:Nat) (a:Option Addr) (len cap:Nat) (X0 X1 X2:Nat->Value) (hlen:len<=1000000000) (w:World) (hBs:Bs<n₀) (hn₀:n₀<=w.heap.size)
  (hc:w.cell? ⟨Bs,0,none⟩=some (.slice a len cap)) (hI:0<len->∃ b off,a=some ⟨b,off,none⟩/\b<n₀/\∀ j,j<len->w.cell? ⟨b,off+j*3,none⟩=some (X0 j)/\w.cell? ⟨b,off+j*3+1,none⟩=some (X1 j)/\w.cell? ⟨b,off+j*3+2,none⟩=some (X2 j)) :
  SeqStopsK F n Tryz.prog 266 #[.pointer (some ⟨Bs,0,none⟩)] (fun x:Fin len=> #[Value.int .i64 x.val, .agg #[X0 x,X1 x,X2 x]]) (Below n₀) (fun ys=>ys.map Fin.val=Dl len len) (fun pre=>∃ k,k<=len/\pre.map Fin.val=Dl len k) len w:=fun l J Jx W hW _ _ hY h0=>by
 have hc':=(hW.cell (p:=⟨Bs,0,none⟩) (by show Bs<_;omega)).trans hc
 rcases Dt len with rfl | hp
 ·exact(WI F n h7 hro l Bs a cap (fun _ W=>J [] W) W hc' h0).mono fun e W' ⟨he,hj⟩=>⟨he, .inl ⟨[],rfl,hj⟩⟩
 ·obtain⟨b,off,rfl,hb,hj⟩:=hI hp
  refine(WH F n h7 hro hn l Bs n₀ b off len cap X0 X1 X2 hlen hb hBs (fun pre W=>∃ q:List (Fin len),q.map Fin.val=pre/\J q W) (fun pre W=>∃ q:List (Fin len),q.map Fin.val=pre/\Jx q W) ?_ W hc' (fun j h=>(hW.cell (p:=⟨b,off+j*3,none⟩) (by show b<_;omega)).trans (hj j h).1) (fun j h=>(hW.cell (p:=⟨b,off+j*3+1,none⟩) (by show b<_;omega)).trans (hj j h).2.1) (fun j h=>(hW.cell (p:=⟨b,off+j*3+2,none⟩) (by show b<_;omega)).trans (hj j h).2.2) ⟨[],rfl,h0⟩).mono ?_
  ·rintro pre x W1 ⟨q,hq,hJ⟩ hlt hx
   obtain⟨fn,tmps,assign,body,hy,hR⟩:=hY q ⟨x,hx⟩ W1 hJ (by rw [<-hq,Ab] at hlt;exact hlt)
   refine⟨fn,tmps,assign,body,hy,hR.mono ?_⟩
   rintro e W' (⟨he,h1,h2⟩ | ⟨he,h1⟩)
   ·exact .inl ⟨he,⟨_,by simp [hq],h1⟩,h2⟩
   ·exact .inr ⟨he,⟨_,by simp [hq],h1⟩⟩
  ·rintro e W' ⟨he,⟨ys,rfl,q,hq,hJ⟩ | ⟨pre,⟨k,hk,rfl⟩,q,hq,hJ⟩⟩
   ·exact⟨he, .inl ⟨q,hq,hJ⟩⟩
   ·exact⟨he, .inr ⟨q,⟨k,hk,hq⟩,hJ⟩⟩

theorem bkim_is:IsBack Tryz.prog 266 3:=by
 refine⟨enters_of Tryz.func266 (by kernel_rfl) rfl,fun m hm B a len cap X w hlen hc hl hI=>?_⟩
 have e:(fun x:Fin len=>(#[Value.int .i64 x.val, .agg (X x.val).toArray]:Array Value))=fun x:Fin len=> #[Value.int .i64 x.val, .agg #[(X x.val).getD 0 undef,(X x.val).getD 1 undef,(X x.val).getD 2 undef]]:=by
  funext x
  have:=hl x.val
  match h:X x.val with
  | [u0,u1,u2]=>rfl
  | []=>rw [h] at this;simp at this
  | [_]=>rw [h] at this;simp at this
  | [_,_]=>rw [h] at this;simp at this
  | _::_::_::_::_=>rw [h] at this;simp at this
 rw [e]
 refine RF Fence.wide m trivial rfl hm B w.heap.size a len cap (fun j=>(X j).getD 0 undef) (fun j=>(X j).getD 1 undef) (fun j=>(X j).getD 2 undef) hlen w (World.block_lt_of_cell? w _ hc) (Ah _) hc fun hp=>?_
 obtain⟨b,off,h1,h2,h3⟩:=hI hp
 refine⟨b,off,h1,h2,fun j hj=>?_⟩
 have h4:=hl j
 match h:X j with
 | [u0,u1,u2]=>exact⟨h3 j hj 0 u0 (by rw [h];rfl),h3 j hj 1 u1 (by rw [h];rfl),h3 j hj 2 u2 (by rw [h];rfl)⟩
 | []=>rw [h] at h4;simp at h4
 | [_]=>rw [h] at h4;simp at h4
 | [_,_]=>rw [h] at h4;simp at h4
 | _::_::_::_::_=>rw [h] at h4;simp at h4

end
section
open Go.RowKit
def FK (l:List Img) (z w:Int):Nat->Option Nat
 | 0=>none
 | k+1=>if (l.getD k iz).zone=z/\(l.getD k iz).what=w then some k else FK l z w k
def GV (l:List Tx) (z w:Int):Nat->Option (Nat × Nat)
 | 0=>none
 | k+1=>match FK (l.getD k tz).images z w (l.getD k tz).images.length with
  | some i=>some (k,i)
  | none=>GV l z w k
theorem S2 (l:List Img) (z w:Int):∀ k,Ck l z w k=(FK l z w k).map fun i=>l.getD i iz
 | 0=>rfl
 | k+1=>by
  rw [Ck,FK,S2 l z w k]
  split <;> rfl
theorem Lq (l:List Tx) (z w:Int):∀ k,Ez l z w k=(GV l z w k).map fun p=>((l.getD p.1 tz).images.getD p.2 iz,(l.getD p.1 tz).seq)
 | 0=>rfl
 | k+1=>by
  rw [Ez,GV,S2]
  cases FK (l.getD k tz).images z w (l.getD k tz).images.length with
  | some i=>rfl
  | none=>exact Lq l z w k
theorem M6 {l:List Img} {z w:Int}:∀ {k:Nat},FK l z w k=none->∀ j,j<k->¬((l.getD j iz).zone=z/\(l.getD j iz).what=w)
 | k+1,h,j,hj=>by
  rw [FK] at h
  split at h
  ·cases h
  ·rename_i hc
   rcases Nat.lt_succ_iff_lt_or_eq.1 hj with q | rfl
   ·exact M6 h j q
   ·exact hc
theorem NP {l:List Img} {z w:Int} {j:Nat} (h:(l.getD j iz).zone=z/\(l.getD j iz).what=w):∀ (k:Nat),j<k->(∀ i,j<i->i<k->¬((l.getD i iz).zone=z/\(l.getD i iz).what=w))->FK l z w k=some j
 | k+1,hj,hn=>by
  rw [FK]
  by_cases e:j=k
  ·subst e;rw [if_pos h]
  ·rw [if_neg (hn k (by omega) (by omega))]
   exact NP h k (by omega) fun i q1 q2=>hn i q1 (by omega)
theorem M7 {l:List Img} {z w:Int} {j:Nat}:∀ {k:Nat},FK l z w k=some j->j<k/\(l.getD j iz).zone=z/\(l.getD j iz).what=w
 | k+1,h=>by
  rw [FK] at h
  split at h
  ·rename_i hc
   obtain rfl:=Option.some.inj h
   exact⟨by omega,hc⟩
  ·have:=M7 h
   exact⟨by omega,this.2⟩
theorem NQ {l:List Tx} {z w:Int} {j i:Nat} (h:FK (l.getD j tz).images z w (l.getD j tz).images.length=some i):∀ (k:Nat),j<k->(∀ q,j<q->q<k->FK (l.getD q tz).images z w (l.getD q tz).images.length=none)->GV l z w k=some (j,i)
 | k+1,hj,hn=>by
  rw [GV]
  by_cases e:j=k
  ·subst e;rw [h]
  ·rw [hn k (by omega) (by omega)]
   exact NQ h k (by omega) fun q q1 q2=>hn q q1 (by omega)
theorem M8 {l:List Tx} {z w:Int}:∀ (k:Nat),(∀ q,q<k->FK (l.getD q tz).images z w (l.getD q tz).images.length=none)->GV l z w k=none
 | 0,_=>rfl
 | k+1,hn=>by
  rw [GV,hn k (by omega)]
  exact M8 k fun q hq=>hn q (by omega)
theorem JO {l:List Tx} {z w:Int} {p:Nat × Nat}:∀ {k:Nat},GV l z w k=some p->p.1<k/\p.2<(l.getD p.1 tz).images.length
 | k+1,h=>by
  rw [GV] at h
  split at h
  ·rename_i i hi
   obtain rfl:=Option.some.inj h
   exact⟨Nat.lt_succ_self k,(M7 hi).1⟩
  ·have:=JO h
   exact⟨by omega,this.2⟩
theorem WE (a:Option Addr) (len cap:Nat) (w:World) :
  Calls Tryz.prog 231 #[.slice a len cap] w fun e w'=>e = .returned (.func (.func 265) #[] #[.pointer (some ⟨w.heap.size,0,none⟩)])/\w.alloc (.cells #[.slice a len cap] 29)=w':=by
 go_enter Tryz.func231,Tryz.ntmps231
 go_wp2
 go_ret
 exact⟨rfl,rfl⟩
theorem Qq (a:Option Addr) (len cap:Nat) (w:World) :
  Calls Tryz.prog 232 #[.slice a len cap] w fun e w'=>e = .returned (.func (.func 266) #[] #[.pointer (some ⟨w.heap.size,0,none⟩)])/\w.alloc (.cells #[.slice a len cap] 43)=w':=by
 go_enter Tryz.func232,Tryz.ntmps232
 go_wp2
 go_ret
 exact⟨rfl,rfl⟩
theorem OQ {P:Program} {f g:FuncId} {t:TypeId} (hg:WY P f) (h:∀ a len cap w,Calls P f #[.slice a len cap] w fun e w'=>e = .returned (.func (.func g) #[] #[.pointer (some ⟨w.heap.size,0,none⟩)])/\w.alloc (.cells #[.slice a len cap] t)=w') (x:AV) (Hin:List AB) (hx:∀ c u,Rd x c u->∃ a len cap,u = .slice a len cap):ACalls P false f [x] Hin fun r H=>r = .fn g [.bp Hin.length 0]/\H=Hin ++ [.box t [x]]:=by
 refine⟨hg,fun w0 M0 c us hs hr=>?_⟩
 have hr0:=hr
 simp only [RdL] at hr
 obtain⟨u,_,rfl,hu,rfl⟩:=hr
 obtain⟨a,len,cap,rfl⟩:=hx _ _ hu
 obtain⟨c',e1,e2,e3,e4⟩:=hs.box t hr0 (by simp [Value.oneCell'])
 refine(h a len cap c.w).mono ?_
 rintro e w' ⟨rfl,rfl⟩
 refine⟨_,c',_,_,rfl,by rw [e1],⟨rfl,rfl⟩,e2,e3,?_,fun e=>by cases e⟩
 simp only [Rd,RdL]
 exact⟨_,rfl,_,_,rfl,by simpa only [Rd] using e4,rfl⟩
theorem Oh {sz n:Nat} {get:Nat->List AV} (c:Ctx) (u:Value) (hu:Rd (.sl sz n get) c u):∃ a len cap,u = .slice a len cap:=by
 simp only [Rd] at hu
 obtain⟨a,p,h, -⟩:=hu
 exact⟨_,_,_,h⟩
theorem PE (l:List Tx) (z w:Int) (hl:l.length<=1000000) (hi:∀ t∈l,t.images.length<=1000000):Fn Tryz.prog 182 [Di l, .v (.int .i64 z), .v (.int .i64 w)] fun r=>r=(match GV l z w l.length with | some p=> .tp [.v (.int .i64 (p.1:Nat)), .v (.int .i64 (p.2:Nat)), .v (.bool true)] | none=> .tp [.v (.int .i64 0), .v (.int .i64 0), .v (.bool false)]):=by
 refine zT Tryz.func182 rfl ?_
 conv=>whnf
 refine(OQ ⟨_,Tryz.func231,rfl,by decide⟩ WE (Di l) _ Oh).mono ?_
 rintro _ _ ⟨rfl,rfl⟩
 conv=>whnf
 refine aRF.back tys_ok bktx_is (B:=5) (len:=l.length) (E:=fun i=>DH (l.getD i ⟨0,0,0, []⟩)) rfl rfl ⟨rfl,rfl,rfl⟩ (by omega) rfl (by decide) rfl [(4, .rp [.v (.int .i64 z)]),(5, .rp [.v (.int .i64 w)])] ⟨.inr ⟨0,_,_,rfl,rfl,rfl,rfl⟩, .inr ⟨1,_,_,rfl,rfl,rfl,rfl⟩,tv⟩ (fun i=>(FK (l.getD i tz).images z w (l.getD i tz).images.length).isSome) ?_ ?_ ?_
 ·intro i hik hh
  have hn:FK (l.getD i tz).images z w (l.getD i tz).images.length=none:=by simpa using hh
  have him:=hi _ (A9 (d:=tz) hik)
  obtain⟨t,ht⟩:∃ t,t=l.getD i tz:=⟨_,rfl⟩
  rw [show l.getD i ⟨0,0,0, []⟩=t from ht.symm]
  rw [<-ht] at hn him
  refine⟨rfl,?_⟩
  conv=>whnf
  refine(OQ ⟨_,Tryz.func232,rfl,by decide⟩ Qq (Eg t.images) _ Oh).mono ?_
  rintro _ _ ⟨rfl,rfl⟩
  conv=>whnf
  refine aRF.back tys_ok bkim_is (B:=2) (len:=t.images.length) (E:=fun j=>E8 (t.images.getD j ⟨0,0, []⟩)) rfl rfl ⟨rfl,rfl,rfl⟩ (by omega) rfl (by decide) rfl [(4, .rp [.v (.int .i64 z)]),(5, .rp [.v (.int .i64 w)])] ⟨.inl ⟨rfl,rfl⟩, .inl ⟨rfl,rfl⟩,tv⟩ (fun _=>false) ?_ ?_ ?_
  ·intro j hj _
   have hnj:=M6 hn j hj
   refine⟨rfl,?_⟩
   conv=>whnf
   by_cases hz:(t.images.getD j ⟨0,0, []⟩).zone=z
   ·rw [show ((t.images.getD j ⟨0,0, []⟩).zone == z)=true from beq_iff_eq.2 hz]
    conv=>whnf
    rw [show ((t.images.getD j ⟨0,0, []⟩).what == w)=false from beq_eq_false_iff_ne.2 fun e=>hnj ⟨hz,e⟩]
    conv=>whnf
   ·rw [show ((t.images.getD j ⟨0,0, []⟩).zone == z)=false from beq_eq_false_iff_ne.2 hz]
    conv=>whnf
  ·intro j hj h
   cases h
  ·intro _
   conv=>whnf
 ·intro i hik hh
  obtain⟨i0,hi0⟩:=Cs.1 hh
  have him:=hi _ (A9 (d:=tz) hik)
  obtain⟨t,ht⟩:∃ t,t=l.getD i tz:=⟨_,rfl⟩
  rw [show l.getD i ⟨0,0,0, []⟩=t from ht.symm]
  rw [<-ht] at hi0 him
  refine⟨rfl,?_⟩
  conv=>whnf
  refine(OQ ⟨_,Tryz.func232,rfl,by decide⟩ Qq (Eg t.images) _ Oh).mono ?_
  rintro _ _ ⟨rfl,rfl⟩
  conv=>whnf
  refine aRF.back tys_ok bkim_is (B:=8) (len:=t.images.length) (E:=fun j=>E8 (t.images.getD j ⟨0,0, []⟩)) rfl rfl ⟨rfl,rfl,rfl⟩ (by omega) rfl (by decide) rfl [(4, .rp [.v (.int .i64 z)]),(5, .rp [.v (.int .i64 w)])] ⟨.inr ⟨0,_,_,rfl,rfl,rfl,rfl⟩, .inr ⟨1,_,_,rfl,rfl,rfl,rfl⟩,tv⟩ (fun j=>decide ((t.images.getD j iz).zone=z/\(t.images.getD j iz).what=w)) ?_ ?_ ?_
  ·intro j hj hnj
   have hnj:=of_decide_eq_false hnj
   refine⟨rfl,?_⟩
   conv=>whnf
   by_cases hz:(t.images.getD j ⟨0,0, []⟩).zone=z
   ·rw [show ((t.images.getD j ⟨0,0, []⟩).zone == z)=true from beq_iff_eq.2 hz]
    conv=>whnf
    rw [show ((t.images.getD j ⟨0,0, []⟩).what == w)=false from beq_eq_false_iff_ne.2 fun e=>hnj ⟨hz,e⟩]
    conv=>whnf
   ·rw [show ((t.images.getD j ⟨0,0, []⟩).zone == z)=false from beq_eq_false_iff_ne.2 hz]
    conv=>whnf
  ·intro j hj hy
   have hy:=of_decide_eq_true hy
   refine⟨rfl,?_⟩
   conv=>whnf
   rw [show ((t.images.getD j ⟨0,0, []⟩).zone == z)=true from beq_iff_eq.2 hy.1]
   conv=>whnf
   rw [show ((t.images.getD j ⟨0,0, []⟩).what == w)=true from beq_iff_eq.2 hy.2]
   refine⟨by simp,rfl,fun hord=>?_⟩
   refine⟨by simp,rfl,fun hord2=>?_⟩
   conv=>whnf
   have hJ:FK (l.getD i tz).images z w (l.getD i tz).images.length=some j:=by
    rw [<-ht]
    exact NP hy _ hj fun q q1 q2=>of_decide_eq_false (hord q q1 q2)
   rw [NQ hJ l.length hik fun q q1 q2=>by simpa using hord2 q q1 q2]
   exact⟨_,ri,rfl⟩
  ·intro hno
   exfalso
   have:=M7 hi0
   exact of_decide_eq_false (hno i0 this.1) this.2
 ·intro hh
  have hn:=M8 (l:=l) (z:=z) (w:=w) l.length fun q hq=>by simpa using hh q hq
  conv=>whnf
  rw [hn]
  exact⟨_,ri,rfl⟩
def GM (x:Gt) (addr stamp:Int):Option (List UInt8):=match BK x addr with
 | some s=>if s.stamp=stamp then some s.pay else none
 | none=>none
theorem V8 {x:Gt} {addr stamp:Int} {b:List UInt8} (h:GM x addr stamp=some b):b.length<=x.bytes.length:=by
 unfold GM BK at h
 split at h
 ·rename_i s hs
  split at hs
  ·obtain rfl:=Option.some.inj hs
   split at h
   ·obtain rfl:=Option.some.inj h
    simp [Cv]
    omega
   ·cases h
  ·cases hs
 ·cases h
theorem Gi (b:Bool):∀ (c:Ctx) (v:Value),Rd (.tp [.v (.slice none 0 0), .v (.bool b)]) c v->Rd (.tp [bA [], .v (.bool b)]) c v:=Cg ⟨Br 1 _,ri,tv⟩
theorem S3 (x:Gt) (addr stamp:Int) (hl:x.bytes.length<=100000):Fn Tryz.prog 230 [.ag (Dr x), .v (.int .i64 addr), .v (.int .i64 stamp)] fun r=>r = .tp [bA ((GM x addr stamp).getD []), .v (.bool (GM x addr stamp).isSome)]:=by
 have ho:=UP x.bytes hl
 by_cases h0:x.err=0
 rotate_left 1
 ·have e:GM x addr stamp=none:=by
   unfold GM BK
   rw [if_neg (fun h=>h0 h.1)]
  rw [e]
  refine zT Tryz.func230 rfl ?_
  conv=>whnf
  rw [show (x.err != 0)=true from bne_iff_ne.2 h0]
  exact⟨_,Gi false,rfl⟩
 by_cases h1:C_ x.bytes=0
 rotate_left 1
 ·have e:GM x addr stamp=none:=by
   unfold GM BK
   rw [if_neg (fun h=>h1 h.2.1)]
  rw [e]
  rw [if_neg h1] at ho
  refine zT Tryz.func230 rfl ?_
  conv=>whnf
  rw [show (x.err != 0)=false from bne_eq_false_iff_eq.2 h0]
  conv=>whnf
  refine z_ ho ?_
  conv=>whnf
  rw [show (C_ x.bytes != 0)=true from bne_iff_ne.2 h1]
  exact⟨_,Gi false,rfl⟩
 rw [if_pos h1,h1] at ho
 by_cases h2:CR x.bytes=addr
 rotate_left 1
 ·have e:GM x addr stamp=none:=by
   unfold GM BK
   rw [if_neg (fun h=>h2 h.2.2)]
  rw [e]
  refine zT Tryz.func230 rfl ?_
  conv=>whnf
  rw [show (x.err != 0)=false from bne_eq_false_iff_eq.2 h0]
  conv=>whnf
  refine z_ ho ?_
  conv=>whnf
  rw [show ((⟨CR x.bytes,Ci x.bytes,Cv x.bytes⟩:Sec).addr != addr)=true from bne_iff_ne.2 h2]
  exact⟨_,Gi false,rfl⟩
 have es:BK x addr=some ⟨CR x.bytes,Ci x.bytes,Cv x.bytes⟩:=by unfold BK;rw [if_pos ⟨h0,h1,h2⟩]
 by_cases h3:Ci x.bytes=stamp
 ·have e:GM x addr stamp=some (Cv x.bytes):=by unfold GM;rw [es];simp only;rw [if_pos h3]
  rw [e]
  refine zT Tryz.func230 rfl ?_
  conv=>whnf
  rw [show (x.err != 0)=false from bne_eq_false_iff_eq.2 h0]
  conv=>whnf
  refine z_ ho ?_
  conv=>whnf
  rw [show ((⟨CR x.bytes,Ci x.bytes,Cv x.bytes⟩:Sec).addr != addr)=false from bne_eq_false_iff_eq.2 h2]
  conv=>whnf
  rw [show ((⟨CR x.bytes,Ci x.bytes,Cv x.bytes⟩:Sec).stamp != stamp)=false from bne_eq_false_iff_eq.2 h3]
  exact⟨_,ri,rfl⟩
 ·have e:GM x addr stamp=none:=by unfold GM;rw [es];simp only;rw [if_neg h3]
  rw [e]
  refine zT Tryz.func230 rfl ?_
  conv=>whnf
  rw [show (x.err != 0)=false from bne_eq_false_iff_eq.2 h0]
  conv=>whnf
  refine z_ ho ?_
  conv=>whnf
  rw [show ((⟨CR x.bytes,Ci x.bytes,Cv x.bytes⟩:Sec).addr != addr)=false from bne_eq_false_iff_eq.2 h2]
  conv=>whnf
  rw [show ((⟨CR x.bytes,Ci x.bytes,Cv x.bytes⟩:Sec).stamp != stamp)=true from bne_iff_ne.2 h3]
  exact⟨_,Gi false,rfl⟩
theorem RD (x:Gt) (addr:Int) (e:Ent):Ec x addr e=match GM x addr e.stamp with
  | some b=>if b.length=8/\((De b:Nat):Int)=e.sum then some b else none
  | none=>none:=by
 unfold Ec GM
 cases BK x addr with
 | none=>rfl
 | some s=>
  simp only
  by_cases h:s.stamp=e.stamp
  ·rw [if_pos h]
   simp only
   by_cases h2:s.pay.length=8/\((De s.pay:Nat):Int)=e.sum
   ·rw [if_pos h2,if_pos ⟨h,h2⟩]
   ·rw [if_neg h2,if_neg (fun q=>h2 q.2)]
  ·rw [if_neg h,if_neg (fun q=>h q.1)]
theorem TZ (x:Gt) (addr:Int) (e:Ent) (hl:x.bytes.length<=100000):Fn Tryz.prog 184 [.ag (Dr x), .v (.int .i64 addr), .ag (CZ e)] fun r=>r = .tp [bA ((Ec x addr e).getD []), .v (.bool (Ec x addr e).isSome)]:=by
 have hp:=S3 x addr e.stamp hl
 rw [RD]
 cases hq:GM x addr e.stamp with
 | none=>
  rw [hq] at hp
  refine zT Tryz.func184 rfl ?_
  conv=>whnf
  refine z_ hp ?_
  conv=>whnf
  apply zW (0) tys_ok mixed (.one 0 (.one 1 (.one 2 (.one 3 (.one 4 (.one 5 (.one 6 (.one 7 (.one 8 (.one 10 (.one 11 (.one 9 (.one 12 (.one 13 .fin)))))))))))))) (by kernel_rfl)
  conv=>whnf
  (skip)
  exact⟨_,Gi false,rfl⟩
 | some b=>
  rw [hq] at hp
  replace hp:Fn Tryz.prog 230 [.ag (Dr x), .v (.int .i64 addr), .v (.int .i64 e.stamp)] fun r=>r = .tp [bA b, .v (.bool true)]:=hp
  have hs:=Pf b
  simp only
  by_cases h8:b.length=8
  rotate_left 1
  ·rw [if_neg (fun h=>h8 h.1)]
   refine zT Tryz.func184 rfl ?_
   conv=>whnf
   refine z_ hp ?_
   conv=>whnf
   apply zW (0) tys_ok mixed (.one 0 (.one 1 (.one 2 (.one 3 (.one 4 (.one 5 (.one 6 (.one 7 (.one 8 (.one 10 (.one 11 (.one 9 (.one 12 (.one 13 .fin)))))))))))))) (by kernel_rfl)
   conv=>whnf
   (rw [show ((b.length:Int) != 8)=true from bne_iff_ne.2 (by omega)])
   conv=>whnf
   all_goals
    exact⟨_,Gi false,rfl⟩
  by_cases hE:((De b:Nat):Int)=e.sum
  ·rw [if_pos ⟨h8,hE⟩]
   refine zT Tryz.func184 rfl ?_
   conv=>whnf
   refine z_ hp ?_
   conv=>whnf
   apply zW (0) tys_ok mixed (.one 0 (.one 1 (.one 2 (.one 3 (.one 4 (.one 5 (.one 6 (.one 7 (.one 8 (.one 10 (.one 11 (.one 9 (.one 12 (.one 13 .fin)))))))))))))) (by kernel_rfl)
   conv=>whnf
   (rw [show ((b.length:Int) != 8)=false from bne_eq_false_iff_eq.2 (by omega)];(conv=>whnf);refine z_ hs ?_)
   conv=>whnf
   all_goals
    rw [show (((De b:Nat):Int) != e.sum)=false from bne_eq_false_iff_eq.2 hE]
    exact⟨_,ri,rfl⟩
  ·rw [if_neg (fun h=>hE h.2)]
   refine zT Tryz.func184 rfl ?_
   conv=>whnf
   refine z_ hp ?_
   conv=>whnf
   apply zW (0) tys_ok mixed (.one 0 (.one 1 (.one 2 (.one 3 (.one 4 (.one 5 (.one 6 (.one 7 (.one 8 (.one 10 (.one 11 (.one 9 (.one 12 (.one 13 .fin)))))))))))))) (by kernel_rfl)
   conv=>whnf
   (rw [show ((b.length:Int) != 8)=false from bne_eq_false_iff_eq.2 (by omega)];(conv=>whnf);refine z_ hs ?_)
   conv=>whnf
   all_goals
    rw [show (((De b:Nat):Int) != e.sum)=true from bne_iff_ne.2 hE]
    exact⟨_,Gi false,rfl⟩
theorem L4 (g:Geo) (x:Gt) (addr root:Int):BO g x addr root=match GM x addr root with
  | some b=>Cu g b
  | none=>none:=by
 unfold BO GM
 cases BK x addr with
 | none=>rfl
 | some s=>
  simp only
  by_cases h:s.stamp=root
  ·rw [if_pos h,if_pos h]
  ·rw [if_neg h,if_neg h]
theorem Q5 {g:Geo} {b:List UInt8} (hg:Bt g=true):(DQ g b=0↔(Cu g b).isSome=true):=by
 unfold DQ
 rw [hg,if_neg (by decide)]
 split <;> simp_all
theorem TV (g:Geo) (x:Gt) (addr root:Int) (hg:Bt g=true) (hl:x.bytes.length<=100000):Fn Tryz.prog 181 [.ag (AY g), .ag (Dr x), .v (.int .i64 addr), .v (.int .i64 root)] fun r=>r = .tp [.ag [BA ((BO g x addr root).getD [])], .v (.bool (BO g x addr root).isSome)]:=by
 have hp:=S3 x addr root hl
 have hG:Fn Tryz.prog 46 [.ag (AY g)] fun r=>r = .v (Gp (Bt g)):=ER g.z g.d g.sp g.sl g.an
 rw [hg] at hG
 rw [L4]
 cases hq:GM x addr root with
 | none=>
  rw [hq] at hp
  refine zT Tryz.func181 rfl ?_
  conv=>whnf
  refine z_ hp ?_
  exact⟨_,Cg (m:= [.ag [BA []], .v (.bool false)]) ⟨Ba ⟨Br 3 _,tv⟩,ri,tv⟩,rfl⟩
 | some b=>
  rw [hq] at hp
  replace hp:Fn Tryz.prog 230 [.ag (Dr x), .v (.int .i64 addr), .v (.int .i64 root)] fun r=>r = .tp [bA b, .v (.bool true)]:=hp
  have hbl:=V8 hq
  have hr:=L1 g b (by omega)
  rw [hg,if_pos rfl] at hr
  have hz:=Q5 (b:=b) hg
  simp only
  refine zT Tryz.func181 rfl ?_
  conv=>whnf
  refine z_ hp ?_
  conv=>whnf
  refine z_ hG ?_
  conv=>whnf
  refine z_ hr ?_
  conv=>whnf
  cases hR:Cu g b with
  | none=>
   rw [hR] at hz
   rw [show (DQ g b == 0)=false from beq_eq_false_iff_ne.2 fun e=>by have:=hz.1 e;cases this]
   exact⟨_,ri,rfl⟩
  | some t=>
   rw [hR] at hz
   rw [show (DQ g b == 0)=true from beq_iff_eq.2 (hz.2 rfl)]
   exact⟨_,ri,rfl⟩
theorem N1 (l:List Tx) (z w:Int) (hl:l.length<=1000000) (hi:∀ t∈l,t.images.length<=1000000/\∀ x∈t.images,x.bytes.length<=1000000000):Fn Tryz.prog 110 [Di l, .v (.int .i64 z), .v (.int .i64 w)] fun r=>r=(match CL l z w with | some p=> .tp [bA p.1.bytes, .v (.int .i64 p.2), .v (.bool true)] | none=> .tp [bA [], .v (.int .i64 0), .v (.bool false)]):=by
 have hf:=PE l z w hl (fun t ht=>(hi t ht).1)
 have e:CL l z w=_:=Lq l z w l.length
 rw [e]
 cases hA:GV l z w l.length with
 | none=>
  rw [hA] at hf
  refine zT Tryz.func110 rfl ?_
  conv=>whnf
  refine z_ hf ?_
  exact⟨_,Cg (m:= [bA [], .v (.int .i64 0), .v (.bool false)]) ⟨Br 1 _,ri,ri,tv⟩,rfl⟩
 | some p=>
  obtain⟨k,i⟩:=p
  rw [hA] at hf
  obtain⟨hk,hi2⟩:=JO hA
  simp only at hk hi2
  have hm:=hi _ (A9 (d:=tz) hk)
  have hc:=Dc ((l.getD k tz).images.getD i iz).bytes (hm.2 _ (A9 hi2))
  replace hf:Fn Tryz.prog 182 [Di l, .v (.int .i64 z), .v (.int .i64 w)] fun r=>r = .tp [.v (.int .i64 (k:Nat)), .v (.int .i64 (i:Nat)), .v (.bool true)]:=hf
  have ixA:(0:Int)<=(k:Nat)/\((k:Nat):Int)<(l.length:Nat):=by omega
  have ixB:(0:Int)<=(i:Nat)/\((i:Nat):Int)<((l.getD k tz).images.length:Nat):=⟨Int.natCast_nonneg _,Int.ofNat_lt.2 hi2⟩
  refine zT Tryz.func110 rfl ?_
  conv=>whnf
  refine z_ hf ?_
  conv=>whnf
  apply zQ tys_ok mixed (.one 0 (.one 1 (.one 2 (.one 3 (.one 4 (.one 5 (.one 6 (.one 7 (.one 8 (.one 10 (.one 11 (.one 12 (.one 13 (.one 14 (.one 9 (.one 15 (.one 16 (.one 17 .fin)))))))))))))))))) [6,7,8,22,23,24,25,26,27,28,29,30,31,32,33,34,35,36] (by kernel_rfl)
  ·conv=>whnf
   try (refine Ae (by first | omega | exact ixA | exact ixB | (simp;done)) ?_;conv=>whnf)
   try (refine Ae (by first | omega | exact ixA | exact ixB | (simp;done)) ?_;conv=>whnf)
   try (refine Ae (by first | omega | exact ixA | exact ixB | (simp;done)) ?_;conv=>whnf)
   refine z_ hc ?_
   exact⟨rfl,rfl⟩
  exact⟨_,ri,rfl⟩
theorem VA (a:An) (l:List Tx) (z:Int) (hz:0<=z/\z<a.homes.length) (hl:l.length<=1000000) (hi:∀ t∈l,t.images.length<=1000000):Fn Tryz.prog 178 [.ag (Ed a),Di l, .v (.int .i64 z)] fun r=>r = .tp [.v (.int .i64 (Ce a l z)), .v (.int .i64 0)]:=by
 have hf:=PE l z 255 hl hi
 have e:CL l z 255=_:=Lq l z 255 l.length
 unfold Ce
 rw [e]
 cases hA:GV l z 255 l.length with
 | none=>
  rw [hA] at hf
  refine zT Tryz.func178 rfl ?_
  conv=>whnf
  rw [show decide (z<0)=false from decide_eq_false (by omega)]
  conv=>whnf
  rw [show decide (z>=(a.homes.length:Nat))=false from decide_eq_false (by omega)]
  conv=>whnf
  refine z_ hf ?_
  refine⟨⟨by omega,by omega⟩,?_⟩
  exact⟨_,ri,rfl⟩
 | some p=>
  obtain⟨k,i⟩:=p
  rw [hA] at hf
  obtain⟨hk,hi2⟩:=JO hA
  simp only at hk hi2
  replace hf:Fn Tryz.prog 182 [Di l, .v (.int .i64 z), .v (.int .i64 255)] fun r=>r = .tp [.v (.int .i64 (k:Nat)), .v (.int .i64 (i:Nat)), .v (.bool true)]:=hf
  have ixA:(0:Int)<=(k:Nat)/\((k:Nat):Int)<(l.length:Nat):=by omega
  refine zT Tryz.func178 rfl ?_
  conv=>whnf
  rw [show decide (z<0)=false from decide_eq_false (by omega)]
  conv=>whnf
  rw [show decide (z>=(a.homes.length:Nat))=false from decide_eq_false (by omega)]
  conv=>whnf
  refine z_ hf ?_
  refine⟨ixA,?_⟩
  exact⟨_,ri,rfl⟩
theorem TM (g:Geo) (lba:Int) (hg:Bt g=true) (h:0<=lba/\lba<g.z*g.d):Fn Tryz.prog 108 [.ag (AY g), .v (.int .i64 lba)] fun r=>r = .tp [.v (.int .i64 (lba.tdiv g.d)), .v (.int .i64 (lba.tmod g.d)), .v (.int .i64 0)]:=by
 obtain⟨h1,h2,h3,h4,h5⟩:=As.1 hg
 have hG:Fn Tryz.prog 46 [.ag (AY g)] fun r=>r = .v (Gp (Bt g)):=ER g.z g.d g.sp g.sl g.an
 rw [hg] at hG
 have hp:g.z*g.d<=16:=Int.le_trans (BT h1.2 (by omega)) (by omega)
 have hw:IntKind.i64.wrap (IntKind.i64.wrap (g.z*g.d) - 1)=g.z*g.d - 1:=by rw [wi (n:=g.z*g.d) (by omega),wi (by omega)]
 have hn:=Kx lba 0 (IntKind.i64.wrap (IntKind.i64.wrap (g.z*g.d) - 1))
 rw [show CJ lba 0 (IntKind.i64.wrap (IntKind.i64.wrap (g.z*g.d) - 1))=true from AL.2 (by rw [hw];omega)] at hn
 have hq:lba.tdiv g.d=lba / g.d:=Bl h.1
 have hq2:0<=lba / g.d/\lba / g.d<=lba:=⟨D3 h.1 (by omega),Int.ediv_le_self _ h.1⟩
 refine zT Tryz.func108 rfl ?_
 conv=>whnf
 refine z_ hG ?_
 conv=>whnf
 refine z_ hn ?_
 conv=>whnf
 have hd0:g.d≠0:=by omega
 refine zA tys_ok mixed [0,1,2,3,4,5,6,7,8,9,10] (by kernel_rfl) ?_
 refine⟨hd0,?_⟩
 refine⟨hd0,?_⟩
 exact⟨_,ri,by rw [wi (n:=lba.tdiv g.d) (by omega)]⟩
theorem Ut (g:Geo) (w:Int):Fn Tryz.prog 185 [.ag (AY g), .v (.int .i64 w)] fun r=>r = .v (.int .i64 (E0 g w)):=by
 unfold E0
 by_cases h:w = -1
 ·rw [if_pos h]
  refine zT Tryz.func185 rfl ?_
  conv=>whnf
  rw [show (w == -1)=true by simpa using h]
  exact⟨_,ri,rfl⟩
 ·rw [if_neg h]
  refine zT Tryz.func185 rfl ?_
  conv=>whnf
  rw [show (w == -1)=false by simpa using h]
  exact⟨_,ri,rfl⟩
theorem Sw (g:Geo) (s:Stt) (d:Dk) (F:Int->List UInt8) (a:Int) (h:Gd (Av g) d F) (ha:0<=a/\a<Av g) :
  ACalls Tryz.prog false 180 [.bp 0 0, .v (.int .i64 a)] (GC g s d) fun r H=>r = .ag (Dr ⟨0,F a⟩)/\∃ d',Gd (Av g) d' F/\H=GC g s d':=by
 have hr:=Zj g s d a h.ok (by rw [h.len];exact ha)
 rw [h.read ha.1 ha.2] at hr
 exact hr.mono fun r H hh=>⟨hh.1,d.req,h.req,hh.2⟩
theorem Yg (g:Geo) (s:Stt) (d:Dk) (F:Int->List UInt8) (z:Int) (hg:Bt g=true) (hl:LogB s.txns) (ha:Bg g s.a=true) (h:Gd (Av g) d F) (hF:∀ a,(F a).length<=100000) (hz:0<=z/\z<g.z) (hB:∀ p,CL s.txns z 255=some p->p.1.bytes.length<=100000) (t:List Ent) (ht:E6 g s F z=some t) :
    ACalls Tryz.prog false 109 [.bp 0 0, .v (.int .i64 z)] (GC g s d) fun r H=>r = .tp [.ag [BA t], .v (.int .i64 0)]/\∃ d',Gd (Av g) d' F/\H=GC g s d':=by
  have hf:=N1 s.txns z 255 hl.n hl.i
  unfold E6 at ht
  cases hL:CL s.txns z 255 with
  | some p=>
    obtain⟨x,q⟩:=p
    rw [hL] at hf ht
    simp only at hf ht
    have hr:=L1 g x.bytes (hB _ hL)
    rw [hg,if_pos rfl,ht] at hr
    refine zS tys_ok Tryz.func109 rfl rfl (Ag rfl) ?_
    conv=>whnf
    refine z_ hf ?_
    conv=>whnf
    refine z_ hr ?_
    exact⟨.tp [.ag [BA t], .v (.int .i64 0)], .tp [.ag [BA t], .v (.int .i64 0)],GC g s d,fun _ _ h=>h,zR (s:= [0,1,2,3]) ⟨⟨rfl,tv⟩,⟨rfl,rfl,rfl,rfl,tv⟩,rfl,rfl,rfl,rfl,rfl⟩,rfl,d,h,rfl⟩
  | none=>
    rw [hL] at hf ht
    simp only at hf ht
    have hR:=VA s.a s.txns z (by have:=(JG ha hz).1;omega) hl.n (fun t ht=>(hl.i t ht).1)
    refine zS tys_ok Tryz.func109 rfl rfl (Ag rfl) ?_
    conv=>whnf
    refine z_ hf ?_
    conv=>whnf
    apply zQ tys_ok mixed (.one 0 (.one 1 (.one 2 (.one 3 (.one 4 (.one 5 (.one 6 (.one 7 (.one 8 (.one 9 (.one 10 (.one 11 (.one 12 (.one 13 (.one 14 (.one 15 (.one 16 .fin))))))))))))))))) [11,12,41,42,43,44,45,46,47,48,49,50,51,52,53,54,55] (by kernel_rfl)
    · conv=>whnf
      refine z_ hR ?_
      exact⟨rfl,rfl⟩
    conv=>whnf
    have htab:∀ k:Nat,k<2->g.an+2*g.sl<=AG g z (k:Nat)/\AG g z (k:Nat)<Av g:=fun k hk=>by have:=Ft hg hz (k:=(k:Nat)) (by omega);omega
    refine zV (Nat × Dk) (fun x=>([(0, .bp 0 0),(1, .v (.int .i64 z)),(4, .bp 4 0),(11, .v (.int .i64 (Ce s.a s.txns z))),(56, .v (.int .i64 (x.1:Nat)))],GC g s x.2 ++ ([.box 141 [.v (.slice none 0 0)]]:List AB))) (fun x=>x.1<=2/\Gd (Av g) x.2 F/\∀ j:Nat,j<x.1->BO g ⟨0,F (AG g z (j:Nat))⟩ (AG g z (j:Nat)) (Ce s.a s.txns z)=none) (fun x=>2 - x.1) (0,d) ⟨Aj _,h,fun j hj=>absurd hj (Ap j)⟩
      (zR (s:= [0,1,2,3,4]) ⟨⟨rfl,rfl,rfl,rfl,rfl,tv⟩,⟨rfl,rfl,rfl,rfl,rfl,tv⟩,rfl,rfl,rfl,rfl,rfl⟩) ?_
    rintro⟨k,d1⟩ ⟨hk,hd1,hno⟩
    simp only at hk hd1 hno
    conv=>whnf
    refine A3 (fun h6=>?_) (fun h6=>?_) <;> (repeat rw [Ac] at h6) <;> conv=>whnf
    · have hk2:k<2:=by omega
      have hta:=Kw g z (k:Nat) hg hz (by omega)
      obtain⟨q1,q2⟩:=htab k hk2
      have hz2:=As.1 hg
      have hrd:=Sw g s d1 F (AG g z (k:Nat)) hd1 (by omega)
      have hto:=TV g ⟨0,F (AG g z (k:Nat))⟩ (AG g z (k:Nat)) (Ce s.a s.txns z) hg (hF _)
      repeat' (refine zX ?_;conv=>whnf)
      refine z_ hta ?_
      conv=>whnf
      repeat' (refine zX ?_;conv=>whnf)
      refine zZ [0,1,2,3] hrd rfl rfl rfl rfl (by decide) (Er rfl) ⟨rfl,rfl,rfl,rfl,tv⟩ ?_
      rintro _ _ ⟨rfl,d2,hd2,rfl⟩
      conv=>whnf
      repeat' (refine zX ?_;conv=>whnf)
      have hGk:∀ u,BO g ⟨0,F (AG g z (k:Nat))⟩ (AG g z (k:Nat)) (Ce s.a s.txns z)=some u->u=t:=fun u hu=>by
        match k,hk2 with
        | 0,_=>
          have hu:BO g ⟨0,F (AG g z 0)⟩ (AG g z 0) (Ce s.a s.txns z)=some u:=hu
          rw [hu] at ht
          exact Option.some.inj ht
        | 1,_=>
          have h0:BO g ⟨0,F (AG g z 0)⟩ (AG g z 0) (Ce s.a s.txns z)=none:=hno 0 (by decide)
          have hu:BO g ⟨0,F (AG g z 1)⟩ (AG g z 1) (Ce s.a s.txns z)=some u:=hu
          rw [h0] at ht
          simp only at ht
          exact Option.some.inj (hu.symm.trans ht)
      apply zW (0) tys_ok mixed (.one 0 (.one 1 (.one 2 (.one 3 (.one 4 (.one 5 (.one 6 (.two 7 (.one 8 (.one 9 (.one 10 (.one 11 (.one 12 (.one 13 .fin)))))) 11 (.one 7 (.one 8 (.one 9 (.one 10 (.one 12 (.one 13 .fin)))))))))))))) (by kernel_rfl)
      refine Ae ?_ ?_
      conv=>whnf
      refine z_ hto ?_
      conv=>whnf
      try (refine tS ?_;conv=>whnf)
      rotate_left 1
      conv=>whnf
      refine z_ hto ?_
      conv=>whnf
      try (refine tS ?_;conv=>whnf)
      rotate_left 1
      all_goals
        cases hT:BO g ⟨0,F (AG g z (k:Nat))⟩ (AG g z (k:Nat)) (Ce s.a s.txns z)
      all_goals
        conv=>whnf
        first
        | exact⟨(k+1,d2),⟨by show k+1<=2;omega,hd2,fun j hj=>by by_cases e:j=k;exact e ▸ hT;exact hno j (by have:j<k+1:=hj;omega)⟩,by show 2 - (k+1)<2 - k;omega,zR (s:= [0,1,2,3,4]) ⟨⟨rfl,rfl,rfl,rfl,AS (by omega),tv⟩,⟨rfl,rfl,rfl,rfl,rfl,tv⟩,rfl,rfl,rfl,rfl,rfl⟩⟩
        | (rename_i u
           have e:=hGk _ hT
           subst e
           exact⟨.tp [.ag [BA u], .v (.int .i64 0)], .tp [.ag [BA u], .v (.int .i64 0)],GC g s d2,fun _ _ h=>h,zR (s:= [0,1,2,3]) ⟨⟨rfl,tv⟩,⟨rfl,rfl,rfl,rfl,tv⟩,rfl,rfl,rfl,rfl,rfl⟩,rfl,d2,hd2,rfl⟩)
    · have ek:k=2:=by omega
      subst ek
      have h0:BO g ⟨0,F (AG g z 0)⟩ (AG g z 0) (Ce s.a s.txns z)=none:=hno 0 (by decide)
      have h1:BO g ⟨0,F (AG g z 1)⟩ (AG g z 1) (Ce s.a s.txns z)=none:=hno 1 (by decide)
      rw [h0] at ht
      simp only at ht
      rw [h1] at ht
      cases ht
theorem Sf {g:Geo} {b:List UInt8} {t:List Ent} (h:Cu g b=some t):t.length=(g.d+1).toNat:=by
 unfold Cu at h
 split at h
 ·rw [<-Option.some.inj h,entsOf_len]
 ·cases h
theorem Pe {g:Geo} {x:Gt} {q r:Int} {t:List Ent} (h:BO g x q r=some t):t.length=(g.d+1).toNat:=by
 rw [L4] at h
 split at h
 ·exact Sf h
 ·cases h
theorem YF {g:Geo} (hg:Bt g=true) {s:Stt} {F:Int->List UInt8} {z:Int} {t:List Ent} (h:E6 g s F z=some t):(t.length:Int)=g.d+1:=by
 have g5:=As.1 hg
 have:t.length=(g.d+1).toNat:=by
  unfold E6 at h
  split at h
  ·exact Sf h
  ·split at h
   ·rename_i q
    rw [<-Option.some.inj h]
    exact Pe q
   ·exact Pe h
 omega
theorem WB (g:Geo) (s:Stt) (d:Dk) (F:Int->List UInt8) (z w:Int) (t:List Ent) (hg:Bt g=true) (ha:Bg g s.a=true) (h:Gd (Av g) d F) (hF:∀ a,(F a).length<=100000) (hz:0<=z/\z<g.z) (hw : -1<=w/\w<g.d) (ht:(t.length:Int)=g.d+1) :
  ACalls Tryz.prog false 111 [.bp 0 0, .v (.int .i64 z), .v (.int .i64 w), .ag [BA t]] (GC g s d) fun r H=>r = .tp [bA ((Ec ⟨0,F (Bw g s.a z w)⟩ (Bw g s.a z w) (t.getD (E0 g w).toNat ez)).getD []), .v (.int .i64 0)]/\∃ d',Gd (Av g) d' F/\H=GC g s d':=by
 have hadr:=P9 g s.a z w hg ha hz hw
 obtain⟨sl,e1,e2⟩:=D_ hg ha hz (w:=w) hw
 have hsl:=E_ hg hz e2
 have hat:0<=E0 g w/\E0 g w<=g.d:=by have:=As.1 hg;unfold E0;split <;> omega
 have hci:=Ut g w
 obtain⟨X,hX⟩:∃ X,X=Bw g s.a z w:=⟨_,rfl⟩
 rw [<-hX] at hadr e1 |-
 have hcb:=Eu hg
 have hrd:=Sw g s d F X h (by have:=As.1 hg;omega)
 have heb:=TZ ⟨0,F X⟩ X (t.getD (E0 g w).toNat ez) (hF _)
 have ixA:0<=E0 g w/\E0 g w<(t.length:Nat):=by omega
 refine zS tys_ok Tryz.func111 rfl rfl (Ag rfl) ?_
 conv=>whnf
 apply zQ tys_ok mixed (.one 0 (.one 1 (.one 2 (.one 3 (.one 4 (.one 5 (.one 6 (.one 7 (.one 8 (.one 9 (.one 10 (.one 11 (.one 12 (.one 13 (.one 14 (.one 15 (.one 16 .fin))))))))))))))))) [10,11,15,16,17,18,19,20,21,22,23,24,25,26,27,28,29] (by kernel_rfl)
 ·conv=>whnf
  refine z_ hadr ?_
  exact⟨rfl,rfl⟩
 conv=>whnf
 refine zZ [0,1,2,3] hrd rfl rfl rfl rfl (by decide) (Er rfl) ⟨rfl,rfl,rfl,rfl,tv⟩ ?_
 rintro _ _ ⟨rfl,d2,hd2,rfl⟩
 conv=>whnf
 repeat' (refine zX ?_;conv=>whnf)
 apply zQ tys_ok mixed (.one 0 (.one 1 (.one 2 (.one 3 (.one 4 (.one 5 (.one 6 (.one 7 (.one 8 (.one 9 (.one 10 (.one 11 (.one 12 (.one 13 (.one 14 (.one 15 (.one 16 (.one 17 .fin)))))))))))))))))) [13,14,36,37,38,39,40,41,42,43,44,45,46,47,48,49,50,51] (by kernel_rfl)
 ·conv=>whnf
  refine z_ hci ?_
  conv=>whnf
  try (refine Ae (by first | omega | exact ixA | exact ixB | (simp;done)) ?_;conv=>whnf)
  refine z_ heb ?_
  exact⟨rfl,rfl⟩
 conv=>whnf
 obtain⟨B,hBe⟩:∃ B,B=(Ec ⟨0,F X⟩ X (t.getD (E0 g w).toNat ez)).getD []:=⟨_,rfl⟩
 rw [<-hBe]
 exact⟨.tp [bA B, .v (.int .i64 0)], .tp [bA B, .v (.int .i64 0)],GC g s d2,fun _ _ h=>h,zR (s:= [0,1,2,3]) ⟨⟨rfl,tv⟩,⟨rfl,rfl,rfl,rfl,tv⟩,rfl,rfl,rfl,rfl,rfl⟩,rfl,d2,hd2,rfl⟩
theorem Qn (g:Geo) (a:An) (l:List Tx) (d:Dk) (F:Int->List UInt8) (lba:Int) (t:List Ent) (v:Int->List UInt8) (hg:Bt g=true) (hl:LogB l) (ha:Bg g a=true) (h:Gd (Av g) d F) (hF:∀ a,(F a).length<=100000) (hb:0<=lba/\lba<g.z*g.d) (hB:∀ p,CL l (lba.tdiv g.d) 255=some p->p.1.bytes.length<=100000) (hv:ZoneV g a l F (lba.tdiv g.d) t v) :
  ACalls Tryz.prog false 55 [.bp 0 0, .v (.int .i64 lba)] (GC g (AO a l) d) fun r H=>r = .tp [bA (v (lba.tmod g.d)), .v (.int .i64 0)]/\∃ d',Gd (Av g) d' F/\H=GC g (AO a l) d':=by
 have g5:=As.1 hg
 have h1:=TM g lba hg hb
 have hz:0<=lba.tdiv g.d/\lba.tdiv g.d<g.z:=by
  rw [Bl hb.1]
  exact⟨D3 hb.1 (by omega),Cp (by omega) hb.2⟩
 have hA:0<=lba.tmod g.d/\lba.tmod g.d<g.d:=⟨Bq _ hb.1,Bb _ (by omega)⟩
 obtain⟨Z,hZ⟩:∃ Z,Z=lba.tdiv g.d:=⟨_,rfl⟩
 obtain⟨A,hAe⟩:∃ A,A=lba.tmod g.d:=⟨_,rfl⟩
 rw [<-hZ] at h1 hz hB hv
 rw [<-hAe] at h1 hA |-
 have ht:=YF hg hv.tab
 have h2:=Yg g (AO a l) d F Z hg hl ha h hF hz hB t hv.tab
 have h3:=N1 l Z A hl.n hl.i
 have hat:E0 g A=A:=by unfold E0;rw [if_neg (by omega)]
 have hE:=hv.ent A (by omega) hA.2
 have hV:=hv.val A (by omega) hA.2
 have hLn:=hv.len A (by omega) hA.2
 rw [hat] at hE hV
 have ixA:0<=A/\A<(t.length:Nat):=by omega
 cases hL:CL l Z A with
 | some p=>
  rw [hL] at h3 hV
  simp only at h3 hV
  rw [hV.1] at h3
  refine zS tys_ok Tryz.func55 rfl rfl (Ag rfl) ?_
  conv=>whnf
  refine z_ h1 ?_
  conv=>whnf
  refine zZ [0,1,2,3] h2 rfl rfl rfl rfl (by decide) (Er rfl) ⟨rfl,rfl,rfl,rfl,tv⟩ ?_
  rintro _ _ ⟨rfl,d2,hd2,rfl⟩
  conv=>whnf
  repeat' (refine zX ?_;conv=>whnf)
  refine⟨ixA,?_⟩
  conv=>whnf
  rw [show (t.getD A.toNat ⟨0,0,false⟩).lost=false from hE.1]
  conv=>whnf
  refine z_ h3 ?_
  exact⟨.tp [bA (v A), .v (.int .i64 0)], .tp [bA (v A), .v (.int .i64 0)],GC g (AO a l) d2,fun _ _ h=>h,zR (s:= [0,1,2,3]) ⟨⟨rfl,tv⟩,⟨rfl,rfl,rfl,rfl,tv⟩,rfl,rfl,rfl,rfl,rfl⟩,rfl,d2,hd2,rfl⟩
 | none=>
  rw [hL] at h3 hV
  simp only at h3 hV
  refine zS tys_ok Tryz.func55 rfl rfl (Ag rfl) ?_
  conv=>whnf
  refine z_ h1 ?_
  conv=>whnf
  refine zZ [0,1,2,3] h2 rfl rfl rfl rfl (by decide) (Er rfl) ⟨rfl,rfl,rfl,rfl,tv⟩ ?_
  rintro _ _ ⟨rfl,d2,hd2,rfl⟩
  have h4:=WB g (AO a l) d2 F Z A t hg ha hd2 hF hz (by omega) ht
  rw [hat] at h4
  change ACalls Tryz.prog false 111 [.bp 0 0, .v (.int .i64 Z), .v (.int .i64 A), .ag [BA t]] (GC g (AO a l) d2) (fun r H=>r = .tp [bA ((Ec ⟨0,F (Bw g a Z A)⟩ (Bw g a Z A) (t.getD A.toNat ez)).getD []), .v (.int .i64 0)]/\∃ d',Gd (Av g) d' F/\H=GC g (AO a l) d') at h4
  rw [hV] at h4
  replace h4:ACalls Tryz.prog false 111 [.bp 0 0, .v (.int .i64 Z), .v (.int .i64 A), .ag [BA t]] (GC g (AO a l) d2) (fun r H=>r = .tp [bA (v A), .v (.int .i64 0)]/\∃ d',Gd (Av g) d' F/\H=GC g (AO a l) d'):=h4
  conv=>whnf
  repeat' (refine zX ?_;conv=>whnf)
  refine⟨ixA,?_⟩
  conv=>whnf
  rw [show (t.getD A.toNat ⟨0,0,false⟩).lost=false from hE.1]
  conv=>whnf
  refine z_ h3 ?_
  conv=>whnf
  refine zZ [0,1,2,3] h4 rfl rfl rfl rfl (by decide) (Er rfl) ⟨rfl,rfl,rfl,rfl,tv⟩ ?_
  rintro _ _ ⟨rfl,d3,hd3,rfl⟩
  conv=>whnf
  rw [show decide (((v A).length:Int) > 0)=true from decide_eq_true (by omega)]
  exact⟨.tp [bA (v A), .v (.int .i64 0)], .tp [bA (v A), .v (.int .i64 0)],GC g (AO a l) d3,fun _ _ h=>h,zR (s:= [0,1,2,3]) ⟨⟨rfl,tv⟩,⟨rfl,rfl,rfl,rfl,tv⟩,rfl,rfl,rfl,rfl,rfl⟩,rfl,d3,hd3,rfl⟩
theorem Uw (g:Geo) (a:An) (l:List Tx) (d:Dk) (F:Int->List UInt8) (lba:Int) (t:List Ent) (v:Int->List UInt8) (hg:Bt g=true) (hl:LogB l) (hst:MT g d (AO a l)=true) (hsm:StSm (AO a l)) (ha:Bg g a=true) (h:Gd (Av g) d F) (hF:∀ a,(F a).length<=100000) (hb:0<=lba/\lba<g.z*g.d) (hB:∀ p,CL l (lba.tdiv g.d) 255=some p->p.1.bytes.length<=100000) (hv:ZoneV g a l F (lba.tdiv g.d) t v) :
  Fn Tryz.prog 20 [.ag (AY g), .ag (Fq d), .ag (Fi (AO a l)), .v (.int .i64 lba)] fun r=>∃ d',r = .tp [bA (v (lba.tmod g.d)), .ag (Fq d'), .v (.int .i64 0)]:=by
 have c1:=RC g d (AO a l) h.ok hst hsm
 have c2:=Qn g a l d F lba t v hg hl ha h hF hb hB hv
 refine zT Tryz.func20 rfl ?_
 conv=>whnf
 refine zU c1 rfl ?_
 rintro _ _ ⟨rfl,rfl⟩
 conv=>whnf
 refine zZ [4,5,6,7] c2 rfl rfl rfl rfl (by decide) (OC rfl) ⟨rfl,rfl,rfl,rfl,tv⟩ ?_
 rintro _ _ ⟨rfl,d2,hd2,rfl⟩
 conv=>whnf
 have c4:=zh (Zx g (AO a l) d2) (ML g (AO a l) d2 hd2.ok)
 refine zZ [4,5,6,7] c4 rfl rfl rfl rfl (by decide) (OC rfl) ⟨rfl,rfl,rfl,rfl,tv⟩ ?_
 rintro _ _ ⟨rfl,rfl⟩
 exact⟨_,ri,d2,rfl⟩
end
end Go.Proofs.YtkolckdakddggaaGreatDoor.A
