/-
Several texts in one.
-/
import Derived.Test.YtepdhdfoipephaaGreatDoorPPD4P2
import Derived.Test.YtepdhdfoipephaaGreatDoorPPD4P1
import Derived.Test.YtepdhdfoipephaaGreatDoorPPD4P0
import Derived.ProofKit
import Derived.Deep.Slices
import Derived.OpenShut
set_option linter.defProp false
set_option maxRecDepth 100000
set_option maxHeartbeats 8000000
set_option linter.unusedSimpArgs false
set_option linter.unusedVariables false
set_option linter.deprecated false
namespace Go.Proofs.YtepdhdfoipephaaGreatDoor.A
section
open Go.RowKit
@[reducible] def bQ (g:Geo) (s:Stt) (d:Dk) (l:List AB):List AB:= .box 116 (Z_ g (.bp 1 0) s):: .box 185 (He (.ow 2 d.cells.length) (.ow 3 d.cache.length) d.reqs d.left):: .row 128 3 (d.cells.map BE):: .row 134 2 (d.cache.map EE)::l
def B6 (d:Dk) (ats:List Int):List Gt:=ats.map (Uz d)
def DW (g:Geo):List Int:=(List.range g.an.toNat).map Int.ofNat
theorem TM {d:Dk} {k:Nat} (a:Int) (h:¬(d.adv k).left=0):(d.adv k).read a=(d.adv (k+1),d.got a):=by
 rw [Dk.read,if_neg h,X6 k d h,YT]
theorem TN {d:Dk} {k:Nat} (a:Int) (h:(d.adv k).left=0):(d.adv k).read a=(d.adv k, [],8):=by rw [Dk.read,if_pos h]
theorem FC (g:Geo):(DW g).length=g.an.toNat:=by simp [DW]
theorem Of {g:Geo} {k:Nat} (h:k<g.an.toNat):(DW g).getD k 0=k:=by
 rw [DW,Bc (d:=0) (by simpa using h),Aa,Bq h];try rfl
theorem F7 (d:Dk) (ats:List Int):(B6 d ats).length=ats.length:=by simp [B6]
def BO (g:Geo) (copy:Int):List Int:=(List.range g.sl.toNat).map fun i=>Bg g copy (i:Nat)
theorem Jd (g:Geo) (c:Int):(BO g c).length=g.sl.toNat:=by simp [BO]
theorem EL {g:Geo} (hg:Bp g=true):g.an+2*g.sl+2*g.z<=Ay g:=by
 obtain⟨g1,g2,g3,g4,g5⟩:=As.1 hg;have hp:=GG hg;have:0<=g.z*CG g:=CL (by omega) (by omega);unfold Ay;omega
theorem Fj {g:Geo} {n:Nat} (hg:Bp g=true) (hn:(n:Int)=Ay g) {c s:Int} (hc:c=0\/c=1) (hs:0<=s/\s<g.sl):0<=Bg g c s/\Bg g c s<n:=by
 obtain⟨g1,g2,g3,g4,g5⟩:=As.1 hg;have:=EL hg;unfold Bg;rcases hc with rfl | rfl <;> omega
def QR (n:Nat) (w:Wr):Prop:=(0<=w.addr/\w.addr<n)/\w.bytes.length<=200
theorem Ip {d:Dk} (h:DkOk d) {l:List Wr} (hl:∀ w∈l,QR d.cells.length w) (k:Nat):DkOk (d.writes (l.take k)).1/\(d.writes (l.take k)).1.cells.length=d.cells.length:=
 QU (P:=fun x=>DkOk x/\x.cells.length=d.cells.length) l (fun x hx w hw=>⟨hx.1.write (by rw [hx.2];exact(hl w hw).1) (hl w hw).2,by rw [Lb,hx.2]⟩) ⟨h,rfl⟩ k
theorem JY (d:Dk) (a:Int) (b:List UInt8):(d.write a b).2=8\/(d.write a b).2=7\/(d.write a b).2=0:=by
 unfold Dk.write;split
 ·exact .inl rfl
 ·split
  ·exact .inr (.inl rfl)
  ·exact .inr (.inr rfl)
theorem Lc {d:Dk} {l:List Wr} {k:Nat} (hk:k<l.length) (h:(d.writes (l.take k)).2.2=false) :
  d.writes (l.take (k+1))=(((d.writes (l.take k)).1.write (l.getD k ⟨0, []⟩).addr (l.getD k ⟨0, []⟩).bytes).1,(d.writes (l.take k)).2.1+(if ((d.writes (l.take k)).1.write (l.getD k ⟨0, []⟩).addr (l.getD k ⟨0, []⟩).bytes).2=0 then 1 else 0),decide (((d.writes (l.take k)).1.write (l.getD k ⟨0, []⟩).addr (l.getD k ⟨0, []⟩).bytes).2=8)):=by
 rw [G2 d hk];unfold FU;rw [if_neg (by rw [h];decide)];simp only;by_cases h8:((d.writes (l.take k)).1.write (l.getD k ⟨0, []⟩).addr (l.getD k ⟨0, []⟩).bytes).2=8
 ·rw [if_pos h8,h8];simp
 ·rw [if_neg h8,decide_eq_false h8]
theorem FN {d:Dk} {l:List Wr} (h:(d.writes l).2.2=true):d.putAll l=((d.writes l).1,(d.writes l).2.1,true):=by
 unfold Dk.putAll;generalize d.writes l=q at h |-
 obtain⟨a,b,c⟩:=q;simp only at h |-
 rw [if_pos h]
theorem EZ {d:Dk} {l:List Wr} (h:(d.writes l).2.2=false):d.putAll l=if (d.writes l).1.left=0 then ((d.writes l).1,(d.writes l).2.1,true) else ((d.writes l).1.flush,(d.writes l).2.1,false):=by
 unfold Dk.putAll;generalize d.writes l=q at h |-
 obtain⟨a,b,c⟩:=q;simp only at h |-
 rw [if_neg (by rw [h];decide)]
theorem TY {d:Dk} (h:DkOk d) {l:List Wr} (hl:∀ w∈l,QR d.cells.length w):DkOk (d.putAll l).1/\(d.putAll l).1.cells.length=d.cells.length:=by
 have hw:=Ip h hl l.length;rw [Aw] at hw;cases hd:(d.writes l).2.2 with
 | true=>rw [FN hd];exact hw
 | false=>
  rw [EZ hd];split
  ·exact hw
  ·exact⟨hw.1.flush,by rw [YC,hw.2]⟩
def Dk.mend (d:Dk) (l:List Wr):Dk × Bool:=if l=[] then (d,false) else ((d.putAll l).1,(d.putAll l).2.2)
end
end Go.Proofs.YtepdhdfoipephaaGreatDoor.A
namespace Go.Proofs.YtepdhdfoipephaaGreatDoor
section

theorem L9 {l m:List UInt8} {n:Nat} (h:l.length=n):(l ++ m).take n=l:=by subst h;simp
theorem MI {l m:List UInt8} {n:Nat} (h:l.length=n):(l ++ m).drop n=m:=by subst h;simp
theorem Hi (a s:Int) (p:List UInt8):(EG a s p).length=p.length+7:=by
 simp only [EG,Ai,Ao,leB_len]
theorem Fz (a s:Int) (p:List UInt8):(Cf a s p).length=p.length+11:=by
 simp only [Cf,Ai,Hi,leB_len]
theorem GP {a s:Int} {p:List UInt8} (h:Wo a s p):Dd (Cf a s p)=0/\Cw (Cf a s p)=a/\Cs (Cf a s p)=s/\CF (Cf a s p)=p:=by
 obtain⟨h1,h2,h3,h4,h5⟩:=h;have hl:=Fz a s p;have hs:=Iq (EG a s p);have e1:Cf a s p=EG a s p ++ leB 4 (C4 (EG a s p)):=rfl;have e2:Cf a s p=(UInt8.ofNat p.length::p) ++ (leB 2 a.toNat ++ (leB 4 s.toNat ++ leB 4 (C4 (EG a s p)))):=by rw [e1];simp only [EG,A9]
 have e3:Cf a s p=((UInt8.ofNat p.length::p) ++ leB 2 a.toNat) ++ (leB 4 s.toNat ++ leB 4 (C4 (EG a s p))):=by rw [e2,A9]
 have hpn:Dc (Cf a s p)=p.length:=by
  rw [e2];show (UInt8.ofNat p.length).toNat=p.length;rw [BC];exact Nat.lt_of_le_of_lt h5 (by decide)
 refine⟨?_,?_,?_,?_⟩
 ·unfold Dd;rw [if_neg (by omega),if_neg,if_pos]
  ·refine⟨?_,by omega⟩;simp only [Gm,decide_eq_true_eq];omega
  ·rw [hl,show p.length+11 - 4=p.length+7 by omega,e1,MI (Hi a s p),L9 (Hi a s p),leN_leB _ _ (by have:(256:Nat) ^ 4=4294967296:=rfl;omega)];simp
 ·unfold Cw;rw [hl,show p.length+11 - 10=p.length+1 by omega,e2,MI (by simp),L9 (leB_len 2 _),leN_leB _ _ (by have:(256:Nat) ^ 2=65536:=rfl;omega)];omega
 ·unfold Cs;rw [hl,show p.length+11 - 8=p.length+3 by omega,e3,MI (by simp [leB_len]),L9 (leB_len 4 _),leN_leB _ _ (by have:(256:Nat) ^ 4=4294967296:=rfl;omega)];omega
 ·unfold CF;rw [hl,show p.length+11 - 11=p.length by omega,e2];simp
end
end Go.Proofs.YtepdhdfoipephaaGreatDoor
namespace Go.Proofs.YtepdhdfoipephaaGreatDoor.A
section
open Go.RowKit
def Bf (g:Geo) (a:An):List Wr:=(List.range g.an.toNat).map fun i=>⟨(i:Nat),D0 a (i:Nat)⟩
theorem Ex (g:Geo) (a:An):(Bf g a).length=g.an.toNat:=by simp [Bf]
theorem KU {g:Geo} {a:An} {k:Nat} (h:k<g.an.toNat):(Bf g a).getD k ⟨0, []⟩=⟨(k:Nat),D0 a (k:Nat)⟩:=by
 rw [Bf,Bc (d:=0) (by simpa using h),Aa,Bq h];try rfl
theorem MO {g:Geo} {a:An} {n:Nat} (hg:Bp g=true) (ha:Bu g a=true) (hn:(n:Int)=Ay g):∀ w∈Bf g a,QR n w:=by
 obtain⟨g1,g2,g3,g4,g5⟩:=As.1 hg;have hc:=EL hg;intro w hw;simp only [Bf,AK,AP] at hw;obtain⟨i,hi,rfl⟩:=hw;refine⟨⟨by show (0:Int)<=(i:Nat);omega,by show ((i:Nat):Int)<n;omega⟩,?_⟩;show (Cf (i:Nat) a.gen (MP a)).length<=200;rw [Fz];have:=K1 hg ha;omega
def EW (g:Geo) (x:Gt) (addr:Int):Option An:=
 if x.err=0/\Dd x.bytes=0/\Cw x.bytes=addr then
  match Fx g (CF x.bytes) with
  | some a=>if a.gen=Cs x.bytes then some a else none
  | none=>none
 else none
theorem GB (e:Value):∀ (c:Ctx) (v:Value),Rd (.tp [.ag [iv 0,iv 0,iv 0,iv 0,iv 0, .v (.string ⟨#[]⟩), .v (.slice none 0 0)], .v e]) c v->Rd (.tp [.ag (ED an0), .v e]) c v:=
 BW (m:= [.ag (ED an0), .v e]) ⟨Bi an0_sub,ri,tv⟩
theorem Rk (b:List UInt8):(CF b).length<=b.length:=by simp [CF];omega
theorem ConvH.subBox {H:List AB} (k:Nat) {t:TypeId} {cs cs':List AV} (hk:H[k]? = some (.box t cs)) (h:SubL cs cs'):ConvH H (H.set k (.box t cs')):=fun _ _ c hs=>
 ⟨c,rfl,hs.recell hk rfl fun⟨g,xs,h1,h2,h3,h4⟩=>⟨g,xs,h1,h2,h.rdl h3,h4⟩,zJ c⟩
def zq:=@ConvH.subBox
def PK (g:Geo) (l:List Gt) (st:Option (An × Nat)) (i:Nat):Option (An × Nat):=
 match EW g (l.getD i ⟨0, []⟩) (i:Nat) with
 | none=>st
 | some b=>match st with
  | none=>some (b,i)
  | some (a,j)=>if a.gen<b.gen then some (b,i) else some (a,j)
def Fy (g:Geo) (l:List Gt) (k:Nat):Option (An × Nat):=(List.range k).foldl (PK g l) none
def HH (g:Geo) (l:List Gt):Option (An × Nat):=Fy g l l.length
theorem I_ (g:Geo) (l:List Gt) (k:Nat):Fy g l (k+1)=PK g l (Fy g l k) k:=by rw [Fy,Bd,BM];try rfl
def b8 (p:Option (An × Nat)):An:=match p with | some (a,_)=>a | none=>an0
def bH (p:Option (An × Nat)):Nat:=match p with | some (_,i)=>i | none=>0

theorem LN (b:List UInt8) (m:Nat) (hm:m<=b.length) (hm4:m<=4):Fn Tryz.prog 143 [bA b,iv m] fun r=>r = iv (leN (b.take m):Nat):=by
 refine zS Tryz.func143 rfl ?_;conv=>whnf
 rw [wi (show -9223372036854775808<=(m:Int) - 1/\(m:Int) - 1<=9223372036854775807 by omega)];have hl:(b.take m).length=m:=by rw [Aq];omega
 refine zU Nat (fun k=>([(0,bA b),(5,iv (leN ((b.take m).drop k):Nat)),(6,iv ((k:Int) - 1))], [])) (fun k=>k<=m) (fun k=>k) m (Ah _)
  (zR (s:= []) ⟨⟨rfl,by rw [AE (by omega)];try rfl,rfl,tv⟩,tv,rfl,rfl,rfl,rfl,rfl⟩) ?_
 intro k hk;conv=>whnf
 refine A8 (fun h5=>?_) (fun h5=>?_) <;> (repeat rw [Ac] at h5) <;> conv=>whnf
 ·obtain⟨j,rfl⟩:∃ j,k=j+1:=⟨k - 1,by omega⟩;have e1:(((j+1:Nat):Int) - 1)=(j:Nat):=by omega
  have hj:j<(b.take m).length:=by omega
  have hb:b.getD j 0=(b.take m)[j]:=by rw [List.getElem_take,Aa,Ae (by omega)];try rfl
  have hd:leN ((b.take m).drop j)=(b.take m)[j].toNat+256*leN ((b.take m).drop (j+1)):=by rw [Bj hj];try rfl
  have hlt:=leN_lt ((b.take m).drop (j+1));have hx:=(b.take m)[j].toNat_lt;have hp:256 ^ ((b.take m).drop (j+1)).length<=256 ^ 3:=Nat.pow_le_pow_right (by decide) (by rw [Am];omega);rw [e1];refine⟨⟨by omega,by omega⟩,?_⟩;conv=>whnf
  have hv:IntKind.i64.wrap (IntKind.i64.wrap (256*((leN ((b.take m).drop (j+1)):Nat):Int))+IntKind.i64.wrap ((b.getD j 0).toNat:Nat))=((leN ((b.take m).drop j):Nat):Int):=by
   rw [hb,hd,wi (n:=(((b.take m)[j].toNat:Nat):Int)) (by omega),wi (n:=256*((leN ((b.take m).drop (j+1)):Nat):Int)) (by omega),wi (by omega)];omega
  exact⟨j,by omega,by omega,zR (s:= []) ⟨⟨rfl,congrArg (fun n=>AV.v (.int .i64 n)) hv,congrArg (fun n=>AV.v (.int .i64 n)) (wi (n:=(j:Int) - 1) (by omega)),tv⟩,tv,rfl,rfl,rfl,rfl,rfl⟩⟩
 ·have ek:k=0:=by omega
  subst ek;exact⟨_,ri,rfl⟩
theorem S8 (b:List UInt8) (hb:b.length<=1000000000):Fn Tryz.prog 150 [bA b] fun r=>r = iv (C4 b:Nat):=J6 b hb
theorem FH (b:List UInt8) (m:Nat) (hm:m<=b.length) (hm4:m<=4):Fn Tryz.prog 143 [bA b,iv m] fun r=>r = iv (leN (b.take m):Nat):=LN b m hm hm4
def zero8:List UInt8:= [0,0,0,0,0,0,0,0]
def ent0:Ent:=⟨0,(C4 zero8:Nat),false⟩
def Fd (g:Geo):List Ent:=List.replicate (g.d+1).toNat ent0
theorem MG (stamp:Int) (b:List UInt8) (hb:b.length<=1000000000):Fn Tryz.prog 153 [iv stamp,bA b] fun r=>r = .ag (Cb ⟨stamp,(C4 b:Nat),false⟩):=by
 refine zS Tryz.func153 rfl ?_;conv=>whnf
 repeat' (first | (refine z_ ?_;conv=>whnf) | (refine A8 (fun _=>?_) (fun _=>?_) <;> conv=>whnf) | (refine zZ (S8 b hb) ?_;conv=>whnf) | (refine Af (by first | omega | exact of_decide_eq_true rfl) ?_;conv=>whnf) | fail)
 exact⟨_,ri,rfl⟩
def bv (l:List Ent):Nat->AV
 | 0=> .v (.slice none 0 0)
 | k+1=>bA (CW (l.take (k+1)))
theorem S0 (l:List Ent) (hl:l.length<=1000) (hb:∀ e∈l,(0<=e.stamp/\e.stamp<=4294967295)/\0<=e.sum/\e.sum<=4294967295):Fn Tryz.prog 131 [.ag [Bm l]] fun r=>r=bA (CW l):=by
 refine zS Tryz.func131 rfl ?_;conv=>whnf
 refine zO Nat (fun k=>([(1, .bp 0 0),(3,bv l k),(4,iv k)], [.box 70 [Bm l]])) (fun k=>k<=l.length) (fun k=>l.length - k) 0 (Aj _) ⟨[],tv,tA,tA,rfl,rfl,rfl⟩ ?_;intro k hk;conv=>whnf
 refine A8 (fun c1=>?_) (fun c1=>?_) <;> (repeat rw [Ac] at c1) <;> conv=>whnf
 ·have he:=hb _ (A6 (d:=⟨0,0,false⟩) c1);refine z_ ?_;conv=>whnf
  refine⟨by first | omega | (refine⟨rfl,?_,?_⟩ <;> first | omega | (simp only [Ab];done) | (simp only [Ab];omega)) | (simp only [Ab];omega),?_⟩;conv=>whnf
  have hlt:(CW (l.take k)).length<=9000:=by rw [Fc,Aq];omega
  have p1:=EH (CW (l.take k)) (l.getD k ⟨0,0,false⟩).stamp 4 (by omega) he.1 (by decide);have p2:=EH (CW (l.take k) ++ leB 4 (l.getD k ⟨0,0,false⟩).stamp.toNat) (l.getD k ⟨0,0,false⟩).sum 4 (by rw [Ai,leB_len];omega) he.2 (by decide);have p3:=EH (CW (l.take k) ++ leB 4 (l.getD k ⟨0,0,false⟩).stamp.toNat ++ leB 4 (l.getD k ⟨0,0,false⟩).sum.toNat) (De (l.getD k ⟨0,0,false⟩).lost) 1 (by rw [Ai,Ai,leB_len,leB_len];omega) (by unfold De;split <;> omega) (by decide);have hst:bv l (k+1)=bA (CW (l.take k) ++ leB 4 (l.getD k ⟨0,0,false⟩).stamp.toNat ++ leB 4 (l.getD k ⟨0,0,false⟩).sum.toNat ++ leB 1 (De (l.getD k ⟨0,0,false⟩).lost).toNat):=by
   rw [bv,Nl c1,Jp];rw [Aa,Ae c1];simp [rowB,A9]
  obtain⟨L,hLe⟩:∃ L,(l.getD k ⟨0,0,false⟩).lost=L:=⟨_,rfl⟩;rw [hLe] at p3 hst;rcases k with _ | k
  all_goals
   refine zA tys_ok mixed [0,1,2,4,5,3,6,7] (by kernel_rfl) ?_;conv=>whnf
   refine zX _ ?_ (zH (p1) rfl ?_)
   ·repeat' (first | exact trivial | exact fun _ _ h=>h | exact Bh _ _ | refine Af ?_ ?_ | refine Bi ?_)
   rintro _ rfl;conv=>whnf
   refine zX _ ?_ (zH (p2) rfl ?_)
   ·repeat' (first | exact trivial | exact fun _ _ h=>h | exact Bh _ _ | refine Af ?_ ?_ | refine Bi ?_)
   rintro _ rfl;conv=>whnf
   refine z_ ?_;conv=>whnf
   rw [Ac,hLe];cases L
  all_goals
   conv=>whnf
   refine zZ p3 ?_;refine⟨_,by omega,by omega, [],tv,⟨rfl,hst.symm,AH (by omega),tv⟩,tA,rfl,rfl,rfl⟩
 ·have ek:k=l.length:=by omega
  rcases k with _ | k
  ·have e:l=[]:=AZ.1 ek.symm;subst e;exact⟨bA (CW []),Bh 1 _,rfl⟩
  ·conv=>whnf
   exact⟨_,ri,by rw [ek,Aw];try rfl⟩
theorem XN (g:Geo) (hg:Bp g=true):Fn Tryz.prog 132 [.ag (AT g)] fun r=>r = .ag [Bm (Fd g)]:=by
 obtain⟨h1,h2,h3,h4,h5⟩:=As.1 hg;refine zS Tryz.func132 rfl ?_;conv=>whnf
 have w1:IntKind.i64.wrap (g.d+1)=g.d+1:=by rw [IntKind.wrap_i64];omega
 refine zO Nat (fun k=>([(1, .bp 0 0),(2, .bp 1 0),(3, .bp 2 0),(4,iv k)], [.box 23 (AT g), .box 70 [.v (.slice none 0 0)], .box 70 [.ow 3 k], .row 97 3 ((List.replicate k ent0).map Cb)])) (fun k=>(k:Int)<=g.d+1) (fun k=>(g.d+1 - k).toNat) 0 (show (0:Int)<=g.d+1 by omega) ⟨[(1002000,97,3)],tA,tA,tA,rfl,rfl,rfl⟩ ?_;intro k hk;conv=>whnf
 refine A8 (fun c1=>?_) (fun c1=>?_) <;> (repeat rw [Ac] at c1) <;> conv=>whnf
 ·refine zA tys_ok mixed [0,1,2,3,4,5,6,7] (by kernel_rfl) ?_;conv=>whnf
  repeat' (refine Af (by first | omega | exact of_decide_eq_true rfl) ?_;conv=>whnf)
  have e0:=MG 0 zero8 (by decide);refine zN (e0).go ?_;conv=>whnf
  repeat' (refine Af (by first | rfl | omega | (simp;done) | (simp only [Ab];omega)) ?_;conv=>whnf)
  refine zX _ ?_ (zH (e0) rfl ?_)
  ·repeat' (first | exact trivial | exact fun _ _ h=>h | exact Bh _ _ | exact UW zero8 rfl rfl | refine Af ?_ ?_ | refine Bi ?_)
  rintro _ rfl;conv=>whnf
  repeat' (first | (refine Af (by first | rfl | omega) ?_;conv=>whnf) | fail)
  refine⟨⟨by rw [Ab,B8],by omega⟩,?_⟩;conv=>whnf
  exact⟨k+1,by omega,by omega, [],tv,⟨rfl,rfl,rfl,AH (by omega),tv⟩,⟨rfl,rfl,rfl,by rw [List.replicate_succ',Az];try rfl,tv⟩,rfl,rfl,rfl⟩
 ·refine⟨(by rw [Ab,B8]),?_⟩;conv=>whnf
  have ek:k=(g.d+1).toNat:=by omega
  refine⟨.ag [Bm (Fd g)],Bi ⟨Bb (Fd g) ?_ ?_,tv⟩,rfl⟩
  ·rw [Fd,B8,ek]
  ·rw [Fd,ek]
theorem Iy (x:Rc):rowB (C9 x) szR=leB 1 x.kind.toNat ++ (leB 4 x.seq.toNat ++ (leB 4 x.epoch.toNat ++ (leB 1 x.at_.toNat ++ leB 1 x.of_.toNat))):=by
 simp [rowB,C9,szR]
theorem Pb {L:List UInt8} {n:Nat} {es:List (List AV)} (hn:n=L.length) (he:es=L.map Ej) (c:Ctx) (v:Value) (h:Rd (.sl 1 n fun i=>es.getD i []) c v):Rd (bA L) c v:=by
 subst he;exact zC hn (fun i hi=>Bc (f:=Ej) (l:=L) (d:=0) (hn ▸ hi)) h
theorem TA (g:Geo) (x:Rc) (hok:ER g x=true):Fn Tryz.prog 155 [.ag (JW x)] fun r=>r=bA (Eo x):=by
 obtain⟨K,S,E,A,O,k1,k2,k3,k4,k5,hS,hE⟩:=Yq hok;have p1:=Oz (leB 1 K) S 4 (by rw [leB_len];decide) hS (by decide);have p2:=HZ (leB 1 K ++ leB 4 S) (E:Nat) 4 (by simp [leB_len]) (by omega) (by decide);have eK : [[AV.v (.int .u8 (IntKind.u8.wrap x.kind))]]=(leB 1 K).map Ej:=by
  rw [k1];show _=[[AV.v (.int .u8 ((UInt8.ofNat (K % 256)).toNat:Nat))]];rw [BC (show K % 256<256 by omega),IntKind.wrap_u8];try rfl
 refine zS Tryz.func155 rfl ?_;conv=>whnf
 apply zW (0) tys_ok mixed (.o [0,1,2,4,5,7,8,3,6,9,10] .fin) (by kernel_rfl);conv=>whnf
 (refine zN p1.go ?_;(conv=>whnf);refine Af rfl ?_;(conv=>whnf);refine zX [bA (leB 1 K),iv S,iv 4] ⟨Pb rfl eK,by rw [k2];exact fun _ _ h=>h,ri,tv⟩ ?_;refine zZ p1 ?_)
 conv=>whnf
 (rw [k3];refine zV p2 rfl ?_;rintro _ _ ⟨rfl,rfl⟩)
 refine⟨rfl,?_⟩;refine⟨⟨by simp,by simp [leB_len]⟩,?_⟩;have eR:List.map Ej (leB 1 K ++ leB 4 S ++ leB 4 ((E:Nat):Int).toNat) ++ [[AV.v (.int .u8 (IntKind.u8.wrap x.at_))], [AV.v (.int .u8 (IntKind.u8.wrap x.of_))]]=(rowB (C9 x) szR).map Ej:=by
  rw [Iy,k1,k2,k3,k4,k5];have e8:∀ n:Nat, [[AV.v (.int .u8 (IntKind.u8.wrap (n:Int)))]]=(leB 1 n).map Ej:=fun n=>by
   show _=[[AV.v (.int .u8 ((UInt8.ofNat (n % 256)).toNat:Nat))]];rw [BC (show n % 256<256 by omega),IntKind.wrap_u8];try rfl
  simp only [Az,<-e8,Ac,A9];rfl
 rw [eR];conv=>whnf
 by_cases hk:x.kind=1
 ·rw [show (x.kind != 1)=false by simpa using hk];conv=>whnf
  repeat' (refine z_ ?_;conv=>whnf)
  obtain⟨Z,W,z1,z2,z3,z4⟩:=Yr hok hk;have hpt:=LM x.img.bytes z4;have hR11:(rowB (C9 x) szR).length=11:=by rw [Iy];simp [leB_len]
  have hA:(leB 1 K ++ leB 4 S ++ leB 4 ((E:Nat):Int).toNat).length+2=(List.map Ej (rowB (C9 x) szR)).length:=by rw [Ab,hR11];simp [leB_len]
  have hA2:(leB 1 K ++ leB 4 S ++ leB 4 ((E:Nat):Int).toNat).length+2+2<=1000000000:=by simp [leB_len]
  have e8:∀ n:Nat, [[AV.v (.int .u8 (IntKind.u8.wrap (n:Int)))]]=(leB 1 n).map Ej:=fun n=>by
   show _=[[AV.v (.int .u8 ((UInt8.ofNat (n % 256)).toNat:Nat))]];rw [BC (show n % 256<256 by omega),IntKind.wrap_u8];try rfl
  obtain⟨Q,hQ⟩:∃ Q,Q=rowB (C9 x) szR ++ (leB 1 Z ++ leB 1 W):=⟨_,rfl⟩;have hB:Eo x=Q ++ (UInt8.ofNat x.img.bytes.length::x.img.bytes):=by
   unfold Eo;rw [if_pos hk,hQ,A9];unfold Ji;rw [z1,z2];simp [rowB]
  have eQ:List.map Ej (rowB (C9 x) szR) ++ [[AV.v (.int .u8 (IntKind.u8.wrap (Z:Int)))], [AV.v (.int .u8 (IntKind.u8.wrap (W:Int)))]]=Q.map Ej:=by
   rw [hQ,Az,Az,<-e8,<-e8];try rfl
  have hQl:Q.length=13:=by rw [hQ];simp [leB_len,hR11]
  have hP:(UInt8.ofNat x.img.bytes.length::x.img.bytes).length=(List.map Ej (UInt8.ofNat x.img.bytes.length::x.img.bytes)).length:=(Ab _).symm;have hP2:(UInt8.ofNat x.img.bytes.length::x.img.bytes).length<=256:=by rw [Ao];omega
  have hQ1:(leB 1 K ++ leB 4 S ++ leB 4 ((E:Nat):Int).toNat).length+2+2=(List.map Ej Q).length:=by rw [Ab,hQl];simp [leB_len]
  have hQ2:(leB 1 K ++ leB 4 S ++ leB 4 ((E:Nat):Int).toNat).length=9:=by simp [leB_len]
  have hF1:(leB 1 K ++ leB 4 S ++ leB 4 ((E:Nat):Int).toNat).length+2+2+(UInt8.ofNat x.img.bytes.length::x.img.bytes).length=(List.map Ej Q ++ List.map Ej (UInt8.ofNat x.img.bytes.length::x.img.bytes)).length:=by rw [hQ1,hP];exact List.length_append.symm
  have hF2:(leB 1 K ++ leB 4 S ++ leB 4 ((E:Nat):Int).toNat).length+2+2+(UInt8.ofNat x.img.bytes.length::x.img.bytes).length=(Q ++ (UInt8.ofNat x.img.bytes.length::x.img.bytes)).length:=by rw [hQ1,Ab];exact List.length_append.symm
  by_cases hw:x.img.what = -1;rw [show (x.img.what == -1)=true by simpa using hw];conv=>whnf
  have hW:(254:Int)=(W:Int):=by rw [<-z2,hw];try rfl
  rotate_left 1;rw [show (x.img.what == -1)=false by simpa using hw];conv=>whnf
  have hW:x.img.what=(W:Int):=by rw [<-z2];unfold D9;rw [if_neg hw]
  all_goals
   apply zW (2048) tys_ok mixed (.o [0,1,2,3,4,5,6,9,10] (.two 7 (.two 8 (.o [11,12,13,14] .fin) 11 (.o [8,12,13,14] .fin)) 11 (.o [7,8,12,13,14] .fin))) (by kernel_rfl);refine Af ?_ ?_;refine Af ?_ ?_;conv=>whnf
   try (refine tJ ?_;conv=>whnf)
   try (refine tK ?_;conv=>whnf)
   (rw [z1,hW,eQ];refine zV hpt rfl ?_;rintro _ _ ⟨rfl,rfl⟩)
   conv=>whnf
   try (refine tJ ?_;conv=>whnf)
   try (refine tK ?_;conv=>whnf)
   rotate_left 1;conv=>whnf
   try (refine tJ ?_;conv=>whnf)
   try (refine tK ?_;conv=>whnf)
   (rw [z1,hW,eQ];refine zV hpt rfl ?_;rintro _ _ ⟨rfl,rfl⟩)
   conv=>whnf
   try (refine tJ ?_;conv=>whnf)
   try (refine tK ?_;conv=>whnf)
   rotate_left 1;conv=>whnf
   try (refine tJ ?_;conv=>whnf)
   try (refine tK ?_;conv=>whnf)
   (rw [z1,hW,eQ];refine zV hpt rfl ?_;rintro _ _ ⟨rfl,rfl⟩)
   conv=>whnf
   try (refine tJ ?_;conv=>whnf)
   try (refine tK ?_;conv=>whnf)
   rotate_left 1;all_goals
    refine⟨hF1,?_⟩;conv=>whnf
    rw [hB];exact⟨bA _,Pb hF2 List.map_append.symm,rfl⟩
 ·rw [show (x.kind != 1)=true by simpa using hk];conv=>whnf
  have hB:Eo x=rowB (C9 x) szR:=by unfold Eo;rw [if_neg hk,AL]
  rw [hB];refine Af (by rw [Ab,Iy];simp [leB_len]) ?_;conv=>whnf
  exact⟨bA _,Pb (by rw [Iy];simp [leB_len]) rfl,rfl⟩
theorem Jt (c:Ctx) (u:Value) (e:Int) (h:Rd (.tp [.ag [iv 0,iv 0, .v (.slice none 0 0)],iv e]) c u):Rd (.tp [.ag (Ov ⟨0,0, []⟩),iv e]) c u:=by
 refine BW ?_ c u h;exact⟨Bi ⟨ri,ri,Bh _ _,tv⟩,ri,tv⟩
theorem LB {b:List UInt8} {lo:Int} {p:Nat} (h:lo.toNat=p) (hp:p<=b.length) (c:Ctx) (u:Value) (hr:Rd (.sl 1 (((b.length:Nat):Int).toNat - lo.toNat) fun i=>(fun i=> [AV.v (.int .u8 (b.getD i 0).toNat)]) (i+lo.toNat)) c u):Rd (bA (b.drop p)) c u:=
 zC (n':=(b.drop p).length) (by rw [Am,h];omega) (fun i hi=>by simp only [Aa,BI,h,CX]) hr
theorem S1 {b:List UInt8} {lo hi:Int} {p q:Nat} (h:lo.toNat=p) (h2:hi.toNat=q) (hp:p<=q) (hq:q<=b.length) (c:Ctx) (u:Value) (hr:Rd (.sl 1 (hi.toNat - lo.toNat) fun i=>(fun i=> [AV.v (.int .u8 (b.getD i 0).toNat)]) (i+lo.toNat)) c u):Rd (bA ((b.drop p).take (q - p))) c u:=
 zC (n':=((b.drop p).take (q - p)).length) (by rw [Aq,Am,h,h2];omega) (fun i hi=>by
  have hi':i<q - p:=by omega
  simp only [Aa,BQ hi',BI,h,CX]) hr
theorem VL (b:List UInt8) (hl:b.length<=100000):Fn Tryz.prog 212 [bA b] fun r=>r = .tp [.ag (if Dd b=0 then Ov ⟨Cw b,Cs b,CF b⟩ else Ov ⟨0,0, []⟩),iv (Dd b)]:=by
 refine zS Tryz.func212 rfl ?_;conv=>whnf
 refine A8 (fun t1=>?_) (fun t1=>?_) <;> (repeat rw [Ac] at t1) <;> conv=>whnf
 ·have e:Dd b=4:=by rw [Dd,if_pos (by omega)]
  exact⟨_,fun c u h=>Jt c u 4 h,by rw [e];try rfl⟩
 refine A8 (fun t2=>?_) (fun t2=>?_) <;> (repeat rw [Ac] at t2) <;> conv=>whnf
 ·have e:Dd b=4:=by rw [Dd,if_pos (by omega)]
  exact⟨_,fun c u h=>Jt c u 4 h,by rw [e];try rfl⟩
 have w4:IntKind.i64.wrap ((b.length:Int) - 4)=b.length - 4:=wi (by omega);have w11:IntKind.i64.wrap ((b.length:Int) - 11)=b.length - 11:=wi (by omega);have w10:IntKind.i64.wrap ((b.length:Int) - 10)=b.length - 10:=wi (by omega);have w8:IntKind.i64.wrap ((b.length:Int) - 8)=b.length - 8:=wi (by omega);have e4:(b.drop (b.length - 4)).take 4=b.drop (b.length - 4):=A7 (by rw [Am];omega);have s1:=FH (b.drop (b.length - 4)) 4 (by rw [Am];omega) (by omega);rw [e4] at s1;have s2:=S8 (b.take (b.length - 4)) (by rw [Aq];omega);have s3:=Ez (CF b) (by simp [CF];omega);have s4:=FH (b.drop (b.length - 10)) 2 (by rw [Am];omega) (by omega);have s5:=FH (b.drop (b.length - 8)) 4 (by rw [Am];omega) (by omega);have x1:(IntKind.i64.wrap ((b.length:Int) - 4)).toNat=b.length - 4:=by rw [w4];omega
 have x2:(IntKind.i64.wrap ((b.length:Int) - 10)).toNat=b.length - 10:=by rw [w10];omega
 have x3:(IntKind.i64.wrap ((b.length:Int) - 8)).toNat=b.length - 8:=by rw [w8];omega
 refine zA tys_ok mixed [0,1,2,3,5,6,7,8,4,9,10] (by kernel_rfl) ?_;refine⟨⟨by omega,by omega,by omega,by omega⟩,?_⟩;refine⟨⟨by omega,by omega,by omega,by omega⟩,?_⟩;conv=>whnf
 refine zX _ ?_ (zH (s1) rfl ?_)
 ·repeat' (first | exact trivial | exact fun _ _ h=>h | exact Bh _ _ | exact LB x1 (by omega) | refine Af ?_ ?_ | refine Bi ?_)
 rintro _ rfl;conv=>whnf
 refine zX _ ?_ (zH (s2) rfl ?_)
 ·repeat' (first | exact trivial | exact fun _ _ h=>h | exact Bh _ _ | exact S1 (p:=0) (q:=b.length - 4) (by simp) x1 (by omega) (by omega) | refine Af ?_ ?_ | refine Bi ?_)
 rintro _ rfl;conv=>whnf
 have hp0:Dc b=(b.getD 0 0).toNat:=by
  unfold Dc;cases b <;> rfl
 have hpl:=(b.getD 0 0).toNat_lt;refine A8 (fun t3=>?_) (fun t3=>?_) <;> (repeat rw [Ac] at t3) <;> conv=>whnf
 ·have e:Dd b=5:=by rw [Dd,if_neg (by omega),if_pos t3]
  exact⟨_,fun c u h=>Jt c u 5 h,by rw [e];try rfl⟩
 refine⟨by first | omega | (refine⟨rfl,?_,?_⟩ <;> first | omega | (simp only [Ab];done) | (simp only [Ab];omega)) | (simp only [Ab];omega),?_⟩;conv=>whnf
 refine A8 (fun t4=>?_) (fun t4=>?_) <;> (repeat rw [Ac] at t4) <;> conv=>whnf
 ·have e:Dd b=4:=by
   rw [Dd,if_neg (by omega),if_neg (by rw [t3];simp),if_neg];rintro⟨h1,h2⟩;simp only [Int.toNat_zero] at t4;rw [w11,wi (by omega)] at t4;omega
  exact⟨_,fun c u h=>Jt c u 4 h,by rw [e];try rfl⟩
 have e:Dd b=0:=by
  rw [Dd,if_neg (by omega),if_neg (by rw [t3];simp),if_pos];simp only [Int.toNat_zero] at t4;rw [w11,wi (by omega)] at t4;refine⟨?_,by omega⟩;simp only [Gm,decide_eq_true_eq];omega
 rw [e,if_pos rfl];refine zA tys_ok mixed [0,1,2,3,5,6,7,8,10,11,12,13,4,9,14,15,16,17] (by kernel_rfl) ?_;refine⟨⟨by omega,by omega,by omega,by omega⟩,?_⟩;refine⟨⟨by omega,by omega,by omega,by omega⟩,?_⟩;refine⟨⟨by omega,by omega,by omega,by omega⟩,?_⟩;conv=>whnf
 refine zX _ ?_ (zH (s3) rfl ?_)
 ·repeat' (first | exact trivial | exact fun _ _ h=>h | exact Bh _ _ | exact S1 (p:=1) (q:=b.length - 10) (by simp) x2 (by omega) (by omega) | refine Af ?_ ?_ | refine Bi ?_)
 rintro _ rfl;conv=>whnf
 refine zX _ ?_ (zH (s4) rfl ?_)
 ·repeat' (first | exact trivial | exact fun _ _ h=>h | exact Bh _ _ | exact LB x2 (by omega) | refine Af ?_ ?_ | refine Bi ?_)
 rintro _ rfl;conv=>whnf
 refine zX _ ?_ (zH (s5) rfl ?_)
 ·repeat' (first | exact trivial | exact fun _ _ h=>h | exact Bh _ _ | exact LB x3 (by omega) | refine Af ?_ ?_ | refine Bi ?_)
 rintro _ rfl;exact⟨_,ri,rfl⟩
theorem PB (n lo hi:Int):Fn Tryz.prog 45 [iv n,iv lo,iv hi] fun r=>r = .v (.bool (CH n lo hi)):=by
 refine zS Tryz.func45 rfl ?_;conv=>whnf
 repeat' (first | (refine Ak (fun h=>?_) (fun h=>?_) <;> (try simp at h) <;> conv=>whnf) | (refine zM tys_ok mixed (by kernel_rfl) ?_;conv=>whnf) | (refine z_ ?_;conv=>whnf) | (refine Af (by omega) ?_;conv=>whnf))
 all_goals exact⟨_,ri,by simp [CH, *] <;> omega⟩
theorem VD (g:Geo) (l:List Ent) (hg:Bp g=true) (hl:l.length<=1000000):Fn Tryz.prog 144 [.ag (AT g), .ag [Bm l]] fun r=>r = .v (.bool (FX g l)):=by
 obtain⟨h1,h2,h3,h4,h5⟩:=As.1 hg;have hw:IntKind.i64.wrap (g.d+1)=g.d+1:=wi (by omega);by_cases hn:(l.length:Int)=g.d+1
 ·have hlo:GJ l g.d.toNat=(l.getD g.d.toNat ⟨0,0,false⟩).lost:=by
   rw [GJ,Aa,Ae (by omega)];try rfl
  have hO:FX g l=(l.all DR&&!(l.getD g.d.toNat ⟨0,0,false⟩).lost):=by rw [FX,hg,decide_eq_true hn,hlo];try rfl
  rw [hO];refine zS Tryz.func144 rfl ?_;conv=>whnf
  rw [hw,show ((l.length:Int) != g.d+1)=false by rw [hn];exact bne_self_eq_false _];refine⟨⟨by omega,by omega⟩,?_⟩;conv=>whnf
  cases hL:(l.getD g.d.toNat ⟨0,0,false⟩).lost with
  | true=>
   exact⟨_,ri,by rw [Bool.not_true,Bool.and_false]⟩
  | false=>
   conv=>whnf
   rw [Bool.not_false,Bx];refine zU Nat (fun k=>([(2, .bp 0 0),(3, .bp 1 0),(4, .v (.bool false)),(5,iv k)], [.box 23 (AT g), .box 70 [Bm l]])) (fun k=>k<=l.length/\(l.take k).all DR=true) (fun k=>l.length - k) 0 ⟨Aj _,rfl⟩
    (zR (s:= [0,1]) tA) ?_
   rintro k ⟨hk,hI⟩;conv=>whnf
   refine A8 (fun h6=>?_) (fun h6=>?_) <;> (repeat rw [Ac] at h6) <;> conv=>whnf
   ·have hk':k<l.length:=by omega
    have i1:=PB (l.getD (k:Int).toNat ⟨0,0,false⟩).stamp 0 4294967295;have i2:=PB (l.getD (k:Int).toNat ⟨0,0,false⟩).sum 0 4294967295;have hst:(l.take (k+1)).all DR=(CH (l.getD (k:Int).toNat ⟨0,0,false⟩).stamp 0 4294967295&&CH (l.getD (k:Int).toNat ⟨0,0,false⟩).sum 0 4294967295):=by
     rw [Ac,Aa,Ae hk',AR,Ae hk',Dj,hI];simp [DR,HJ]
    have hno:(l.take (k+1)).all DR=false->l.all DR=false:=fun h=>by
     rw [<-Cy (k+1) l,Dj,h,Cn]
    refine⟨⟨by omega,by omega⟩,?_⟩;conv=>whnf
    cases c1:CH (l.getD (k:Int).toNat ⟨0,0,false⟩).stamp 0 4294967295 with
    | false=>
     rw [c1] at i1;refine zZ i1 ?_;exact⟨_,ri,by rw [hno (by rw [hst,c1,Cn])]⟩
    | true=>
     rw [c1] at i1;refine zZ i1 ?_;refine⟨⟨by omega,by omega⟩,?_⟩;conv=>whnf
     cases c2:CH (l.getD (k:Int).toNat ⟨0,0,false⟩).sum 0 4294967295 with
     | false=>
      rw [c2] at i2;refine zZ i2 ?_;exact⟨_,ri,by rw [hno (by rw [hst,c2,Bool.and_false])]⟩
     | true=>
      rw [c2] at i2;refine zZ i2 ?_;conv=>whnf
      exact⟨k+1,⟨hk',by rw [hst,c1,c2];try rfl⟩,by omega,zR (s:= [0,1]) ⟨⟨rfl,rfl,rfl,AH (by omega),tv⟩,tA,rfl,rfl,rfl,rfl,rfl⟩⟩
   ·have ek:k=l.length:=by omega
    exact⟨_,ri,by rw [<-hI,ek,Aw]⟩
 ·have hO:FX g l=false:=by rw [FX,hg,decide_eq_false hn];try rfl
  rw [hO];refine zS Tryz.func144 rfl ?_;conv=>whnf
  rw [hw,show ((l.length:Int) != g.d+1)=true from bne_iff_ne.2 hn];exact⟨_,ri,rfl⟩
theorem Fn.subA {P:Program} {f:FuncId} {args args':List AV} {K:AV->Prop} (h:Fn P f args' K) (hs:SubL args args'):Fn P f args K:=
 ⟨h.go,fun c us hd hM hg hr=>h.calls c us hd hM hg (hs.rdl hr)⟩
theorem UA {b:List UInt8} {n m p:Nat} (hn:n=b.length - m - p) (c:Ctx) (u:Value) (h:Rd (.sl 1 n fun i=> [.v (.int .u8 (b.getD (i+p+m) 0).toNat)]) c u):Rd (bA ((b.drop m).drop p)) c u:=
 zC (by rw [Am,Am];exact hn) (fun i _=>by rw [Aa,Aa,BI,BI,show i+p+m=m+(p+i) by omega]) h
theorem WY {x:List UInt8} (h:9<=x.length):IR x=⟨(leN (x.take 4):Nat),(leN ((x.drop 4).take 4):Nat),(x[8].toNat:Int) == 1⟩:=by
 have h8:=PW h;unfold N8 at h8;unfold IR;rw [h8];try rfl
theorem LL (g:Geo) (b:List UInt8) (hg:Bp g=true):Fn Tryz.prog 75 [.ag (AT g),bA b] fun r=>r = .tp [.ag [Bm ((BT g b).getD [])], .v (.bool (BT g b).isSome)]:=by
 obtain⟨h1,h2,h3,h4,h5⟩:=As.1 hg;have hw:IntKind.i64.wrap (g.d+1)=g.d+1:=wi (by omega);have hw9:IntKind.i64.wrap (9*(g.d+1))=9*(g.d+1):=wi (by omega);have zs:∀ (c:Ctx) (v:Value),Rd (.tp [.ag [.v (.slice none 0 0)], .v (.bool false)]) c v->Rd (.tp [.ag [Bm []], .v (.bool false)]) c v:=BW (m:= [.ag [Bm []], .v (.bool false)]) ⟨Bi ⟨Bh 3 _,tv⟩,ri,tv⟩;by_cases hn:b.length=9*(g.d+1).toNat
 ·refine zS Tryz.func75 rfl ?_;conv=>whnf
  rw [hw,hw9,show ((b.length:Int) != 9*(g.d+1))=false by simp only [bne_eq_false_iff_eq];omega];conv=>whnf
  refine zU Nat (fun k=>([(1,bA b),(2, .bp 0 0),(4, .bp 1 0),(5, .v (.bool false)),(6, .bp 2 0),(7,iv k)], [.box 23 (AT g), .box 70 [.v (.slice none 0 0)], .box 70 [.ow 3 k], .row 97 3 ((entsOf k b).map Cb)])) (fun k=>(k:Int)<=g.d+1/\Lm k b) (fun k=>(g.d+1 - k).toNat) 0 ⟨by omega,fun i hi=>absurd hi (Ap i)⟩
   ⟨_,_,zG _ _, [(1002000,97,3)],tA, [0,1,2,3],tA⟩ ?_
  rintro k ⟨hk,hA⟩;conv=>whnf
  refine A8 (fun h6=>?_) (fun h6=>?_) <;> (repeat rw [Ac] at h6) <;> conv=>whnf
  ·have wk9:IntKind.i64.wrap (9*(k:Int))=((9*k:Nat):Int):=by rw [wi (by omega)];omega
   have hlx:(b.drop (9*k)).length=b.length - 9*k:=Am;have hx9:9<=(b.drop (9*k)).length:=by omega
   rw [wk9];refine⟨⟨by omega,by omega,by omega,by omega⟩,?_⟩;conv=>whnf
   rw [Ac];have hv:=PW hx9;have he:=WY hx9;have hes:=entsOf_step k b;refine⟨⟨by omega,by omega⟩,?_⟩;conv=>whnf
   have hg8:(b.getD (Int.toNat 8+((9*k:Nat):Int).toNat) 0).toNat=(b.drop (9*k))[8].toNat:=by
    rw [List.getElem_drop,Aa,Ac,show Int.toNat 8+9*k=9*k+8 by omega,Ae (by omega)];try rfl
   obtain⟨Y,hY⟩:∃ Y:Nat,Y=(b.drop (9*k))[8].toNat:=⟨_,rfl⟩;rw [hg8,<-hY];rw [<-hY] at hv he;by_cases h1Y:Y<=1
   ·rw [show decide ((Y:Int) > 1)=false from decide_eq_false (by omega)];conv=>whnf
    have q1:=LN (b.drop (9*k)) 4 (by omega) (by decide);have q2:=LN ((b.drop (9*k)).drop 4) 4 (by rw [Am];omega) (by decide);have hml:k=((entsOf k b).map Cb).length:=by rw [Ab,entsOf_len]
    apply z8 (0) tys_ok mixed (.o [0,1,2,4,5,7,8,9,10,3,6,11,12,13,14,15] .fin) [32,33,34,35,36,37,38,39,40,41,42,43,44,45,46] (by kernel_rfl)
    ·conv=>whnf
     try (refine tI ?_;conv=>whnf)
     try (refine tI ?_;conv=>whnf)
     (refine zX [bA (b.drop (9*k)),iv 4] ⟨AU rfl,ri,tv⟩ ?_;refine zZ q1 ?_)
     conv=>whnf
     (refine zX [bA ((b.drop (9*k)).drop 4),iv 4] ⟨UA rfl,ri,tv⟩ ?_;refine zZ q2 ?_)
     conv=>whnf
     try (refine tJ ?_;conv=>whnf)
     try (refine tK ?_;conv=>whnf)
     try (refine tS ?_;conv=>whnf)
     exact tA
    refine⟨k+1,⟨by omega,fun i hi=>?_⟩,by omega,zR (s:= [0,1,2,3]) ⟨⟨rfl,rfl,rfl,rfl,rfl,AH (by omega),tv⟩,⟨rfl,rfl,rfl,?_,tv⟩,rfl,rfl,rfl,rfl,rfl⟩⟩
    ·by_cases hik:i=k
     ·rw [hik,hv];omega
     ·exact hA i (by omega)
    ·rw [hes,Az,he];show hget _ 3=_;rw [hg8,<-hY];try rfl
   ·rw [show decide ((Y:Int) > 1)=true from decide_eq_true (by omega)];conv=>whnf
    rw [Kd (.inr fun hall=>h1Y (by have:=hall k (by omega);omega))];exact⟨_,zs,rfl⟩
  ·have ek:k=(g.d+1).toNat:=by omega
   subst ek;have hT:=VD g (entsOf (g.d+1).toNat b) hg (by rw [entsOf_len];omega);have hR:=TO hn hA;have hS:=hT.subA (args:= [.ag (AT g), .ag [.sl 3 (g.d+1).toNat fun i=>((entsOf (g.d+1).toNat b).map Cb).getD i []]]) ⟨ri,Bi ⟨Bb (f:=Cb) (entsOf (g.d+1).toNat b) (by rw [entsOf_len]) rfl,tv⟩,tv⟩;refine zp hS ⟨by rw [Ab,entsOf_len],rfl⟩ ?_;rintro _ rfl;refine⟨rfl,?_⟩;conv=>whnf
   cases ho:FX g (entsOf (g.d+1).toNat b) with
   | false=>
    rw [hR,ho,if_neg (by decide)];exact⟨_,zs,rfl⟩
   | true=>
    rw [hR,ho,if_pos rfl];refine⟨(by rw [Ab,entsOf_len]),?_⟩;exact⟨.tp [.ag [Bm (entsOf (g.d+1).toNat b)], .v (.bool true)],BW ⟨Bi ⟨Bb (f:=Cb) (entsOf (g.d+1).toNat b) (by rw [entsOf_len]) rfl,tv⟩,ri,tv⟩,rfl⟩
 ·refine zS Tryz.func75 rfl ?_;conv=>whnf
  rw [hw,hw9,show ((b.length:Int) != 9*(g.d+1))=true by simp only [bne_iff_ne,ne_eq];omega];conv=>whnf
  rw [Kd (.inl hn)];exact⟨_,zs,rfl⟩
theorem VU (n lo hi:Int):Fn Tryz.prog 151 [iv n,iv lo,iv hi] fun r=>r = .v (.bool (CH n lo hi)):=by
 refine zS Tryz.func151 rfl ?_;conv=>whnf
 repeat' (first | (refine Ak (fun h=>?_) (fun h=>?_) <;> (try simp at h) <;> conv=>whnf) | (refine zM tys_ok mixed (by kernel_rfl) ?_;conv=>whnf) | (refine z_ ?_;conv=>whnf) | (refine Af (by omega) ?_;conv=>whnf))
 all_goals exact⟨_,ri,by simp [CH, *] <;> omega⟩


theorem EY (g:Geo) (copy slot:Int) (hg:Bp g=true) (hl:IM g copy slot=true):Fn Tryz.prog 36 [.ag (AT g),iv copy,iv slot] fun r=>r = iv (Bg g copy slot):=by
 obtain⟨h1,h2,h3,h4,h5⟩:=As.1 hg;simp only [IM,Ad,AF] at hl;refine zS Tryz.func36 rfl ?_;refine⟨_,fun _ _ h=>h,?_⟩;have hm:0<=copy*g.sl/\copy*g.sl<=30:=by
  rcases(show copy=0\/copy=1 by omega) with rfl | rfl <;> omega
 rw [wi (n:=copy*g.sl) (by omega),wi (n:=g.an+copy*g.sl) (by omega),wi (n:=g.an+copy*g.sl+slot) (by omega)];try rfl
def BR (x:Gt) (addr:Int):Option Sec:=if x.err=0/\Dd x.bytes=0/\Cw x.bytes=addr then some ⟨Cw x.bytes,Cs x.bytes,CF x.bytes⟩ else none
def zeroS:Sec:=⟨0,0, []⟩
theorem JX (c:Ctx) (u:Value) (b:Bool) (h:Rd (.tp [.ag [iv 0,iv 0, .v (.slice none 0 0)], .v (.bool b)]) c u):Rd (.tp [.ag (Ov zeroS), .v (.bool b)]) c u:=by
 refine BW ?_ c u h;exact⟨Bi ⟨ri,ri,Bh _ _,tv⟩,ri,tv⟩
theorem Iu (x:Gt) (addr:Int) (hl:x.bytes.length<=100000):Fn Tryz.prog 145 [.ag (Dz x),iv addr] fun r=>r = .tp [.ag (Ov ((BR x addr).getD zeroS)), .v (.bool (BR x addr).isSome)]:=by
 have s1:=VL x.bytes hl;refine zS Tryz.func145 rfl ?_;conv=>whnf
 refine A8 (fun t1=>?_) (fun t1=>?_) <;> (repeat rw [Ac] at t1) <;> conv=>whnf
 ·have e:BR x addr=none:=by rw [BR,if_neg (fun h=>t1 h.1)]
  rw [e];exact⟨_,fun c v h=>JX c v false h,rfl⟩
 by_cases hO:Dd x.bytes=0
 ·rw [if_pos hO,hO] at s1;refine zZ s1 ?_;conv=>whnf
  refine A8 (fun t2=>?_) (fun t2=>?_) <;> (repeat rw [Ac] at t2) <;> conv=>whnf
  ·have e:BR x addr=none:=by rw [BR,if_neg (fun h=>t2 h.2.2)]
   rw [e];exact⟨_,fun c v h=>JX c v false h,rfl⟩
  ·have e:BR x addr=some ⟨Cw x.bytes,Cs x.bytes,CF x.bytes⟩:=by rw [BR,if_pos ⟨t1,hO,t2⟩]
   rw [e];exact⟨_,ri,rfl⟩
 ·rw [if_neg hO] at s1;refine zZ s1 ?_;conv=>whnf
  have e:BR x addr=none:=by rw [BR,if_neg (fun h=>hO h.2.1)]
  rw [e];refine A8 (fun t2=>?_) (fun t2=>?_) <;> (repeat rw [Ac] at t2) <;> conv=>whnf
  ·exact⟨_,fun c v h=>JX c v false h,rfl⟩
  ·exact absurd t2 hO
theorem ay (g:Geo) (x:Gt) (copy slot:Int) (hg:Bp g=true) (hL:IM g copy slot=true):Fv g x copy slot=match BR x (Bg g copy slot) with | none=>none | some s=>match Ny g s.pay with | some r=>if r.seq=s.stamp then some r else none | none=>none:=by
 unfold Fv BR;rw [hg,hL];by_cases h1:x.err=0 <;> by_cases h2:Dd x.bytes=0 <;> by_cases h3:Cw x.bytes=Bg g copy slot <;> simp [h1,h2,h3] <;> rfl
def RJ (o:Option Rc) (a:An) (seq at_ of_ left:Int):Bool:=match o with | some r=>G7 r a seq at_ of_ left | none=>false
def GU (p q:Option Rc) (b1 b2:Bool):Rc × List Int × Int:=
 if b1&&b2 then (p.getD zeroC, [],1) else if b1 then (p.getD zeroC, [1],1) else if b2 then (q.getD zeroC, [0],1) else if p.isSome || q.isSome then (zeroC, [],2) else (zeroC, [],3)
def Ii (g:Geo) (a:An) (x y:Gt) (slot seq at_ of_ left:Int):Rc × List Int × Int:=
 GU (Fv g x 0 slot) (Fv g y 1 slot) (RJ (Fv g x 0 slot) a seq at_ of_ left) (RJ (Fv g y 1 slot) a seq at_ of_ left)
theorem Hj (g:Geo) (x:Rc) (copy slot:Int) (hok:ER g x=true) (hl:IM g copy slot=true):Fn Tryz.prog 89 [.ag (AT g), .ag (JW x),iv copy,iv slot] fun r=>r=bA (BB g x copy slot):=by
 have hg:Bp g=true:=by unfold ER at hok;simp only [Ad] at hok;exact hok.1
 have hb:=Fk hg hl;have hs:=JF hok;have hn:=Ec hok;have h1:=EY g copy slot hg hl;have h2:=TA g x hok;have h3:=F0 (Bg g copy slot) x.seq (Eo x) ⟨hb.1,by omega,hs.1,hs.2,by omega⟩;refine zS Tryz.func89 rfl ?_;conv=>whnf
 apply z8 (0) tys_ok mixed (.o [0,1,2,4,5,6,3,7,8,9] .fin) [8,9,10,11,12,13,14,15,16,17] (by kernel_rfl)
 ·conv=>whnf
  refine zZ h1 ?_;conv=>whnf
  refine zZ h2 ?_;conv=>whnf
  refine zZ h3 ?_;exact tA
 exact⟨_,ri,rfl⟩
theorem Z5 (how:Int) (c:Ctx) (u:Value) (h:Rd (.tp [.ag [iv 0,iv 0,iv 0,iv 0,iv 0,iv 0,iv 0, .v (.slice none 0 0)], .v (.slice none 0 0),iv how]) c u):Rd (.tp [.ag (JW zeroC),iA [],iv how]) c u:=by
 refine BW ?_ c u h;exact⟨Bi ⟨ri,ri,ri,ri,ri,ri,ri,Bh _ _,tv⟩,Bh _ _,ri,tv⟩
def Ki (x:Int) (n:Int):Int:=IntKind.i64.wrap ((IntKind.u64.wrap x).tmod n)
theorem FI {x n:Int} (h:0<n) (h2:n<=4611686018427387904):0<=Ki x n/\Ki x n<n:=by
 have h0:0<=IntKind.u64.wrap x:=by rw [IntKind.wrap_u64];omega
 have h1:=Bk n h0;have h3:=AY (IntKind.u64.wrap x) h;unfold Ki;rw [wi (by omega)];exact⟨h1,h3⟩
def J3 (z d sp sl an:Int):Geo:=⟨1+Ki z 4,1+Ki d 4,Ki sp 3,14+Ki sl 17,1+Ki an 3⟩
theorem V2 (z d sp sl an:Int):Bp (J3 z d sp sl an)=true:=by
 have h1:=FI (x:=z) (n:=4) (by decide) (by decide);have h2:=FI (x:=d) (n:=4) (by decide) (by decide);have h3:=FI (x:=sp) (n:=3) (by decide) (by decide);have h4:=FI (x:=sl) (n:=17) (by decide) (by decide);have h5:=FI (x:=an) (n:=3) (by decide) (by decide);refine As.2 ?_;simp only [J3];omega
theorem XQ (z d sp sl an:Int):Fn Tryz.prog 19 [iv z,iv d,iv sp,iv sl,iv an] fun r=>r = .ag (AT (J3 z d sp sl an)):=by
 have h1:=FI (x:=z) (n:=4) (by decide) (by decide);have h2:=FI (x:=d) (n:=4) (by decide) (by decide);have h4:=FI (x:=sl) (n:=17) (by decide) (by decide);have h5:=FI (x:=an) (n:=3) (by decide) (by decide);refine zS Tryz.func19 rfl ?_;conv=>whnf
 repeat' (refine Af (by decide) ?_;conv=>whnf)
 refine⟨_,fun _ _ h=>h,?_⟩;simp only [AT,J3];rw [<-wi (n:=1+Ki z 4) (by omega),<-wi (n:=1+Ki d 4) (by omega),<-wi (n:=14+Ki sl 17) (by omega),<-wi (n:=1+Ki an 3) (by omega)];try rfl
def BZ (g:Geo) (s:ByteArray):An:=⟨1,0,0,1,0,s,List.replicate g.z.toNat ⟨(List.range (g.d+1).toNat).map Int.ofNat,g.d+1,0⟩⟩
def Hq (n:Nat):List (List AV):=(List.range n).map fun i=> [iv (i:Nat)]
theorem KE (n:Nat):Hq (n+1)=Hq n ++ [[iv (n:Nat)]]:=by simp [Hq,Bd]
theorem RB {n i:Nat} (h:i<n):(Hq n).getD i []=[iv (i:Nat)]:=ET h
def NI (g:Geo):List AV:= [.sl 1 (g.d+1).toNat fun i=>(Hq (g.d+1).toNat).getD i [],iv (g.d+1),iv 0]
theorem Us (g:Geo):SubL (NI g) (EC ⟨(List.range (g.d+1).toNat).map Int.ofNat,g.d+1,0⟩):=
 ⟨fun _ _ h=>zC (by simp) (fun i hi=>by rw [RB hi,ET hi];try rfl) h,fun _ _ h=>h,fun _ _ h=>h,tv⟩
theorem WT (g:Geo) (s:ByteArray) (hg:Bp g=true):Fn Tryz.prog 129 [.ag (AT g), .v (.string s)] fun r=>r = .ag (ED (BZ g s)):=by
 obtain⟨h1,h2,h3,h4,h5⟩:=As.1 hg;have w1:IntKind.i64.wrap (g.d+1)=g.d+1:=wi (by omega);refine zS Tryz.func129 rfl ?_;conv=>whnf
 refine zO Nat (fun k=>([(2, .bp 0 0),(4, .bp 1 0),(5, .bp 2 0),(6,iv k)], [.box 23 (AT g), .box 33 [iv 0,iv 0,iv 0,iv 0,iv 0, .v (.string ⟨#[]⟩), .v (.slice none 0 0)], .box 33 [iv 1,iv 0,iv 0,iv 1,iv 0, .v (.string s), .ow 3 k], .row 177 3 (List.replicate k (NI g))])) (fun k=>k<=g.z.toNat) (fun k=>g.z.toNat - k) 0 (Aj _) ⟨[(1002006,177,3)],tA,tA,tA,rfl,rfl,rfl⟩ ?_;intro k hk;conv=>whnf
 refine A8 (fun t1=>?_) (fun t1=>?_) <;> (repeat rw [Ac] at t1) <;> conv=>whnf
 ·refine zO Nat (fun j=>([(2, .bp 0 0),(4, .bp 1 0),(5, .bp 2 0),(6,iv k),(7, .bp 4 0),(8,iv j)], [.box 23 (AT g), .box 33 [iv 0,iv 0,iv 0,iv 0,iv 0, .v (.string ⟨#[]⟩), .v (.slice none 0 0)], .box 33 [iv 1,iv 0,iv 0,iv 1,iv 0, .v (.string s), .ow 3 k], .row 177 3 (List.replicate k (NI g)), .box 177 [.ow 5 j,iv (g.d+1),iv 0], .row 3 1 (Hq j)])) (fun j=>j<=(g.d+1).toNat) (fun j=>(g.d+1).toNat - j) 0 (Aj _) ⟨[(1004000,3,1)],tA,tA,⟨rfl,rfl,rfl,rfl,by rw [w1];try rfl,rfl,tv⟩,rfl,rfl,rfl⟩ ?_;intro j hj;conv=>whnf
  refine A8 (fun t2=>?_) (fun t2=>?_) <;> (repeat rw [Ac] at t2) <;> conv=>whnf
  ·refine⟨rfl,?_⟩;refine⟨⟨by simp [Hq],by omega⟩,?_⟩;exact⟨j+1,by omega,by omega,(Wk.plain (by repeat' first | exact trivial | exact rfl | refine Af ?_ ?_ | exact AH (by omega) | exact congrArg (AB.row _ _) (KE j)) (by repeat' first | exact trivial | exact rfl | refine Af ?_ ?_ | exact AH (by omega) | exact congrArg (AB.row _ _) (KE j)) rfl rfl rfl)⟩
  ·have ej:j=(g.d+1).toNat:=by omega
   refine⟨(by simp [Hq]),?_⟩;refine⟨rfl,?_⟩;refine⟨⟨by simp,by omega⟩,?_⟩;conv=>whnf
   have er:AB.row 177 3 (List.replicate (k+1) (NI g)) = .row 177 3 (List.replicate k (NI g) ++ [[AV.sl 1 j fun i=>(Hq j).getD i [],iv (g.d+1),iv 0]]):=by
    rw [List.replicate_succ',NI,<-ej]
   exact⟨k+1,by omega,by omega,(Wk.plain (by repeat' first | exact trivial | exact rfl | refine Af ?_ ?_ | exact AH (by omega) | exact er) (by repeat' first | exact trivial | exact rfl | refine Af ?_ ?_ | exact AH (by omega) | exact er) rfl rfl rfl)⟩
 ·refine⟨by simp,?_⟩;conv=>whnf
  have ek:k=g.z.toNat:=by omega
  refine⟨.ag (ED (BZ g s)),fun c u h=>?_,rfl⟩;refine Bi ?_ c u h;refine⟨fun _ _ h=>h,fun _ _ h=>h,fun _ _ h=>h,fun _ _ h=>h,fun _ _ h=>h,fun _ _ h=>h,fun c u h=>Rd.sub (by simp [BZ,ek]) (fun i hi=>?_) h,tv⟩;rw [BZ,Aa,Aa,Cx hi,Cx (by omega)];exact Us g
theorem T4 {g:Geo} {r:Rc} {copy slot:Int} (hg:Bp g=true) (hok:ER g r=true) (hl:IM g copy slot=true):Fv g ⟨0,BB g r copy slot⟩ copy slot=some r:=by
 have hb:=Fk hg hl;have hs:=JF hok;have hn:=Ec hok;obtain⟨h1,h2,h3,h4⟩:=GP (a:=Bg g copy slot) (s:=r.seq) (p:=Eo r) ⟨hb.1,hb.2,hs.1,hs.2,by omega⟩;unfold Fv;rw [hg,hl];simp only [BB,h1,h2,h3,h4,R4 hok];rfl
theorem lab_nil:Gu []=0:=by rw [<-NC,Jg];simp
theorem Kv {g:Geo} {s:ByteArray} (hg:Bp g=true) (hs:Gu s.data.toList=0):Bu g (BZ g s)=true:=by
 obtain⟨h1,h2,h3,h4,h5⟩:=As.1 hg;have hp:OA ((List.range (g.d+1).toNat).map Int.ofNat) (g.d+1)=true:=by
  rcases(show g.d=1\/g.d=2\/g.d=3\/g.d=4 by omega) with h | h | h | h <;> rw [h] <;> decide
 have hh:DZ g ⟨(List.range (g.d+1).toNat).map Int.ofNat,g.d+1,0⟩=true:=by
  simp [DZ,hp,CH];omega
 simp [Bu,BZ,hs,CH];exact⟨by omega,by omega, .inr hh⟩
theorem Jq (b:List UInt8) (h:b.length<=100000000000):Fn Tryz.prog 14 [bA b,bA b] fun x=>x = .v (.bool true):=by
 have:=QG b b h;rw [decide_eq_true rfl] at this;exact this
theorem Zq {x y:Tx} (h1:x.seq=y.seq) (h2:x.pos=y.pos) (h3:x.n=y.n) (h4:x.images=y.images):x=y:=by
 cases x;cases y;simp_all
theorem XG (l m:List Tx) (hl:l.length<=1000000000) (hb:∀ t∈l,t.images.length<=1000000000/\∀ x∈t.images,x.bytes.length<=100000000000):Fn Tryz.prog 49 [Dl l,Dl m] fun r=>r = .v (.bool (decide (l=m))):=by
 refine zS Tryz.func49 rfl ?_;conv=>whnf
 refine A8 (fun h=>?_) (fun h=>?_) <;> (repeat rw [Ac] at h) <;> conv=>whnf
 ·exact⟨_,ri,by rw [decide_eq_false (fun e=>h (by rw [e]))]⟩
 refine zO Nat (fun k=>([(0,Dl l),(1,Dl m),(5,iv k)], [])) (fun k=>k<=l.length/\l.take k=m.take k) (fun k=>l.length - k) 0 ⟨Aj _,by simp⟩ ⟨[],tv,tA,tv,rfl,rfl,rfl⟩ ?_;rintro k ⟨hk,hI⟩;conv=>whnf
 refine A8 (fun h2=>?_) (fun h2=>?_) <;> (repeat rw [Ac] at h2) <;> conv=>whnf
 ·have hm:=hb _ (A6 (d:=⟨0,0,0, []⟩) (show k<l.length by omega));refine zM tys_ok mixed (by kernel_rfl) ?_;conv=>whnf
  repeat' (first | (refine z_ ?_;conv=>whnf) | (refine A8 (fun _=>?_) (fun _=>?_) <;> conv=>whnf) | (refine zZ (Ur (l.getD k ⟨0,0,0, []⟩).images (m.getD k ⟨0,0,0, []⟩).images hm.1 hm.2) ?_;conv=>whnf) | (refine Af (by first | omega | exact of_decide_eq_true rfl) ?_;conv=>whnf) | fail)
  all_goals first
   | exact⟨_,ri,by rw [decide_eq_false (ES (fun e=>absurd (congrArg Tx.seq e) ‹_›))]⟩
   | exact⟨_,ri,by rw [decide_eq_false (ES (fun e=>absurd (congrArg Tx.pos e) ‹_›))]⟩
   | exact⟨_,ri,by rw [decide_eq_false (ES (fun e=>absurd (congrArg Tx.n e) ‹_›))]⟩
   | exact⟨_,ri,by rw [decide_eq_false (ES (fun e=>absurd (congrArg Tx.images e) ‹_›))]⟩
   | exact⟨k+1,⟨by omega,F_ hI (by omega) (by omega) (Zq ‹_› ‹_› ‹_› ‹_›)⟩,by omega,⟨[],tv,⟨rfl,rfl,AH (by omega),tv⟩,tv,rfl,rfl,rfl⟩⟩
 ·exact⟨_,ri,by rw [decide_eq_true (H5 hI (by omega) (by omega))]⟩


end
end Go.Proofs.YtepdhdfoipephaaGreatDoor.A
namespace Go.Proofs.YtepdhdfoipephaaGreatDoor
section
open Go.ChangeShapes Go.WideShapes Go.ChangeAt Go.RowKit Go.Deep
variable {H:Type} {enc:TypeId × Value->H}

theorem T0 {w:World} {a:Addr} {u:Value} (h:w.cell? a=some u):a.spot=none:=by
 unfold World.cell? at h;split at h
 ·split at h
  ·cases h
  ·rename_i hn;cases hs:a.spot with
   | none=>rfl
   | some x=>rw [hs] at hn;exact absurd rfl hn
 ·cases h

theorem Y3 {k:Int} (h:(Lit.int .i64 k).wf=true):k<=9223372036854775807:=by
 have h2:IntKind.i64.min<=k/\k<=IntKind.i64.max:=by
  simp only [Lit.wf,Ad,decide_eq_true_eq] at h;exact h
 have e2:IntKind.i64.max=9223372036854775807:=by decide
 omega
theorem Y2 {k:Int} (h:(Lit.int .i64 k).wf=true) : -9223372036854775808<=k:=by
 have h2:IntKind.i64.min<=k/\k<=IntKind.i64.max:=by
  simp only [Lit.wf,Ad,decide_eq_true_eq] at h;exact h
 have e2:IntKind.i64.min = -9223372036854775808:=by decide
 omega
instance:Rp Geo where
 sz:=5
 agg:=true
 pos:=by omega
 E:=fun _ _ cs g=>cs=[.int .i64 g.z, .int .i64 g.d, .int .i64 g.sp, .int .i64 g.sl, .int .i64 g.an]
 len:=fun h=>by rw [h];try rfl
 one:=fun h u hu=>by rw [h] at hu;simp at hu;rcases hu with rfl | rfl | rfl | rfl | rfl <;> rfl
 mono:=fun _ h=>h
end
end Go.Proofs.YtepdhdfoipephaaGreatDoor
namespace Go.Proofs.YtepdhdfoipephaaGreatDoor.A
section
open Go.RowKit
def Kx (w:World):Ctx:={ w:=w,M:=noM,base:=w.heap.size,dom:=0,len:=fun _=>0,rho:=fun _=>undef }
theorem Fn.any {P:Program} {f:FuncId} {args:List AV} {a:AV} (h:Fn P f args fun r=>r=a) (w:World) (hg:globOk w) (us:List Value) (hr:RdL args (Kx w) us) :
  Calls P f us.toArray w fun e w'=>∃ v,e = .returned v/\Below w.heap.size w w'/\Rd a { Kx w with w:=w' } v:=by
 refine(h.calls (Kx w) us rfl (fun _ h=>h.elim) hg hr).mono ?_;rintro e w' ⟨v,r,rfl,rfl,h1,h2⟩;exact⟨v,rfl,h1,h2⟩
theorem Fn.anyV {P:Program} {f:FuncId} {args:List AV} {a:Value} (h:Fn P f args fun r=>r = .v a) (w:World) (hg:globOk w) (us:List Value) (hr:RdL args (Kx w) us) :
  Calls P f us.toArray w fun e w'=>e = .returned a/\Below w.heap.size w w':=by
 refine(h.any w hg us hr).mono ?_;rintro e w' ⟨v,rfl,h1,h2⟩;simp only [Rd] at h2;exact⟨by rw [h2],h1⟩
end
section
open Go.RowKit Go.ChangeShapes Go.WideShapes Go.ChangeAt Go.Deep
open Go.ChangeMaps (open_string)

section
variable {H:Type} {enc:TypeId × Value->H} {w:World}
def OpenE (enc:TypeId × Value->H) (w:World) (t:TypeId) (sz:Nat) (G:List AV->Prop):Prop:=
 Tryz.prog.cellsOf t=sz/\∀ n cs x,DataW.trod enc Tryz.prog w 0 (fun _=>true) true n t cs=some x->∃ L,G L/\RdL L (Kx w) cs/\(∀ u∈cs,u.oneCell'=true)/\L.length=sz
theorem OpenE.mono {t sz:Nat} {G G':List AV->Prop} (h:OpenE enc w t sz G) (hg:∀ L,G L->G' L):OpenE enc w t sz G':=
 ⟨h.1,fun n cs x hx=>let ⟨L,h1,h2⟩:=h.2 n cs x hx;⟨L,hg L h1,h2⟩⟩
def ZR (L:List AV):Prop:=∃ k:Int,L=[iv k]/\ -9223372036854775808<=k/\k<=9223372036854775807
theorem ZF {t:Nat} (ht:Tryz.prog.underlying t=some (.int .i64)) (hc:Tryz.prog.cellsOf t=1):OpenE enc w t 1 ZR:=⟨hc,fun n cs x h=>by
 obtain⟨k,rfl, -,hw⟩:=DataW.trod_int ht h;exact⟨_,⟨k,rfl,Y2 hw,Y3 hw⟩,by simp only [RdL,Rd];exact⟨_,_,rfl,rfl,rfl⟩,by simp [Value.oneCell'],rfl⟩⟩
def bJ {α:Type} (sz:Nat) (f:α->List AV) (d:α) (L:List AV):Prop:=∃ l:List α,L=[.sl sz l.length fun i=>f (l.getD i d)]
theorem Y_ {α:Type} {t e sz:Nat} {f:α->List AV} {d:α} (ht:Tryz.prog.underlying t=some (.slice e)) (hc:Tryz.prog.cellsOf t=1) (hsz:0<sz) (he:OpenE enc w e sz fun L=>∃ a,L=f a):OpenE enc w t 1 (bJ sz f d):=⟨hc,fun n cs x h=>by
 have hnil:∀ (u:Value),Rd (.v (.slice none 0 0)) (Kx w) u->Rd (.sl sz ([]:List α).length fun i=>f (([]:List α).getD i d)) (Kx w) u:=fun u h=>by
  simp only [Rd] at h |-
  exact⟨none,0,h,by simp,by simp [maxLen], .inl rfl⟩
 rcases open_slice ht h with ⟨rfl, -⟩ | ⟨a,len,cap,m,n',D,Pl,rfl, -,hlc,hcm,hm, -,hel'⟩
 ·exact⟨_,⟨[],rfl⟩,by simp only [RdL];exact⟨_,_,rfl,hnil _ (by simp [Rd]),rfl⟩,by simp [Value.oneCell'],rfl⟩
 ·simp only [if_true] at hm;subst hm;obtain⟨b,off,spot⟩:=a;by_cases h0:len=0
  ·subst h0;refine⟨_,⟨[],rfl⟩,?_,by simp [Value.oneCell'],rfl⟩;simp only [RdL,Rd];exact⟨_,_,rfl,⟨_,m,rfl,by simp,hcm, .inl rfl⟩,rfl⟩
  ·have hsp:spot=none:=by
    obtain⟨cs',hc',htr⟩:=hel' 0 (by omega);obtain⟨L,⟨a,rfl⟩,hR,h1,hl⟩:=he.2 n' cs' _ htr;obtain⟨-,hl2,hcell⟩:=World.cells?_some hc';have hlen:=hR.length;have:=hcell 0 (by rw [he.1];omega);rw [Ae (by omega)] at this;simp only [Addr.add,Nat.zero_mul,if_true] at this;exact T0 this
   subst hsp;have key:∀ i,i<len->∃ cs,∃ a:α,RdL (f a) (Kx w) cs/\(∀ u∈cs,u.oneCell'=true)/\(f a).length=sz/\∀ j u,cs[j]? = some u->w.cell? ⟨b,off+(i*sz+j),none⟩=some u:=fun i hi=>by
    obtain⟨cs',hc',htr⟩:=hel' i (by omega);obtain⟨L,⟨a,rfl⟩,hR,h1,hl⟩:=he.2 n' cs' _ htr;refine⟨cs',a,hR,h1,hl,fun j u hu=>?_⟩;obtain⟨-,hl2,hcell⟩:=World.cells?_some hc';have hj:j<Tryz.prog.cellsOf e:=by rw [<-hl2];exact(Ar.1 hu).1
    have h3:=(hcell j hj).trans hu;rw [he.1,Addr.add_lit,Addr.add_lit,Dt] at h3;exact h3
   have hex:∀ k,k<=len->∃ l:List α,l.length=k/\∀ i,i<k->(f (l.getD i d)).length=sz/\RdAt (f (l.getD i d)) (Kx w) b (off+i*sz):=by
    intro k;induction k with
    | zero=>exact fun _=>⟨[],rfl,fun i hi=>absurd hi (Ap i)⟩
    | succ k ih=>
     intro hk;obtain⟨l,hl,hr⟩:=ih (by omega);obtain⟨cs',a,hR,h1,hla,h2⟩:=key k (by omega);refine⟨l ++ [a],by simp [hl],fun i hi=>?_⟩;by_cases hik:i<k
     ·have e:(l ++ [a]).getD i d=l.getD i d:=by rw [Aa,Aa,A5 (by omega)]
      rw [e];exact hr i hik
     ·have e2:i=k:=by omega
      subst e2;have e:(l ++ [a]).getD i d=a:=by rw [Aa,A2 (by omega),hl];simp
      rw [e];refine⟨hla,RdAt.of hR h1 fun j u hu=>?_⟩;have:=h2 j u hu;rw [Dt];exact this
   obtain⟨l,hl,hr⟩:=hex len (Ah _);refine⟨_,⟨l,rfl⟩,?_,by simp [Value.oneCell'],rfl⟩;simp only [RdL,Rd];refine⟨_,_,rfl,⟨_,m,by rw [hl],by omega,hcm, .inr ⟨b,off,rfl,fun h=>h,?_,fun i hi=>hr i (by omega)⟩⟩,rfl⟩;obtain⟨cs',a,hR,h1,hla,h2⟩:=key 0 (by omega);have hlen:=hR.length;have h3:=h2 0 cs'[0] (Ae (by omega));exact World.block_lt_of_cell? _ _ h3⟩
def catG:List (List AV->Prop)->List AV->Prop
 | [],L=>L=[]
 | G::r,L=>∃ A B,L=A ++ B/\G A/\catG r B
structure FieldE (enc:TypeId × Value->H) (w:World) where
 t:TypeId
 sz:Nat
 G:List AV->Prop
 ok:OpenE enc w t sz G
theorem Kg {n:Nat} {cs:List Value}:∀ (fs:List (FieldE enc w)) (off:Nat),off+(fs.map (·.sz)).sum=cs.length->
  (∀ i f,fs[i]? = some f->∃ x,DataW.trod enc Tryz.prog w 0 (fun _=>true) true n f.t ((cs.drop (off+((fs.take i).map (·.sz)).sum)).take f.sz)=some x)->
  ∃ L,catG (fs.map (·.G)) L/\RdL L (Kx w) (cs.drop off)/\(∀ u∈cs.drop off,u.oneCell'=true)/\L.length=(fs.map (·.sz)).sum
 | [],off,hl,_=>⟨[],rfl,by simp only [RdL];exact AE (by simp at hl;omega),by rw [AE (by simp at hl;omega)];simp,rfl⟩
 | f::r,off,hl,h=>by
  simp only [A3,List.sum_cons] at hl |-
  obtain⟨x,hx⟩:=h 0 f rfl;simp only [List.take_zero,By,List.sum_nil,C6] at hx;obtain⟨A,hA,hRA,h1A,hlA⟩:=f.ok.2 _ _ _ hx;obtain⟨B,hB,hRB,h1B,hlB⟩:=Kg (cs:=cs) r (off+f.sz) (by omega) (fun i g hg=>by
   obtain⟨y,hy⟩:=h (i+1) g (by simpa using hg);refine⟨y,?_⟩;simp only [CM,A3,List.sum_cons] at hy;rw [Dt];exact hy)
  have e:cs.drop off=(cs.drop off).take f.sz ++ cs.drop (off+f.sz):=by rw [<-A_,Cy]
  refine⟨A ++ B,⟨A,B,rfl,hA,hB⟩,?_,?_,by simp [hlA,hlB]⟩
  ·rw [e];exact hRA.append hRB
  ·intro u hu;rw [e,A0] at hu;exact hu.elim (h1A u) (h1B u)
theorem Ub {t:Nat} (fs:List (FieldE enc w)) {F:Array Field} (ht:Tryz.prog.underlying t=some (.struct F)) (hc:Tryz.prog.cellsOf t=(fs.map (·.sz)).sum)
  (hF:F.toList.map (fun f=>(f.type,f.offset))=fs.zipIdx.map fun p=>(p.1.t,((fs.take p.2).map (·.sz)).sum)):OpenE enc w t (fs.map (·.sz)).sum (catG (fs.map (·.G))):=⟨hc,fun n cs x h=>by
 obtain⟨xs,n',_,rfl,hl,hlen,hf⟩:=DataW.trod_struct ht h;have hsz:F.size=fs.length:=by have:=congrArg List.length hF;simpa using this
 obtain⟨L,h1,h2,h3,h4⟩:=Kg (n:=n') (cs:=cs) fs 0 (by rw [hl,hc];omega) (fun i f hi=>by
  have hi':i<fs.length:=(Ar.1 hi).1;have hFi:F[i]? = some F[i]:=CQ (by omega);have hx:=hf i F[i] hFi;have he:(F[i].type,F[i].offset)=(f.t,((fs.take i).map (·.sz)).sum):=by
   have:=congrArg (fun l=>l[i]?) hF;simp only [AS,List.getElem?_zipIdx,hi,Array.getElem?_toList,hFi,Dh,A4,Option.some.injEq] at this;exact this
  injection he with e1 e2
  rw [e1,e2,f.ok.1] at hx;rw [Ae (by omega)] at hx;rw [A4];exact⟨_,hx⟩)
 exact⟨L,h1,by simpa using h2,by simpa using h3,h4⟩⟩
end
section
variable {H:Type} {enc:TypeId × Value->H} {w:World}
theorem oI:OpenE enc w 3 1 ZR:=ZF Tryz.underlying3 (by kernel_rfl)
def bK (L:List AV):Prop:=∃ b:List Int,L=[iA b]
theorem oIs:OpenE enc w 35 1 bK:=
 (Y_ (α:=Int) (sz:=1) (f:=fun k=> [iv k]) (d:=0) Tryz.underlying35 (by kernel_rfl) (by decide) (oI.mono fun _ ⟨k,h,_⟩=>⟨k,h⟩)).mono fun L ⟨l,h⟩=>⟨l,h⟩
def fI:FieldE enc w:=⟨_,_,_,oI⟩
theorem oGeo:OpenE enc w 23 5 fun L=>∃ x,L=AT x:=
 (Ub [fI,fI,fI,fI,fI] Tryz.underlying23 (by kernel_rfl) (by kernel_rfl)).mono fun L h=>by
  obtain⟨_,_,rfl,⟨a,rfl,_⟩,_,_,rfl,⟨b,rfl,_⟩,_,_,rfl,⟨c,rfl,_⟩,_,_,rfl,⟨d,rfl,_⟩,_,_,rfl,⟨e,rfl,_⟩,rfl⟩:=h;exact⟨⟨a,b,c,d,e⟩,rfl⟩
def aT (l:List Int):List AV:=l.map fun k=> iv k
theorem cat_ints:∀ (n:Nat) {L:List AV},catG (List.replicate n ZR) L->∃ l:List Int,l.length=n/\L=aT l/\∀ k∈l, -9223372036854775808<=k/\k<=9223372036854775807
 | 0,L,h=>⟨[],rfl,h,by simp⟩
 | n+1,L,h=>by
  obtain⟨A,B,rfl,⟨k,rfl,hk⟩,hB⟩:=h;obtain⟨l,h1,rfl,h2⟩:=cat_ints n hB;refine⟨k::l,by simp [h1],rfl,fun x hx=>?_⟩;rcases AQ.1 hx with rfl | hx
  ·exact hk
  ·exact h2 x hx
theorem ZG {t n:Nat} (ht:Tryz.prog.underlying t=some (.array n 3)) (hc:Tryz.prog.cellsOf t=n):OpenE enc w t n fun L=>∃ l:List Int,l.length=n/\L=aT l/\∀ k∈l, -9223372036854775808<=k/\k<=9223372036854775807:=⟨hc,fun m cs x h=>by
 obtain⟨xs,m',_,rfl,hl,hlen,hel⟩:=DataW.trod_array ht h;have hs:((List.replicate n (fI:FieldE enc w)).map (·.sz)).sum=n:=by
  rw [List.map_replicate,List.sum_replicate_nat];exact Nat.mul_one n
 obtain⟨L,h1,h2,h3,h4⟩:=Kg (n:=m') (cs:=cs) (List.replicate n (fI:FieldE enc w)) 0 (by rw [hl,hc,hs];omega) (fun i f hi=>by
  have hin:i<n:=by simpa using (Ar.1 hi).1
  rw [Cx hin] at hi;have hi:=(Option.some.inj hi).symm;subst hi;have:=hel i hin;rw [(oI (enc:=enc) (w:=w)).1,Ae (by omega)] at this;refine⟨_,Eq.trans ?_ this⟩;have e:((List.take i (List.replicate n (fI:FieldE enc w))).map (·.sz)).sum=i*1:=by
   rw [List.take_replicate,List.map_replicate,List.sum_replicate_nat,Di (by omega)];try rfl
  rw [e,A4];try rfl)
 rw [List.map_replicate] at h1;obtain⟨l,q1,q2,q3⟩:=cat_ints n h1;exact⟨L,⟨l,q1,q2,q3⟩,by simpa using h2,by simpa using h3,by rw [h4,hs]⟩⟩

theorem Th {t:Nat} {G:List AV->Prop} {v:Value} {d:DataW H} {ps:List MemPlace} (ho:OpenE enc w t 1 G) (hv:v.cells.toList=[v]) (h:DataW.Trod enc Tryz.prog w 0 (fun _=>true) true t v d ps):∃ L,G L/\RdL L (Kx w) [v]:=by
 obtain⟨n,hn⟩:=h;obtain⟨L,h1,h2,_⟩:=ho.2 n _ _ hn;rw [hv] at h2;exact⟨L,h1,h2⟩
theorem YR {t sz:Nat} {G:List AV->Prop} {cs:Array Value} {d:DataW H} {ps:List MemPlace} (ho:OpenE enc w t sz G) (h:DataW.Trod enc Tryz.prog w 0 (fun _=>true) true t (.agg cs) d ps):∃ L,G L/\Rd (.ag L) (Kx w) (.agg cs):=by
 obtain⟨n,hn⟩:=h;obtain⟨L,h1,h2,_⟩:=ho.2 n _ _ hn;refine⟨L,h1,?_⟩;simp only [Rd];exact⟨cs.toList,rfl,h2⟩
theorem SE {a:AV} {c:Ctx} {v:Value} (h:RdL [a] c [v]):Rd a c v:=by
 simp only [RdL] at h;obtain⟨y,ys,e,h1,_⟩:=h;injection e with e _
 subst e;exact h1
end
end
section
open Go.RowKit
theorem Rm {g:Geo} {x:Gt} {copy slot:Int} (h:(Bp g&&IM g copy slot)=false):Fv g x copy slot=none:=by
 unfold Fv;rw [h];try rfl
theorem V7 {g:Geo} {x:Gt} {copy slot:Int} {r:Rc} (h:Fv g x copy slot=some r):ER g r=true/\IM g copy slot=true/\r.img.bytes.length<=59:=by
 unfold Fv at h;split at h
 ·rename_i hc;simp only [Ad] at hc;split at h
  ·rename_i r' hr;split at h
   ·injection h with h
    subst h;obtain⟨h1,h2⟩:=R3 hr;have h3:=Ec h1;have h4:=LT h1;refine⟨h1,hc.1.1.1.2,?_⟩;by_cases hk:r'.kind=1
    ·rw [if_pos hk] at h4;omega
    ·have:r'.img.bytes.length=0:=by
      unfold ER Fs at h1;simp only [Ad] at h1;have h5:=h1.2;split at h5
      ·simp only [Ie,Ad,beq_iff_eq] at h5;omega
      ·split at h5
       ·simp only [Ie,Ad,beq_iff_eq] at h5;omega
       ·cases h5
     omega
   ·cases h
  ·cases h
 ·cases h
theorem PX {p q:Option Rc} {b1 b2:Bool} {Q:Rc->Prop} (h1:b1=true->∃ r,p=some r/\Q r) (h2:b2=true->∃ r,q=some r/\Q r) :
  ((GU p q b1 b2).2.2=1/\Q (GU p q b1 b2).1/\(GU p q b1 b2).2.1.length<=1/\∀ c∈(GU p q b1 b2).2.1,c=0\/c=1)\/(((GU p q b1 b2).2.2=2\/(GU p q b1 b2).2.2=3)/\(GU p q b1 b2).2.1=[]/\(GU p q b1 b2).1=zeroC):=by
 unfold GU;cases b1 <;> cases b2
 ·by_cases h:(p.isSome || q.isSome)=true
  ·simp [h]
  ·simp [h]
 ·obtain⟨r,rfl,hr⟩:=h2 rfl;exact .inl ⟨rfl,hr,by simp,by simp⟩
 ·obtain⟨r,rfl,hr⟩:=h1 rfl;exact .inl ⟨rfl,hr,by simp,by simp⟩
 ·obtain⟨r,rfl,hr⟩:=h1 rfl;exact .inl ⟨rfl,hr,by simp,by simp⟩
theorem PR {g:Geo} {a:An} {x:Gt} {c slot seq at_ of_ left:Int} (h:RJ (Fv g x c slot) a seq at_ of_ left=true):∃ r,Fv g x c slot=some r/\ER g r=true/\r.img.bytes.length<=59/\G7 r a seq at_ of_ left=true:=by
 cases hp:Fv g x c slot with
 | none=>rw [hp] at h;cases h
 | some r=>
  rw [hp] at h;obtain⟨e1, -,e3⟩:=V7 hp;exact⟨r,rfl,e1,e3,h⟩
theorem PY {g:Geo} {a:An} {x y:Gt} {slot seq at_ of_ left:Int} (hs:0<=slot/\slot<g.sl) :
  ((Ii g a x y slot seq at_ of_ left).2.2=1/\(ER g (Ii g a x y slot seq at_ of_ left).1=true/\(Ii g a x y slot seq at_ of_ left).1.img.bytes.length<=59/\G7 (Ii g a x y slot seq at_ of_ left).1 a seq at_ of_ left=true)/\(Ii g a x y slot seq at_ of_ left).2.1.length<=1/\∀ c∈(Ii g a x y slot seq at_ of_ left).2.1,IM g c slot=true)\/
  (((Ii g a x y slot seq at_ of_ left).2.2=2\/(Ii g a x y slot seq at_ of_ left).2.2=3)/\(Ii g a x y slot seq at_ of_ left).2.1=[]/\(Ii g a x y slot seq at_ of_ left).1=zeroC):=by
 have hi:CH slot 0 (g.sl - 1)=true:=AF.2 (by omega);have o0:IM g 0 slot=true:=by rw [IM,hi];try rfl
 have o1:IM g 1 slot=true:=by rw [IM,hi];try rfl
 refine(PX (Q:=fun r=>ER g r=true/\r.img.bytes.length<=59/\G7 r a seq at_ of_ left=true) PR PR).imp (fun h=>⟨h.1,h.2.1,h.2.2.1,fun c hc=>?_⟩) id;rcases h.2.2.2 c hc with rfl | rfl
 ·exact o0
 ·exact o1
def gz:Gt:=⟨0, []⟩
def Db (g:Geo) (pos at_:Int):Int:=(IntKind.i64.wrap (pos+at_)).tmod g.sl
def E5 (g:Geo) (a:An) (x y:List Gt) (pos seq left at_ of_:Int):Rc × Int × List Wr:=
 let s:=Db g pos at_;let q:=Ii g a (x.getD s.toNat gz) (y.getD s.toNat gz) s seq at_ of_ left
 (q.1,q.2.2,q.2.1.map fun c=>⟨Bg g c s,BB g q.1 c s⟩)
def Ee (look:Int->Rc × Int × List Wr):Nat->Int->Rc->List Img->List Wr->Int × List Img × List Wr
 | 0,_,r,im,w=>(1,if r.kind=1 then im ++ [r.img] else im,w)
 | f+1,at_,r,im,w=>
  let q:=look at_
  if q.2.1≠1 then (q.2.1, [], []) else Ee look f (at_+1) q.1 (if r.kind=1 then im ++ [r.img] else im) (w ++ q.2.2)
def IB (g:Geo) (a:An) (x y:List Gt) (pos seq left:Int):Int × Int × List Img × List Wr:=
 let q:=E5 g a x y pos seq left 0 0
 if q.2.1≠1 then (q.2.1,0, [], []) else
  let t:=Ee (fun k=>E5 g a x y pos seq left k q.1.of_) (q.1.of_ - 1).toNat 1 q.1 [] q.2.2
  if t.1≠1 then (t.1,0, [], []) else (1,q.1.of_,t.2.1,t.2.2)
def HV (g:Geo) (a:An) (x y:List Gt):Nat->Int->Int->Int->List Tx->List Wr->Option (List Tx × List Wr × Int)
 | 0,_,seq,_,l,w=>some (l,w,seq)
 | f+1,pos,seq,left,l,w=>
  if 0<left/\seq<=4294967295 then
   let t:=IB g a x y pos seq left
   if t.1=3 then none else if t.1≠1 then some (l,w,seq)
   else HV g a x y f ((pos+t.2.1).tmod g.sl) (seq+1) (left - t.2.1) (l ++ [⟨seq,pos,t.2.1,t.2.2.1⟩]) (w ++ t.2.2.2)
  else some (l,w,seq)
def damaged:Int:=12
def WV (a:An):Option (List Tx × List Wr × Int)->List Tx × List Wr × Int
 | none=>([], [],damaged)
 | some (l,w,seq)=>if seq - 1<a.last then ([], [],damaged) else (l,w,0)
theorem WU {a:An} {l:List Tx} {w:List Wr} {seq:Int} (h:seq - 1<a.last):WV a (some (l,w,seq))=([], [],damaged):=if_pos h
theorem ME {a:An} {l:List Tx} {w:List Wr} {seq:Int} (h:¬seq - 1<a.last):WV a (some (l,w,seq))=(l,w,0):=if_neg h
def FZ (g:Geo) (a:An) (x y:List Gt):List Tx × List Wr × Int:=WV a (HV g a x y g.sl.toNat a.pos a.seq g.sl [] [])
theorem HT {g:Geo} {pos at_:Int} (hg:Bp g=true) (hp:0<=pos/\pos<g.sl) (hat:0<=at_/\at_<=1000):0<=Db g pos at_/\Db g pos at_<g.sl:=by
 obtain⟨h1,h2,h3,h4,h5⟩:=As.1 hg;have hw:IntKind.i64.wrap (pos+at_)=pos+at_:=by rw [IntKind.wrap_i64];omega
 exact⟨Bk _ (by rw [hw];omega),AY _ (by omega)⟩
theorem Hp {g:Geo} {a:An} {x y:List Gt} {pos seq left at_ of_:Int} (hg:Bp g=true) (hp:0<=pos/\pos<g.sl) (hat:0<=at_/\at_<=1000) :
  ((E5 g a x y pos seq left at_ of_).2.1=1/\(ER g (E5 g a x y pos seq left at_ of_).1=true/\(E5 g a x y pos seq left at_ of_).1.img.bytes.length<=59/\G7 (E5 g a x y pos seq left at_ of_).1 a seq at_ of_ left=true)/\(E5 g a x y pos seq left at_ of_).2.2.length<=1)\/
  (((E5 g a x y pos seq left at_ of_).2.1=2\/(E5 g a x y pos seq left at_ of_).2.1=3)/\(E5 g a x y pos seq left at_ of_).2.2=[]/\(E5 g a x y pos seq left at_ of_).1=zeroC):=by
 refine(PY (a:=a) (x:=x.getD (Db g pos at_).toNat gz) (y:=y.getD (Db g pos at_).toNat gz) (seq:=seq) (at_:=at_) (of_:=of_) (left:=left) (HT hg hp hat)).imp (fun h=>⟨h.1,h.2.1,?_⟩) (fun h=>⟨h.1,?_,h.2.2⟩)
 ·simp only [E5,Ab];exact h.2.2.1
 ·simp only [E5,h.2.1,By]
theorem RI {r:Rc} {g:Geo} {a:An} {seq at_ of_ left:Int} (hk:ER g r=true) (h:G7 r a seq at_ of_ left=true):2<=r.of_/\r.of_<=30/\r.at_=at_/\r.at_<=r.of_ - 1/\(of_=0->r.of_<=left)/\(of_≠0->r.of_=of_):=by
 have h:=of_decide_eq_true h;unfold ER Fs at hk;simp only [Ad] at hk;have h2:=hk.2;rw [if_neg h.1] at h2;split at h2
 ·simp only [HI,Ad,AF] at h2;refine⟨by omega,by omega,h.2.2.1,by omega,h.2.2.2.1,h.2.2.2.2.1⟩
 ·split at h2
  ·simp only [HI,Ad,AF,beq_iff_eq] at h2;refine⟨by omega,by omega,h.2.2.1,by omega,h.2.2.2.1,h.2.2.2.2.1⟩
  ·cases h2
@[reducible] def bN (g:Geo) (a:An) (x y:List Gt) (pos seq left:Int) (w:AV):List AV:=
 [iv g.z,iv g.d,iv g.sp,iv g.sl,iv g.an,iv a.gen,iv a.epoch,iv a.pos,iv a.seq,iv a.last, .v (.string a.label),Jk a.homes,Im x,Im y,iv pos,iv seq,iv left,w]
theorem Ml (seq epoch of_:Int) {k:Nat} {l:List Img} (hk:k<l.length):(IH seq epoch of_ (k+1) l).map JW=(IH seq epoch of_ k l).map JW ++ [JW ⟨1,seq,epoch,(k:Nat),of_,l.getD k ⟨0,0, []⟩⟩]:=by
 rw [Up seq epoch of_ hk,Az,Aa,Ae hk];try rfl

def W4 (seq epoch n:Int):List AV:= [iv 2,iv seq,iv epoch,iv n,iv (n+1),iv 0,iv 0, .v (.slice none 0 0)]
theorem PD (seq epoch:Int) (l:List Img) (i:Nat) (hi:i<l.length+1) :
  SubL ((List.map JW (IH seq epoch (l.length+1) l.length l) ++ [W4 seq epoch l.length]).getD i [])
   (JW ((CI seq epoch l).getD i ⟨0,0,0,0,0,⟨0,0, []⟩⟩)):=by
 have hlk:(IH seq epoch (l.length+1) l.length l).length=l.length:=by rw [Ik];omega
 rcases B_ i l.length with h | h
 ·have e1:(List.map JW (IH seq epoch (l.length+1) l.length l) ++ [W4 seq epoch l.length]).getD i []=JW ((CI seq epoch l).getD i ⟨0,0,0,0,0,⟨0,0, []⟩⟩):=by
   unfold CI;rw [JJ (by rw [Ab,hlk];exact h),JJ (by rw [hlk];exact h)];exact Bc (by rw [hlk];exact h)
  rw [e1];exact SubL.refl _
 ·obtain rfl:i=l.length:=by omega
  unfold CI;rw [I5 (by rw [Ab,hlk];omega),I5 (by rw [hlk];omega),Ab,hlk,Cq];simp only [List.getD_cons_zero,JW,noImg,W4];exact⟨fun _ _ h=>h,fun _ _ h=>h,fun _ _ h=>h,fun _ _ h=>h,fun _ _ h=>h,fun _ _ h=>h,fun _ _ h=>h,Bh _ _,tv⟩
theorem Ho (seq epoch:Int) (l:List Img):(CI seq epoch l).length=l.length+1:=by
 unfold CI;rw [Ai,Ik];simp
theorem R0 (seq epoch:Int) (l:List Img) (hl:l.length<=1000000) (hb:∀ x∈l,x.bytes.length<=1000000000):Fn Tryz.prog 87 [iv seq,iv epoch,Dm l] fun r=>r=LQ (CI seq epoch l):=by
 refine zS Tryz.func87 rfl ?_;conv=>whnf
 refine zO Nat (fun k=>([(0,iv seq),(1,iv epoch),(2,Dm l),(7, .ow 0 k),(8,iv k)], [.row 168 8 ((IH seq epoch (l.length+1) k l).map JW)])) (fun k=>k<=l.length) (fun k=>l.length - k) 0 (Aj _) ⟨[(7,168,8)],tA,tA,tA,rfl,rfl,rfl⟩ ?_;rintro k hk;have hlk:=Ik seq epoch (l.length+1) k l;conv=>whnf
 refine Ak (fun h2=>?_) (fun h2=>?_) <;> simp at h2 <;> conv=>whnf
 ·refine zM tys_ok mixed (by kernel_rfl) ?_;conv=>whnf
  refine⟨by first | omega | (refine⟨rfl,?_,?_⟩ <;> first | omega | (simp only [Ab];done) | (simp only [Ab];omega)) | (simp only [Ab];omega),?_⟩;conv=>whnf
  refine⟨by first | omega | (refine⟨rfl,?_,?_⟩ <;> first | omega | (simp only [Ab];done) | (simp only [Ab];omega)) | (simp only [Ab];omega),?_⟩;conv=>whnf
  refine⟨by first | omega | (refine⟨rfl,?_,?_⟩ <;> first | omega | (simp only [Ab];done) | (simp only [Ab];omega)) | (simp only [Ab];omega),?_⟩;conv=>whnf
  refine zH (Ez (l.getD k ⟨0,0, []⟩).bytes (hb _ (A6 h2))) rfl ?_;rintro _ rfl;refine⟨rfl,?_⟩;conv=>whnf
  refine⟨⟨by rw [Ab,hlk];omega,by omega⟩,?_⟩;refine⟨k+1,by omega,by omega, [],tv,⟨rfl,rfl,rfl,rfl,AH (by omega),tv⟩,⟨YW ?_,tv⟩,rfl,rfl,rfl⟩;rw [Ml _ _ _ h2,wi (by omega)];try rfl
 ·obtain rfl:k=l.length:=by omega
  rw [wi (by omega)];refine⟨rfl,?_⟩;conv=>whnf
  refine⟨⟨by rw [Ab,hlk];omega,by omega⟩,?_⟩;conv=>whnf
  refine⟨by rw [Ai,Ab,hlk];simp,?_⟩;exact⟨LQ (CI seq epoch l),fun c v h=>Rd.sub (Ho seq epoch l).symm (PD seq epoch l) h,rfl⟩

theorem Xy {g:Geo} {a:An} (h:Bu g a=true):(0<=a.seq/\a.seq<=4294967296)/\0<=a.pos/\a.pos<g.sl:=by
 simp only [Bu,AX,Ad,AF] at h;omega
theorem KM {look:Int->Rc × Int × List Wr}:∀ (f:Nat) (k:Int) (r:Rc) (im:List Img) (w:List Wr),(∀ i,k<=i->i<k+f->(look i).2.2.length<=1)->(Ee look f k r im w).2.2.length<=w.length+f
 | 0,_,_,_,_,_=>by simp [Ee]
 | f+1,k,r,im,w,h=>by
  have h1:=h k (by omega) (by omega);unfold Ee;simp only;split
  ·simp
  ·have:=KM f (k+1) (look k).1 (if r.kind=1 then im ++ [r.img] else im) (w ++ (look k).2.2) fun i h2 h3=>h i (by omega) (by omega)
   rw [Ai] at this;omega
theorem KN {look:Int->Rc × Int × List Wr}:∀ (f:Nat) (k:Int) (r:Rc) (im:List Img) (w:List Wr),(∀ i,k<=i->i<k+f->(look i).2.1=1\/(look i).2.1=2\/(look i).2.1=3)->(Ee look f k r im w).1=1\/(Ee look f k r im w).1=2\/(Ee look f k r im w).1=3
 | 0,_,_,_,_,_=> .inl rfl
 | f+1,k,r,im,w,h=>by
  have h1:=h k (by omega) (by omega);unfold Ee;simp only;split
  ·exact h1
  ·exact KN f (k+1) (look k).1 (if r.kind=1 then im ++ [r.img] else im) (w ++ (look k).2.2) fun i h2 h3=>h i (by omega) (by omega)
theorem QY {g:Geo} {a:An} {x y:List Gt} {pos seq left:Int} (hg:Bp g=true) (hp:0<=pos/\pos<g.sl) :
  ((IB g a x y pos seq left).1=1/\(2<=(IB g a x y pos seq left).2.1/\(IB g a x y pos seq left).2.1<=left/\(IB g a x y pos seq left).2.1<=30)/\(IB g a x y pos seq left).2.2.2.length<=30)\/((IB g a x y pos seq left).1=2\/(IB g a x y pos seq left).1=3):=by
 have r0:=Hp (a:=a) (x:=x) (y:=y) (seq:=seq) (left:=left) (of_:=0) (at_:=0) hg hp (by omega);unfold IB;simp only;rcases r0 with ⟨e1,⟨e2, -,e3⟩,e4⟩ | ⟨e1, -, -⟩
 ·rw [if_neg (by omega)];have hN:=RI e2 e3;have hA:=fun(i:Int) (h1:1<=i) (h2:i<1+((E5 g a x y pos seq left 0 0).1.of_ - 1).toNat)=>Hp (a:=a) (x:=x) (y:=y) (seq:=seq) (left:=left) (of_:=(E5 g a x y pos seq left 0 0).1.of_) (at_:=i) hg hp (by omega)
  have hH:=KN (look:=fun k=>E5 g a x y pos seq left k (E5 g a x y pos seq left 0 0).1.of_) ((E5 g a x y pos seq left 0 0).1.of_ - 1).toNat 1 (E5 g a x y pos seq left 0 0).1 [] (E5 g a x y pos seq left 0 0).2.2 fun i h1 h2=>(hA i h1 h2).imp (fun h=>h.1) fun h=>h.1
  split
  ·exact .inr (hH.resolve_left ‹_›)
  ·refine .inl ⟨rfl,⟨hN.1,hN.2.2.2.2.1 rfl,hN.2.1⟩,?_⟩;have:=KM (look:=fun k=>E5 g a x y pos seq left k (E5 g a x y pos seq left 0 0).1.of_) ((E5 g a x y pos seq left 0 0).1.of_ - 1).toNat 1 (E5 g a x y pos seq left 0 0).1 [] (E5 g a x y pos seq left 0 0).2.2 fun i h1 h2=>by
    rcases hA i h1 h2 with ⟨_,_,h⟩ | ⟨_,h,_⟩
    ·exact h
    ·rw [h];simp
   exact Bo this (by omega)
 ·rw [if_pos (by omega)];exact .inr e1
def aw (g:Geo) (t:Tx) (s:Int):Int:=(IntKind.i64.wrap (IntKind.i64.wrap (s - t.pos)+g.sl)).tmod g.sl
def av (g:Geo) (t:Tx) (s:Int):Bool:=CH t.pos 0 (g.sl - 1)&&CH t.n 0 g.sl&&decide (aw g t s<t.n)
def Zn (g:Geo) (s:Int):List Tx->Nat->Option (Nat × Int)
 | [],_=>none
 | t::r,i=>if av g t s then some (i,aw g t s) else Zn g s r (i+1)
end
end Go.Proofs.YtepdhdfoipephaaGreatDoor.A
namespace Go.Proofs.YtepdhdfoipephaaGreatDoor
section

def rc0:Rc:=⟨0,0,0,0,0,⟨0,0, []⟩⟩
theorem Iw (seq epoch:Int) (l:List Img) {k:Nat} (hk:k<l.length+1):(CI seq epoch l).getD k rc0=if k<l.length then ⟨1,seq,epoch,(k:Nat),l.length+1,l.getD k ⟨0,0, []⟩⟩ else ⟨2,seq,epoch,(k:Nat),l.length+1,noImg⟩:=by
 have hlen:(IH seq epoch (l.length+1) l.length l).length=l.length:=by rw [Ik];omega
 unfold CI;rw [Aa];by_cases h:k<l.length
 ·rw [if_pos h,A5 (by omega)];have h2:(IH seq epoch (l.length+1) l.length l)[k]? = some ⟨1,seq,epoch,(k:Nat),l.length+1,l[k]⟩:=by
   unfold IH;rw [Aw,AS,List.getElem?_zipIdx,Ae h];simp
  rw [h2,Aa,Ae h];try rfl
 ·have e:k=l.length:=by omega
  subst e;rw [if_neg h,A2 (by omega),hlen];simp
structure RecAt (g:Geo) (seq epoch:Int) (l:List Img) (k:Nat) (r:Rc):Prop where
 ok:ER g r=true
 seq:r.seq=seq
 epoch:r.epoch=epoch
 at_:r.at_=(k:Nat)
 of_:r.of_=l.length+1
 kind:r.kind≠0
 img:(r.kind=1↔k<l.length)/\(k<l.length->r.img=l.getD k ⟨0,0, []⟩)
end
end Go.Proofs.YtepdhdfoipephaaGreatDoor
namespace Go.Proofs.YtepdhdfoipephaaGreatDoor.A
section
open Go.RowKit
def tz:Tx:=⟨0,0,0, []⟩
def VZ (g:Geo) (l:List Tx) (epoch s:Int):Rc:=match Zn g s l 0 with
 | none=>zeroC
 | some (i,k)=>(CI (l.getD i tz).seq epoch (l.getD i tz).images).getD k.toNat zeroC
def GL (g:Geo) (l:List Tx) (epoch copy:Int) (n:Nat):List Gt:=(List.range n).map fun s=>⟨0,BB g (VZ g l epoch (s:Nat)) copy (s:Nat)⟩
structure LogOk (g:Geo) (l:List Tx) (epoch:Int):Prop where
 len:l.length<=1000
 img:∀ t∈l,t.images.length<=1000/\∀ x∈t.images,x.bytes.length<=1000000
 who:∀ s i k,0<=s/\s<g.sl->Zn g s l 0=some (i,k)->i<l.length/\0<=k/\k.toNat<(l.getD i tz).images.length+1
 ok:∀ s,0<=s/\s<g.sl->ER g (VZ g l epoch s)=true
def SubLL:List (List AV)->List (List AV)->Prop
 | [], []=>True
 | a::r,b::s=>SubL a b/\SubLL r s
 | _,_=>False
theorem SubLL.get:∀ {es fs:List (List AV)} {i:Nat},SubLL es fs->i<es.length->SubL (es.getD i []) (fs.getD i [])
 | [],_,_,_,h=>by simp at h
 | a::r,b::s,0,h,_=>by simpa using h.1
 | a::r,b::s,i+1,h,hi=>by
  have:=SubLL.get (i:=i) h.2 (by simpa using hi);simpa using this
 | _::_, [],_,h,_=>h.elim
theorem Oj {g:Geo} {l:List Tx} {epoch:Int} (hg:Bp g=true) (h:LogOk g l epoch) {copy:Int} (hc:copy=0\/copy=1) {s:Nat} (hs:(s:Int)<g.sl):Fv g ((GL g l epoch copy g.sl.toNat).getD s gz) copy (s:Nat)=some (VZ g l epoch (s:Nat)):=by
 have hin:(0:Int)<=(s:Nat)/\((s:Nat):Int)<g.sl:=by omega
 have e:(GL g l epoch copy g.sl.toNat).getD s gz=⟨0,BB g (VZ g l epoch (s:Nat)) copy (s:Nat)⟩:=by
  unfold GL;rw [Bc (d:=0) (by rw [Cg];omega)];rw [Aa,Bq (by omega)];try rfl
 rw [e];refine T4 hg (h.ok s hin) ?_;rw [IM,AF.2 (show 0<=((s:Nat):Int)/\((s:Nat):Int)<=g.sl - 1 by omega)];rcases hc with rfl | rfl <;> rfl
theorem T5 {g:Geo} {x:Gt} {copy s:Int} (h:¬(0<=s/\s<g.sl)):Fv g x copy s=none:=by
 refine Rm ?_;have:CH s 0 (g.sl - 1)=false:=by
  rw [<-BJ];intro e;have:=AF.1 e;omega
 rw [IM,this];simp
def aB (a:An) (p q:Int->Option Rc) (slot seq at_ of_ left:Int):Rc × List Int × Int:=
 GU (p slot) (q slot) (RJ (p slot) a seq at_ of_ left) (RJ (q slot) a seq at_ of_ left)
def Z9 (g:Geo) (a:An) (p q:Int->Option Rc) (pos seq left at_ of_:Int):Rc × Int × List Wr:=
 let s:=Db g pos at_;let z:=aB a p q s seq at_ of_ left
 (z.1,z.2.2,z.2.1.map fun c=>⟨Bg g c s,BB g z.1 c s⟩)
def XH (g:Geo) (a:An) (p q:Int->Option Rc) (pos seq left:Int):Int × Int × List Img × List Wr:=
 let z:=Z9 g a p q pos seq left 0 0
 if z.2.1≠1 then (z.2.1,0, [], []) else
  let t:=Ee (fun k=>Z9 g a p q pos seq left k z.1.of_) (z.1.of_ - 1).toNat 1 z.1 [] z.2.2
  if t.1≠1 then (t.1,0, [], []) else (1,z.1.of_,t.2.1,t.2.2)
def LK (g:Geo) (a:An) (p q:Int->Option Rc):Nat->Int->Int->Int->List Tx->List Wr->Option (List Tx × List Wr × Int)
 | 0,_,seq,_,l,w=>some (l,w,seq)
 | f+1,pos,seq,left,l,w=>
  if 0<left/\seq<=4294967295 then
   let t:=XH g a p q pos seq left
   if t.1=3 then none else if t.1≠1 then some (l,w,seq)
   else LK g a p q f ((pos+t.2.1).tmod g.sl) (seq+1) (left - t.2.1) (l ++ [⟨seq,pos,t.2.1,t.2.2.1⟩]) (w ++ t.2.2.2)
  else some (l,w,seq)
def V6 (g:Geo) (a:An) (p q:Int->Option Rc):List Tx × List Wr × Int:=WV a (LK g a p q g.sl.toNat a.pos a.seq g.sl [] [])
def KB (g:Geo) (x:List Gt) (copy:Int):Int->Option Rc:=fun s=>Fv g (x.getD s.toNat gz) copy s
theorem S5 (g:Geo) (a:An) (x y:List Gt):∀ (f:Nat) (pos seq left:Int) (l:List Tx) (w:List Wr),HV g a x y f pos seq left l w=LK g a (KB g x 0) (KB g y 1) f pos seq left l w
 | 0,_,_,_,_,_=>rfl
 | f+1,pos,seq,left,l,w=>by
  unfold HV LK;have e:IB g a x y pos seq left=XH g a (KB g x 0) (KB g y 1) pos seq left:=rfl;rw [e];simp only [S5 g a x y f]
theorem XV (g:Geo) (a:An) (x y:List Gt):FZ g a x y=V6 g a (KB g x 0) (KB g y 1):=by
 unfold FZ V6;rw [S5]
def HG (g:Geo) (l:List Tx) (epoch:Int) (bad:Int->Bool):Int->Option Rc:=fun s=>if 0<=s/\s<g.sl then (if bad s then none else some (VZ g l epoch s)) else none
theorem S6 {g:Geo} {l:List Tx} {epoch:Int} (hg:Bp g=true) (h:LogOk g l epoch) {copy:Int} (hc:copy=0\/copy=1):KB g (GL g l epoch copy g.sl.toNat) copy=HG g l epoch fun _=>false:=by
 funext s;unfold KB HG;by_cases hs:0<=s/\s<g.sl
 ·rw [if_pos hs,if_neg (Bool.false_ne_true)];obtain⟨k,rfl⟩:=Int.eq_ofNat_of_zero_le hs.1;rw [Ac];exact Oj hg h hc hs.2
 ·rw [if_neg hs];exact T5 hs
theorem RdL.split {c:Ctx}:∀ {l m:List AV} {xs:List Value},RdL (l ++ m) c xs->∃ a b,xs=a ++ b/\RdL l c a/\RdL m c b
 | [],m,xs,h=>⟨[],xs,rfl,by simp only [RdL],h⟩
 | x::l,m,xs,h=>by
  simp only [Bt,RdL] at h;obtain⟨y,ys,rfl,h1,h2⟩:=h;obtain⟨a,b,rfl,h3,h4⟩:=RdL.split h2;exact⟨y::a,b,rfl,by simp only [RdL];exact⟨y,a,rfl,h1,h3⟩,h4⟩
theorem SubLL.len:∀ {es fs:List (List AV)},SubLL es fs->es.length=fs.length
 | [], [],_=>rfl
 | _::_,_::_,h=>by simp [SubLL.len h.2]
 | [],_::_,h=>h.elim
 | _::_, [],h=>h.elim
theorem SubLL.flat:∀ {es fs:List (List AV)} {c:Ctx} {xs:List Value},SubLL es fs->RdL es.flatten c xs->RdL fs.flatten c xs
 | [], [],_,_,_,h=>h
 | a::r,b::s,c,xs,h,hr=>by
  rw [AN] at hr |-
  obtain⟨x1,x2,rfl,h1,h2⟩:=RdL.split hr;exact RdL.append (h.1.rdl h1) (SubLL.flat h.2 h2)
 | [],_::_,_,_,h,_=>h.elim
 | _::_, [],_,_,h,_=>h.elim
theorem SubLL.sz:∀ {es fs:List (List AV)} {sz:Nat},SubLL es fs->(∀ e∈es,e.length=sz)->∀ e∈fs,e.length=sz
 | [], [],_,_,_=>by simp
 | a::r,b::s,sz,h,hs=>by
  intro e he;rcases AQ.1 he with rfl | he
  ·rw [<-h.1.len];exact hs a (by simp)
  ·exact SubLL.sz h.2 (fun e he=>hs e (Ba _ he)) e he
 | [],_::_,_,h,_=>h.elim
 | _::_, [],_,h,_=>h.elim
def ABSub:AB->AB->Prop
 | .row t sz es, .row t' sz' es'=>t=t'/\sz=sz'/\SubLL es es'
 | x,y=>x=y
def HSub:List AB->List AB->Prop
 | [], []=>True
 | x::r,y::s=>ABSub x y/\HSub r s
 | _,_=>False
theorem HSub.len:∀ {H H':List AB},HSub H H'->H.length=H'.length
 | [], [],_=>rfl
 | _::_,_::_,h=>by simp [HSub.len h.2]
 | [],_::_,h=>h.elim
 | _::_, [],h=>h.elim
theorem HSub.get:∀ {H H':List AB} {k:Nat} {y:AB},HSub H H'->H'[k]? = some y->∃ x,H[k]? = some x/\ABSub x y
 | [], [],k,y,_,h=>by simp at h
 | x::r,y::s,0,z,h,hz=>by
  simp at hz;subst hz;exact⟨x,by simp,h.1⟩
 | x::r,y::s,k+1,z,h,hz=>by
  obtain⟨w,h1,h2⟩:=HSub.get (k:=k) h.2 (by simpa using hz);exact⟨w,by simpa using h1,h2⟩
 | [],_::_,_,_,h,_=>h.elim
 | _::_, [],_,_,_,hz=>by simp at hz
theorem ABSub.live:∀ {x y:AB},ABSub x y->x.live=y.live:=by
 intro x y h;cases x <;> cases y <;> simp only [ABSub] at h <;> first | rfl | cases h
theorem ABSub.blk {c:Ctx} {k:Nat}:∀ {x y:AB},ABSub x y->BlkOk c k x->BlkOk c k y
 | .row t sz es, .row t' sz' es',h,hb=>by
  obtain⟨rfl,rfl,h⟩:=h;obtain⟨h1,h2,h3,xs,h4,h5,h6⟩:=hb;refine⟨h1.trans h.len,h2,h.sz h3,xs,?_,h.flat h5,h6⟩;rw [<-h.len];exact h4
 | .row _ _ _, .box _ _,h,_=>by cases h
 | .row _ _ _, .iter _ _,h,_=>by cases h
 | .row _ _ _, .dead,h,_=>by cases h
 | .row _ _ _, .rowo _ _ _ _,h,_=>by cases h
 | .rowo t sz es m,y,h,hb=>by
  have h:AB.rowo t sz es m=y:=h;subst h;exact hb
 | .box t cs,y,h,hb=>by
  have h:AB.box t cs=y:=h;subst h;exact hb
 | .iter a b,y,h,hb=>by
  have h:AB.iter a b=y:=h;subst h;exact hb
 | .dead,y,h,hb=>by
  have h:AB.dead=y:=h;subst h;exact hb
theorem HS.hsub {w0:Fl} {M0:Ms} {c:Ctx} {H H':List AB} (hs:HS w0 M0 c H) (h:HSub H H'):HS w0 M0 c H':=by
 refine⟨hs.low,hs.base,hs.dom.trans h.len,hs.foreign,hs.lt,fun k y hy=>?_,fun k y g hy hl ho=>?_,fun j k y z g hj hk hy hz ho ho'=>?_⟩
 ·obtain⟨x,h1,h2⟩:=h.get hy;exact h2.blk (hs.blk k x h1)
 ·obtain⟨x,h1,h2⟩:=h.get hy;exact hs.own k x g h1 (h2.live.trans hl) ho
 ·obtain⟨x1,h1,h2⟩:=h.get hj;obtain⟨x2,h3,h4⟩:=h.get hk;exact hs.dis j k x1 x2 g h1 h3 (h2.live.trans hy) (h4.live.trans hz) ho ho'
theorem ACalls.hsub {P:Program} {q:Bool} {f:FuncId} {args:List AV} {H:List AB} {k:AV->List AB->Prop} (H':List AB) (hs:HSub H H') (h:ACalls P q f args H' k):ACalls P q f args H k:=
 ⟨h.go,fun w0 M0 c us hs0 hr=>h.calls w0 M0 c us (hs0.hsub hs) hr⟩
theorem SubLL.refl:∀ l,SubLL l l
 | []=>trivial
 | _::l=>⟨SubL.refl _,SubLL.refl l⟩
theorem SubLL.set {a b:List AV} (h:SubL a b):∀ {l m:List (List AV)} (k:Nat),SubLL l m->SubLL (l.set k a) (m.set k b)
 | [], [],_,h=>h
 | _::_,_::_,0,h2=>⟨h,h2.2⟩
 | _::_,_::_,k+1,h2=>⟨h2.1,SubLL.set h k h2.2⟩
 | [],_::_,_,h=>h.elim
 | _::_, [],_,h=>h.elim
def ZL (g:Geo) (fill:UInt8) (i k:Nat):Img:=
 if (i+k) % 4=3 then ⟨((i+k:Nat):Int).tmod g.z,255,CW (Fd g)⟩ else ⟨((i+k:Nat):Int).tmod g.z,((i+2*k:Nat):Int).tmod (g.d+1) - 1, [fill,UInt8.ofNat i,UInt8.ofNat k,1,2,3,4,5]⟩
def aC (g:Geo) (a:An) (fill:UInt8) (i:Nat) (pos:Int) (n:Nat):Tx:=⟨a.seq+i,pos,n+1,(List.range n).map fun k=>ZL g fill i k⟩
theorem SubLL.app {e f:List AV} (h:SubL e f):∀ {a b:List (List AV)},SubLL a b->SubLL (a ++ [e]) (b ++ [f])
 | [], [],_=>⟨h,tv⟩
 | _::_,_::_,h2=>⟨h2.1,SubLL.app h h2.2⟩
 | [],_::_,h=>h.elim
 | _::_, [],h=>h.elim
end
end Go.Proofs.YtepdhdfoipephaaGreatDoor.A
namespace Go.Proofs.YtepdhdfoipephaaGreatDoor
section

def Zb (b:List UInt8) (k:Nat):List UInt8:=b.modify (k / 8) fun x=>x ^^^ UInt8.ofNat (2 ^ (k % 8))
theorem OV (b:List UInt8) (k:Nat):(Zb b k).length=b.length:=List.length_modify _ _ _
def Ql (p:Nat->Bool) (a:Nat) (b:List UInt8):Nat->List UInt8
 | 0=>b
 | i+1=>if p i&&decide (a+i<8*b.length) then Zb (Ql p a b i) (a+i) else Ql p a b i
theorem OU (p:Nat->Bool) (a:Nat) (b:List UInt8) (i:Nat):(Ql p a b i).length=b.length:=by
 induction i with
 | zero=>rfl
 | succ i ih=>unfold Ql;split;rw [OV,ih];exact ih
def fX (bs:Int):Nat:=if (bs % 4294967296).toNat % 2=0 then (bs % 4294967296).toNat+1 else (bs % 4294967296).toNat
def Za (b:List UInt8) (bit bs:Int):List UInt8:=Ql (fun i=>decide (fX bs / 2 ^ i % 2=1)) (bit % (8*(b.length:Int))).toNat b 32
theorem OT (b:List UInt8) (bit bs:Int):(Za b bit bs).length=b.length:=OU _ _ _ _
end
end Go.Proofs.YtepdhdfoipephaaGreatDoor
namespace Go.Proofs.YtepdhdfoipephaaGreatDoor.A
section
open Go.RowKit
theorem Vs (x:UInt8) (z:Nat) (hz:z<256):IntKind.u8.wrap (BitVec.ofInt IntKind.u8.bits (x.toNat:Int) ^^^ BitVec.ofInt IntKind.u8.bits (z:Int)).toNat=((x ^^^ UInt8.ofNat z).toNat:Int):=by
 show IntKind.u8.wrap (BitVec.ofInt 8 (x.toNat:Int) ^^^ BitVec.ofInt 8 (z:Int)).toNat=((x ^^^ UInt8.ofNat z).toNat:Int);have hx:=x.toNat_lt;have h1:(BitVec.ofInt 8 (x.toNat:Int))=BitVec.ofNat 8 x.toNat:=BitVec.ofInt_natCast _ _;have h2:(BitVec.ofInt 8 (z:Int))=BitVec.ofNat 8 z:=BitVec.ofInt_natCast _ _;have h3:x.toNat ^^^ z<256:=Nat.xor_lt_two_pow (n:=8) hx hz;rw [h1,h2,BitVec.toNat_xor,BitVec.toNat_ofNat,BitVec.toNat_ofNat,DX hx,DX hz,UInt8.toNat_xor,BC hz,IntKind.wrap_u8];omega

structure TxIn (g:Geo) (a:An) (fill:UInt8) (i0:Nat) (l:List Tx):Prop where
 at_:∀ j,j<l.length->∃ pos n,l.getD j tz=aC g a fill (i0+j) pos n/\1<=n/\n<=5/\0<=pos/\pos<g.sl


def H8 (g:Geo):List Tx->Int->Int->Prop
 | [],_,_=>True
 | t::r,seq,pos=>(t.seq=seq/\t.pos=pos/\t.n=t.images.length+1/\2<=t.n)/\H8 g r (seq+1) ((pos+t.n).tmod g.sl)
def usedM:List Tx->Int
 | []=>0
 | t::r=>t.n+usedM r
def TZ (g:Geo):List Tx->Int->Int
 | [],pos=>pos
 | t::r,pos=>TZ g r ((pos+t.n).tmod g.sl)
theorem NY (g:Geo):∀ (l:List Tx) (seq pos:Int) (t:Tx),H8 g l seq pos->(t.seq=seq+l.length/\t.pos=TZ g l pos/\t.n=t.images.length+1/\2<=t.n)->H8 g (l ++ [t]) seq pos
 | [],seq,pos,t,_,h=>⟨⟨by have:=h.1;simpa using this,h.2.1,h.2.2.1,h.2.2.2⟩,tv⟩
 | x::r,seq,pos,t,h,ht=>by
  refine⟨h.1,NY g r (seq+1) _ t h.2 ⟨?_,ht.2⟩⟩;rw [ht.1];simp only [Ao];omega
theorem used_app:∀ (l:List Tx) (t:Tx),usedM (l ++ [t])=usedM l+t.n
 | [],t=>by simp [usedM]
 | x::r,t=>by simp only [Bt,usedM,used_app r t];omega
theorem SG (g:Geo):∀ (l:List Tx) (pos:Int) (t:Tx),TZ g (l ++ [t]) pos=((TZ g l pos)+t.n).tmod g.sl
 | [],pos,t=>rfl
 | x::r,pos,t=>by simp only [Bt,TZ];exact SG g r _ t
theorem KL {g:Geo} {a:An} {seq left n:Int} {look:Int->Rc × Int × List Wr} (hlook:∀ i,1<=i->i<n->(look i).2.1=1->ER g (look i).1=true/\G7 (look i).1 a seq i n left=true):∀ (f:Nat) (k:Int) (r:Rc) (im:List Img) (w:List Wr),1<=k->k+f=n->ER g r=true->r.at_=k - 1->r.of_=n->r.kind≠0->(im.length:Int)=k - 1->(Ee look f k r im w).1=1->((Ee look f k r im w).2.1.length:Int)+1=n
 | 0,k,r,im,w,hk,hn,hr,ha,ho,h0,hi,_=>by
  have hk1:r.kind≠1:=by
   intro e;unfold ER Fs at hr;simp only [Ad] at hr;have h2:=hr.2;rw [if_neg h0,if_pos e] at h2;simp only [Ad,AF] at h2;omega
  unfold Ee;simp only [if_neg hk1];omega
 | f+1,k,r,im,w,hk,hn,hr,ha,ho,h0,hi,hG=>by
  have hk1:r.kind=1:=by
   unfold ER Fs at hr;simp only [Ad] at hr;have h2:=hr.2;rw [if_neg h0] at h2;split at h2
   ·assumption
   ·split at h2
    ·simp only [Ad,beq_iff_eq] at h2;omega
    ·cases h2
  unfold Ee at hG |-
  simp only [if_pos hk1] at hG |-
  by_cases hq:(look k).2.1≠1
  ·rw [if_pos hq] at hG;exact absurd hG hq
  ·rw [if_neg hq] at hG |-
   have hl:=hlook k hk (by omega) (by omega);have h1:=RI hl.1 hl.2;have h2:=(of_decide_eq_true hl.2).1;refine KL hlook f (k+1) (look k).1 _ _ (by omega) (by omega) hl.1 (by omega) ?_ h2 ?_ hG
   ·exact h1.2.2.2.2.2 (by omega)
   ·rw [Ai];simp only [Ao,Be];omega
theorem Ts {g:Geo} {a:An} {x y:List Gt} {pos seq left:Int} (hg:Bp g=true) (hp:0<=pos/\pos<g.sl) (h:(IB g a x y pos seq left).1=1):((IB g a x y pos seq left).2.2.1.length:Int)+1=(IB g a x y pos seq left).2.1:=by
 have r0:=Hp (a:=a) (x:=x) (y:=y) (seq:=seq) (left:=left) (of_:=0) (at_:=0) hg hp (by omega);unfold IB at h |-
 simp only at h |-
 rcases r0 with ⟨e1,⟨e2, -,e3⟩,e4⟩ | ⟨e1, -, -⟩
 ·rw [if_neg (by omega)] at h |-
  have hN:=RI e2 e3;have h0:=(of_decide_eq_true e3).1;by_cases hq:(Ee (fun k=>E5 g a x y pos seq left k (E5 g a x y pos seq left 0 0).1.of_) ((E5 g a x y pos seq left 0 0).1.of_ - 1).toNat 1 (E5 g a x y pos seq left 0 0).1 [] (E5 g a x y pos seq left 0 0).2.2).1≠1
  ·rw [if_pos hq] at h;exact absurd h hq
  ·rw [if_neg hq];refine KL (g:=g) (a:=a) (seq:=seq) (left:=left) (n:=(E5 g a x y pos seq left 0 0).1.of_) (look:=fun k=>E5 g a x y pos seq left k (E5 g a x y pos seq left 0 0).1.of_) (fun i h1 h2 h3=>?_) _ 1 _ [] _ (by omega) (by omega) e2 (by omega) rfl h0 (by simp) (by omega);rcases Hp (a:=a) (x:=x) (y:=y) (seq:=seq) (left:=left) (of_:=(E5 g a x y pos seq left 0 0).1.of_) (at_:=i) hg hp (by omega) with ⟨_,⟨q1,_,q2⟩,_⟩ | ⟨q,_⟩
   ·exact⟨q1,q2⟩
   ·omega
 ·rw [if_pos (by omega)] at h;simp only at h;omega
theorem KA {g:Geo} {a:An} {x y:List Gt} (hg:Bp g=true):∀ (f:Nat) (pos seq left:Int) (l:List Tx) (w:List Wr) {l':List Tx} {w':List Wr} {seq':Int},H8 g l a.seq a.pos->pos=TZ g l a.pos->seq=a.seq+l.length->usedM l+left=g.sl->0<=left->(0<=pos/\pos<g.sl)->HV g a x y f pos seq left l w=some (l',w',seq')->
  H8 g l' a.seq a.pos/\seq'=a.seq+l'.length/\usedM l'<=g.sl
 | 0,pos,seq,left,l,w,l',w',seq',h1,h2,h3,h4,h5,h6,h=>by
  unfold HV at h;injection h with h
  injection h with e1 h
  injection h with e2 e3
  subst e1;subst e3;exact⟨h1,h3,by omega⟩
 | f+1,pos,seq,left,l,w,l',w',seq',h1,h2,h3,h4,h5,h6,h=>by
  unfold HV at h;have fin:some (l,w,seq)=some (l',w',seq')->H8 g l' a.seq a.pos/\seq'=a.seq+l'.length/\usedM l'<=g.sl:=fun h=>by
   injection h with h
   injection h with e1 h
   injection h with e2 e3
   subst e1;subst e3;exact⟨h1,h3,by omega⟩
  by_cases hc:0<left/\seq<=4294967295
  ·rw [if_pos hc] at h;simp only at h;have tf:=QY (a:=a) (x:=x) (y:=y) (seq:=seq) (left:=left) hg h6;have ti:=fun e=>Ts (a:=a) (x:=x) (y:=y) (seq:=seq) (left:=left) hg h6 e
   generalize IB g a x y pos seq left=q at tf ti h;obtain⟨how,n,im,ws⟩:=q;simp only at tf ti h;rcases tf with ⟨rfl,t1,t2⟩ | tf
   ·rw [if_neg (by decide),if_neg (by decide)] at h;have hi:=ti rfl;obtain⟨g1,g2,g3,g4,g5⟩:=As.1 hg;have hm:=AY (pos+n) (show 0<g.sl by omega);have hm0:=Bk g.sl (show 0<=pos+n by omega);refine KA hg f _ _ _ _ _ (NY g l a.seq a.pos ⟨seq,pos,n,im⟩ h1 ⟨h3,h2,by simp only;omega,t1.1⟩) ?_ ?_ ?_ (by omega) ⟨hm0,hm⟩ h
    ·rw [SG,<-h2]
    ·rw [Ai];simp only [Ao,Be];omega
    ·rw [used_app];simp only;omega
   ·by_cases h3':how=3
    ·rw [if_pos h3'] at h;cases h
    ·rw [if_neg h3',if_pos (by omega)] at h;exact fin h
  ·rw [if_neg hc] at h;exact fin h






section
variable {g:Geo} {a:An} {fill:UInt8} {sizes:List Int}
end
section
variable {g:Geo} {a:An} {fill:UInt8} {sizes:List Int}
end
section
variable {g:Geo} {a:An} {fill:UInt8} {sizes:List Int}
end
theorem Ic {g:Geo} {c s:Int} (hc:c=0\/c=1) (hs:0<=s/\s<g.sl):IM g c s=true:=by
 rw [IM,AF.2 (show 0<=s/\s<=g.sl - 1 by omega)];rcases hc with rfl | rfl <;> rfl
theorem C5 {g:Geo} {r:Rc} (h:ER g r=true) (copy slot:Int):(BB g r copy slot).length<=200:=by
 have:=Ec h;rw [BB,Fz];omega
section
variable {g:Geo} {a:An} {p q:Int->Option Rc} {p0:Int}
end
theorem G4 (l:List Int) (hl:l.length<=1000000):Fn Tryz.prog 65 [iA l] fun r=>r=iA l:=by
 refine zS Tryz.func65 rfl ?_;refine⟨by omega,?_⟩;refine⟨by simp,?_⟩;exact⟨iA l,fun c v h=>zC rfl (fun i hi=>ET hi) h,rfl⟩
theorem MR (a:An) (hh:a.homes.length<=1000) (hp:∀ h∈a.homes,h.places.length<=1000000):Fn Tryz.prog 63 [.ag (ED a)] fun r=>r = .ag (ED a):=by
 refine zS Tryz.func63 rfl ?_;conv=>whnf
 refine zO Nat (fun k=>([(1, .bp 0 0),(2, .bp 1 0),(3,Jk a.homes),(4,iv k)], [.box 33 [iv a.gen,iv a.epoch,iv a.pos,iv a.seq,iv a.last, .v (.string a.label), .ow 2 k], .box 33 [iv 0,iv 0,iv 0,iv 0,iv 0, .v (.string ⟨#[]⟩), .v (.slice none 0 0)], .row 177 3 ((a.homes.take k).map EC)])) (fun k=>k<=a.homes.length) (fun k=>a.homes.length - k) 0 (Aj _) ⟨[(1000006,177,3)],tA,tA,tA,rfl,rfl,rfl⟩ ?_;intro k hk;conv=>whnf
 refine A8 (fun c1=>?_) (fun c1=>?_) <;> (repeat rw [Ac] at c1) <;> conv=>whnf
 ·have ti:=G4 (a.homes.getD k ⟨[],0,0⟩).places (hp _ (A6 c1));refine zA tys_ok mixed [0,1,2,3,4,5,6,8,9,10,11,12,13,14,15,16,17,7,18,19,20,21,22] (by kernel_rfl) ?_;conv=>whnf
  repeat' (first | (refine z_ ?_;conv=>whnf) | (refine A8 (fun _=>?_) (fun _=>?_) <;> conv=>whnf) | (refine zZ ti ?_;conv=>whnf) | (refine Af (by first | omega | exact of_decide_eq_true rfl) ?_;conv=>whnf) | fail)
  refine Af ⟨by rw [Ab,Aq];omega,by omega⟩ ?_;exact⟨k+1,by omega,by omega, [],tv,⟨rfl,rfl,rfl,AH (by omega),tv⟩,⟨rfl,rfl,congrArg (AB.row _ _) (GE c1),tv⟩,rfl,rfl,rfl⟩
 ·refine Af (by rw [Ab,Aq];omega) ?_;conv=>whnf
  have ek:k=a.homes.length:=by omega
  subst ek;refine⟨.ag (ED a),Bi ⟨ri,ri,ri,ri,ri,ri,?_,tv⟩,rfl⟩;rw [Aw];exact Bb a.homes rfl rfl
theorem G0 {g:Geo} {a:An} (h:Bu g a=true):(0<=a.gen/\a.gen<=4294967295)/\(0<=a.epoch/\a.epoch<=4294967295)/\(1<=a.seq/\a.seq<=4294967295)/\(0<=a.last/\a.last<=4294967295/\a.seq - 1<=a.last)/\(0<=a.pos/\a.pos<g.sl)/\(a.homes.length:Int)=g.z/\∀ x∈a.homes,DZ g x=true:=by
 simp only [Bu,AX,B7,Ad,AF,decide_eq_true_eq,Au] at h;obtain⟨⟨q1,q2,q3,q4, -⟩,q5,q6,q7,q8,q9,q10⟩:=h;exact⟨q1,q2,⟨q5,q3.2⟩,⟨q4.1,q4.2,q6⟩,⟨q7.1,by omega⟩,q9,q10⟩
theorem KS {g:Geo} {a:An} (hg:Bp g=true) (h:Bu g a=true):∀ x∈a.homes,x.places.length<=1000000:=by
 obtain⟨h1,h2,h3,h4,h5⟩:=As.1 hg;intro x hx;have:=(G0 h).2.2.2.2.2.2 x hx;simp only [DZ,Ad,decide_eq_true_eq] at this;omega

theorem Np {g:Geo} {a:An} {x y:List Gt}:∀ (f:Nat) (pos seq left:Int) (l:List Tx) (w:List Wr) {l':List Tx} {w':List Wr} {seq':Int},seq<=4294967296->HV g a x y f pos seq left l w=some (l',w',seq')->seq'<=4294967296
 | 0,pos,seq,left,l,w,l',w',seq',h1,h=>by
  unfold HV at h;injection h with h
  injection h with e1 h
  injection h with e2 e3
  omega
 | f+1,pos,seq,left,l,w,l',w',seq',h1,h=>by
  unfold HV at h;have fin:some (l,w,seq)=some (l',w',seq')->seq'<=4294967296:=fun h=>by
   injection h with h
   injection h with e1 h
   injection h with e2 e3
   omega
  by_cases hc:0<left/\seq<=4294967295
  ·rw [if_pos hc] at h;simp only at h;generalize IB g a x y pos seq left=q at h;split at h
   ·cases h
   ·split at h
    ·exact fin h
    ·exact Np f _ _ _ _ _ (by omega) h
  ·rw [if_neg hc] at h;exact fin h
theorem Rl {g:Geo} {a:An} {x y:List Gt} (hg:Bp g=true) (ha:Bu g a=true) (h:(FZ g a x y).2.2=0):a.last<=a.seq+(FZ g a x y).1.length - 1/\a.seq+(FZ g a x y).1.length - 1<=4294967295:=by
 obtain⟨g1,g2,g3,g4,g5⟩:=As.1 hg;have hq:=Xy ha;have hp:=G0 ha;unfold FZ at h |-
 cases hR:HV g a x y g.sl.toNat a.pos a.seq g.sl [] [] with
 | none=>rw [hR] at h;simp [WV,damaged] at h
 | some q=>
  obtain⟨l,w,seq⟩:=q;rw [hR] at h;obtain⟨c1,c2,c3⟩:=KA hg _ _ _ _ _ _ (l':=l) (w':=w) (seq':=seq) (show H8 g [] a.seq a.pos from trivial) rfl (by simp) (by simp [usedM]) (by omega) hq.2 hR;have hm:=Np _ _ _ _ _ _ (by omega) hR;by_cases hl:seq - 1<a.last
  ·rw [WU hl] at h;simp [damaged] at h
  ·rw [ME hl];simp only;omega
def DQ (a:An) (n:Nat):An:={ a with gen:=a.gen+1,epoch:=a.epoch+1,last:=a.seq+n - 1 }
theorem PU {g:Geo} {a:An} {n:Nat} (ha:Bu g a=true) (h1:a.gen≠4294967295) (h2:a.epoch≠4294967295) (h3:a.seq+n - 1<=4294967295):Bu g (DQ a n)=true:=by
 have hp:=G0 ha;simp only [Bu,AX,B7,Ad,AF,decide_eq_true_eq] at ha;simp only [Bu,AX,B7,Ad,AF,decide_eq_true_eq];obtain⟨⟨q1,q2,q3,q4,q11⟩,q5,q6,q7,q8,q9,q10⟩:=ha;refine⟨⟨?_,?_,q3,?_,q11⟩,q5,?_,q7,q8,q9,q10⟩
 ·show 0<=a.gen+1/\a.gen+1<=4294967295;omega
 ·show 0<=a.epoch+1/\a.epoch+1<=4294967295;omega
 ·show 0<=a.seq+n - 1/\a.seq+n - 1<=4294967295;omega
 ·show a.seq - 1<=a.seq+n - 1;omega
def AJ (a:An) (t:List Tx):Stt:=⟨a,t,false,0,0,0,0, []⟩
def OK (g:Geo) (a:An) (t:List Tx) (d:Dk):Dk × Int × Stt:=
 if a.gen=4294967295\/a.epoch=4294967295 then (d,14,st0) else
 let q:=d.putAll (Bf g (DQ a t.length))
 if q.2.2 then (q.1,8,st0) else if q.2.1=0 then (q.1,14,st0) else (q.1,0,AJ (DQ a t.length) t)
def OL (g:Geo) (a:An) (q:List Tx × List Wr × Int) (d:Dk):Dk × Int × Stt:=
 if q.2.2≠0 then (d,q.2.2,st0) else
 if (d.mend q.2.1).2 then ((d.mend q.2.1).1,8,st0) else OK g a q.1 (d.mend q.2.1).1
def Kh (g:Geo) (a:An) (d:Dk):Dk × Int × Stt:=
 if d.live (2*g.sl.toNat) then OL g a (FZ g a (B6 d (BO g 0)) (B6 d (BO g 1))) (d.adv (2*g.sl.toNat)) else (d.adv (2*g.sl.toNat),8,st0)
def DN (g:Geo) (d:Dk):Dk × Int × Stt:=
 if d.live g.an.toNat then
  match HH g (B6 d (DW g)) with
  | none=>(d.adv g.an.toNat,11,st0)
  | some (a,_)=>Kh g a (d.adv g.an.toNat)
 else (d.adv g.an.toNat,8,st0)
theorem V8 {g:Geo} {x:Gt} {i:Int} {a:An} (hg:Bp g=true) (h:EW g x i=some a):Bu g a=true:=by
 unfold EW at h;split at h
 ·cases hR:Fx g (CF x.bytes) with
  | none=>rw [hR] at h;cases h
  | some b=>
   rw [hR] at h;simp only at h;split at h
   ·cases h;exact(R5 hg hR).1
   ·cases h
 ·cases h
theorem Ll {g:Geo} {l:List Gt} (hg:Bp g=true):∀ (k:Nat) {a:An} {j:Nat},Fy g l k=some (a,j)->Bu g a=true
 | 0,a,j,h=>by cases h
 | k+1,a,j,h=>by
  rw [I_,PK] at h;cases hS:EW g (l.getD k ⟨0, []⟩) (k:Nat) with
  | none=>rw [hS] at h;exact Ll hg k h
  | some b=>
   have hb:=V8 hg hS;rw [hS] at h;cases hP:Fy g l k with
   | none=>rw [hP] at h;cases h;exact hb
   | some q=>
    obtain⟨c,i⟩:=q;rw [hP] at h;simp only at h;split at h
    ·cases h;exact hb
    ·cases h;exact Ll hg k hP
theorem Qh {d:Dk} (h:DkOk d) (l:List Int):∀ x∈B6 d l,x.bytes.length<=100000:=by
 intro x hx;simp only [B6,AK] at hx;obtain⟨a,_,rfl⟩:=hx;have:=Uy h a;show (d.got a).1.length<=_;omega
theorem ZK {m:Nat} {i:Nat} (hi:Nat.blt i m=true) (h:Nat.ble 3 m=true):∀ z∈ [0,1,2,i],z<m:=fun z hz=>by
 have:=Ag h;have:=Ag hi;simp at hz;omega
theorem ACalls.pre {P:Program} {q:Bool} {f:FuncId} {args:List AV} {H H':List AB} {K:AV->List AB->Prop} (h:ConvH H H') (k:ACalls P q f args H' K):ACalls P q f args H K:=by
 refine⟨k.go,fun w0 M0 c us hs hr=>?_⟩;obtain⟨c1,e1,s1,x1⟩:=h w0 M0 c hs;have:=k.calls w0 M0 c1 us s1 (RdL.ext _ x1 hr);rw [e1] at this;refine this.mono ?_;rintro e w' ⟨v,c',r,H2,rfl,rfl,q1,q2,q3,q4,q5⟩;exact⟨v,c',r,H2,rfl,rfl,q1,q2,x1.trans q3,q4,q5⟩
def zf:=@ACalls.pre
theorem LH {es:List (List AV)} {i m:Nat} {e:List AV} (h:∀ x∈es,AV.ltL x 0=true) (he:AV.ltL e m=true):AV.ltL (es.set i e).flatten m=true:=by
 rw [D3];intro x hx;obtain⟨y,hy,hx'⟩:=List.mem_flatten.1 hx;rcases Cu hy with hy | rfl
 ·exact AV.lt_mono x (Aj _) (D3.1 (h y hy) x hx')
 ·exact D3.1 he x hx'
theorem Ir {es:List (List AV)} {i:Nat} {e:List AV} {f:Nat->Nat} (h:∀ x∈es,AV.ltL x 0=true) (he:AV.renL f e=e):(es.set i e).map (AV.renL f)=es.set i e:=by
 rw [Ca,he];congr 1;conv=>rhs;rw [<-List.map_id es]
 refine Cv fun x hx=>?_
 exact AV.renL_id x (h x hx)
theorem Vv (l:List Tx):∀ x∈l.map CO,AV.ltL x 0=true:=by
 intro x hx;obtain⟨t,_,rfl⟩:=AK.1 hx;rfl
def Vf (t:Tx) (k:Nat):List AV:= [iv t.seq,iv t.pos,iv t.n, .ow k t.images.length]
theorem XR {k n:Nat} {s:AV} (l:List Tx):(l.map CO).map (List.map (AV.slIn k n s))=l.map CO:=by
 rw [List.map_map];exact Cv fun t _=>rfl
theorem V4 (l:List Tx) (k:Nat) (t:Tx) (s:AV):((l.map CO).set k (Vf t 1)).map (List.map (AV.slIn 1 (t.images.map D8).length s))=(l.map CO).set k [iv t.seq,iv t.pos,iv t.n,s]:=by
 rw [Ca,XR];congr 1;simp [Vf,AV.slIn]
theorem N1 {l:List Tx} {k:Nat} {t:Tx} (hk:k<l.length) (ht:t=l.getD k ⟨0,0,0, []⟩):ConvH [.rowo 112 4 ((l.map CO).set k (Vf t 1)) 2, .row 166 3 (t.images.map D8)] [.row 112 4 (l.map CO), .dead]:=by
 refine(ConvH.sealIn (H:= [.rowo 112 4 ((l.map CO).set k (Vf t 1)) 2, .row 166 3 (t.images.map D8)]) 0 1 rfl rfl (V4 l k t _)).trans ?_;refine(ConvH.row (k:=0) rfl (LH (Vv l) rfl)).trans ?_;refine zE (k:=0) (es':=l.map CO) rfl (by simp) fun i=>?_
 refine GN (f:=CO) (d:=(⟨0,0,0, []⟩:Tx)) hk ?_ i;rw [<-ht];exact⟨fun _ _ h=>h,fun _ _ h=>h,fun _ _ h=>h,Bb (f:=D8) t.images (Ab _) rfl,tv⟩
theorem Yo (l:List Tx) (hl:l.length<=1000000) (hi:∀ t∈l,t.images.length<=1000000/\∀ x∈t.images,x.bytes.length<=1000000000):Fn Tryz.prog 117 [Dl l] fun r=>r=Dl l:=by
 have hc:=Ng l (by omega);refine zS Tryz.func117 rfl ?_;conv=>whnf
 refine zV hc rfl ?_;rintro _ _ ⟨rfl,rfl⟩;conv=>whnf
 refine zU Nat (fun k=>([(0, .ow 0 l.length),(9,iv l.length),(10,iv k)], [.row 112 4 (l.map CO)])) (fun k=>k<=l.length) (fun k=>l.length - k) 0 (Aj _)
  (zR (s:= [0]) tA) ?_
 intro k hk;conv=>whnf
 refine A8 (fun h6=>?_) (fun h6=>?_) <;> (repeat rw [Ac] at h6) <;> conv=>whnf
 ·have hk':k<l.length:=by omega
  have hm:=hi _ (A6 (d:=(⟨0,0,0, []⟩:Tx)) hk');have hE:(l.map CO).getD (k:Int).toNat []=CO (l.getD k ⟨0,0,0, []⟩):=by rw [Ac];exact Bc hk'
  have ho:=NH (l.getD k ⟨0,0,0, []⟩).images (by omega);repeat' (refine z_ ?_;conv=>whnf)
  refine⟨⟨by omega,by omega⟩,?_⟩;conv=>whnf
  refine Af ⟨rfl,(Ab _).symm,by rw [Ac];exact hk'⟩ ?_;conv=>whnf
  rw [hE];conv=>whnf
  refine zf (ConvH.rowo (k:=0) rfl) ?_;refine zV ho rfl ?_;rintro _ _ ⟨rfl,rfl⟩;refine⟨⟨by omega,by omega⟩,?_⟩;conv=>whnf
  refine Af ⟨rfl,(Ab _).symm,by rw [Ac];exact hk'⟩ ?_;conv=>whnf
  rw [hE];refine⟨⟨by omega,by omega⟩,?_⟩;conv=>whnf
  refine Af ⟨rfl,by rw [AW,Ab],by rw [Ac];exact hk'⟩ ?_;conv=>whnf
  rw [BK (by rw [Ac,Ab];exact hk')];conv=>whnf
  obtain⟨t,ht⟩:∃ t,t=l.getD k ⟨0,0,0, []⟩:=⟨_,rfl⟩;rw [<-ht] at hm hE |-
  have hS:∀ x∈l.map CO,AV.ltL x 0=true:=Vv l;have hro:AV.ltL ((l.map CO).set k (Vf t 1)).flatten 2=true:=LH hS rfl;refine zU Nat (fun j=>([(0, .ow 0 l.length),(3,iv k),(9,iv l.length),(10,iv k),(27, .ow 1 t.images.length),(28,iv t.images.length),(29,iv j)], [.rowo 112 4 ((l.map CO).set k (Vf t 1)) 2, .row 166 3 (t.images.map D8)])) (fun j=>j<=t.images.length) (fun j=>t.images.length - j) 0 (Aj _)
   (zR (s:= [0,1]) ⟨tA,⟨⟨hro,_,by rw [Ir hS rfl];try rfl⟩,rfl,tv⟩,rfl,rfl,rfl,rfl,rfl⟩) ?_
  intro j hj;conv=>whnf
  refine A8 (fun h7=>?_) (fun h7=>?_) <;> (repeat rw [Ac] at h7) <;> conv=>whnf
  ·have hj':j<t.images.length:=by omega
   have hF:(t.images.map D8).getD (j:Int).toNat []=D8 (t.images.getD j ⟨0,0, []⟩):=by rw [Ac];exact Bc hj'
   have hG:((l.map CO).set k (Vf t 1)).getD (k:Int).toNat []=Vf t 1:=by rw [Ac];exact BK (by rw [Ab];exact hk')
   have b1:=Cp (t.images.getD j ⟨0,0, []⟩).bytes (hm.2 _ (A6 hj'));refine⟨⟨by omega,by omega⟩,?_⟩;conv=>whnf
   refine Af ⟨rfl,(Ab _).symm,by rw [Ac];exact hj'⟩ ?_;conv=>whnf
   rw [hF];conv=>whnf
   apply zW (0) tys_ok mixed (.o [0,1,2,3,4,5,6,7,8,9,10,11] .fin) (by kernel_rfl);conv=>whnf
   try (refine tI ?_;conv=>whnf)
   try (first | (refine Af ⟨rfl,by rw [AW,Ab],by rw [Ac];exact hk'⟩ ?_;(conv=>whnf);rw [hG]) | skip;conv=>whnf)
   try (first | (refine Af ⟨rfl,by rw [AW,Ab],by rw [Ac];exact hk'⟩ ?_;(conv=>whnf);rw [hG]) | skip;conv=>whnf)
   refine zZ b1 ?_;conv=>whnf
   try (refine tI ?_;conv=>whnf)
   try (refine tS ?_;conv=>whnf)
   (first | rw [hF] | skip)
   conv=>whnf
   all_goals refine⟨j+1,hj',by omega,zF (zK (zE (k:=1) rfl (es':=t.images.map D8) (by simp) ?_)) (s:= [0,1]) ⟨⟨rfl,rfl,rfl,rfl,rfl,rfl,AH (by omega),tv⟩,⟨⟨hro,_,by rw [Ir hS rfl];try rfl⟩,rfl,tv⟩,rfl,rfl,rfl,rfl,rfl⟩⟩
   all_goals
    intro i;rw [Ac];refine GN (f:=D8) (d:=(⟨0,0, []⟩:Img)) hj' ?_ i;exact⟨fun _ _ h=>h,fun _ _ h=>h,fun _ _ h=>h,tv⟩
  ·exact⟨k+1,hk',by omega,zF (zK (N1 hk' ht)) (s:= [0]) ⟨⟨rfl,rfl,AH (by omega),tv⟩,tA,rfl,rfl,rfl,rfl,rfl⟩⟩
 ·refine Af (Ab _).symm ?_;exact⟨Dl l,Bb (f:=CO) l rfl rfl,rfl⟩
structure StSm (s:Stt):Prop where
 h:s.a.homes.length<=4/\∀ h∈s.a.homes,h.places.length<=1000000
 l:s.a.label.size<=24
 t:s.txns.length<=30/\∀ t∈s.txns,t.images.length<=30/\∀ i∈t.images,i.bytes.length<=59
 o:s.lost.length<=1000000
theorem st0_sm:StSm st0:=⟨⟨by simp [st0,an0],by simp [st0,an0]⟩,by show (0:Nat)<=24;omega,⟨by simp [st0],by simp [st0]⟩,by simp [st0]⟩
theorem QI (s:Stt) (h:StSm s):Fn Tryz.prog 47 [.ag (EB s)] fun r=>r = .ag (EB s):=by
 have c1:=QM s.a (by have:=h.h.1;omega) h.h.2;have c2:=Yo s.txns (by have:=h.t.1;omega) (fun t ht=>⟨by have:=(h.t.2 t ht).1;omega,fun x hx=>by have:=(h.t.2 t ht).2 x hx;omega⟩);have c3:=Mo s.lost (by have:=h.o;omega);refine zS Tryz.func47 rfl ?_;conv=>whnf
 apply zW (0) tys_ok mixed (.o [0,1,3,4,6,7,8,2,10,5,9,11,12,13,14,15,16] .fin) (by kernel_rfl);conv=>whnf
 refine zZ c1 ?_;conv=>whnf
 refine zZ c2 ?_;conv=>whnf
 (refine zV c3 rfl ?_;rintro _ _ ⟨rfl,rfl⟩)
 conv=>whnf
 try (refine tS ?_;conv=>whnf)
 try (refine tS ?_;conv=>whnf)
 try (refine tS ?_;conv=>whnf)
 refine Af (Ab _).symm ?_;exact⟨.ag (EB s),Bi ⟨ri,ri,ri,ri,ri,ri,ri,ri,ri,ri,ri,ri,ri,ST rfl rfl,tv⟩,rfl⟩
@[reducible] def bwD (g:Geo) (s:Stt) (d:Dk):List AB:= [.box 116 (Z_ g (.bp 1 0) s), .box 185 (He (.ow 2 d.cells.length) (.ow 4 d.cache.length) d.reqs d.left), .dead, .dead, .dead]
theorem ML (g:Geo) (s:Stt) (d:Dk) (h:DkOk d):ACalls Tryz.prog false 44 [.bp 0 0] (bwG g s d) fun r H=>r = .ag (EN d)/\H=bwD g s d:=by
 have ht:=Qt d (by have:=h.n;omega) (by have:=h.m;omega) (fun c hc=>by have:=(h.c c hc).2;omega) (fun w hw=>by have:=(h.w w hw).2;omega);refine zT tys_ok Tryz.func44 rfl rfl (Ag rfl) ?_;conv=>whnf
 refine zN ht.go ?_;refine Af (Ab _).symm ?_;refine Af (Ab _).symm ?_;conv=>whnf
 refine zX [.ag (EN d)] ⟨Bi ⟨Bb (f:=BE) d.cells rfl rfl,Bb (f:=EE) d.cache rfl rfl,ri,ri,tv⟩,tv⟩ ?_;refine zZ ht ?_;exact⟨_, .ag (EN d),bwD g s d,fun _ _ h=>h,zR (s:= [0,1,2,3,4]) tA,rfl,rfl⟩
theorem V5 (g:Geo) (d:Dk) (hg:Bp g=true) (h1:d.cells.length<=1000000) (h2:d.cache.length<=1000000):Fn Tryz.prog 52 [.ag (AT g), .ag (EN d)] fun r=>r = .v (.bool (MT d&&decide ((d.cells.length:Int)=Ay g))):=by
 have c1:=U0 g hg;have c2:=UE d h1 h2;refine zS Tryz.func52 rfl ?_;conv=>whnf
 refine zZ c1 ?_;conv=>whnf
 refine zZ c2 ?_;conv=>whnf
 cases hk:MT d with
 | false=>
  exact⟨_,ri,rfl⟩
 | true=>
  exact⟨_,ri,rfl⟩
def dk0:Dk:=⟨[], [],0,0⟩
def ze (n:Int):AV:= iv n
def nilV:AV:= .v (.slice none 0 0)
theorem st0_sub:SubL [ze 0,ze 0,ze 0,ze 0,ze 0, .v (.string ⟨#[]⟩),nilV,nilV, .v (.bool false),ze 0,ze 0,ze 0,ze 0,nilV] (EB st0):=
 ⟨fun _ _ h=>h,fun _ _ h=>h,fun _ _ h=>h,fun _ _ h=>h,fun _ _ h=>h,fun _ _ h=>h,Bh 3 _,Bh 4 _,fun _ _ h=>h,fun _ _ h=>h,fun _ _ h=>h,fun _ _ h=>h,fun _ _ h=>h,Bh 1 _,tv⟩
theorem RL {g:Geo} {d:Dk} (h:(DN g d).2.1≠0):(DN g d).2.2=st0:=by
 unfold DN at h |-
 split
 ·rename_i hl;rw [if_pos hl] at h;split
  ·rfl
  ·rename_i a j hp;rw [hp] at h;simp only at h;unfold Kh at h |-
   split
   ·rename_i hl2;rw [if_pos hl2] at h;unfold OL at h |-
    split
    ·rfl
    ·rename_i h3;rw [if_neg h3] at h;split
     ·rfl
     ·rename_i h4;rw [if_neg h4] at h;unfold OK at h |-
      split
      ·rfl
      ·rename_i h5;rw [if_neg h5] at h;simp only at h |-
       split
       ·rfl
       ·rename_i h6;rw [if_neg h6] at h;split
        ·rfl
        ·rename_i h7;rw [if_neg h7] at h;exact absurd rfl h
   ·rfl
 ·rfl
theorem ConvF.cap {fr:Fr} {H H':List AB} (i k:Nat) {y:AV} (hx:fget fr i = .bp k 0) (h:capK [.bp k 0] H fun l H2=>l=[y]/\H2=H'):ConvF fr H ((i,y)::fr) H':=fun _ _ c _ a hs hf=>by
 have hr:RdL [.bp k 0] c [a.tmps.getD i undef]:=by
  simp only [RdL];exact⟨_,_,rfl,hx ▸ hf.get i,rfl⟩
 obtain⟨l',H1,c1,⟨rfl,rfl⟩,e1,s1,x1,r⟩:=capK_sound hs hr h;simp only [RdL] at r;obtain⟨u,us,e,r1,rfl⟩:=r;injection e with e _
 subst e;exact⟨c1,e1,s1,(hf.ext x1).cons i _ r1,x1⟩
def C7 (g:Geo):List Tx->Int->Int->Int->Bool
 | [],_,_,_=>true
 | t::r,seq,pos,left=>(decide (t.seq=seq)&&(decide (t.seq<=4294967295)&&(decide (t.pos=pos)&&(decide (2<=t.n)&&(decide (t.n<=left)&&(decide (t.n=t.images.length+1)&&t.images.all (Bz g)))))))&&C7 g r (seq+1) ((pos+t.n).tmod g.sl) (left - t.n)
theorem VT (g:Geo) (x:Img) (hx:x.bytes.length<=100000):Fn Tryz.prog 124 [.ag (D8 x), .rp (AT g)] fun r=>r = .v (.bool (!Bz g x)):=by
 have h:=Kp g x hx;refine zS Tryz.func124 rfl ?_;conv=>whnf
 refine zZ h ?_;conv=>whnf
 cases Bz g x with
 | true=>exact⟨_,ri,rfl⟩
 | false=>exact⟨_,ri,rfl⟩
theorem Z7 (l:List Img) (g:Geo) (hb:∀ x∈l,x.bytes.length<=100000) (hl:l.length<=1000000):Fn Tryz.prog 199 [Dm l, .fn 124 [.rp (AT g)]] fun r=>r = iv (Vg (fun x=>!Bz g x) l):=by
 refine zS Tryz.func199 rfl ?_;conv=>whnf
 refine zO Nat (fun k=>([(0,Dm l),(1, .fn 124 [.rp (AT g)]),(7,iv l.length),(8,iv k)], [])) (fun k=>k<=l.length/\(l.take k).any (fun x=>!Bz g x)=false) (fun k=>l.length - k) 0 ⟨Aj _,by simp⟩ ⟨[],tv,tA,tv,rfl,rfl,rfl⟩ ?_;rintro k ⟨hk,hI⟩;conv=>whnf
 refine Ak (fun h2=>?_) (fun h2=>?_) <;> simp at h2 <;> conv=>whnf
 ·refine⟨by first | omega | (refine⟨rfl,?_,?_⟩ <;> first | omega | (simp only [Ab];done) | (simp only [Ab];omega)) | (simp only [Ab];omega),?_⟩;conv=>whnf
  refine zH (VT g (l.getD k ⟨0,0, []⟩) (hb _ (A6 h2))) rfl ?_;rintro _ rfl;conv=>whnf
  refine Ak (fun h3=>?_) (fun h3=>?_) <;> conv=>whnf
  ·exact⟨_,ri,by rw [I3 (d:=⟨0,0, []⟩) h2 hI (by first | exact h3 | (rw [Ac] at h3;exact h3) | simpa using h3)]⟩
  ·refine⟨k+1,⟨by omega,Eh (d:=⟨0,0, []⟩) h2 hI (by first | exact h3 | (rw [Ac] at h3;exact h3) | simpa using h3)⟩,by omega, [],tv,⟨rfl,rfl,rfl,AH (by omega),tv⟩,tv,rfl,rfl,rfl⟩
 ·exact⟨_,ri,by rw [A7 h2] at hI;rw [GW hI]⟩
theorem Z8 (l:List Img) (g:Geo) (hb:∀ x∈l,x.bytes.length<=100000) (hl:l.length<=1000000):Fn Tryz.prog 126 [Dm l, .fn 124 [.rp (AT g)]] fun r=>r = .v (.bool (l.any (fun x=>!Bz g x))):=by
 refine zS Tryz.func126 rfl ?_;conv=>whnf
 refine zZ (Z7 l g hb hl) ?_;exact⟨_,ri,by rw [Ko]⟩

theorem J8 (g:Geo) (a:An) (l:List Tx) (hl:a.label.size<=1000000) (hh:a.homes.length<=1000000) (hn:l.length<=1000000) (hi:∀ t∈l,t.images.length<=1000000/\∀ x∈t.images,x.bytes.length<=100000):Fn Tryz.prog 53 [.ag (AT g), .ag (ED a),Dl l] fun r=>r = .v (FQ ((Bp g&&Bu g a)&&C7 g l a.seq a.pos g.sl)):=by
 have hA:=Og g a hl hh;cases hga:Bp g&&Bu g a with
 | false=>
  rw [hga] at hA;rw [Cn];refine zS Tryz.func53 rfl ?_;conv=>whnf
  refine zZ hA ?_;exact⟨_,ri,rfl⟩
 | true=>
  rw [hga] at hA;rw [Bw];obtain⟨hg,ha⟩:=Bool.and_eq_true_iff.1 hga;obtain⟨g1,g2,g3,g4,g5⟩:=As.1 hg;have hp:=G0 ha;refine zS Tryz.func53 rfl ?_;conv=>whnf
  refine zZ hA ?_;conv=>whnf
  refine zM tys_ok mixed (by kernel_rfl) ?_;conv=>whnf
  refine zU (Nat × Int × Int × Int) (fun x=>([(2,Dl l),(3, .rp (AT g)),(8,iv x.2.1),(9,iv x.2.2.1),(10,iv x.2.2.2),(26,Dl l),(27,iv l.length),(28,iv x.1)], []))
   (fun x=>x.1<=l.length/\(0<=x.2.1/\x.2.1<g.sl)/\(0<=x.2.2.1/\x.2.2.1<=4294967296)/\(0<=x.2.2.2/\x.2.2.2<=30)/\C7 g l a.seq a.pos g.sl=C7 g (l.drop x.1) x.2.2.1 x.2.1 x.2.2.2) (fun x=>l.length - x.1) (0,a.pos,a.seq,g.sl) ⟨Aj _,by show 0<=a.pos/\a.pos<g.sl;omega,by show 0<=a.seq/\a.seq<=4294967296;omega,by show 0<=g.sl/\g.sl<=30;omega,rfl⟩
   ?_ ?_
  ·exact zF (ConvF.cap 3 0 (y:= .rp (AT g)) rfl (by (conv=>whnf);exact tA)) (s:= []) tA
  rintro⟨k,pos,seq,left⟩ ⟨hk,b1,b2,b3,hI⟩;simp only at hk b1 b2 b3 hI |-
  conv=>whnf
  refine A8 (fun h6=>?_) (fun h6=>?_) <;> (repeat rw [Ac] at h6) <;> conv=>whnf
  ·have hk':k<l.length:=by omega
   have hm:=hi _ (A6 (d:=(⟨0,0,0, []⟩:Tx)) hk');have hdr:l.drop k=l.getD k ⟨0,0,0, []⟩::l.drop (k+1):=by
    rw [Aa,Ae hk'];exact Bj hk'
   rw [hdr,C7] at hI;repeat' (refine z_ ?_;conv=>whnf)
   refine⟨⟨by omega,by omega⟩,?_⟩;conv=>whnf
   rw [Ac];generalize l.getD k ⟨0,0,0, []⟩=t at hm hI |-
   have hcf:=Z8 t.images g hm.2 hm.1;rw [show (t.images.any fun x=>!Bz g x) = !t.images.all (Bz g) by rw [Ci,Bool.not_not]] at hcf;have wn:IntKind.i64.wrap ((t.images.length:Int)+1)=t.images.length+1:=wi (by omega);generalize hAll:t.images.all (Bz g)=Q at hcf hI;generalize hC:(decide (t.seq=seq)&&(decide (t.seq<=4294967295)&&(decide (t.pos=pos)&&(decide (2<=t.n)&&(decide (t.n<=left)&&(decide (t.n=t.images.length+1)&&Q))))))=C at hI;clear hAll hm hi hdr hA;conv=>whnf
   repeat' (refine z_ ?_;conv=>whnf)
   repeat' (first | (refine Ak (fun h=>?_) (fun h=>?_) <;> (try simp at h) <;> conv=>whnf) | (refine z_ ?_;conv=>whnf) | (refine zZ hcf ?_;conv=>whnf))
   all_goals try (exact⟨_,ri,by rw [hI,show C=false by (rw [<-hC,<-BJ];clear hI hC hcf;simp [*] <;> omega)];try rfl⟩)
   have hC1:C=true:=by rw [<-hC];clear hI hC hcf;simp [*] <;> omega
   rw [hC1,Bw] at hI;have wn':t.n=t.images.length+1:=by omega
   have w1:IntKind.i64.wrap (pos+t.n)=pos+t.n:=wi (by omega);have w2:IntKind.i64.wrap (seq+1)=seq+1:=wi (by omega);have w3:IntKind.i64.wrap (left - t.n)=left - t.n:=wi (by omega);apply zW (0) tys_ok mixed (.o [0,1,2,3,4,5,6,7,8,9,10,11,12,13,14,15] .fin) (by kernel_rfl);conv=>whnf
   try (refine tI ?_;conv=>whnf)
   rw [w1,w2,w3];have hq1:=Bk g.sl (show 0<=pos+t.n by omega);have hq2:=AY (pos+t.n) (show 0<g.sl by omega);exact⟨(k+1,(pos+t.n).tmod g.sl,seq+1,left - t.n),⟨hk',⟨hq1,hq2⟩,(show 0<=seq+1/\seq+1<=4294967296 by omega),(show 0<=left - t.n/\left - t.n<=30 by omega),hI⟩,(show l.length - (k+1)<l.length - k by omega),zR (s:= []) ⟨⟨rfl,rfl,rfl,rfl,rfl,rfl,rfl,AH (by omega),tv⟩,tv,rfl,rfl,rfl,rfl,rfl⟩⟩
  ·have ek:k=l.length:=by omega
   subst ek;exact⟨_,ri,by rw [hI,List.drop_length];try rfl⟩
def iz:Img:=⟨0,0, []⟩
def Cd (l:List Img) (z w:Int):Nat->Option Img
 | 0=>none
 | k+1=>if (l.getD k iz).zone=z/\(l.getD k iz).what=w then some (l.getD k iz) else Cd l z w k
def E9 (l:List Tx) (z w:Int):Nat->Option (Img × Int)
 | 0=>none
 | k+1=>match Cd (l.getD k tz).images z w (l.getD k tz).images.length with
  | some x=>some (x,(l.getD k tz).seq)
  | none=>E9 l z w k
def C2 (l:List Tx) (z w:Int):Option (Img × Int):=E9 l z w l.length
theorem I8 {l:List Img} {z w:Int}:∀ {k:Nat} {x:Img},k<=l.length->Cd l z w k=some x->x∈l/\x.zone=z/\x.what=w
 | k+1,x,hk,h=>by
  rw [Cd] at h;split at h
  ·rename_i hc;obtain rfl:=Option.some.inj h;exact⟨A6 (by omega),hc⟩
  ·exact I8 (by omega) h
theorem GY {l:List Tx} {z w:Int}:∀ {k:Nat} {x:Img} {s:Int},k<=l.length->E9 l z w k=some (x,s)->∃ t∈l,t.seq=s/\x∈t.images/\x.zone=z/\x.what=w
 | k+1,x,s,hk,h=>by
  rw [E9] at h;split at h
  ·rename_i y hy;obtain⟨rfl,rfl⟩:=Prod.mk.inj (Option.some.inj h);exact⟨l.getD k tz,A6 (by omega),rfl,I8 (Ah _) hy⟩
  ·exact GY (by omega) h
def Ch (a:An) (l:List Tx) (z:Int):Int:=match C2 l z 255 with
 | some p=>p.2
 | none=>(a.homes.getD z.toNat ⟨[],0,0⟩).root
def G3 (n:Int):Int:=if 0<=n/\n<=30 then n else 0
def Gh (l:List Tx):Nat->Int
 | 0=>0
 | k+1=>Gh l k+G3 (l.getD k tz).n
def BX (l:List Tx):Int:=Gh l l.length
theorem L1 (n:Int):0<=G3 n/\G3 n<=30:=by
 unfold G3;split <;> omega
theorem EF (l:List Tx):∀ k:Nat,0<=Gh l k/\Gh l k<=30*k
 | 0=>by simp [Gh]
 | k+1=>by
  have:=EF l k;have:=L1 (l.getD k tz).n;rw [Gh];omega
def Em (g:Geo) (w:Int):Int:=if w = -1 then g.d else w
def BH (g:Geo) (a:An) (z w:Int):Int:=Ck g z ((a.homes.getD z.toNat ⟨[],0,0⟩).places.getD (Em g w).toNat 0)
def BG (g:Geo) (x:Gt) (addr root:Int):Option (List Ent):=match BR x addr with
 | some s=>if s.stamp=root then BT g s.pay else none
 | none=>none
def DD (x:Gt) (addr:Int) (e:Ent):Option (List UInt8):=match BR x addr with
 | some s=>if s.stamp=e.stamp/\s.pay.length=8/\((C4 s.pay:Nat):Int)=e.sum then some s.pay else none
 | none=>none
def Fb (a b:List UInt8):List UInt8:=List.zipWith (fun x y=>x ^^^ y) a b
def ez:Ent:=⟨0,0,false⟩
def DG (t:List Ent) (had:List (List UInt8)) (at_:Nat):Nat->Option (List UInt8)
 | 0=>some zero8
 | k+1=>match DG t had at_ k with
  | none=>none
  | some b=>if k=at_\/(t.getD k ez).lost=true then some b else if (had.getD k []).length=0 then none else some (Fb b (had.getD k []))
def BL (g:Geo) (t:List Ent) (had:List (List UInt8)) (at_:Nat):List UInt8:=
 if (t.getD at_ ez).lost then []
 else if 0<(had.getD at_ []).length then had.getD at_ []
 else match DG t had at_ (g.d.toNat+1) with
  | none=> []
  | some b=>if ((C4 b:Nat):Int)=(t.getD at_ ez).sum then b else []
def flatX:AV->Bool
 | .v _=>true
 | _=>false
def flatO:AV->Bool
 | .v _=>true
 | .ow _ _=>true
 | .tp l=>l.all fun x=>match x with | .v _=>true | .ow _ _=>true | _=>false
 | _=>false
def flatR:List AB->Bool
 | []=>true
 | .row _ _ es::r=>es.flatten.all flatX&&flatR r
 | _::_=>false
theorem Qn {c c':Ctx}:∀ {l:List AV} {us:List Value},l.all flatX=true->RdL l c us->RdL l c' us
 | [],us,_,h=>by simpa only [RdL] using h
 | x::l,us,hf,h=>by
  rw [AX,Ad] at hf;simp only [RdL] at h |-
  obtain⟨u,vs,rfl,h1,h2⟩:=h;refine⟨u,vs,rfl,?_,Qn hf.2 h2⟩;cases x <;> simp [flatX] at hf;simpa only [Rd] using h1
theorem OW {c c':Ctx} (hr:c'.rho=c.rho) (hl:c'.len=c.len) (hd:c'.dom=c.dom) {x:AV} (hx:(match x with | .v _=>true | .ow _ _=>true | _=>false)=true) {u:Value} (h:Rd x c u):Rd x c' u:=by
 cases x <;> simp at hx
 ·simpa only [Rd] using h
 ·simp only [Rd] at h |-
  rw [hr,hl,hd];exact h
theorem WS {c c':Ctx} (hr:c'.rho=c.rho) (hl:c'.len=c.len) (hd:c'.dom=c.dom) {x:AV} (hx:flatO x=true) {u:Value} (h:Rd x c u):Rd x c' u:=by
 cases x with
 | v y=>exact OW hr hl hd rfl h
 | ow k n=>exact OW hr hl hd rfl h
 | tp l=>
  simp only [Rd] at h |-
  obtain⟨xs,rfl,hxs⟩:=h;refine⟨xs,rfl,?_⟩;simp only [flatO] at hx;induction l generalizing xs with
  | nil=>simpa only [RdL] using hxs
  | cons y l ih=>
   rw [AX,Ad] at hx;simp only [RdL] at hxs |-
   obtain⟨u,us,rfl,h1,h2⟩:=hxs;exact⟨u,us,rfl,OW hr hl hd hx.1 h1,ih hx.2 us h2⟩
 | _=>simp [flatO] at hx
theorem flatR_mem:∀ {R:List AB} {y:AB},flatR R=true->y∈R->∃ t sz es,y = .row t sz es/\es.flatten.all flatX=true
 | .row t sz es::r,y,h,hy=>by
  rw [flatR,Ad] at h;rcases AQ.1 hy with rfl | hy
  ·exact⟨t,sz,es,rfl,h.1⟩
  ·exact flatR_mem h.2 hy
theorem FnO.lend {P:Program} {f:FuncId} {args args':List AV} {H:List AB} {K:AV->List AB->Prop} {q:Bool} {k:AV->List AB->Prop} (h:FnO P f args' K) (hs:sealA args H fun a _=>a=args') (hk:∀ r R,K r R->(flatO r=true/\flatR R=true)/\appK H R 0 fun d H=>DC (r.shift d) fun r=>k r H):ACalls P q f args H k:=by
 refine⟨h.go,fun w0 M0 c us hs0 hr=>?_⟩;obtain⟨l',H',c',rfl,h2,h3,h4,h5,_⟩:=sealA_sound hs0 hr hs;have hglob:globOk c'.closed.w:=h3.glob;have hc:=h.calls c'.closed us hglob rfl h3.lt h5;have ew:c'.closed.w=c.w:=h2
 suffices hh:Calls P f us.toArray c'.closed.w fun e w'=>∃ v c1 r H1,e = .returned v/\c1.w=w'/\k r H1/\HS w0 M0 c1 H1/\Ext c c1/\Rd r c1 v/\(q=true->Old c.w w') by
  rw [ew] at hh;exact hh
 refine hc.mono ?_;rintro e w' ⟨v,r,c2,R,rfl,q1,rfl,q2,q3,q4⟩;obtain⟨⟨f1,f2⟩,hkk⟩:=hk r R q1
 -- the same memory;what the caller holds is not read
 obtain⟨c3,e3⟩:∃ c3:Ctx,c3={ c2 with M:=fun b=>c2.M b\/c.M b }:=⟨_,rfl⟩;have hsub:∀ b,b<c.w.heap.size->c'.M b->c.M b:=fun b hb hm=>by
  by_cases hx:c.M b
  ·exact hx
  ·exact absurd hm (h4.keep b hb hx).1
 have hlow:=q2.low;have q2':HS (Fl.all c.w hs0.glob) c.M c3 R:=by
  subst e3;refine⟨⟨?_,?_,?_,?_,?_⟩,q2.base,q2.dom,fun b hb=>?_,fun b hb=>?_,fun i y hi=>?_,fun i y g hi hl ho=>?_,q2.dis⟩
  ·have:=hlow.os;rw [show (Fl.all c'.closed.w hglob).w=c.w from ew] at this;exact this
  ·have:=hlow.tape;rw [show (Fl.all c'.closed.w hglob).w=c.w from ew] at this;exact this
  ·have:=hlow.output;rw [show (Fl.all c'.closed.w hglob).w=c.w from ew] at this;exact this
  ·have:=hlow.size;rw [show (Fl.all c'.closed.w hglob).w=c.w from ew] at this;exact this
  ·intro b hb;have:=hlow.block b (by show b<c'.closed.w.heap.size;rw [ew];exact hb);rw [show (Fl.all c'.closed.w hglob).w=c.w from ew] at this;exact this
  ·have hb':b<c.w.heap.size:=hb;have:=q2.foreign b (by show b<c'.closed.w.heap.size;rw [ew];exact hb');exact⟨fun hx=>hx.elim (fun hx=>hsub b hb' (this.1 hx)) (fun hx=>hx),fun hx=> .inr hx⟩
  ·have hsz:c.w.heap.size<=c2.w.heap.size:=by
    have:=hlow.size;rw [show (Fl.all c'.closed.w hglob).w=c.w from ew] at this;exact this
   rcases hb with hb | hb
   ·exact q2.lt b hb
   ·exact At (hs0.lt b hb) hsz
  ·obtain⟨t,sz,es,rfl,hfl⟩:=flatR_mem f2 (DK hi);obtain⟨a1,a2,a3,xs,a4,a5,a6⟩:=q2.blk i _ hi;exact⟨a1,a2,a3,xs,a4,Qn hfl a5,a6⟩
  ·have:=q2.own i y g hi hl ho;refine⟨.inl this.1,fun hx=>this.2 ?_⟩;show g<c'.closed.w.heap.size;rw [ew];exact hx
 have q3':Rd r c3 v:=WS (by rw [e3]) (by rw [e3]) (by rw [e3]) f1 q3;have q5:c3.w=c2.w:=by rw [e3]
 obtain⟨p1,p2⟩:=hs0.beside (c':=c3) q2' q4;have h1:=BP (appK_iff hkk);rw [A4,<-hs0.dom] at h1;exact⟨v,c.beside c3,_,_,rfl,by show c3.w=_;exact q5,h1,p1,p2,Rd.shift r q3',fun _=>by have:=q2'.low.below.old;rw [q5] at this;exact this⟩
theorem P4 (l:List Tx) (hl:l.length<=1000000):Fn Tryz.prog 83 [Dl l] fun r=>r = iv (BX l):=by
 refine zS Tryz.func83 rfl ?_;conv=>whnf
 refine zU Nat (fun k=>([(0,Dl l),(3,iv (Gh l k)),(4,iv k)], [])) (fun k=>k<=l.length) (fun k=>l.length - k) 0 (Aj _)
  (zR (s:= []) tA) ?_
 intro k hk;conv=>whnf
 refine A8 (fun h6=>?_) (fun h6=>?_) <;> (repeat rw [Ac] at h6) <;> conv=>whnf
 ·have hk':k<l.length:=by omega
  have hb:=EF l k;have hi:=VU (l.getD (k:Int).toNat ⟨0,0,0, []⟩).n 0 30;have hs:Gh l (k+1)=Gh l k+G3 (l.getD (k:Int).toNat ⟨0,0,0, []⟩).n:=rfl;have hn:=L1 (l.getD (k:Int).toNat ⟨0,0,0, []⟩).n;repeat' (refine z_ ?_;conv=>whnf)
  refine⟨⟨by omega,by omega⟩,?_⟩;conv=>whnf
  cases hc:CH (l.getD (k:Int).toNat ⟨0,0,0, []⟩).n 0 30 with
  | false=>
   rw [hc] at hi;have h0:G3 (l.getD (k:Int).toNat ⟨0,0,0, []⟩).n=0:=by
    unfold G3;rw [if_neg];intro h;rw [AF.2 h] at hc;cases hc
   refine zZ hi ?_;exact⟨k+1,hk',by omega,zR (s:= []) ⟨⟨rfl,congrArg (fun n:Int=>AV.v (.int .i64 n)) (by rw [hs,h0,Int.add_zero]),AH (by omega),tv⟩,tv,rfl,rfl,rfl,rfl,rfl⟩⟩
  | true=>
   rw [hc] at hi;have h0:G3 (l.getD (k:Int).toNat ⟨0,0,0, []⟩).n=(l.getD (k:Int).toNat ⟨0,0,0, []⟩).n:=by
    unfold G3;rw [if_pos (AF.1 hc)]
   refine zZ hi ?_;refine⟨⟨by omega,by omega⟩,?_⟩;conv=>whnf
   exact⟨k+1,hk',by omega,zR (s:= []) ⟨⟨rfl,congrArg (fun n:Int=>AV.v (.int .i64 n)) (by rw [hs,h0,wi (by rw [<-h0];omega)]),AH (by omega),tv⟩,tv,rfl,rfl,rfl,rfl,rfl⟩⟩
 ·have ek:k=l.length:=by omega
  subst ek;exact⟨_,ri,rfl⟩
theorem VN (g:Geo) (a:An) (l:List Tx) (hg:Bp g=true) (ha:Bu g a=true) (hl:l.length<=1000000):Fn Tryz.prog 84 [.ag (AT g), .ag (ED a),Dl l] fun r=>r = .tp [iv ((a.pos+BX l).tmod g.sl),iv (a.seq+l.length)]:=by
 obtain⟨g1,g2,g3,g4,g5⟩:=As.1 hg;have hu:=P4 l hl;have hb:=EF l l.length;have hp:(1<=a.seq/\a.seq<=4294967295)/\(0<=a.pos/\a.pos<g.sl):=by
  simp only [Bu,AX,B7,Bx,Ad,decide_eq_true_eq,AF] at ha;omega
 refine zS Tryz.func84 rfl ?_;conv=>whnf
 apply zP tys_ok mixed (.o [0,1,2,5,6,8,9,10,11,12,3,4,7,13,14] .fin) [6,7,8,9,10,11,12,13,14,15,16,17,18,19,20] (by kernel_rfl)
 ·conv=>whnf
  refine zZ hu ?_;conv=>whnf
  try (refine Af (by first | omega | exact ixA | exact ixB | (simp;done)) ?_;conv=>whnf)
  exact tA
 conv=>whnf
 exact⟨_,ri,by rw [wi (n:=a.pos+BX l) (by unfold BX;omega),wi (by omega)]⟩
def aG (o:Option (Img × Int)) (r:AV) (R:List AB):Prop:=match o with
 | some p=>r = .tp [.ow 0 p.1.bytes.length,iv p.2, .v (.bool true)]/\R=[.row 5 1 (p.1.bytes.map Ej)]
 | none=>r = .tp [.v (.slice none 0 0),iv 0, .v (.bool false)]/\R=[]
theorem Kc (l:List Tx) (z w:Int) (hl:l.length<=1000000) (hi:∀ t∈l,t.images.length<=1000000/\∀ x∈t.images,x.bytes.length<=1000000000):FnO Tryz.prog 74 [Dl l,iv z,iv w] (aG (C2 l z w)):=by
 refine FnO.of tys_ok Tryz.func74 rfl rfl (Ag rfl) ?_;conv=>whnf
 rw [wi (n:=(l.length:Int) - 1) (by omega)];refine zU Nat (fun k=>([(0,Dl l),(1,iv z),(2,iv w),(9,iv ((k:Int) - 1))], [])) (fun k=>k<=l.length/\C2 l z w=E9 l z w k) (fun k=>k) l.length ⟨Ah _,rfl⟩
  (zR (s:= []) tA) ?_
 rintro k ⟨hk,hI⟩;conv=>whnf
 refine A8 (fun h6=>?_) (fun h6=>?_) <;> (repeat rw [Ac] at h6) <;> conv=>whnf
 ·obtain⟨j,rfl⟩:∃ j,k=j+1:=⟨k - 1,by omega⟩;have e1:((j+1:Nat):Int) - 1=(j:Nat):=by omega
  have hm:=hi _ (A6 (d:=(⟨0,0,0, []⟩:Tx)) (show j<l.length by omega));rw [e1];refine⟨⟨by omega,by omega⟩,?_⟩;conv=>whnf
  rw [Ac,wi (n:=((l.getD j ⟨0,0,0, []⟩).images.length:Int) - 1) (by omega)];have hF:E9 l z w (j+1)=match Cd (l.getD j ⟨0,0,0, []⟩).images z w (l.getD j ⟨0,0,0, []⟩).images.length with | some x=>some (x,(l.getD j ⟨0,0,0, []⟩).seq) | none=>E9 l z w j:=rfl
  generalize hT:l.getD j ⟨0,0,0, []⟩=T at hm hF;refine zU Nat (fun m=>([(0,Dl l),(1,iv z),(2,iv w),(9,iv (j:Nat)),(10,iv ((m:Int) - 1))], [])) (fun m=>m<=T.images.length/\E9 l z w (j+1)=match Cd T.images z w m with | some x=>some (x,T.seq) | none=>E9 l z w j) (fun m=>m) T.images.length ⟨Ah _,hF⟩
   (zR (s:= []) tA) ?_
  rintro m ⟨hmn,hJ⟩;conv=>whnf
  refine A8 (fun h7=>?_) (fun h7=>?_) <;> (repeat rw [Ac] at h7) <;> conv=>whnf
  ·obtain⟨i,rfl⟩:∃ i,m=i+1:=⟨m - 1,by omega⟩;have e2:((i+1:Nat):Int) - 1=(i:Nat):=by omega
   rw [e2];refine⟨⟨by omega,by omega⟩,?_⟩;conv=>whnf
   rw [Ac,hT];refine⟨⟨by omega,by omega⟩,?_⟩;conv=>whnf
   rw [Ac];have hK:Cd T.images z w (i+1)=if (T.images.getD i ⟨0,0, []⟩).zone=z/\(T.images.getD i ⟨0,0, []⟩).what=w then some (T.images.getD i ⟨0,0, []⟩) else Cd T.images z w i:=rfl
   have hbl:=hm.2 _ (A6 (d:=(⟨0,0, []⟩:Img)) (show i<T.images.length by omega));generalize T.images.getD i ⟨0,0, []⟩=y at hK hbl;have hgo:¬(y.zone=z/\y.what=w)->E9 l z w (j+1)=match Cd T.images z w i with | some x=>some (x,T.seq) | none=>E9 l z w j:=fun h=>by rw [hJ,hK,if_neg h]
   by_cases hz:y.zone=z
   ·rw [show (y.zone == z)=true by simpa using hz];conv=>whnf
    by_cases hw:y.what=w
    ·rw [show (y.what == w)=true by simpa using hw];conv=>whnf
     have htw:=Nh y.bytes (by omega);apply z8 (0) tys_ok mixed (.o [0,1,3,4,5,6,7,2,8,9,10] .fin) [6,7,8,48,49,50,51,52,53,54,55] (by kernel_rfl)
     ·conv=>whnf
      try (refine tI ?_;conv=>whnf)
      (refine zV htw rfl ?_;rintro _ _ ⟨rfl,rfl⟩)
      exact tA
     conv=>whnf
     rw [hI,hJ,hK,if_pos ⟨hz,hw⟩,Ac,hT];exact tA
    ·rw [show (y.what == w)=false by simpa using hw];exact⟨i,⟨by omega,hgo fun h=>hw h.2⟩,by omega,zR (s:= []) ⟨⟨rfl,rfl,rfl,rfl,congrArg (fun n:Int=>AV.v (.int .i64 n)) (wi (by omega)),tv⟩,tv,rfl,rfl,rfl,rfl,rfl⟩⟩
   ·rw [show (y.zone == z)=false by simpa using hz];exact⟨i,⟨by omega,hgo fun h=>hz h.1⟩,by omega,zR (s:= []) ⟨⟨rfl,rfl,rfl,rfl,congrArg (fun n:Int=>AV.v (.int .i64 n)) (wi (by omega)),tv⟩,tv,rfl,rfl,rfl,rfl,rfl⟩⟩
  ·have em:m=0:=by omega
   subst em;exact⟨j,⟨by omega,by rw [hI,hJ];try rfl⟩,by omega,zR (s:= []) ⟨⟨rfl,rfl,rfl,congrArg (fun n:Int=>AV.v (.int .i64 n)) (wi (by omega)),tv⟩,tv,rfl,rfl,rfl,rfl,rfl⟩⟩
 ·have ek:k=0:=by omega
  subst ek;rw [hI];exact tA
theorem FnO.subA {P:Program} {f:FuncId} {args args':List AV} {K:AV->List AB->Prop} (h:FnO P f args' K) (hs:SubL args args'):FnO P f args K:=
 ⟨h.go,fun c0 us hg h1 h2 h3=>h.calls c0 us hg h1 h2 (hs.rdl h3)⟩
theorem VG (g:Geo) (a:An) (l:List Tx) (z:Int) (ha:(a.homes.length:Int)=g.z) (hz:0<=z/\z<g.z) (hl:l.length<=1000000) (hi:∀ t∈l,t.images.length<=1000000/\∀ x∈t.images,x.bytes.length<=1000000000):Fn Tryz.prog 76 [.ag (ED a),Dl l,iv z] fun r=>r = iv (Ch a l z):=by
 have hf:=Kc l z 255 hl hi;unfold Ch;cases hL:C2 l z 255 with
 | some p=>
  obtain⟨x,q⟩:=p;rw [hL] at hf;refine zS Tryz.func76 rfl ?_;conv=>whnf
  refine FnO.call hf rfl ?_;rintro _ _ ⟨rfl,rfl⟩;exact⟨_,ri,rfl⟩
 | none=>
  rw [hL] at hf;refine zS Tryz.func76 rfl ?_;conv=>whnf
  refine FnO.call hf rfl ?_;rintro _ _ ⟨rfl,rfl⟩;refine⟨⟨by omega,by omega⟩,?_⟩;exact⟨_,ri,rfl⟩
theorem Ow (n:Int):Fn Tryz.prog 91 [iA [],iv n] fun r=>r=iA []:=by
 refine zS Tryz.func91 rfl ?_;conv=>whnf
 refine zU Nat (fun k=>([(0,iA []),(5, .v (.slice none 0 0)),(6,iv k)], [])) (fun k=>k=0) (fun k=>k) 0 rfl
  (zR (s:= []) tA) ?_
 rintro k rfl;exact⟨iA [],Bh 1 _,rfl⟩
theorem VP (g:Geo) (lba:Int) (hg:Bp g=true) (h:0<=lba/\lba<g.z*g.d):Fn Tryz.prog 82 [.ag (AT g),iA [lba]] fun r=>r = iv 4:=by
 obtain⟨g1,g2,g3,g4,g5⟩:=As.1 hg;have hq:lba.tdiv g.d=lba / g.d:=Bn h.1;have hq0:0<=lba / g.d:=DE h.1 (by omega);have hq1:lba / g.d<g.z:=D6 (by omega) h.2;refine zS Tryz.func82 rfl ?_;refine⟨⟨rfl,by omega,by omega⟩,?_⟩;conv=>whnf
 refine zU Nat (fun k=>([(1,iA [lba]),(2, .bp 0 0),(5, .ow 1 g.z.toNat),(6,iv (3*(k:Int))),(7,iv k)], [.box 23 (AT g), .row 4 1 (if k=0 then List.replicate g.z.toNat [AV.v (.bool false)] else (List.replicate g.z.toNat [AV.v (.bool false)]).set (lba / g.d).toNat [AV.v (.bool true)])])) (fun k=>k<=1) (fun k=>1 - k) 0 (by decide)
  (zR (s:= [0,1]) tA) ?_
 intro k hk;conv=>whnf
 refine A8 (fun h6=>?_) (fun h6=>?_)
 ·have ek:k=0:=by simp only [Ao,Be] at h6;omega
  subst ek;rw [if_pos rfl];conv=>whnf
  repeat' (refine z_ ?_;conv=>whnf)
  refine zA tys_ok mixed [0,1,2,3,4,5,6,7] (by kernel_rfl) ?_;conv=>whnf
  refine Af ⟨by decide,by show ((0:Nat):Int)<((1:Nat):Int);decide⟩ ?_;refine⟨by omega,?_⟩;conv=>whnf
  rw [show IntKind.i64.wrap (([lba].getD (Int.toNat ((0:Nat):Int)) 0).tdiv g.d)=lba / g.d by rw [show [lba].getD (Int.toNat ((0:Nat):Int)) 0=lba from rfl,hq,wi (by omega)]];refine⟨⟨hq0,by omega⟩,?_⟩;refine⟨⟨rfl,by simp,by omega⟩,?_⟩;rw [show (List.replicate g.z.toNat [AV.v (.bool false)]).getD (lba / g.d).toNat []=[AV.v (.bool false)] by rw [Aa,CE,if_pos (by omega)];try rfl];refine⟨⟨hq0,by omega⟩,?_⟩;refine⟨⟨rfl,by simp,by omega⟩,?_⟩;rw [show (List.replicate g.z.toNat [AV.v (.bool false)]).getD (lba / g.d).toNat []=[AV.v (.bool false)] by rw [Aa,CE,if_pos (by omega)];try rfl];exact⟨1,by omega,by omega,zR (s:= [0,1]) tA⟩
 ·have ek:k=1:=by simp only [Ao,Be] at h6;omega
  subst ek;conv=>whnf
  repeat' (refine z_ ?_;conv=>whnf)
  exact⟨_,ri,rfl⟩
theorem Nw (l:List Tx) (hl:l.length<=1000000):Fn Tryz.prog 176 [Dl l] fun r=>r = iv (BX l):=by
 refine zS Tryz.func176 rfl ?_;conv=>whnf
 refine zU Nat (fun k=>([(0,Dl l),(3,iv (Gh l k)),(6,Dl l),(7,iv (l.length:Nat)),(8,iv k)], [])) (fun k=>k<=l.length) (fun k=>l.length - k) 0 (Aj _)
  (zR (s:= []) tA) ?_
 intro k hk;conv=>whnf
 refine A8 (fun h6=>?_) (fun h6=>?_) <;> (repeat rw [Ac] at h6) <;> conv=>whnf
 ·have hk':k<l.length:=by omega
  have hb:=EF l k;have hs:Gh l (k+1)=Gh l k+G3 (l.getD (k:Int).toNat ⟨0,0,0, []⟩).n:=rfl;have hn:=L1 (l.getD (k:Int).toNat ⟨0,0,0, []⟩).n;repeat' (refine z_ ?_;conv=>whnf)
  refine⟨⟨by omega,by omega⟩,?_⟩;conv=>whnf
  by_cases h0:(l.getD (k:Int).toNat ⟨0,0,0, []⟩).n>=0
  ·rw [show decide ((l.getD (k:Int).toNat ⟨0,0,0, []⟩).n>=0)=true from decide_eq_true h0];conv=>whnf
   by_cases h1:(l.getD (k:Int).toNat ⟨0,0,0, []⟩).n<=30
   ·rw [show decide ((l.getD (k:Int).toNat ⟨0,0,0, []⟩).n<=30)=true from decide_eq_true h1];have hu:G3 (l.getD (k:Int).toNat ⟨0,0,0, []⟩).n=(l.getD (k:Int).toNat ⟨0,0,0, []⟩).n:=if_pos ⟨h0,h1⟩;conv=>whnf
    exact⟨k+1,hk',by omega,zR (s:= []) ⟨⟨rfl,congrArg (fun n:Int=>AV.v (.int .i64 n)) (by rw [hs,hu,wi (by rw [<-hu];omega)]),rfl,rfl,AH (by omega),tv⟩,tv,rfl,rfl,rfl,rfl,rfl⟩⟩
   ·rw [show decide ((l.getD (k:Int).toNat ⟨0,0,0, []⟩).n<=30)=false from decide_eq_false h1];have hu:G3 (l.getD (k:Int).toNat ⟨0,0,0, []⟩).n=0:=if_neg fun h=>h1 h.2
    exact⟨k+1,hk',by omega,zR (s:= []) ⟨⟨rfl,congrArg (fun n:Int=>AV.v (.int .i64 n)) (by rw [hs,hu,Int.add_zero]),rfl,rfl,AH (by omega),tv⟩,tv,rfl,rfl,rfl,rfl,rfl⟩⟩
  ·rw [show decide ((l.getD (k:Int).toNat ⟨0,0,0, []⟩).n>=0)=false from decide_eq_false h0];have hu:G3 (l.getD (k:Int).toNat ⟨0,0,0, []⟩).n=0:=if_neg fun h=>h0 h.1
   exact⟨k+1,hk',by omega,zR (s:= []) ⟨⟨rfl,congrArg (fun n:Int=>AV.v (.int .i64 n)) (by rw [hs,hu,Int.add_zero]),rfl,rfl,AH (by omega),tv⟩,tv,rfl,rfl,rfl,rfl,rfl⟩⟩
 ·have ek:k=l.length:=by omega
  subst ek;exact⟨_,ri,rfl⟩
theorem TJ (g:Geo) (a:An) (l:List Tx) (hg:Bp g=true) (ha:Bu g a=true) (hr:C7 g l a.seq a.pos g.sl=true) (hl:l.length<=1000000) (hi:∀ t∈l,t.images.length<=1000000/\∀ x∈t.images,x.bytes.length<=100000) (hla:a.label.size<=1000000) (hh:a.homes.length<=1000000) (hs:a.seq+(l.length:Int)<=4294967295):Fn Tryz.prog 108 [.ag (AT g), .ag (ED a),Dl l] fun r=>r = .tp [iv ((a.pos+BX l).tmod g.sl),iv (a.seq+l.length),iv 0]:=by
 obtain⟨g1,g2,g3,g4,g5⟩:=As.1 hg;have hu:=Nw l hl;have hb:=EF l l.length;have hc:=J8 g a l hla hh hl hi;rw [hg,ha,hr] at hc;have hp:(1<=a.seq/\a.seq<=4294967295)/\(0<=a.pos/\a.pos<g.sl):=by
  simp only [Bu,AX,B7,Bx,Ad,decide_eq_true_eq,AF] at ha;omega
 have hw:IntKind.i64.wrap (a.seq+(l.length:Int))=a.seq+l.length:=wi (by omega);have ixA:g.sl≠0:=by omega
 refine zS Tryz.func108 rfl ?_;conv=>whnf
 refine zZ hc ?_;conv=>whnf
 apply zP tys_ok mixed (.o [0,1,2,5,6,8,9,10,11,12,3,4,7,13,14] .fin) [6,7,16,17,18,19,20,21,22,23,24,25,26,27,28] (by kernel_rfl)
 ·conv=>whnf
  refine zZ hu ?_;conv=>whnf
  try (refine Af (by first | omega | exact ixA | exact ixB | (simp;done)) ?_;conv=>whnf)
  exact tA
 conv=>whnf
 rw [hw];rw [show decide (a.seq+(l.length:Int) > 4294967295)=false from decide_eq_false (by omega)];conv=>whnf
 exact⟨_,ri,by rw [wi (n:=a.pos+BX l) (by unfold BX;omega)]⟩
def GD (g:Geo):Int:=1+g.sl+g.z*(2+g.d)
theorem L5 {g:Geo} (hg:Bp g=true):18<=GD g/\GD g<=55/\(3<=g.z*(2+g.d)/\g.z*(2+g.d)<=24):=by
 obtain⟨g1,g2,g3,g4,g5⟩:=As.1 hg;have h1:g.z*(2+g.d)<=4*6:=Int.mul_le_mul (by omega) (by omega) (by omega) (by omega);have h2:1*3<=g.z*(2+g.d):=Int.mul_le_mul (by omega) (by omega) (by omega) (by omega);unfold GD;omega
theorem Vr (g:Geo) (hg:Bp g=true):Fn Tryz.prog 54 [.ag (AT g)] fun r=>r = iv (GD g):=by
 obtain⟨g1,g2,g3,g4,g5⟩:=As.1 hg;have hu:=L5 hg;have w:IntKind.i64.wrap (IntKind.i64.wrap (1+g.sl)+IntKind.i64.wrap (g.z*IntKind.i64.wrap (2+g.d)))=GD g:=by
  rw [wi (n:=2+g.d) (by omega),wi (n:=g.z*(2+g.d)) (by omega),wi (n:=1+g.sl) (by omega)];exact wi (by unfold GD at hu;omega)
 refine zS Tryz.func54 rfl ?_;exact⟨_,ri,by rw [w]⟩
def Ih (n:Int) (l:List Int) (i:Nat):Bool:=decide (0<=l.getD i 0)&&(decide (l.getD i 0<n)&&(decide (i=0) || decide (l.getD (i - 1) 0<l.getD i 0)))
def GI (n:Int) (l:List Int):Bool:=(List.range l.length).all (Ih n l)
theorem N7 {n:Int} {l:List Int} {k:Nat} (h:(List.range k).all (Ih n l)=true) (e:Ih n l k=true):(List.range (k+1)).all (Ih n l)=true:=by
 rw [Bd,Dj,h,Bw,AX,e];try rfl
theorem SQ {n:Int} {l:List Int} {k:Nat} (hk:k<l.length) (e:Ih n l k=false):GI n l=false:=by
 rw [GI,<-BJ,Au];intro h;rw [h k (AP.2 hk)] at e;cases e
def Et (g:Geo) (s:Stt):Bool:=GI (g.z*g.d) s.lost&&(decide (0<=s.found)&&(decide (0<=s.fixed)&&decide (0<=s.moved)))
def bE (s:Stt):List AV:= [iv s.found,iv s.fixed,iv s.moved,iA s.lost]
theorem Sm (g:Geo) (s:Stt) (hg:Bp g=true) (hl:s.lost.length<=1000000):Fn Tryz.prog 55 [.ag (AT g), .ag (bE s)] fun r=>r = .v (.bool (Et g s)):=by
 obtain⟨g1,g2,g3,g4,g5⟩:=As.1 hg;have hm1:g.z*g.d<=4*4:=Int.mul_le_mul (by omega) (by omega) (by omega) (by omega);have hm0:0<=g.z*g.d:=CL (by omega) (by omega);have wm:IntKind.i64.wrap (g.z*g.d)=g.z*g.d:=wi (by omega);refine zS Tryz.func55 rfl ?_;conv=>whnf
 refine zU Nat (fun k=>([(2, .bp 0 0),(3, .bp 1 0),(8,iA s.lost),(9,iv s.lost.length),(10,iv k)], [.box 23 (AT g), .box 37 (bE s)])) (fun k=>k<=s.lost.length/\(List.range k).all (Ih (g.z*g.d) s.lost)=true) (fun k=>s.lost.length - k) 0 ⟨Aj _,rfl⟩
  (zR (s:= [0,1]) tA) ?_
 rintro k ⟨hk,hI⟩;conv=>whnf
 refine A8 (fun h6=>?_) (fun h6=>?_) <;> (repeat rw [Ac] at h6) <;> conv=>whnf
 ·have hk':k<s.lost.length:=by omega
  have hno:=SQ (n:=g.z*g.d) hk';have hyes:=N7 hI (n:=g.z*g.d) (l:=s.lost);unfold Ih at hno hyes;repeat' (refine z_ ?_;conv=>whnf)
  refine⟨⟨by omega,by omega⟩,?_⟩;conv=>whnf
  repeat' (refine z_ ?_;conv=>whnf)
  rw [Ac];refine A8 (fun q1=>?_) (fun q1=>?_)
  ·conv=>whnf
   exact⟨_,ri,by rw [Et,hno (by rw [<-BJ];simp only [Ad,Co,decide_eq_true_eq];omega),Cn]⟩
  ·conv=>whnf
   rw [wm];refine A8 (fun q2=>?_) (fun q2=>?_)
   ·conv=>whnf
    exact⟨_,ri,by rw [Et,hno (by rw [<-BJ];simp only [Ad,Co,decide_eq_true_eq];omega),Cn]⟩
   ·conv=>whnf
    have wk:IntKind.i64.wrap ((k:Int) - 1)=(k:Int) - 1:=wi (by omega);refine A8 (fun q3=>?_) (fun q3=>?_)
    ·conv=>whnf
     rw [wk];refine⟨⟨by omega,by omega⟩,?_⟩;conv=>whnf
     rw [show ((k:Int) - 1).toNat=k - 1 by omega];refine A8 (fun q4=>?_) (fun q4=>?_)
     ·conv=>whnf
      exact⟨_,ri,by rw [Et,hno (by rw [<-BJ];simp only [Ad,Co,decide_eq_true_eq];omega),Cn]⟩
     ·conv=>whnf
      exact⟨k+1,⟨hk',hyes (by simp only [Ad,Co,decide_eq_true_eq];omega)⟩,by omega,zR (s:= [0,1]) ⟨⟨rfl,rfl,rfl,rfl,AH (by omega),tv⟩,tA,rfl,rfl,rfl,rfl,rfl⟩⟩
    ·conv=>whnf
     exact⟨k+1,⟨hk',hyes (by simp only [Ad,Co,decide_eq_true_eq];omega)⟩,by omega,zR (s:= [0,1]) ⟨⟨rfl,rfl,rfl,rfl,AH (by omega),tv⟩,tA,rfl,rfl,rfl,rfl,rfl⟩⟩
 ·have ek:k=s.lost.length:=by omega
  have hlo:GI (g.z*g.d) s.lost=true:=by rw [GI,<-ek];exact hI
  refine⟨_,fun _ _ h=>h,?_⟩;rw [Et,hlo,Bw];refine congrArg (fun b=>AV.v (.bool b)) ?_;rw [CN];simp only [Ad,decide_eq_true_eq];repeat' split
  all_goals omega
def LF (g:Geo) (d:Dk) (s:Stt):Bool:=Bp g&&((MT d&&decide ((d.cells.length:Int)=Ay g))&&(((Bp g&&Bu g s.a)&&C7 g s.txns s.a.seq s.a.pos g.sl)&&(decide (0<=s.cursor)&&(decide (s.cursor<GD g)&&Et g s))))
structure StBig (s:Stt):Prop where
 l:s.a.label.size<=1000000
 h:s.a.homes.length<=1000000
 t:s.txns.length<=1000000/\∀ t∈s.txns,t.images.length<=1000000/\∀ x∈t.images,x.bytes.length<=100000
 o:s.lost.length<=1000000
theorem Oc (g:Geo) (d:Dk) (s:Stt) (h1:d.cells.length<=1000000) (h2:d.cache.length<=1000000) (hs:StBig s):Fn Tryz.prog 18 [.ag (AT g), .ag (EN d), .ag (EB s)] fun r=>r = .v (FQ (LF g d s)):=by
 have hG:Fn Tryz.prog 51 [.ag (AT g)] fun r=>r = .v (FQ (Bp g)):=DV g.z g.d g.sp g.sl g.an
 unfold LF;cases hg:Bp g with
 | false=>
  rw [hg] at hG;refine zS Tryz.func18 rfl ?_;conv=>whnf
  refine zZ hG ?_;exact⟨_,ri,rfl⟩
 | true=>
  rw [hg] at hG;have hz:=V5 g d hg h1 h2;have hr:=J8 g s.a s.txns hs.l hs.h hs.t.1 hs.t.2;rw [hg] at hr;have hu:=Vr g hg;have hh:=Sm g s hg hs.o;generalize (MT d&&decide ((d.cells.length:Int)=Ay g))=Z at hz |-
  generalize ((true&&Bu g s.a)&&C7 g s.txns s.a.seq s.a.pos g.sl)=R at hr |-
  generalize Et g s=Q at hh |-
  generalize GD g=U at hu |-
  cases Z with
  | false=>
   refine zS Tryz.func18 rfl ?_;conv=>whnf
   refine zZ hG ?_;conv=>whnf
   refine zZ hz ?_;exact⟨_,ri,rfl⟩
  | true=>
   cases R with
   | false=>
    refine zS Tryz.func18 rfl ?_;conv=>whnf
    refine zZ hG ?_;conv=>whnf
    refine zZ hz ?_;conv=>whnf
    refine zZ hr ?_;exact⟨_,ri,rfl⟩
   | true=>
    refine zS Tryz.func18 rfl ?_;conv=>whnf
    refine zZ hG ?_;conv=>whnf
    refine zZ hz ?_;conv=>whnf
    refine zZ hr ?_;conv=>whnf
    refine zM tys_ok mixed (by kernel_rfl) ?_;conv=>whnf
    refine A8 (fun q1=>?_) (fun q1=>?_)
    ·conv=>whnf
     exact⟨_,ri,by rw [decide_eq_false (by omega)];try rfl⟩
    ·conv=>whnf
     refine zZ hu ?_;conv=>whnf
     refine A8 (fun q2=>?_) (fun q2=>?_)
     ·conv=>whnf
      exact⟨_,ri,by rw [decide_eq_true (p:=0<=s.cursor) (by omega),decide_eq_false (p:=s.cursor<U) (by omega)];try rfl⟩
     ·conv=>whnf
      refine zZ hh ?_;conv=>whnf
      rw [decide_eq_true (p:=0<=s.cursor) (by omega),decide_eq_true (p:=s.cursor<U) (by omega)];cases Q with
      | false=>exact⟨_,ri,rfl⟩
      | true=>exact⟨_,ri,rfl⟩
theorem Wz (n:Int) (l:List Int) (k:Nat):Ih n l k=(CH (l.getD k 0) 0 (n - 1)&&!(decide (0<k)&&decide (l.getD k 0<=l.getD (k - 1) 0))):=by
 unfold Ih CH;rw [CN];simp only [Ad,Co,Bl,Bool.and_eq_false_iff,decide_eq_true_eq,decide_eq_false_iff_not];omega
theorem Yl (l:List Int) (n:Int) (hl:l.length<=1000000) (hn : -1000000<=n/\n<=1000000):Fn Tryz.prog 15 [iA l,iv n] fun r=>r = .v (.bool (GI n l&&decide (0<l.length))):=by
 have wn:IntKind.i64.wrap (n - 1)=n - 1:=wi (by omega);refine zS Tryz.func15 rfl ?_;conv=>whnf
 refine zU Nat (fun k=>([(0,iA l),(1,iv n),(4, .v (.bool false)),(5,iv k)], [])) (fun k=>k<=l.length/\(List.range k).all (Ih n l)=true) (fun k=>l.length - k) 0 ⟨Aj _,rfl⟩
  (zR (s:= []) tA) ?_
 rintro k ⟨hk,hI⟩;conv=>whnf
 refine A8 (fun h6=>?_) (fun h6=>?_) <;> (repeat rw [Ac] at h6) <;> conv=>whnf
 ·have hk':k<l.length:=by omega
  have hin:=Hv (l.getD (k:Int).toNat 0) 0 (IntKind.i64.wrap (n - 1));have hno:=SQ (n:=n) hk';have hyes:=N7 hI (n:=n) (l:=l);rw [Wz _ _ _] at hno hyes;repeat' (refine z_ ?_;conv=>whnf)
  apply zW (0) tys_ok mixed (.o [0,1,2,3,4,5,6,7,8,9,10,11,12,13,14,15,16,17,18,19,20,21,22,23] .fin) (by kernel_rfl);conv=>whnf
  try (refine tI ?_;conv=>whnf)
  refine zZ hin ?_;conv=>whnf
  try (refine tI ?_;conv=>whnf)
  try (refine tI ?_;conv=>whnf)
  rw [Ac,wn];cases hq:CH (l.getD k 0) 0 (n - 1) with
  | false=>
   exact⟨_,ri,by rw [hno (by rw [hq,Cn]),Cn]⟩
  | true=>
   have wk:0<k->IntKind.i64.wrap ((k:Int) - 1)=(k:Int) - 1:=fun h=>wi (by omega)
   conv=>whnf
   refine A8 (fun q3=>?_) (fun q3=>?_)
   ·refine⟨⟨by omega,by omega⟩,?_⟩;conv=>whnf
    rw [wk (by omega)];refine⟨⟨by omega,by omega⟩,?_⟩;conv=>whnf
    rw [Ac,show ((k:Int) - 1).toNat=k - 1 by omega];refine A8 (fun q4=>?_) (fun q4=>?_)
    ·conv=>whnf
     exact⟨_,ri,by rw [hno (by rw [hq,Bw,decide_eq_true (show 0<k by omega),decide_eq_true q4];try rfl),Cn]⟩
    ·conv=>whnf
     exact⟨k+1,⟨hk',hyes (by rw [hq,Bw,decide_eq_false (Int.not_le.2 q4),Bool.and_false];try rfl)⟩,by omega,zR (s:= []) ⟨⟨rfl,rfl,rfl,AH (by omega),tv⟩,tv,rfl,rfl,rfl,rfl,rfl⟩⟩
   ·conv=>whnf
    exact⟨k+1,⟨hk',hyes (by rw [hq,Bw,decide_eq_false (show ¬0<k by omega),Cn];try rfl)⟩,by omega,zR (s:= []) ⟨⟨rfl,rfl,rfl,AH (by omega),tv⟩,tv,rfl,rfl,rfl,rfl,rfl⟩⟩
 ·have ek:k=l.length:=by omega
  have hlo:GI n l=true:=by rw [GI,<-ek];exact hI
  exact⟨_,ri,by rw [hlo,Bw];exact congrArg (fun b=>AV.v (.bool b)) (by rw [CN];simp only [decide_eq_true_eq];omega)⟩


def sumT:List Tx->Int
 | []=>0
 | t::r=>t.n+sumT r
theorem sumT_app:∀ l m:List Tx,sumT (l ++ m)=sumT l+sumT m
 | [],m=>by simp [sumT]
 | t::r,m=>by
  show t.n+sumT (r ++ m)=_;rw [sumT_app r m,sumT];omega
theorem Nf {l:List Tx} (h:∀ t∈l,0<=t.n/\t.n<=30):∀ k:Nat,k<=l.length->Gh l k=sumT (l.take k)
 | 0,_=>by simp [Gh,sumT]
 | k+1,hk=>by
  have e:l.take (k+1)=l.take k ++ [l.getD k tz]:=by
   rw [AR,Ae (by omega),Aa,Ae (by omega)];try rfl
  have hm:=h _ (A6 (d:=tz) (show k<l.length by omega));rw [Gh,Nf h k (by omega),e,sumT_app,G3,if_pos hm];simp [sumT]
theorem To {l:List Tx} (h:∀ t∈l,0<=t.n/\t.n<=30):BX l=sumT l:=by
 have:=Nf h l.length (Ah _);rwa [Aw] at this
theorem Tv {p n s q:Int} (hs:0<s) (hp:0<=p) (hn:0<=n) (hq:0<=q):((p+n).tmod s+q).tmod s=(p+(n+q)).tmod s:=by
 have h1:0<=(p+n).tmod s:=Bk _ (by omega);rw [CK (a:=p+n) (by omega)] at h1 |-
 rw [CK (by omega),CK (by omega),Int.emod_add_emod,Int.add_assoc]
theorem XO {l:List Tx} (h:∀ t∈l,0<=t.n/\t.n<=30):0<=sumT l:=by
 induction l with
 | nil=>simp [sumT]
 | cons t r ih=>
  have:=h t (by simp);have:=ih fun x hx=>h x (Ba _ hx)
  rw [sumT];omega
theorem GQ {g:Geo} (hg:Bp g=true):∀ {l:List Tx} {seq pos left:Int},left<=g.sl->C7 g l seq pos left=true->(∀ t∈l,0<=t.n/\t.n<=30)/\sumT l<=max left 0
 | [],_,_,left,_,_=>⟨by simp,by simp [sumT];omega⟩
 | t::r,seq,pos,left,hl,h=>by
  obtain⟨g1,g2,g3,g4,g5⟩:=As.1 hg;simp only [C7,Ad,decide_eq_true_eq] at h;obtain⟨⟨h1,h2,h3,h4,h5,h6,h7⟩,h8⟩:=h;have ih:=GQ hg (by omega) h8;refine⟨fun x hx=>?_,?_⟩
  ·rcases AQ.1 hx with rfl | hx
   ·omega
   ·exact ih.1 x hx
  ·rw [sumT];have:=ih.2;omega
theorem KC {g:Geo} (hg:Bp g=true) {x:Tx}:∀ {l:List Tx} {seq pos left:Int},0<=pos->pos<g.sl->left<=g.sl->C7 g l seq pos left=true->x.seq=seq+l.length->x.seq<=4294967295->x.pos=(pos+sumT l).tmod g.sl->2<=x.n->x.n<=left - sumT l->x.n=x.images.length+1->x.images.all (Bz g)=true->C7 g (l ++ [x]) seq pos left=true
 | [],seq,pos,left,h0,h1,_,_,e1,e2,e3,e4,e5,e6,e7=>by
  have e3':x.pos=pos:=by
   rw [e3,show sumT []=0 from rfl,Int.add_zero,CK h0,Int.emod_eq_of_lt h0 h1]
  simp only [Be] at e1;have e1':x.seq=seq:=by omega
  have e5':x.n<=left:=by have:sumT []=0:=rfl;omega
  show (decide (x.seq=seq)&&(decide (x.seq<=4294967295)&&(decide (x.pos=pos)&&(decide (2<=x.n)&&(decide (x.n<=left)&&(decide (x.n=x.images.length+1)&&x.images.all (Bz g)))))))&&true=true;rw [decide_eq_true e1',decide_eq_true e2,decide_eq_true e3',decide_eq_true e4,decide_eq_true e5',decide_eq_true e6,e7];try rfl
 | t::r,seq,pos,left,h0,h1,hl,h,e1,e2,e3,e4,e5,e6,e7=>by
  obtain⟨g1,g2,g3,g4,g5⟩:=As.1 hg;have hh:=h;simp only [C7,Ad,decide_eq_true_eq] at hh;obtain⟨⟨q1,q2,q3,q4,q5,q6,q7⟩,q8⟩:=hh;have hin:=(GQ hg (by omega) q8).1;have hnn:=XO hin;have hp0:0<=(pos+t.n).tmod g.sl:=Bk _ (by omega);have hp1:(pos+t.n).tmod g.sl<g.sl:=AY _ (by omega);rw [sumT] at e3 e5;have ih:=KC hg (x:=x) hp0 hp1 (by omega) q8 (by rw [e1];simp only [Ao];omega) e2 (by rw [e3,Tv (by omega) h0 (by omega) hnn]) e4 (by omega) e6 e7;show (_&&C7 g (r ++ [x]) (seq+1) ((pos+t.n).tmod g.sl) (left - t.n))=true;rw [ih,Bx];simp only [C7,Ad] at h;simpa using h.1
def CR (ats:List Int) (bs:List (List UInt8)) (i:Nat):Nat->Option (List UInt8)
 | 0=>none
 | k+1=>if ats.getD k 0=(i:Int) then some (bs.getD k []) else CR ats bs i k
def FO (g:Geo) (t:List Ent) (had:List (List UInt8)) (ats:List Int) (bs:List (List UInt8)) (i:Nat):List UInt8:=match CR ats bs i ats.length with
 | some b=>b
 | none=>BL g t had i
def IF (g:Geo) (t:List Ent) (had:List (List UInt8)) (ats:List Int) (bs:List (List UInt8)) (stamp:Int) (i:Nat):Ent:=
 let e:Ent:=match CR ats bs i ats.length with
  | some b=>⟨stamp,(C4 b:Nat),false⟩
  | none=>t.getD i ez
 if (FO g t had ats bs i).length=0 then { e with lost:=true } else e
def DA (g:Geo) (t:List Ent) (had:List (List UInt8)) (ats:List Int) (bs:List (List UInt8)):Nat->List UInt8
 | 0=>zero8
 | k+1=>if (FO g t had ats bs k).length=0 then DA g t had ats bs k else Fb (DA g t had ats bs k) (FO g t had ats bs k)
def Br (g:Geo) (t:List Ent) (had:List (List UInt8)) (ats:List Int) (bs:List (List UInt8)) (stamp:Int):List Ent:=(List.range g.d.toNat).map (IF g t had ats bs stamp) ++ [⟨stamp,(C4 (DA g t had ats bs g.d.toNat):Nat),false⟩]
def BU (z:Int) (t:List Ent) (par:List UInt8) (ats:List Int) (bs:List (List UInt8)):List Img:=((List.range ats.length).map fun i=>⟨z,ats.getD i 0,bs.getD i []⟩) ++ [⟨z, -1,par⟩,⟨z,255,CW t⟩]
theorem Iq (b:List UInt8):C4 b<=4294967295:=by unfold C4;omega
theorem Gf (a b:List UInt8):(Fb a b).length=min a.length b.length:=by simp [Fb]
theorem Ib {t:List Ent} {had:List (List UInt8)} {at_:Nat} (hh:∀ b∈had,b.length=0\/b.length=8):∀ (k:Nat) (b:List UInt8),DG t had at_ k=some b->b.length=8
 | 0,b,h=>by
  obtain rfl:=Option.some.inj h;rfl
 | k+1,b,h=>by
  rw [DG] at h;cases hk:DG t had at_ k with
  | none=>rw [hk] at h;cases h
  | some c=>
   rw [hk] at h;have ih:=Ib hh k c hk;simp only at h;split at h
   ·obtain rfl:=Option.some.inj h;exact ih
   ·split at h
    ·cases h
    ·rename_i h0;obtain rfl:=Option.some.inj h;have hm:(had.getD k []).length=8:=by
      by_cases hk':k<had.length
      ·rcases hh _ (A6 (d:= []) hk') with q | q
       ·exact absurd q h0
       ·exact q
      ·rw [Aa,AG (by omega)] at h0;exact absurd rfl h0
     rw [Gf,ih,hm];try rfl
theorem RO {g:Geo} {t:List Ent} {had:List (List UInt8)} (hh:∀ b∈had,b.length=0\/b.length=8) (i:Nat):(BL g t had i).length=0\/(BL g t had i).length=8:=by
 unfold BL;split
 ·exact .inl rfl
 ·split
  ·rename_i h0;by_cases hk':i<had.length
   ·exact hh _ (A6 (d:= []) hk')
   ·rw [Aa,AG (by omega)] at h0;exact absurd h0 (by simp)
  ·cases ho:DG t had i (g.d.toNat+1) with
   | none=>exact .inl rfl
   | some b=>
    simp only;split
    ·exact .inr (Ib hh _ _ ho)
    ·exact .inl rfl
section
variable {g:Geo} {t:List Ent} {had:List (List UInt8)} {ats:List Int} {bs:List (List UInt8)}
theorem Kf (hb:∀ b∈bs,b.length=8) (hl:ats.length<=bs.length) {i:Nat}:∀ (k:Nat) (b:List UInt8),k<=ats.length->CR ats bs i k=some b->b.length=8
 | k+1,b,hk,h=>by
  rw [CR] at h;split at h
  ·obtain rfl:=Option.some.inj h;exact hb _ (A6 (d:= []) (by omega))
  ·exact Kf hb hl k b (by omega) h
theorem Me (hh:∀ b∈had,b.length=0\/b.length=8) (hb:∀ b∈bs,b.length=8) (hl:ats.length<=bs.length) (i:Nat):(FO g t had ats bs i).length=0\/(FO g t had ats bs i).length=8:=by
 unfold FO;cases hp:CR ats bs i ats.length with
 | none=>exact RO hh i
 | some b=>exact .inr (Kf hb hl _ b (Ah _) hp)
theorem EI (hh:∀ b∈had,b.length=0\/b.length=8) (hb:∀ b∈bs,b.length=8) (hl:ats.length<=bs.length):∀ k:Nat,(DA g t had ats bs k).length=8
 | 0=>rfl
 | k+1=>by
  have ih:=EI hh hb hl k;rw [DA];split
  ·exact ih
  ·rename_i h0;rcases Me (g:=g) (t:=t) hh hb hl k with q | q
   ·exact absurd q h0
   ·rw [Gf,ih,q];try rfl
theorem EU (hg:Bp g=true) (ht:FX g t=true) {stamp:Int} (hs:0<=stamp/\stamp<=4294967295):FX g (Br g t had ats bs stamp)=true:=by
 obtain⟨g1,g2,g3,g4,g5⟩:=As.1 hg;have hsum:∀ b:List UInt8,HJ ((C4 b:Nat):Int)=true:=fun b=>AF.2 (by have:=Iq b;omega)
 have hst:HJ stamp=true:=AF.2 hs;have hl:(Br g t had ats bs stamp).length=g.d.toNat+1:=by simp [Br]
 rw [FX,hg] at ht;simp only [Bw,Ad,decide_eq_true_eq,Bl] at ht;obtain⟨⟨t1,t2⟩,t3⟩:=ht;rw [FX,hg,decide_eq_true (by rw [hl];omega)];have hall:(Br g t had ats bs stamp).all DR=true:=by
  rw [Au];intro x hx;simp only [Br,A0,AK,AP,AC] at hx;rcases hx with ⟨i,hi,rfl⟩ | rfl
  ·have he:∀ e:Ent,DR e=true->DR { e with lost:=true }=true:=fun e h=>h
   have h0:DR (match CR ats bs i ats.length with | some b=>(⟨stamp,(C4 b:Nat),false⟩:Ent) | none=>t.getD i ez)=true:=by
    cases CR ats bs i ats.length with
    | some b=>simp only [DR,hst,hsum,Bool.and_self]
    | none=>exact Au.1 t2 _ (A6 (d:=ez) (by omega))
   unfold IF;simp only;split
   ·exact he _ h0
   ·exact h0
  ·simp only [DR,hst,hsum,Bool.and_self]
 rw [hall];have hla:GJ (Br g t had ats bs stamp) g.d.toNat=false:=by
  unfold GJ Br;rw [A2 (by simp)];simp
 rw [hla];try rfl
end
theorem RY {x:Ent} (h:DR x=true) (r:List UInt8):IR (Jp x ++ r)=x:=by
 obtain⟨a,s,l⟩:=x;simp only [DR,HJ,Ad,AF] at h;have hn:nums [4,4,1] (rowB [a,s,De l] [4,4,1] ++ r)=[a,s,De l]:=nums_rowB [a,s,De l] [4,4,1] r rfl (fun k h1 _=>by
  match k,h1 with
  | 0,_=>exact⟨.inr (.inr rfl),h.1.1,by show a<4294967296;omega⟩
  | 1,_=>exact⟨.inr (.inr rfl),h.2.1,by show s<4294967296;omega⟩
  | 2,_=>exact⟨.inl rfl,by show 0<=De l;unfold De;split <;> decide,by show De l<256;unfold De;split <;> decide⟩)
 unfold IR Jp;rw [hn];cases l <;> rfl
theorem entsOf_tblB:∀ (t:List Ent),(∀ e∈t,DR e=true)->entsOf t.length (CW t)=t
 | [],_=>rfl
 | e::t,h=>by
  have e1:CW (e::t)=Jp e ++ CW t:=by simp [CW]
  have e2:(Jp e ++ CW t).drop 9=CW t:=by
   rw [List.drop_append_of_le_length (by rw [JN];exact Ah _),AE (by rw [JN];exact Ah _)];try rfl
  show IR (CW (e::t))::entsOf t.length ((CW (e::t)).drop 9)=e::t;rw [e1,e2,RY (h e (by simp)),entsOf_tblB t fun x hx=>h x (Ba _ hx)]
theorem IZ {g:Geo} {t:List Ent} (ht:FX g t=true):BT g (CW t)=some t:=by
 have hh:=ht;simp only [FX,Ad,decide_eq_true_eq,Au] at hh;obtain⟨⟨⟨_,t1⟩,t2⟩,_⟩:=hh;have e:(g.d+1).toNat=t.length:=by omega
 unfold BT;rw [e,entsOf_tblB t t2,if_pos ⟨ht,rfl⟩]
def OneTab (l:List Img):Prop:=l.Pairwise fun x y=>x.what=255->y.what=255->x.zone≠y.zone
theorem Es (z:Int) (t:List Ent) (par:List UInt8) (ats:List Int) (bs:List (List UInt8)):(BU z t par ats bs).length=ats.length+2:=by simp [BU]
theorem Jj {g:Geo} (hg:Bp g=true) {z:Int} (hz:0<=z/\z<g.z) {t:List Ent} (ht:FX g t=true) {par:List UInt8} (hp:par.length=8) {ats:List Int} (ha:∀ a∈ats,0<=a/\a<g.d) {bs:List (List UInt8)} (hb:∀ b∈bs,b.length=8) (hl:ats.length<=bs.length):∀ x∈BU z t par ats bs,Bz g x=true/\x.zone=z:=by
 obtain⟨g1,g2,g3,g4,g5⟩:=As.1 hg;have hz':CH z 0 (g.z - 1)=true:=AF.2 (by omega);intro x hx;simp only [BU,A0,AK,AP,AQ,Du,or_false] at hx;rcases hx with ⟨i,hi,rfl⟩ | rfl | rfl
 ·have h1:=ha _ (A6 (d:=0) hi);have h2:=hb _ (A6 (d:= []) (show i<bs.length by omega));refine⟨?_,rfl⟩;simp only [Bz,hg,hz',Bw];rw [if_neg (by omega),AF.2 (show -1<=ats.getD i 0/\ats.getD i 0<=g.d - 1 by omega),decide_eq_true h2];try rfl
 ·refine⟨?_,rfl⟩;simp only [Bz,hg,hz',Bw];rw [if_neg (by decide),AF.2 (show (-1:Int)<= -1/\(-1:Int)<=g.d - 1 by omega),decide_eq_true hp];try rfl
 ·refine⟨?_,rfl⟩;simp only [Bz,hg,hz',Bw];rw [if_pos trivial,IZ ht];try rfl
theorem Il {g:Geo} (hg:Bp g=true) {l:List Img} {z:Int} (hl:OneTab l) (hz:∀ x∈l,x.zone<z) {t:List Ent} {par:List UInt8} {ats:List Int} (ha:∀ a∈ats,0<=a/\a<g.d) {bs:List (List UInt8)}:OneTab (l ++ BU z t par ats bs):=by
 obtain⟨g1,g2,g3,g4,g5⟩:=As.1 hg;have hw:∀ x∈(List.range ats.length).map (fun i=>(⟨z,ats.getD i 0,bs.getD i []⟩:Img)),x.what≠255:=by
  intro x hx;obtain⟨i,hi,rfl⟩:=AK.1 hx;have:=ha _ (A6 (d:=0) (AP.1 hi));show ats.getD i 0≠255;omega
 refine List.pairwise_append.2 ⟨hl,List.pairwise_append.2 ⟨List.Pairwise.imp_of_mem (R:=fun _ _=>True) (fun hx _ _ h=>absurd h (hw _ hx)) (List.pairwise_of_forall (fun _ _=>trivial)),?_,fun x hx y _ h=>absurd h (hw _ hx)⟩,fun x hx y hy _ _=>?_⟩
 ·refine List.pairwise_cons.2 ⟨fun y _ h=>absurd (show (-1:Int)=255 from h) (by decide),List.pairwise_singleton _ _⟩
 ·have h1:=hz x hx;have h2:y.zone=z:=by
   simp only [BU,A0,AK,AP,AQ,Du,or_false] at hy;rcases hy with ⟨i,_,rfl⟩ | rfl | rfl <;> rfl
  omega
@[reducible] def Z1 (g:Geo) (x:AV) (s:Stt) (e:Int):List AV:= [iv g.z,iv g.d,iv g.sp,iv g.sl,iv g.an,x,iv s.a.gen,iv s.a.epoch,iv s.a.pos,iv s.a.seq,iv s.a.last, .v (.string s.a.label),Jk s.a.homes,Dl s.txns, .v (.bool s.only),iv s.cursor,iv s.found,iv s.fixed,iv s.moved,iA s.lost,iv e]
@[reducible] def J5 (g:Geo) (s:Stt) (e:Int) (d:Dk):List AB:= [.box 83 (Z1 g (.bp 1 0) s e), .box 85 (He (.ow 2 d.cells.length) (.ow 3 d.cache.length) d.reqs d.left), .row 128 3 (d.cells.map BE), .row 134 2 (d.cache.map EE)]
@[reducible] def Nr (g:Geo) (s:Stt) (e:Int) (d:Dk):List AB:= [.box 83 (Z1 g (.bp 1 0) s e), .box 85 (He (.ow 2 d.cells.length) (.ow 4 d.cache.length) d.reqs d.left), .row 128 3 (d.cells.map BE), .dead, .row 134 2 (d.cache.map EE)]
@[reducible] def aV (g:Geo) (s:Stt) (e:Int) (d:Dk) (l:List AB):List AB:= .box 83 (Z1 g (.bp 1 0) s e):: .box 85 (He (.ow 2 d.cells.length) (.ow 3 d.cache.length) d.reqs d.left):: .row 128 3 (d.cells.map BE):: .row 134 2 (d.cache.map EE)::l
theorem Z0 (g:Geo) (s:Stt) (e:Int) (d:Dk):ConvH (J5 g s e d) (Nr g s e d):=zv (H:=J5 g s e d) 1 3 (by decide) rfl rfl
theorem YA (e:Int):∀ (c:Ctx) (v:Value),Rd (.ag [iv e, .v (.slice none 0 0)]) c v->Rd (.ag (Dz ⟨e, []⟩)) c v:=Bi ⟨ri,Bh 1 _,tv⟩
theorem Z3 (g:Geo) (s:Stt) (e:Int) (d:Dk) (a:Int) (he:e≠0) :
  ACalls Tryz.prog false 79 [.bp 0 0,iv a] (J5 g s e d) fun r H=>r = .ag (Dz ⟨8, []⟩)/\H=J5 g s e d:=by
 have hb:(e != 0)=true:=bne_iff_ne.2 he;refine zT tys_ok Tryz.func79 rfl rfl (Ag rfl) ?_;conv=>whnf
 rw [hb];exact⟨_, .ag (Dz ⟨8, []⟩),J5 g s e d,YA 8,zR (s:= [0,1,2,3]) tA,rfl,rfl⟩
theorem Z2 (g:Geo) (s:Stt) (d:Dk) (a:Int) (h:DkOk d) (ha:0<=a/\a<d.cells.length) :
  ACalls Tryz.prog false 79 [.bp 0 0,iv a] (J5 g s 0 d) fun r H=>r = .ag (Dz ⟨(d.read a).2.2,(d.read a).2.1⟩)/\H=J5 g s (if d.left=0 then 8 else 0) (d.read a).1:=by
 have hr:=P8 d a h.l ha h.m (fun c hc=>by have:=(h.c c hc).2.1;omega) (fun w hw=>by have:=(h.w w hw).2;omega);have he:(d.left=0/\(d.read a).2.2=8)\/(¬d.left=0/\(d.read a).2.2≠8):=by
  unfold Dk.read;by_cases h0:d.left=0
  ·rw [if_pos h0];exact .inl ⟨h0,rfl⟩
  ·rw [if_neg h0];exact .inr ⟨h0,show (d.got a).2≠8 by have:=SX d a;omega⟩
 generalize d.read a=q at hr he |-
 obtain⟨D,b,e⟩:=q;simp only at hr he |-
 refine zT tys_ok Tryz.func79 rfl rfl (Ag rfl) ?_;conv=>whnf
 refine zd [1,2,3] hr ?_;rintro _ _ ⟨rfl,rfl⟩;rcases he with ⟨h0,rfl⟩ | ⟨h0,he⟩
 ·rw [if_pos h0];conv=>whnf
  repeat' (refine z_ ?_;conv=>whnf)
  exact⟨_, .ag (Dz ⟨8,b⟩),J5 g s 8 D,fun _ _ h=>h,zR (s:= [0,1,2,3]) tA,rfl,rfl⟩
 ·rw [if_neg h0];conv=>whnf
  repeat' (refine z_ ?_;conv=>whnf)
  refine Ak (fun h8=>absurd (by simpa using h8) he) (fun _=>?_);conv=>whnf
  repeat' (refine z_ ?_;conv=>whnf)
  exact⟨_, .ag (Dz ⟨e,b⟩),J5 g s 0 D,fun _ _ h=>h,zR (s:= [0,1,2,3]) tA,rfl,rfl⟩
theorem VA (g:Geo) (s:Stt) (e:Int) (d:Dk) (a:Int) (b:List UInt8) (he:e≠0) :
  ACalls Tryz.prog false 88 [.bp 0 0,iv a,bA b] (J5 g s e d) fun r H=>r = .v (.bool false)/\H=J5 g s e d:=by
 have hb:(e != 0)=true:=bne_iff_ne.2 he;refine zT tys_ok Tryz.func88 rfl rfl (Ag rfl) ?_;conv=>whnf
 rw [hb];exact⟨_, .v (.bool false),J5 g s e d,fun _ _ h=>h,zR (s:= [0,1,2,3]) tA,rfl,rfl⟩
theorem V9 (g:Geo) (s:Stt) (d:Dk) (a:Int) (b:List UInt8) (h:DkOk d) (ha:0<=a/\a<d.cells.length) (hb:b.length<=200) :
  ACalls Tryz.prog false 88 [.bp 0 0,iv a,bA b] (J5 g s 0 d) fun r H=>r = .v (.bool (decide ((d.write a b).2=0)))/\H=J5 g s (if (d.write a b).2=8 then 8 else 0) (d.write a b).1:=by
 have hr:=Nq d a b h.l ha h.m (by omega);have he:=JY d a b;generalize d.write a b=q at hr he |-
 obtain⟨D,e⟩:=q;simp only at hr he |-
 refine zT tys_ok Tryz.func88 rfl rfl (Ag rfl) ?_;conv=>whnf
 refine zd [1,2,3] hr ?_;rintro _ _ ⟨rfl,rfl⟩;rcases he with rfl | rfl | rfl
 all_goals
  conv=>whnf
  repeat' (refine z_ ?_;conv=>whnf)
 ·exact⟨_, .v (.bool false),J5 g s 8 D,fun _ _ h=>h,zR (s:= [0,1,2,3]) tA,rfl,rfl⟩
 ·exact⟨_, .v (.bool false),J5 g s 0 D,fun _ _ h=>h,zR (s:= [0,1,2,3]) tA,rfl,rfl⟩
 ·exact⟨_, .v (.bool true),J5 g s 0 D,fun _ _ h=>h,zR (s:= [0,1,2,3]) tA,rfl,rfl⟩
theorem VY (g:Geo) (s:Stt) (e:Int) (d:Dk) (h:DkOk d) :
  ACalls Tryz.prog false 90 [.bp 0 0] (J5 g s e d) fun r H=>r = .tp []/\H=Nr g s (if e=0 then if d.left=0 then 8 else 0 else e) (if e=0 then if d.left=0 then d else d.flush else d):=by
 have hf:=Nx d h.l h.m (fun w hw=>(h.w w hw).1) (fun w hw=>by have:=(h.w w hw).2;omega);by_cases he:e=0
 ·subst he;rw [if_pos rfl,if_pos rfl];refine zT tys_ok Tryz.func90 rfl rfl (Ag rfl) ?_;conv=>whnf
  refine zd [1,2,3] hf ?_;rintro _ _ ⟨rfl,rfl⟩;by_cases h0:d.left=0;all_goals
   simp only [h0,if_true,if_false];exact⟨_, .tp [],Nr g s _ _,fun _ _ h=>h,zR (s:= [0,1,2,3,4]) tA,rfl,rfl⟩
 ·rw [if_neg he,if_neg he];have hb:(e == 0)=false:=beq_eq_false_iff_ne.2 he;refine zT tys_ok Tryz.func90 rfl rfl (Ag rfl) ?_;conv=>whnf
  rw [hb];exact⟨_, .tp [],Nr g s e d,fun _ _ h=>h,zF (zK (Z0 g s e d)) (s:= [0,1,2,3,4]) tA,rfl,rfl⟩
theorem K3 {d:Dk} {l:List Wr} {k:Nat} (hk:k<l.length) (h:(d.writes (l.take k)).2.2=true):d.writes (l.take (k+1))=d.writes (l.take k):=by
 rw [G2 d hk,Pm _ h]
def U8 (b:Bool):Int:=if b then 8 else 0
theorem KF (g:Geo) (s:Stt) (d:Dk) (a:An) (hg:Bp g=true) (ha:Bu g a=true) (h:DkOk d) (hl:∀ w∈Bf g a,QR d.cells.length w) :
  ACalls Tryz.prog false 100 [.bp 0 0, .ag (ED a)] (J5 g s 0 d) fun r H=>r = iv ((d.writes (Bf g a)).2.1:Nat)/\H=Nr g s (U8 (d.putAll (Bf g a)).2.2) (d.putAll (Bf g a)).1:=by
 obtain⟨g1,g2,g3,g4,g5⟩:=As.1 hg;have hlen:=Ex g a;refine zT tys_ok Tryz.func100 rfl rfl (Ag rfl) ?_;conv=>whnf
 refine zU Nat (fun k=>([(0, .bp 0 0),(3, .bp 4 0),(5, .v (.int .i64 (d.writes ((Bf g a).take k)).2.1)),(6,iv k)],aV g s (U8 (d.writes ((Bf g a).take k)).2.2) (d.writes ((Bf g a).take k)).1 [.box 33 (ED a)])) (fun k=>k<=(Bf g a).length/\(d.writes ((Bf g a).take k)).2.1<=k) (fun k=>(Bf g a).length - k) 0 ⟨Aj _,Ah _⟩
  (zR (s:= [0,1,2,3,4]) tA) ?_
 rintro k ⟨hk,hnk⟩;have hd:=Ip h hl k;conv=>whnf
 refine A8 (fun h6=>?_) (fun h6=>?_) <;> (repeat rw [Ac] at h6) <;> conv=>whnf
 ·have hk':k<(Bf g a).length:=by omega
  have hm:=hl _ (A6 (d:=(⟨0, []⟩:Wr)) hk');have hrc:=LV g a k hg ha (by omega);have hlive:=fun hlv=>Lc (d:=d) hk' hlv
  have hstay:=fun hlv=>K3 (d:=d) hk' hlv
  rw [KU (by omega)] at hlive hm;generalize hX:d.writes ((Bf g a).take k)=Q at hd hlive hstay hnk |-
  obtain⟨X,N,dead⟩:=Q;simp only at hd hlive hstay hnk;repeat' (refine z_ ?_;conv=>whnf)
  refine zZ hrc ?_;conv=>whnf
  cases dead with
  | true=>
   have hx:=hstay rfl;have hc:=VA g s 8 X k (D0 a k) (by decide);refine zd [0,1,2,3] hc ?_;rintro _ _ ⟨rfl,rfl⟩;conv=>whnf
   repeat' (refine z_ ?_;conv=>whnf)
   refine⟨k+1,⟨hk',by rw [hx];simp only;omega⟩,by omega,?_⟩;rw [hx];exact zR (s:= [0,1,2,3,4]) ⟨⟨rfl,rfl,rfl,AH (by omega),tv⟩,tA,rfl,rfl,rfl,rfl,rfl⟩
  | false=>
   have hx:=hlive rfl;have hc:=V9 g s X k (D0 a k) hd.1 (by rw [hd.2];exact hm.1) hm.2;have hE:=JY X k (D0 a k);generalize hQ:X.write k (D0 a k)=Q at hc hx hE;obtain⟨D,e⟩:=Q;simp only at hx hE hc;refine zd [0,1,2,3] hc ?_;rintro _ _ ⟨rfl,rfl⟩;rcases hE with rfl | rfl | rfl
   ·have hx:d.writes ((Bf g a).take (k+1))=(D,N,true):=hx;conv=>whnf
    repeat' (refine z_ ?_;conv=>whnf)
    refine⟨k+1,⟨hk',by rw [hx];simp only;omega⟩,by omega,?_⟩;rw [hx];exact zR (s:= [0,1,2,3,4]) ⟨⟨rfl,rfl,rfl,AH (by omega),tv⟩,tA,rfl,rfl,rfl,rfl,rfl⟩
   ·have hx:d.writes ((Bf g a).take (k+1))=(D,N,false):=hx;conv=>whnf
    repeat' (refine z_ ?_;conv=>whnf)
    refine⟨k+1,⟨hk',by rw [hx];simp only;omega⟩,by omega,?_⟩;rw [hx];exact zR (s:= [0,1,2,3,4]) ⟨⟨rfl,rfl,rfl,AH (by omega),tv⟩,tA,rfl,rfl,rfl,rfl,rfl⟩
   ·have hx:d.writes ((Bf g a).take (k+1))=(D,N+1,false):=hx;conv=>whnf
    repeat' (refine z_ ?_;conv=>whnf)
    refine⟨k+1,⟨hk',by rw [hx];simp only;omega⟩,by omega,?_⟩;rw [hx];exact zR (s:= [0,1,2,3,4]) ⟨⟨rfl,rfl,(show _=AV.v (Value.int IntKind.i64 ((N+1:Nat):Int)) from AH (show N<1000000000000 by omega)),AH (by omega),tv⟩,tA,rfl,rfl,rfl,rfl,rfl⟩
 ·have ek:k=(Bf g a).length:=by omega
  subst ek;rw [Aw] at hd hnk;rw [Aw];have hpd:=FN (d:=d) (l:=Bf g a);have hpl:=EZ (d:=d) (l:=Bf g a);generalize d.writes (Bf g a)=Q at hpd hpl hd |-
  obtain⟨X,N,dead⟩:=Q;simp only at hpd hpl hd;have hf:=VY g s (U8 dead) X hd.1;cases dead with
  | true=>
   rw [hpd rfl];refine zd [0,1,2,3] hf ?_;rintro _ _ ⟨rfl,rfl⟩;exact⟨_,iv (N:Nat),Nr g s 8 X,fun _ _ h=>h,zR (s:= [0,1,2,3,5]) tA,rfl,rfl⟩
  | false=>
   rw [hpl rfl];refine zd [0,1,2,3] hf ?_;rintro _ _ ⟨rfl,rfl⟩;by_cases hX0:X.left=0;all_goals
    simp only [hX0,U8,CA,if_true,if_false];exact⟨_,iv (N:Nat),Nr g s _ _,fun _ _ h=>h,zR (s:= [0,1,2,3,5]) tA,rfl,rfl⟩
theorem ACalls.lendBox {P:Program} {q:Bool} {f:FuncId} {x:AV} {H:List AB} {K:AV->List AB->Prop} (j k:Nat) {t t':TypeId} {sz':Nat} {cs cs2:List AV} {es':List (List AV)} (hj:H[j]? = some (.box t cs)) (hk:H[k]? = some (.row t' sz' es'))
  (he:cs.map (AV.slIn k es'.length (.sl sz' es'.length fun i=>es'.getD i []))=cs2) (hc:ACalls P q f [x, .ag cs2] ((H.set k .dead).set j (.box t cs2)) K):ACalls P q f [x, .ag cs] H K:=by
 refine⟨hc.go,fun w0 M0 c us hs hr=>?_⟩;subst he;have hjk:j≠k:=by rintro rfl;rw [hj] at hk;cases hk
 obtain⟨c1,e1,s1,x1,r1⟩:=hs.freeze hk;have hj1:(H.set k .dead)[j]? = some (.box t cs):=by rw [AA (Ne.symm hjk)];exact hj
 have h8:∀ (l:List AV) (us:List Value),RdL l c us->RdL (l.map (AV.slIn k es'.length (.sl sz' es'.length fun i=>es'.getD i []))) c1 us:=by
  intro l;induction l with
  | nil=>intro us h;simp only [RdL] at h;subst h;simp [RdL]
  | cons x l ih=>
   intro us h;simp only [RdL] at h;obtain⟨u,vs,rfl,a1,a2⟩:=h;simp only [A3,RdL];refine⟨u,vs,rfl,?_,ih vs a2⟩;unfold AV.slIn;split
   ·rename_i i n;split
    ·rename_i hik;subst hik;split
     ·rename_i hn;subst hn;exact r1 u a1
     ·simp [Rd]
    ·exact Rd.ext _ x1 a1
   ·exact Rd.ext _ x1 a1
 have s2:HS w0 M0 c1 ((H.set k .dead).set j (.box t (cs.map (AV.slIn k es'.length (.sl sz' es'.length fun i=>es'.getD i []))))):=by
  refine s1.recell hj1 rfl ?_;rintro⟨g,xs,h1,h2,_,h4⟩;obtain⟨g0,ys,q1,q2,q3,_⟩:=hs.blk j _ hj;have hg:=x1.box j _ (hs.klt hj) q1;rw [h1] at hg;injection hg with hg
  injection hg with hg
  injection hg with hg
  subst hg;rw [e1,q2] at h2;injection h2 with h2
  have hxy:ys.toArray=xs.toArray:=by injection h2
  have hxy:ys=xs:=by simpa using hxy
  subst hxy;exact⟨g,ys,h1,by rw [e1];exact q2,h8 _ _ q3,h4⟩
 have hr2:RdL [x, .ag (cs.map (AV.slIn k es'.length (.sl sz' es'.length fun i=>es'.getD i [])))] c1 us:=by
  simp only [RdL] at hr;obtain⟨u1,_,rfl,p1,u2,_,rfl,p2,rfl⟩:=hr;simp only [Rd] at p2;obtain⟨zs,rfl,p3⟩:=p2;simp only [RdL];exact⟨u1,_,rfl,Rd.ext _ x1 p1,_,_,rfl,by simp only [Rd];exact⟨zs,rfl,h8 _ _ p3⟩,rfl⟩
 have:=hc.calls w0 M0 c1 us s2 hr2;rw [e1] at this;refine this.mono ?_;rintro e w' ⟨v,c',r,H2,rfl,rfl,q1,q2,q3,q4,q5⟩;exact⟨v,c',r,H2,rfl,rfl,q1,q2,x1.trans q3,q4,q5⟩
theorem nums_ones:∀ (n:Nat) (r:List Int) (c:List UInt8),n<=c.length->nums (FW n ++ r) c=((List.range n).map fun i=>((c.getD i 0).toNat:Int)) ++ nums r (c.drop n)
 | 0,r,c,_=>rfl
 | n+1,r, [],h=>by simp at h
 | n+1,r,x::c,h=>by
  have ih:=nums_ones n r c (by simpa using h);rw [show FW (n+1) ++ r=1::(FW n ++ r) from rfl,List.range_succ_eq_map,A3,List.map_map];show (leN ((x::c).take 1):Int)::nums (FW n ++ r) ((x::c).drop 1)=_;rw [show (x::c).drop 1=c from rfl,ih];simp [leN]
theorem Y6 (n:Nat) (c:List UInt8) (h:n+5<=c.length):Kq n c=⟨(List.range n).map fun i=>((c.getD i 0).toNat:Int),((c.getD n 0).toNat:Int),(leN ((c.drop (n+1)).take 4):Nat)⟩:=by
 have e:=nums_ones (n+1) [4] c (by omega);rw [show FW (n+1) ++ [4]=Rb n from rfl] at e;unfold Kq;rw [e];have h1:List.take n ((List.range (n+1)).map (fun i=>((c.getD i 0).toNat:Int)) ++ nums [4] (c.drop (n+1)))=(List.range n).map fun i=>((c.getD i 0).toNat:Int):=by
  rw [Bd,Az,A9,List.take_left' (by simp)]
 have h2:((List.range (n+1)).map (fun i=>((c.getD i 0).toNat:Int)) ++ nums [4] (c.drop (n+1))).getD n 0=((c.getD n 0).toNat:Int):=by
  rw [Aa,A5 (by simp),AS,Bq (by omega)];try rfl
 have h3:((List.range (n+1)).map (fun i=>((c.getD i 0).toNat:Int)) ++ nums [4] (c.drop (n+1))).getD (n+1) 0=(leN ((c.drop (n+1)).take 4):Nat):=by
  rw [Aa,A2 (by simp)];simp [nums]
 rw [h1,h2,h3]
theorem ZH (b:List UInt8) (h:17<=b.length):(nums szA b).getD 0 0=(leN (b.take 4):Nat)/\(nums szA b).getD 1 0=(leN ((b.drop 4).take 4):Nat)/\(nums szA b).getD 2 0=(leN ((b.drop 8).take 4):Nat)/\(nums szA b).getD 3 0=(leN ((b.drop 12).take 4):Nat)/\(nums szA b).getD 4 0=((b.getD 16 0).toNat:Int):=by
 refine⟨rfl,rfl,?_,?_,?_⟩
 ·show ((leN ((((b.drop 4).drop 4)).take 4):Nat):Int)=_;rw [A_]
 ·show ((leN (((((b.drop 4).drop 4).drop 4)).take 4):Nat):Int)=_;rw [A_,A_]
 ·show ((leN ((((((b.drop 4).drop 4).drop 4)).drop 4).take 1):Nat):Int)=_;rw [A_,A_,A_];have e:b.drop 16=b.getD 16 0::b.drop 17:=by
   rw [Aa,Ae (by omega)];exact Bj (by omega)
  show ((leN ((b.drop 16).take 1):Nat):Int)=_;rw [e];exact congrArg (fun n:Nat=>(n:Int)) (show (b.getD 16 0).toNat+256*0=(b.getD 16 0).toNat by omega)
def YN (n:Nat) (c:List UInt8):List (List AV):=(List.range n).map fun i=> [iv ((c.getD i 0).toNat:Int)]
theorem Xm (n:Nat) (c:List UInt8):YN (n+1) c=YN n c ++ [[iv ((c.getD n 0).toNat:Int)]]:=by simp [YN,Bd]
theorem Tf (n:Nat) (c:List UInt8):(YN n c).length=n:=by simp [YN]
theorem wb (x:UInt8):IntKind.i64.wrap (x.toNat:Int)=(x.toNat:Int):=wi (by have:=x.toNat_lt;omega)
theorem TC (g:Geo) (b:List UInt8) (hg:Bp g=true) (hb:b.length<=100000):Fn Tryz.prog 271 [.ag (AT g),bA b] fun r=>r = .tp [.ag (ED ((Fx g b).getD an0)), .v (.bool (Fx g b).isSome)]:=by
 obtain⟨g1,g2,g3,g4,g5⟩:=As.1 hg;have GB:∀ (e:Value) (c:Ctx) (v:Value),Rd (.tp [.ag [iv 0,iv 0,iv 0,iv 0,iv 0, .v (.string ⟨#[]⟩), .v (.slice none 0 0)], .v e]) c v->Rd (.tp [.ag (ED an0), .v e]) c v:=fun e=>BW (m:= [.ag (ED an0), .v e]) ⟨Bi an0_sub,ri,tv⟩
 by_cases h18:b.length<18
 ·have hN:Fx g b=none:=by
   rw [Fx];split
   ·rfl
   ·rw [show Jh (b.drop 17)=none by rw [Jh,if_pos (by rw [Am];omega)]]
  rw [hN];refine zS Tryz.func271 rfl ?_;conv=>whnf
  refine A8 (fun _=>?_) (fun hq=>absurd h18 (by omega));exact⟨_,GB _,rfl⟩
 ·obtain⟨n0,n1,n2,n3,n4⟩:=ZH b (by omega);have q0:=FH b 4 (by omega) (by decide);have q1:=FH (b.drop 4) 4 (by rw [Am];omega) (by decide);have q2:=FH (b.drop 8) 4 (by rw [Am];omega) (by decide);have q3:=FH (b.drop 12) 4 (by rw [Am];omega) (by decide);rw [<-n0] at q0;rw [<-n1] at q1;rw [<-n2] at q2;rw [<-n3] at q3;have hr:=TB (b.drop 17) (by rw [Am];omega);have hdl:(b.drop 17).length=b.length - 17:=Am ..
  cases hL:Jh (b.drop 17) with
  | none=>
   have hN:Fx g b=none:=by rw [Fx,if_neg (by omega),hL]
   rw [hL] at hr;rw [hN];refine zS Tryz.func271 rfl ?_;conv=>whnf
   refine A8 (fun hq=>absurd hq (by omega)) (fun hq=>?_);conv=>whnf
   apply z8 (0) tys_ok mixed (.o [0,2,3,5,6,8,9,11,12,13,14] (.two 1 (.two 4 (.two 7 (.two 10 (.o [15,16,17] .fin) 16 (.o [10,15,17] .fin)) 16 (.o [7,10,15,17] .fin)) 16 (.o [4,7,10,15,17] .fin)) 16 (.o [1,4,7,10,15,17] .fin))) [6,17,18,19,20,21,22,23,24,25,26,27,28,29,30,31,32] (by kernel_rfl)
   ·conv=>whnf
    try (refine tI ?_;conv=>whnf)
    try (refine tI ?_;conv=>whnf)
    try (refine tI ?_;conv=>whnf)
    try (refine tI ?_;conv=>whnf)
    refine Af ?_ ?_
    ·conv=>whnf
     refine zZ q0 ?_;refine Af ?_ ?_
     ·conv=>whnf
      (refine zX [bA (b.drop 4),iv 4] ⟨AU (by omega),ri,tv⟩ ?_;refine zZ q1 ?_)
      refine Af ?_ ?_
      ·conv=>whnf
       (refine zX [bA (b.drop 8),iv 4] ⟨AU (by omega),ri,tv⟩ ?_;refine zZ q2 ?_)
       refine Af ?_ ?_
       ·conv=>whnf
        (refine zX [bA (b.drop 12),iv 4] ⟨AU (by omega),ri,tv⟩ ?_;refine zZ q3 ?_)
        conv=>whnf
        try (refine tS ?_;conv=>whnf)
        exact tA
       ·conv=>whnf
        (refine zX [bA (b.drop 12),iv 4] ⟨AU (by omega),ri,tv⟩ ?_;refine zZ q3 ?_)
        conv=>whnf
        try (refine tS ?_;conv=>whnf)
        exact tA
      ·conv=>whnf
       (refine zX [bA (b.drop 8),iv 4] ⟨AU (by omega),ri,tv⟩ ?_;refine zZ q2 ?_)
       conv=>whnf
       (refine zX [bA (b.drop 12),iv 4] ⟨AU (by omega),ri,tv⟩ ?_;refine zZ q3 ?_)
       conv=>whnf
       try (refine tS ?_;conv=>whnf)
       exact tA
     ·conv=>whnf
      (refine zX [bA (b.drop 4),iv 4] ⟨AU (by omega),ri,tv⟩ ?_;refine zZ q1 ?_)
      conv=>whnf
      (refine zX [bA (b.drop 8),iv 4] ⟨AU (by omega),ri,tv⟩ ?_;refine zZ q2 ?_)
      conv=>whnf
      (refine zX [bA (b.drop 12),iv 4] ⟨AU (by omega),ri,tv⟩ ?_;refine zZ q3 ?_)
      conv=>whnf
      try (refine tS ?_;conv=>whnf)
      exact tA
    ·conv=>whnf
     refine zZ q0 ?_;conv=>whnf
     (refine zX [bA (b.drop 4),iv 4] ⟨AU (by omega),ri,tv⟩ ?_;refine zZ q1 ?_)
     conv=>whnf
     (refine zX [bA (b.drop 8),iv 4] ⟨AU (by omega),ri,tv⟩ ?_;refine zZ q2 ?_)
     conv=>whnf
     (refine zX [bA (b.drop 12),iv 4] ⟨AU (by omega),ri,tv⟩ ?_;refine zZ q3 ?_)
     conv=>whnf
     try (refine tS ?_;conv=>whnf)
     exact tA
   conv=>whnf
   rw [wb,show b.getD (Int.toNat 16) 0=b.getD 16 0 from rfl,<-n4];refine⟨⟨by omega,by omega,by omega,by omega⟩,?_⟩;conv=>whnf
   refine zX [bA (b.drop 17)] ⟨AU (by omega),tv⟩ ?_;refine zZ hr ?_;conv=>whnf
   rw [show IntKind.i64.wrap (17+0)=17 from rfl];refine⟨⟨by omega,by omega,by omega,by omega⟩,?_⟩;exact⟨_,GB _,rfl⟩
  | some q=>
   obtain⟨s,u⟩:=q;obtain⟨u1,u2,u3,u4⟩:=ND hL;rw [hL] at hr;simp only at hr;have hss:s.size=s.data.toList.length:=rfl;have hs24:=JI u4;have wu:IntKind.i64.wrap (17+(u:Int))=17+u:=wi (by omega);have hmb:g.z*(g.d+6)<=4*10:=Int.mul_le_mul (by omega) (by omega) (by omega) (by omega);have hm0:0<=g.z*(g.d+6):=CL (by omega) (by omega);have wm:IntKind.i64.wrap (g.z*IntKind.i64.wrap (g.d+6))=g.z*(g.d+6):=by rw [wi (n:=g.d+6) (by omega)];exact wi (by omega)
   have hmn:g.z*(g.d+6)=((g.z.toNat*(g.d.toNat+6):Nat):Int):=by rw [Int.natCast_mul,Int.natCast_add];congr 1 <;> omega
   have hu0:((u:Int) == 0)=false:=beq_eq_false_iff_ne.2 (by omega);have hdl2:(b.drop (17+u)).length=b.length - (17+u):=Am ..
   obtain⟨A,hA⟩:∃ A,A=MN (g.d.toNat+1) g.z.toNat b s u:=⟨_,rfl⟩;have hR0:Fx g b=if b.length≠17+u+g.z.toNat*(g.d.toNat+6) then none else if Bu g A then some A else none:=by rw [Fx,if_neg (by omega),hL,hA]
   by_cases hlen:b.length=17+u+g.z.toNat*(g.d.toNat+6)
   ·rw [if_neg (by omega)] at hR0;refine zS Tryz.func271 rfl ?_;conv=>whnf
    refine A8 (fun hq=>absurd hq (by omega)) (fun hq=>?_);conv=>whnf
    apply z8 (0) tys_ok mixed (.o [0,2,3,5,6,8,9,11,12,13,14] (.two 1 (.two 4 (.two 7 (.two 10 (.o [15,16,17] .fin) 16 (.o [10,15,17] .fin)) 16 (.o [7,10,15,17] .fin)) 16 (.o [4,7,10,15,17] .fin)) 16 (.o [1,4,7,10,15,17] .fin))) [6,17,18,19,20,21,22,23,24,25,26,27,28,29,30,31,32] (by kernel_rfl)
    ·conv=>whnf
     try (refine tI ?_;conv=>whnf)
     try (refine tI ?_;conv=>whnf)
     try (refine tI ?_;conv=>whnf)
     try (refine tI ?_;conv=>whnf)
     refine Af ?_ ?_
     ·conv=>whnf
      refine zZ q0 ?_;refine Af ?_ ?_
      ·conv=>whnf
       (refine zX [bA (b.drop 4),iv 4] ⟨AU (by omega),ri,tv⟩ ?_;refine zZ q1 ?_)
       refine Af ?_ ?_
       ·conv=>whnf
        (refine zX [bA (b.drop 8),iv 4] ⟨AU (by omega),ri,tv⟩ ?_;refine zZ q2 ?_)
        refine Af ?_ ?_
        ·conv=>whnf
         (refine zX [bA (b.drop 12),iv 4] ⟨AU (by omega),ri,tv⟩ ?_;refine zZ q3 ?_)
         conv=>whnf
         try (refine tS ?_;conv=>whnf)
         exact tA
        ·conv=>whnf
         (refine zX [bA (b.drop 12),iv 4] ⟨AU (by omega),ri,tv⟩ ?_;refine zZ q3 ?_)
         conv=>whnf
         try (refine tS ?_;conv=>whnf)
         exact tA
       ·conv=>whnf
        (refine zX [bA (b.drop 8),iv 4] ⟨AU (by omega),ri,tv⟩ ?_;refine zZ q2 ?_)
        conv=>whnf
        (refine zX [bA (b.drop 12),iv 4] ⟨AU (by omega),ri,tv⟩ ?_;refine zZ q3 ?_)
        conv=>whnf
        try (refine tS ?_;conv=>whnf)
        exact tA
      ·conv=>whnf
       (refine zX [bA (b.drop 4),iv 4] ⟨AU (by omega),ri,tv⟩ ?_;refine zZ q1 ?_)
       conv=>whnf
       (refine zX [bA (b.drop 8),iv 4] ⟨AU (by omega),ri,tv⟩ ?_;refine zZ q2 ?_)
       conv=>whnf
       (refine zX [bA (b.drop 12),iv 4] ⟨AU (by omega),ri,tv⟩ ?_;refine zZ q3 ?_)
       conv=>whnf
       try (refine tS ?_;conv=>whnf)
       exact tA
     ·conv=>whnf
      refine zZ q0 ?_;conv=>whnf
      (refine zX [bA (b.drop 4),iv 4] ⟨AU (by omega),ri,tv⟩ ?_;refine zZ q1 ?_)
      conv=>whnf
      (refine zX [bA (b.drop 8),iv 4] ⟨AU (by omega),ri,tv⟩ ?_;refine zZ q2 ?_)
      conv=>whnf
      (refine zX [bA (b.drop 12),iv 4] ⟨AU (by omega),ri,tv⟩ ?_;refine zZ q3 ?_)
      conv=>whnf
      try (refine tS ?_;conv=>whnf)
      exact tA
    conv=>whnf
    rw [wb,show b.getD (Int.toNat 16) 0=b.getD 16 0 from rfl,<-n4];refine⟨⟨by omega,by omega,by omega,by omega⟩,?_⟩;conv=>whnf
    refine zX [bA (b.drop 17)] ⟨AU (by omega),tv⟩ ?_;refine zZ hr ?_;conv=>whnf
    rw [wu];refine⟨⟨by omega,by omega,by omega,by omega⟩,?_⟩;conv=>whnf
    rw [hu0];conv=>whnf
    rw [wm];refine A8 (fun hq=>absurd hq (by simp only [bne_iff_ne,ne_eq] at *;omega)) (fun hq=>?_);conv=>whnf
    have hsub:∀ (c:Ctx) (v:Value),Rd (.sl 1 ((b.length:Int).toNat - ((17:Int)+u).toNat) fun i=> [AV.v (Value.int IntKind.u8 (b.getD (i+((17:Int)+u).toNat) 0).toNat)]) c v->Rd (bA (b.drop (17+u))) c v:=by
     rw [show ((17:Int)+u).toNat=17+u by omega];exact AU (by omega)
    have hcl:∀ k,k<g.z.toNat->(g.d.toNat+1)+5<=(b.drop (17+u+(g.d.toNat+6)*k)).length:=fun k hk=>by
     have h1:(g.d.toNat+6)*(k+1)<=(g.d.toNat+6)*g.z.toNat:=Nat.mul_le_mul_left _ (by omega);rw [Nat.mul_succ,Nat.mul_comm (g.d.toNat+6) g.z.toNat] at h1;rw [Am];omega
    refine zU Nat (fun k=>([(1,bA b),(2, .bp 0 0),(4, .bp 1 0),(6, .bp 2 0),(9,bA (b.drop (17+u+(g.d.toNat+6)*k))),(10,iv k)], [.box 23 (AT g), .box 33 [iv 0,iv 0,iv 0,iv 0,iv 0, .v (.string ⟨#[]⟩), .v (.slice none 0 0)], .box 33 [iv ((nums szA b).getD 0 0),iv ((nums szA b).getD 1 0),iv ((nums szA b).getD 4 0),iv ((nums szA b).getD 2 0),iv ((nums szA b).getD 3 0), .v (.string s), .ow 3 k], .row 177 3 ((EK (g.d.toNat+1) k (b.drop (17+u))).map EC)])) (fun k=>k<=g.z.toNat) (fun k=>g.z.toNat - k) 0 (Aj _)
     ?_ ?_
    ·refine⟨_,_,zI 9 (y:=bA (b.drop (17+u))) rfl hsub, [(1002006,177,3)],tA, [0,1,2,3],tA⟩
    ·intro k hk;conv=>whnf
     refine A8 (fun h6=>?_) (fun h6=>?_) <;> (repeat rw [Ac] at h6) <;> conv=>whnf
     ·have hk':k<g.z.toNat:=by omega
      have hc5:=hcl k hk';have hE:=Y6 (g.d.toNat+1) (b.drop (17+u+(g.d.toNat+6)*k)) hc5;have hdd:(b.drop (17+u+(g.d.toNat+6)*k)).drop (g.d.toNat+6)=b.drop (17+u+(g.d.toNat+6)*(k+1)):=by rw [A_,Nat.mul_succ,Dt]
      have hmm:(b.drop (17+u)).drop ((g.d.toNat+6)*k)=b.drop (17+u+(g.d.toNat+6)*k):=by rw [A_]
      have hst:=RT (g.d.toNat+1) k (b.drop (17+u));rw [show (g.d.toNat+1+5)=g.d.toNat+6 from rfl,hmm] at hst;generalize b.drop (17+u+(g.d.toNat+6)*k)=c at hc5 hE hdd hst |-
      refine zU Nat (fun i=>([(1,bA b),(2, .bp 0 0),(4, .bp 1 0),(6, .bp 2 0),(9,bA c),(10,iv k),(11, .bp 4 0),(12,iv i)], [.box 23 (AT g), .box 33 [iv 0,iv 0,iv 0,iv 0,iv 0, .v (.string ⟨#[]⟩), .v (.slice none 0 0)], .box 33 [iv ((nums szA b).getD 0 0),iv ((nums szA b).getD 1 0),iv ((nums szA b).getD 4 0),iv ((nums szA b).getD 2 0),iv ((nums szA b).getD 3 0), .v (.string s), .ow 3 k], .row 177 3 ((EK (g.d.toNat+1) k (b.drop (17+u))).map EC), .box 177 [.ow 5 i,iv 0,iv 0], .row 3 1 (YN i c)])) (fun i=>i<=g.d.toNat+1) (fun i=>g.d.toNat+1 - i) 0 (Aj _)
       ⟨_,_,zG _ _, [(1004000,3,1)],tA, [0,1,2,3,4,5],tA⟩ ?_
      intro i hi;conv=>whnf
      refine A8 (fun h7=>?_) (fun h7=>?_) <;> (repeat rw [Ac] at h7) <;> conv=>whnf
      ·have hl:i=(YN i c).length:=(Tf i c).symm;apply zW (0) tys_ok mixed (.o [0,1,2,3,4,5,6,7,8,9,10] .fin) (by kernel_rfl);conv=>whnf
       try (refine tI ?_;conv=>whnf)
       try (refine tJ ?_;conv=>whnf)
       try (refine tK ?_;conv=>whnf)
       try (refine tS ?_;conv=>whnf)
       rw [wb];exact⟨i+1,by omega,by omega,zR (s:= [0,1,2,3,4,5]) ⟨⟨rfl,rfl,rfl,rfl,rfl,rfl,rfl,AH (by omega),tv⟩,⟨rfl,rfl,rfl,rfl,rfl,congrArg (fun l=>some (AB.row _ _ l)) (Xm i c).symm,tv⟩,rfl,rfl,rfl,rfl,rfl⟩⟩
      ·have ei:i=g.d.toNat+1:=by omega
       subst ei;have w1:IntKind.i64.wrap (g.d+1)=g.d+1:=wi (by omega);have w2:IntKind.i64.wrap (g.d+2)=g.d+2:=wi (by omega);have w6:IntKind.i64.wrap (g.d+6)=g.d+6:=wi (by omega);have hgr:=FH (c.drop (g.d.toNat+1+1)) 4 (by rw [Am];omega) (by decide);apply zW (0) tys_ok mixed (.o [0,1,2,3,4,5,6,7,8,9,10,11,13,12,14,15,16] .fin) (by kernel_rfl);conv=>whnf
       try (refine tI ?_;conv=>whnf)
       try (refine tI ?_;conv=>whnf)
       (refine zX [bA (c.drop (g.d.toNat+1+1)),iv 4] ⟨(by rw [w2,show (g.d+2).toNat=g.d.toNat+1+1 by omega];exact AU (by omega)),ri,tv⟩ ?_;refine zZ hgr ?_)
       conv=>whnf
       try (refine tS ?_;conv=>whnf)
       try (refine tS ?_;conv=>whnf)
       rw [w1,wb,show (g.d+1).toNat=g.d.toNat+1 by omega];refine Af (Tf _ _).symm ?_;refine⟨rfl,?_⟩;refine⟨⟨by rw [Ab,NJ],by omega⟩,?_⟩;conv=>whnf
       rw [w6];refine⟨⟨by omega,by omega,by omega,by omega⟩,?_⟩;conv=>whnf
       have e':SubL [.sl 1 (g.d.toNat+1) fun i=>(YN (g.d.toNat+1) c).getD i [],iv ((c.getD (g.d.toNat+1) 0).toNat:Int),iv ((leN ((c.drop (g.d.toNat+1+1)).take 4):Nat):Int)] (EC (Kq (g.d.toNat+1) c)):=by
        rw [hE];refine⟨fun _ _ h=>zC (by simp) (fun i hi=>?_) h,fun _ _ h=>h,fun _ _ h=>h,tv⟩;have hi':i<g.d.toNat+1:=by simpa using hi
        rw [YN,ET hi',ET hi']
       have hs2:∀ (c':Ctx) (v:Value),Rd (.sl 1 ((c.length:Int).toNat - (g.d+6).toNat) fun i=> [AV.v (Value.int IntKind.u8 (c.getD (i+(g.d+6).toNat) 0).toNat)]) c' v->Rd (bA (b.drop (17+u+(g.d.toNat+6)*(k+1)))) c' v:=by
        rw [<-hdd,show (g.d+6).toNat=g.d.toNat+6 by omega];exact AU (by omega)
       refine⟨k+1,by omega,by omega,zF (zQ (zK (ConvH.last 3 rfl e')) (zI 9 (y:=bA (b.drop (17+u+(g.d.toNat+6)*(k+1)))) rfl hs2)) (s:= [0,1,2,3]) ⟨⟨rfl,rfl,rfl,rfl,rfl,AH (by omega),tv⟩,⟨rfl,rfl,rfl,congrArg (fun l=>some (AB.row _ _ l)) (by rw [hst,Az];try rfl),tv⟩,rfl,rfl,rfl,rfl,rfl⟩⟩
     ·have ek:k=g.z.toNat:=by omega
      subst ek;have hAl:A.label.size<=1000000:=by rw [hA];show s.size<=_;omega
      have hck:=RC g A hg hAl;rw [hA] at hck;have hhl:(EK (g.d.toNat+1) g.z.toNat (b.drop (17+u))).length=g.z.toNat:=NJ _ _ _;refine ACalls.lendBox (cs2:= [iv ((nums szA b).getD 0 0),iv ((nums szA b).getD 1 0),iv ((nums szA b).getD 4 0),iv ((nums szA b).getD 2 0),iv ((nums szA b).getD 3 0), .v (.string s), .sl 3 ((EK (g.d.toNat+1) g.z.toNat (b.drop (17+u))).map EC).length fun i=>((EK (g.d.toNat+1) g.z.toNat (b.drop (17+u))).map EC).getD i []]) 2 3 rfl rfl ?_ ?_
      ·show [_,_,_,_,_,_,AV.slIn 3 _ _ (.ow 3 g.z.toNat)]=_;rw [AV.slIn,if_pos rfl,if_pos (by rw [Ab,hhl])];try rfl
      have hsa:SubL [iv ((nums szA b).getD 0 0),iv ((nums szA b).getD 1 0),iv ((nums szA b).getD 4 0),iv ((nums szA b).getD 2 0),iv ((nums szA b).getD 3 0), .v (.string s), .sl 3 ((EK (g.d.toNat+1) g.z.toNat (b.drop (17+u))).map EC).length fun i=>((EK (g.d.toNat+1) g.z.toNat (b.drop (17+u))).map EC).getD i []] (ED (MN (g.d.toNat+1) g.z.toNat b s u)):=⟨ri,ri,ri,ri,ri,ri,Bb (f:=EC) (EK (g.d.toNat+1) g.z.toNat (b.drop (17+u))) (by rw [Ab]) rfl,tv⟩;refine zX [.ag (AT g), .ag (ED (MN (g.d.toNat+1) g.z.toNat b s u))] ⟨ri,Bi hsa,tv⟩ ?_;refine zZ hck ?_;conv=>whnf
      rw [<-hA];cases hok:Bu g A with
      | false=>
       rw [hR0,hok];exact⟨_,GB _,rfl⟩
      | true=>
       rw [hR0,hok];conv=>whnf
       exact⟨.tp [.ag (ED A), .v (.bool true)],BW ⟨Bi (by rw [hA];exact hsa),ri,tv⟩,rfl⟩
   ·have hN:Fx g b=none:=by rw [hR0,if_pos hlen]
    rw [hN];refine zS Tryz.func271 rfl ?_;conv=>whnf
    refine A8 (fun hq=>absurd hq (by omega)) (fun hq=>?_);conv=>whnf
    apply z8 (0) tys_ok mixed (.o [0,2,3,5,6,8,9,11,12,13,14] (.two 1 (.two 4 (.two 7 (.two 10 (.o [15,16,17] .fin) 16 (.o [10,15,17] .fin)) 16 (.o [7,10,15,17] .fin)) 16 (.o [4,7,10,15,17] .fin)) 16 (.o [1,4,7,10,15,17] .fin))) [6,17,18,19,20,21,22,23,24,25,26,27,28,29,30,31,32] (by kernel_rfl)
    ·conv=>whnf
     try (refine tI ?_;conv=>whnf)
     try (refine tI ?_;conv=>whnf)
     try (refine tI ?_;conv=>whnf)
     try (refine tI ?_;conv=>whnf)
     refine Af ?_ ?_
     ·conv=>whnf
      refine zZ q0 ?_;refine Af ?_ ?_
      ·conv=>whnf
       (refine zX [bA (b.drop 4),iv 4] ⟨AU (by omega),ri,tv⟩ ?_;refine zZ q1 ?_)
       refine Af ?_ ?_
       ·conv=>whnf
        (refine zX [bA (b.drop 8),iv 4] ⟨AU (by omega),ri,tv⟩ ?_;refine zZ q2 ?_)
        refine Af ?_ ?_
        ·conv=>whnf
         (refine zX [bA (b.drop 12),iv 4] ⟨AU (by omega),ri,tv⟩ ?_;refine zZ q3 ?_)
         conv=>whnf
         try (refine tS ?_;conv=>whnf)
         exact tA
        ·conv=>whnf
         (refine zX [bA (b.drop 12),iv 4] ⟨AU (by omega),ri,tv⟩ ?_;refine zZ q3 ?_)
         conv=>whnf
         try (refine tS ?_;conv=>whnf)
         exact tA
       ·conv=>whnf
        (refine zX [bA (b.drop 8),iv 4] ⟨AU (by omega),ri,tv⟩ ?_;refine zZ q2 ?_)
        conv=>whnf
        (refine zX [bA (b.drop 12),iv 4] ⟨AU (by omega),ri,tv⟩ ?_;refine zZ q3 ?_)
        conv=>whnf
        try (refine tS ?_;conv=>whnf)
        exact tA
      ·conv=>whnf
       (refine zX [bA (b.drop 4),iv 4] ⟨AU (by omega),ri,tv⟩ ?_;refine zZ q1 ?_)
       conv=>whnf
       (refine zX [bA (b.drop 8),iv 4] ⟨AU (by omega),ri,tv⟩ ?_;refine zZ q2 ?_)
       conv=>whnf
       (refine zX [bA (b.drop 12),iv 4] ⟨AU (by omega),ri,tv⟩ ?_;refine zZ q3 ?_)
       conv=>whnf
       try (refine tS ?_;conv=>whnf)
       exact tA
     ·conv=>whnf
      refine zZ q0 ?_;conv=>whnf
      (refine zX [bA (b.drop 4),iv 4] ⟨AU (by omega),ri,tv⟩ ?_;refine zZ q1 ?_)
      conv=>whnf
      (refine zX [bA (b.drop 8),iv 4] ⟨AU (by omega),ri,tv⟩ ?_;refine zZ q2 ?_)
      conv=>whnf
      (refine zX [bA (b.drop 12),iv 4] ⟨AU (by omega),ri,tv⟩ ?_;refine zZ q3 ?_)
      conv=>whnf
      try (refine tS ?_;conv=>whnf)
      exact tA
    conv=>whnf
    rw [wb,show b.getD (Int.toNat 16) 0=b.getD 16 0 from rfl,<-n4];refine⟨⟨by omega,by omega,by omega,by omega⟩,?_⟩;conv=>whnf
    refine zX [bA (b.drop 17)] ⟨AU (by omega),tv⟩ ?_;refine zZ hr ?_;conv=>whnf
    rw [wu];refine⟨⟨by omega,by omega,by omega,by omega⟩,?_⟩;conv=>whnf
    rw [hu0];conv=>whnf
    rw [wm];refine A8 (fun hq=>?_) (fun hq=>absurd hq (by omega));exact⟨_,GB _,rfl⟩
theorem VF (g:Geo) (x:Gt) (addr:Int) (hg:Bp g=true) (hx:x.bytes.length<=100000):Fn Tryz.prog 247 [.ag (AT g), .ag (Dz x),iv addr] fun r=>r = .tp [.ag (ED ((EW g x addr).getD an0)), .v (.bool (EW g x addr).isSome)]:=by
 have hs:=Iu x addr hx;by_cases h1:x.err=0/\Dd x.bytes=0/\Cw x.bytes=addr
 ·have hr:=TC g (CF x.bytes) hg (by have:=Rk x.bytes;omega);have hS:EW g x addr=match Fx g (CF x.bytes) with | some a=>if a.gen=Cs x.bytes then some a else none | none=>none:=by rw [EW,if_pos h1];try rfl
  have hO:BR x addr=some ⟨Cw x.bytes,Cs x.bytes,CF x.bytes⟩:=by
   unfold BR;simp [h1.1,h1.2.1,h1.2.2]
  rw [hO] at hs;cases hR:Fx g (CF x.bytes) with
  | none=>
   rw [hR] at hr hS;rw [hS];refine zS Tryz.func247 rfl ?_;conv=>whnf
   refine zZ hs ?_;conv=>whnf
   refine zZ hr ?_;exact⟨_,GB _,rfl⟩
  | some a=>
   rw [hR] at hr hS;by_cases h4:a.gen=Cs x.bytes
   ·have hS:EW g x addr=some a:=hS.trans (if_pos h4);rw [hS];refine zS Tryz.func247 rfl ?_;conv=>whnf
    refine zZ hs ?_;conv=>whnf
    refine zZ hr ?_;conv=>whnf
    refine A8 (fun hq=>absurd h4 hq) (fun _=>?_);exact⟨_,ri,rfl⟩
   ·have hS:EW g x addr=none:=hS.trans (if_neg h4);rw [hS];refine zS Tryz.func247 rfl ?_;conv=>whnf
    refine zZ hs ?_;conv=>whnf
    refine zZ hr ?_;conv=>whnf
    refine A8 (fun _=>?_) (fun hq=>absurd hq h4);exact⟨_,GB _,rfl⟩
 ·have hS:EW g x addr=none:=by rw [EW,if_neg h1]
  have hO:BR x addr=none:=by
   unfold BR;rw [if_neg h1]
  rw [hO] at hs;rw [hS];refine zS Tryz.func247 rfl ?_;conv=>whnf
  refine zZ hs ?_;exact⟨_,GB _,rfl⟩
def b7 (p:Option (An × Nat)):Int:=match p with | some (_,i)=>i | none=> -1
theorem Rr (g:Geo) (l:List Gt) (hg:Bp g=true) (hl:l.length<=1000000) (hb:∀ x∈l,x.bytes.length<=100000):Fn Tryz.prog 200 [.ag (AT g),Im l] fun r=>r = .tp [.ag (ED (b8 (HH g l))),iv (b7 (HH g l))]:=by
 refine zS Tryz.func200 rfl ?_;conv=>whnf
 refine zU Nat (fun k=>([(1,Im l),(2, .bp 0 0),(4, .bp 1 0),(6, .bp 2 0),(7,iv (b7 (Fy g l k))),(8,iv k)], [.box 23 (AT g), .box 33 [iv 0,iv 0,iv 0,iv 0,iv 0, .v (.string ⟨#[]⟩), .v (.slice none 0 0)], .box 33 (ED (b8 (Fy g l k)))])) (fun k=>k<=l.length) (fun k=>l.length - k) 0 (Aj _)
  (zF (zK (zq 2 rfl an0_sub)) (s:= [0,1,2]) tA) ?_
 intro k hk;have hsucc:=I_ g l k;conv=>whnf
 refine A8 (fun h6=>?_) (fun h6=>?_) <;> (repeat rw [Ac] at h6) <;> conv=>whnf
 ·have hk':k<l.length:=by omega
  have hx:=hb _ (A6 (d:=(⟨0, []⟩:Gt)) hk');have h2:=VF g (l.getD k ⟨0, []⟩) k hg hx;rw [PK] at hsucc;repeat' (refine z_ ?_;conv=>whnf)
  apply z8 (0) tys_ok mixed (.o [0,1,2,3,4,5] (.two 6 (.o [7,8,9,10,11,12] .fin) 10 (.o [6,7,8,9,11,12] .fin))) [9,10,17,18,19,20,21,22,23,24,25,26] (by kernel_rfl)
  ·conv=>whnf
   try (refine tI ?_;conv=>whnf)
   refine Af ?_ ?_
   ·conv=>whnf
    (rw [Ac];refine zZ h2 ?_)
    conv=>whnf
    try (refine tS ?_;conv=>whnf)
    exact tA
   ·conv=>whnf
    (rw [Ac];refine zZ h2 ?_)
    conv=>whnf
    try (refine tS ?_;conv=>whnf)
    exact tA
  conv=>whnf
  generalize EW g (l.getD k ⟨0, []⟩) (k:Nat)=S at hsucc |-
  generalize Fy g l k=P at hsucc |-
  cases S with
  | none=>
   conv=>whnf
   repeat' (refine z_ ?_;conv=>whnf)
   refine⟨k+1,hk',by omega,?_⟩;rw [show Fy g l (k+1)=P from hsucc];exact zR (s:= [0,1,2]) ⟨⟨rfl,rfl,rfl,rfl,rfl,AH (by omega),tv⟩,tA,rfl,rfl,rfl,rfl,rfl⟩
  | some b=>
   cases P with
   | none=>
    conv=>whnf
    repeat' (refine z_ ?_;conv=>whnf)
    refine⟨k+1,hk',by omega,?_⟩;rw [show Fy g l (k+1)=some (b,k) from hsucc];exact zR (s:= [0,1,2]) ⟨⟨rfl,rfl,rfl,rfl,rfl,AH (by omega),tv⟩,tA,rfl,rfl,rfl,rfl,rfl⟩
   | some q=>
    obtain⟨a,j⟩:=q;conv=>whnf
    by_cases h5:a.gen<b.gen
    ·have e:Fy g l (k+1)=some (b,k):=hsucc.trans (if_pos h5);refine A8 (fun h7=>?_) (fun h7=>absurd h5 (Int.not_lt.2 (show b.gen<=a.gen from h7)));conv=>whnf
     repeat' (refine z_ ?_;conv=>whnf)
     refine⟨k+1,hk',by omega,?_⟩;rw [e];exact zR (s:= [0,1,2]) ⟨⟨rfl,rfl,rfl,rfl,rfl,AH (by omega),tv⟩,tA,rfl,rfl,rfl,rfl,rfl⟩
    ·have e:Fy g l (k+1)=some (a,j):=hsucc.trans (if_neg h5);refine A8 (fun h7=>absurd (show a.gen<b.gen from h7) h5) (fun h7=>?_);conv=>whnf
     repeat' (refine z_ ?_;conv=>whnf)
     refine⟨k+1,hk',by omega,?_⟩;rw [e];exact zR (s:= [0,1,2]) ⟨⟨rfl,rfl,rfl,rfl,rfl,AH (by omega),tv⟩,tA,rfl,rfl,rfl,rfl,rfl⟩
 ·have ek:k=l.length:=by omega
  subst ek;exact⟨_,ri,rfl⟩
section
variable {g:Geo} {a:An} {x y:List Gt} {pos seq left:Int}
end

def eK (d:Dk) (k:Nat):Int:=if d.live k then 0 else 8
def gK (d:Dk) (k:Nat) (a:Int):Gt:=if d.live k then Uz d a else ⟨8, []⟩
theorem Kk {d:Dk} {j k:Nat} (h:d.live k) (hj:j<=k):d.live j:=by unfold Dk.live at *;omega
theorem X7 {d:Dk} (hl : -1<=d.left):∀ k,¬d.live k->(d.adv k).left=0
 | 0,h=>by exfalso;apply h;unfold Dk.live;omega
 | k+1,h=>by
  by_cases hk:d.live k
  ·have:=X8 k d h hk;rw [JV k (k+1) d this (by omega)];exact this
  ·have:=X7 hl k hk;rw [JV k (k+1) d this (by omega)];exact this
theorem O7 (g:Geo) (s:Stt) (d:Dk) (k:Nat) (a:Int) (h:DkOk d) (ha:0<=a/\a<d.cells.length) :
  ACalls Tryz.prog false 79 [.bp 0 0,iv a] (J5 g s (eK d k) (d.adv k)) fun r H=>r = .ag (Dz (gK d (k+1) a))/\H=J5 g s (eK d (k+1)) (d.adv (k+1)):=by
 have hd:=h.adv k;have hn:=(Hd k d).1;have hl:=h.l;unfold eK gK;by_cases hk:d.live k
 ·have hr:=Z2 g s (d.adv k) a hd (by rw [hn];exact ha);rw [if_pos hk];by_cases h0:(d.adv k).left=0
  ·have hk1:=(QO k d hl.1 hk).1 h0;rw [if_pos h0,TN a h0] at hr;rw [if_neg hk1,if_neg hk1,JV k (k+1) d h0 (by omega)];exact hr
  ·have hk1:d.live (k+1):=by
    by_cases e:d.live (k+1)
    ·exact e
    ·exact absurd ((QO k d hl.1 hk).2 e) h0
   rw [if_neg h0,TM a h0] at hr;rw [if_pos hk1,if_pos hk1];exact hr
 ·have hk1:¬d.live (k+1):=fun h=>hk (Kk h (by omega))
  have h0:=X7 hl.1 k hk;rw [if_neg hk,if_neg hk1,if_neg hk1,JV k (k+1) d h0 (by omega)];exact Z3 g s 8 (d.adv k) a (by decide)
theorem XE (g:Geo) (s:Stt) (d:Dk) (l:List Wr) (k:Nat) (h:DkOk d) (hl:∀ w∈l,QR d.cells.length w) (hk:k<l.length) :
  ACalls Tryz.prog false 88 [.bp 0 0, .v (.int .i64 (l.getD k ⟨0, []⟩).addr),bA (l.getD k ⟨0, []⟩).bytes] (J5 g s (U8 (d.writes (l.take k)).2.2) (d.writes (l.take k)).1) fun r H=>(∃ b,r = .v (.bool b))/\H=J5 g s (U8 (d.writes (l.take (k+1))).2.2) (d.writes (l.take (k+1))).1:=by
 have hd:=Ip h hl k;have hm:=hl _ (A6 (d:=(⟨0, []⟩:Wr)) hk);have hlive:=fun hlv=>Lc (d:=d) hk hlv
 have hstay:=fun hlv=>K3 (d:=d) hk hlv
 generalize d.writes (l.take (k+1))=Q' at hlive hstay |-
 generalize d.writes (l.take k)=Q at hd hlive hstay |-
 obtain⟨X,N,dead⟩:=Q;simp only at hd hlive hstay |-
 cases dead with
 | true=>
  rw [hstay rfl];exact(VA g s 8 X _ _ (by decide)).mono fun r H h=>⟨⟨false,h.1⟩,h.2⟩
 | false=>
  rw [hlive rfl];have hc:=V9 g s X (l.getD k ⟨0, []⟩).addr (l.getD k ⟨0, []⟩).bytes hd.1 (by rw [hd.2];exact hm.1) hm.2;refine hc.mono fun r H h=>⟨⟨_,h.1⟩,?_⟩
  rw [h.2];show J5 g s _ _=J5 g s (if decide _=true then 8 else 0) _;congr 1;by_cases h8:(X.write (l.getD k ⟨0, []⟩).addr (l.getD k ⟨0, []⟩).bytes).2=8
  ·rw [if_pos h8,if_pos (decide_eq_true h8)]
  ·rw [if_neg h8,if_neg (by rw [decide_eq_false h8];decide)]
def VS (d:Dk) (ats:List Int) (k:Nat):List Gt:=(List.range k).map fun j=>gK d (j+1) (ats.getD j 0)
theorem VR (d:Dk) (ats:List Int) (k:Nat):(VS d ats (k+1)).map Dz=(VS d ats k).map Dz ++ [Dz (gK d (k+1) (ats.getD k 0))]:=by simp [VS,Bd]
theorem Yc (d:Dk) (ats:List Int) (k:Nat):(VS d ats k).length=k:=by simp [VS]
theorem Yd {d:Dk} {ats:List Int} (h:d.live ats.length):VS d ats ats.length=B6 d ats:=by
 apply List.ext_getElem
 ·simp [VS,B6]
 ·intro i h1 h2;have hi:i<ats.length:=by simpa [VS] using h1
  simp only [VS,B6,List.getElem_map,List.getElem_range];rw [gK,if_pos (Kk h (by omega)),Aa,Ae hi];try rfl
def Ye (d:Dk) (g:Geo) (c:Nat) (k:Nat):List Gt:=(List.range k).map fun j=>gK d (2*j+1+c) (Bg g (c:Nat) (j:Nat))
theorem PA (d:Dk) (g:Geo) (c:Nat) (k:Nat):(Ye d g c (k+1)).map Dz=(Ye d g c k).map Dz ++ [Dz (gK d (2*k+1+c) (Bg g (c:Nat) (k:Nat)))]:=by simp [Ye,Bd]
theorem SA (d:Dk) (g:Geo) (c:Nat) (k:Nat):(Ye d g c k).length=k:=by simp [Ye]
theorem SB {d:Dk} {g:Geo} {c:Nat} (hc:c<=1) (h:d.live (2*g.sl.toNat)):Ye d g c g.sl.toNat=B6 d (BO g (c:Nat)):=by
 unfold Ye B6 BO;rw [List.map_map];refine Cv fun j hj=>?_
 have hj:=AP.1 hj;rw [gK,if_pos (Kk h (by omega))];try rfl
theorem Yy {d:Dk} {l:List Wr} (h:l≠ []):(if U8 (d.writes l).2.2=0 then if (d.writes l).1.left=0 then 8 else 0 else U8 (d.writes l).2.2:Int)=U8 (d.mend l).2/\(if U8 (d.writes l).2.2=0 then if (d.writes l).1.left=0 then (d.writes l).1 else (d.writes l).1.flush else (d.writes l).1)=(d.mend l).1:=by
 rw [Dk.mend,if_neg h];cases hd:(d.writes l).2.2 with
 | true=>rw [FN hd];exact tA
 | false=>
  rw [EZ hd];by_cases h0:(d.writes l).1.left=0
  ·rw [if_pos h0,if_pos h0,if_pos h0];exact tA
  ·rw [if_neg h0,if_neg h0,if_neg h0];exact tA
def ai (g:Geo) (d:Dk):Prop:=∀ (d1:Dk) (a:An) (j:Nat),DkOk d1->d1.cells=d.cells->d1.cache=d.cache->HH g (B6 d (DW g))=some (a,j)->(Fn Tryz.prog 201 [.ag (AT g), .ag (ED a),Im (B6 d1 (BO g 0)),Im (B6 d1 (BO g 1))] fun r=>r = .tp [Dl (FZ g a (B6 d1 (BO g 0)) (B6 d1 (BO g 1))).1,Lz (FZ g a (B6 d1 (BO g 0)) (B6 d1 (BO g 1))).2.1, .v (.int .i64 (FZ g a (B6 d1 (BO g 0)) (B6 d1 (BO g 1))).2.2)])/\((FZ g a (B6 d1 (BO g 0)) (B6 d1 (BO g 1))).2.2=0->(∀ w∈(FZ g a (B6 d1 (BO g 0)) (B6 d1 (BO g 1))).2.1,QR d1.cells.length w)/\(FZ g a (B6 d1 (BO g 0)) (B6 d1 (BO g 1))).2.1.length<=900)
theorem Rs (g:Geo) (s:Stt) (d:Dk) (hg:Bp g=true) (h:DkOk d) (hn:(d.cells.length:Int)=Ay g) (hin0:ai g d) :
  ACalls Tryz.prog false 127 [.bp 0 0] (J5 g s 0 d) fun r H=>(∃ S,r = .ag (EB S)/\((DN g d).2.1=0->S=(DN g d).2.2))/\H=Nr g s (DN g d).2.1 (DN g d).1:=by
 obtain⟨g1,g2,g3,g4,g5⟩:=As.1 hg;have hcg:=EL hg;have hl:=h.l;have e0:eK d 0=0:=by unfold eK;rw [if_pos];unfold Dk.live;omega
 refine zT tys_ok Tryz.func127 rfl rfl (Ag rfl) ?_;conv=>whnf
 refine zU Nat (fun k=>([(0, .bp 0 0),(2, .bp 4 0),(3, .ow 5 k),(4,nilV),(5,nilV),(6,ze k)],aV g s (eK d k) (d.adv k) [.box 39 [ze 0,ze 0,ze 0,ze 0,ze 0, .v (.string ⟨#[]⟩),nilV,nilV, .v (.bool false),ze 0,ze 0,ze 0,ze 0,nilV], .row 151 2 ((VS d (DW g) k).map Dz)])) (fun k=>k<=g.an.toNat) (fun k=>g.an.toNat - k) 0 (Aj _)
  ⟨_,_,zG _ _, [(3,151,2)],tA, [0,1,2,3,4,5],⟨tA,⟨by rw [e0];try rfl,rfl,rfl,rfl,rfl,rfl,tv⟩,rfl,rfl,rfl,rfl,rfl⟩⟩ ?_
 intro k hk;conv=>whnf
 refine A8 (fun h6=>?_) (fun h6=>?_) <;> (repeat rw [Ac] at h6) <;> conv=>whnf
 ·have hk':k<g.an.toNat:=by omega
  have hr:=O7 g s d k k h (by omega);repeat' (refine z_ ?_;conv=>whnf)
  refine zd [0,1,2,3] hr ?_;rintro _ _ ⟨rfl,rfl⟩;refine⟨rfl,?_⟩;refine⟨⟨by rw [Ab,Yc],by omega⟩,?_⟩;conv=>whnf
  exact⟨k+1,hk',by omega,zR (s:= [0,1,2,3,4,5]) ⟨⟨rfl,rfl,rfl,rfl,rfl,AH (by omega),tv⟩,⟨rfl,rfl,rfl,rfl,rfl,congrArg (fun l=>some (AB.row _ _ l)) (by rw [VR,Of hk'];try rfl),tv⟩,rfl,rfl,rfl,rfl,rfl⟩⟩
 ·have ek:k=g.an.toNat:=by omega
  subst ek;by_cases hlv:d.live g.an.toNat
  ·have eA:eK d g.an.toNat=0:=by unfold eK;rw [if_pos hlv]
   rw [eA];have hrl:VS d (DW g) g.an.toNat=B6 d (DW g):=by have:=Yd (d:=d) (ats:=DW g) (by rw [FC];exact hlv);rwa [FC] at this
   rw [hrl];have hM:DN g d=match HH g (B6 d (DW g)) with | none=>(d.adv g.an.toNat,11,st0) | some (a,_)=>Kh g a (d.adv g.an.toNat):=by unfold DN;rw [if_pos hlv];try rfl
   have hnw:=Rr g (B6 d (DW g)) hg (by rw [F7,FC];omega) (Qh h _);have hpo:=fun {a j}=>Ll (g:=g) (l:=B6 d (DW g)) hg (B6 d (DW g)).length (a:=a) (j:=j)
   have hpo:∀ {a j},HH g (B6 d (DW g))=some (a,j)->Bu g a=true:=hpo;have hgl:(B6 d (DW g)).length=g.an.toNat:=by rw [F7,FC]
   have hd1:=h.adv g.an.toNat;have hs1:=(Hd g.an.toNat d).1;have hin1:=fun a j=>hin0 (d.adv g.an.toNat) a j hd1 hs1 (Hd g.an.toNat d).2
   clear hin0;generalize B6 d (DW g)=L at hnw hpo hgl hM hin1 |-
   generalize d.adv g.an.toNat=d1 at hd1 hs1 hM hin1 |-
   conv=>whnf
   refine zN hnw.go ?_;refine⟨(by rw [Ab,hgl]),?_⟩;conv=>whnf
   refine zX [.ag (AT g),Im L] ⟨ri,Bb (f:=Dz) L hgl.symm rfl,tv⟩ ?_;refine zZ hnw ?_;conv=>whnf
   cases hP:HH g L with
   | none=>
    rw [hP] at hM;replace hM:DN g d=(d1,11,st0):=hM;rw [hM];exact⟨.ag (EB st0), .ag (EB st0),Nr g s 11 d1,Bi st0_sub,zF (zK (zv 1 3 (by decide) rfl rfl)) (s:= [0,1,2,3,7]) tA,⟨st0,rfl,fun _=>rfl⟩,rfl⟩
   | some q=>
    obtain⟨a,j⟩:=q;have hao:=hpo hP;rw [hP] at hM;replace hM:DN g d=Kh g a d1:=hM;rw [hM];clear hM hnw;have hl1:=hd1.l;have e10:eK d1 0=0:=by unfold eK;rw [if_pos];unfold Dk.live;omega
    conv=>whnf
    refine zU Nat (fun k=>([(0, .bp 0 0),(2, .bp 4 0),(4, .ow 6 k),(5, .ow 7 k),(7, .bp 5 0),(9,ze k)],aV g s (eK d1 (2*k)) (d1.adv (2*k)) [.box 39 [ze 0,ze 0,ze 0,ze 0,ze 0, .v (.string ⟨#[]⟩),nilV,nilV, .v (.bool false),ze 0,ze 0,ze 0,ze 0,nilV], .box 33 (ED a), .row 151 2 ((Ye d1 g 0 k).map Dz), .row 151 2 ((Ye d1 g 1 k).map Dz)])) (fun k=>k<=g.sl.toNat) (fun k=>g.sl.toNat - k) 0 (Aj _)
     ⟨_,_,zG _ _, [(4,151,2),(5,151,2)],tA, [0,1,2,3,4,6,7,8],⟨tA,⟨by show _=some (AB.box _ (Z1 _ _ _ (eK d1 0)));rw [e10];try rfl,rfl,rfl,rfl,rfl,rfl,rfl,rfl,tv⟩,rfl,rfl,rfl,rfl,rfl⟩⟩ ?_
    intro k hk;conv=>whnf
    refine A8 (fun h7=>?_) (fun h7=>?_) <;> (repeat rw [Ac] at h7) <;> conv=>whnf
    ·have hk':k<g.sl.toNat:=by omega
     have hla:=EY g 0 k hg (by simp only [IM,Ad,AF];omega);have hlb:=EY g 1 k hg (by simp only [IM,Ad,AF];omega);have hra:=O7 g s d1 (2*k) (Bg g 0 k) hd1 (Fj hg (by rw [hs1];exact hn) (.inl rfl) (by omega));have hrb:=O7 g s d1 (2*k+1) (Bg g 1 k) hd1 (Fj hg (by rw [hs1];exact hn) (.inr rfl) (by omega));repeat' (refine z_ ?_;conv=>whnf)
     refine zZ hla ?_;conv=>whnf
     refine zd [0,1,2,3] hra ?_;rintro _ _ ⟨rfl,rfl⟩;refine⟨rfl,?_⟩;refine⟨⟨by rw [Ab,SA],by omega⟩,?_⟩;conv=>whnf
     repeat' (refine z_ ?_;conv=>whnf)
     refine zZ hlb ?_;conv=>whnf
     refine zd [0,1,2,3] hrb ?_;rintro _ _ ⟨rfl,rfl⟩;refine⟨rfl,?_⟩;refine⟨⟨by rw [Ab,SA],by omega⟩,?_⟩;conv=>whnf
     repeat' (refine z_ ?_;conv=>whnf)
     exact⟨k+1,hk',by omega,zR (s:= [0,1,2,3,4,5,6,7]) ⟨⟨rfl,rfl,rfl,rfl,rfl,AH (by omega),tv⟩,⟨rfl,rfl,rfl,rfl,rfl,rfl,congrArg (fun l=>some (AB.row _ _ l)) (by rw [PA];try rfl),congrArg (fun l=>some (AB.row _ _ l)) (by rw [PA];try rfl),tv⟩,rfl,rfl,rfl,rfl,rfl⟩⟩
    ·have ek:k=g.sl.toNat:=by omega
     subst ek;unfold Kh;by_cases hl2:d1.live (2*g.sl.toNat)
     ·have eB:eK d1 (2*g.sl.toNat)=0:=by unfold eK;rw [if_pos hl2]
      rw [eB,if_pos hl2,SB (by decide) hl2,SB (by decide) hl2];have hx1:(B6 d1 (BO g 0)).length=g.sl.toNat:=by rw [F7,Jd]
      have hx2:(B6 d1 (BO g 1)).length=g.sl.toNat:=by rw [F7,Jd]
      have hlast:=Rl (x:=B6 d1 (BO g 0)) (y:=B6 d1 (BO g 1)) hg hao;obtain⟨hsc,hin⟩:=hin1 a j hP;clear hin1;have c0:B6 d1 (BO g ((0:Nat):Int))=B6 d1 (BO g 0):=rfl;have c1:B6 d1 (BO g ((1:Nat):Int))=B6 d1 (BO g 1):=rfl;rw [c0,c1];clear c0 c1;generalize FZ g a (B6 d1 (BO g 0)) (B6 d1 (BO g 1))=S at hsc hlast hin |-
      obtain⟨T,W,e⟩:=S;simp only at hsc hlast hin;generalize B6 d1 (BO g 0)=X1 at hx1 hsc |-
      generalize B6 d1 (BO g 1)=X2 at hx2 hsc |-
      have hd2:=hd1.adv (2*g.sl.toNat);have hs2:=(Hd (2*g.sl.toNat) d1).1;generalize d1.adv (2*g.sl.toNat)=d2 at hd2 hs2 |-
      conv=>whnf
      apply zW (0) tys_ok mixed (.o [0,1,2,3,4,5,6,7,8,9,10,11,12,13,14] .fin) (by kernel_rfl);conv=>whnf
      (refine zN hsc.go ?_;(conv=>whnf);refine Af (by rw [Ab,hx1]) ?_;(conv=>whnf);refine Af (by rw [Ab,hx2]) ?_;(conv=>whnf);refine zX [.ag (AT g), .ag (ED a),Im X1,Im X2] ⟨ri,ri,Bb (f:=Dz) X1 hx1.symm rfl,Bb (f:=Dz) X2 hx2.symm rfl,tv⟩ ?_;refine zZ hsc ?_)
      conv=>whnf
      unfold OL;by_cases he:e=0
      ·subst he;rw [if_neg (by simp)];have hin:=hin rfl;have hlast:=hlast rfl;simp only;conv=>whnf
       have hWin:∀ w∈W,QR d2.cells.length w:=by rw [hs2];exact hin.1
       refine zU Nat (fun k=>([(0, .bp 0 0),(2, .bp 4 0),(7, .bp 5 0),(10,Dl T),(11,Lz W),(13,ze k)],aV g s (U8 (d2.writes (W.take k)).2.2) (d2.writes (W.take k)).1 [.box 39 [ze 0,ze 0,ze 0,ze 0,ze 0, .v (.string ⟨#[]⟩),nilV,nilV, .v (.bool false),ze 0,ze 0,ze 0,ze 0,nilV], .box 33 (ED a)])) (fun k=>k<=W.length) (fun k=>W.length - k) 0 (Aj _)
        (zR (s:= [0,1,2,3,4,5]) tA) ?_
       intro k hk;conv=>whnf
       refine A8 (fun h8=>?_) (fun h8=>?_) <;> (repeat rw [Ac] at h8) <;> conv=>whnf
       ·have hk':k<W.length:=by omega
        have hw:=XE g s d2 W k hd2 hWin hk';repeat' (refine z_ ?_;conv=>whnf)
        apply zW (2 ^ 139) tys_ok mixed (.o [0,1,2,3,4,5,6,7,8,9,10,11] .fin) (by kernel_rfl);conv=>whnf
        try (refine tI ?_;conv=>whnf)
        try (refine tI ?_;conv=>whnf)
        (rw [Ac];refine zd [0,1,2,3] hw ?_;rintro _ _ ⟨⟨b,rfl⟩,rfl⟩)
        exact⟨k+1,hk',by omega,zR (s:= [0,1,2,3,4,5]) ⟨⟨rfl,rfl,rfl,rfl,rfl,AH (by omega),tv⟩,tA,rfl,rfl,rfl,rfl,rfl⟩⟩
       ·have ek:k=W.length:=by omega
        subst ek;rw [Aw];have hdw:=Ip hd2 hWin W.length;rw [Aw] at hdw;refine zi Unit (fun _=>([(0, .bp 0 0),(2, .bp 5 0),(7, .bp 6 0),(10,Dl T)],Nr g s (U8 (d2.mend W).2) (d2.mend W).1 ++ [AB.box 39 [ze 0,ze 0,ze 0,ze 0,ze 0, .v (.string ⟨#[]⟩),nilV,nilV, .v (.bool false),ze 0,ze 0,ze 0,ze 0,nilV],AB.box 33 (ED a)])) (fun _=>True) ?_ ?_
        ·by_cases hW:W=[]
         ·subst hW;exact⟨(),tv,zF (zK (zv 1 3 (by decide) rfl rfl)) (s:= [0,1,2,3,6,4,5]) tA⟩
         ·have hWl:0<W.length:=DT.2 hW;obtain⟨m1,m2⟩:=Yy (d:=d2) hW;have hf:=VY g s (U8 (d2.writes W).2.2) (d2.writes W).1 hdw.1;rw [m1,m2] at hf;conv=>whnf
          refine A8 (fun _=>?_) (fun hq=>absurd hq (by omega));conv=>whnf
          refine zd [0,1,2,3] hf ?_;rintro _ _ ⟨rfl,rfl⟩;exact⟨(),tv,zR (s:= [0,1,2,3,6,4,5]) tA⟩
        ·rintro _ _;have hdm:DkOk (d2.mend W).1/\(d2.mend W).1.cells.length=d2.cells.length:=by
          unfold Dk.mend;split
          ·exact⟨hd2,rfl⟩
          ·exact TY hd2 hWin
         generalize d2.mend W=M at hdm |-
         obtain⟨d3,dead⟩:=M;simp only at hdm |-
         cases dead with
         | true=>
          rw [if_pos rfl];conv=>whnf
          repeat' (refine z_ ?_;conv=>whnf)
          exact⟨.ag (EB st0), .ag (EB st0),Nr g s 8 d3,Bi st0_sub,zR (s:= [0,1,2,3,4]) tA,⟨st0,rfl,fun _=>rfl⟩,rfl⟩
         | false=>
          rw [if_neg (by decide)];have hpa:=G0 hao;unfold OK;by_cases hmx:a.gen=4294967295\/a.epoch=4294967295
          ·rw [if_pos hmx];conv=>whnf
           repeat' (refine z_ ?_;conv=>whnf)
           refine A8 (fun _=>?_) (fun q1=>?_)
           ·conv=>whnf
            repeat' (refine z_ ?_;conv=>whnf)
            exact⟨.ag (EB st0), .ag (EB st0),Nr g s 14 d3,Bi st0_sub,zR (s:= [0,1,2,3,4]) tA,⟨st0,rfl,fun _=>rfl⟩,rfl⟩
           ·conv=>whnf
            refine A8 (fun _=>?_) (fun q2=>absurd hmx (by omega));conv=>whnf
            repeat' (refine z_ ?_;conv=>whnf)
            exact⟨.ag (EB st0), .ag (EB st0),Nr g s 14 d3,Bi st0_sub,zR (s:= [0,1,2,3,4]) tA,⟨st0,rfl,fun _=>rfl⟩,rfl⟩
          ·rw [if_neg hmx];have hna:=PU (n:=T.length) hao (fun e=>hmx (.inl e)) (fun e=>hmx (.inr e)) hlast.2;have hban:=KF g s d3 (DQ a T.length) hg hna hdm.1 (MO hg hna (by rw [hdm.2,hs2,hs1];exact hn));have w1:IntKind.i64.wrap (a.gen+1)=a.gen+1:=wi (by omega);have w2:IntKind.i64.wrap (a.epoch+1)=a.epoch+1:=wi (by omega);have w3:IntKind.i64.wrap (IntKind.i64.wrap (a.seq+T.length) - 1)=a.seq+T.length - 1:=by
            rw [wi (n:=a.seq+T.length) (by omega)];exact wi (by omega)
           conv=>whnf
           repeat' (refine z_ ?_;conv=>whnf)
           refine A8 (fun q=>absurd q (by omega)) (fun q1=>?_);conv=>whnf
           refine A8 (fun q=>absurd q (by omega)) (fun q2=>?_);conv=>whnf
           repeat' (refine z_ ?_;conv=>whnf)
           rw [w1,w2,w3];refine zY [0,1,2,4] hban rfl rfl rfl rfl (by decide) (ZK rfl rfl) tA ?_;rintro _ _ ⟨rfl,rfl⟩;have hpn:(d3.putAll (Bf g (DQ a T.length))).2.1=(d3.writes (Bf g (DQ a T.length))).2.1:=by
            cases hdd:(d3.writes (Bf g (DQ a T.length))).2.2 with
            | true=>rw [FN hdd]
            | false=>rw [EZ hdd];split <;> rfl
           rw [<-hpn];generalize d3.putAll (Bf g (DQ a T.length))=Q;obtain⟨d4,n,dead⟩:=Q;simp only;cases dead with
           | true=>
            rw [if_pos rfl];conv=>whnf
            repeat' (refine z_ ?_;conv=>whnf)
            exact⟨.ag (EB (AJ (DQ a T.length) T)), .ag (EB (AJ (DQ a T.length) T)),Nr g s 8 d4,Bi ⟨ri,ri,ri,ri,ri,ri,ri,ri,ri,ri,ri,ri,ri,Bh 1 _,tv⟩,zR (s:= [0,1,2,3,7]) tA,⟨_,rfl,fun h=>absurd h (show ¬(8:Int)=0 by decide)⟩,rfl⟩
           | false=>
            rw [if_neg (by decide)];by_cases hn0:n=0
            ·subst hn0;rw [if_pos rfl];conv=>whnf
             repeat' (refine z_ ?_;conv=>whnf)
             exact⟨.ag (EB (AJ (DQ a T.length) T)), .ag (EB (AJ (DQ a T.length) T)),Nr g s 14 d4,Bi ⟨ri,ri,ri,ri,ri,ri,ri,ri,ri,ri,ri,ri,ri,Bh 1 _,tv⟩,zR (s:= [0,1,2,3,7]) tA,⟨_,rfl,fun h=>absurd h (show ¬(14:Int)=0 by decide)⟩,rfl⟩
            ·rw [if_neg hn0];have hnb:((n:Int) == 0)=false:=beq_eq_false_iff_ne.2 (by omega);conv=>whnf
             repeat' (refine z_ ?_;conv=>whnf)
             rw [hnb];conv=>whnf
             repeat' (refine z_ ?_;conv=>whnf)
             exact⟨.ag (EB (AJ (DQ a T.length) T)), .ag (EB (AJ (DQ a T.length) T)),Nr g s 0 d4,Bi ⟨ri,ri,ri,ri,ri,ri,ri,ri,ri,ri,ri,ri,ri,Bh 1 _,tv⟩,zR (s:= [0,1,2,3,7]) tA,⟨_,rfl,fun _=>rfl⟩,rfl⟩
      ·rw [if_pos (by simpa using he)];have hb:(e != 0)=true:=bne_iff_ne.2 he;rw [hb];exact⟨.ag (EB st0), .ag (EB st0),Nr g s e d2,Bi st0_sub,zF (zK (zv 1 3 (by decide) rfl rfl)) (s:= [0,1,2,3,8]) tA,⟨st0,rfl,fun h=>absurd h he⟩,rfl⟩
     ·have eB:eK d1 (2*g.sl.toNat)=8:=by unfold eK;rw [if_neg hl2]
      rw [eB,if_neg hl2];exact⟨.ag (EB st0), .ag (EB st0),Nr g s 8 (d1.adv (2*g.sl.toNat)),Bi st0_sub,zF (zK (zv 1 3 (by decide) rfl rfl)) (s:= [0,1,2,3,8]) tA,⟨st0,rfl,fun _=>rfl⟩,rfl⟩
  ·have eA:eK d g.an.toNat=8:=by unfold eK;rw [if_neg hlv]
   have hM:DN g d=(d.adv g.an.toNat,8,st0):=by unfold DN;rw [if_neg hlv]
   rw [eA,hM];exact⟨.ag (EB st0), .ag (EB st0),Nr g s 8 (d.adv g.an.toNat),Bi st0_sub,zF (zK (zv 1 3 (by decide) rfl rfl)) (s:= [0,1,2,3,6]) tA,⟨st0,rfl,fun _=>rfl⟩,rfl⟩
theorem Pr (l:List Tx) (hl:l.length<=1000000) (hi:∀ t∈l,t.images.length<=1000000/\∀ x∈t.images,x.bytes.length<=1000000000):Fn Tryz.prog 64 [Dl l] fun r=>r=Dl l:=by
 refine zS Tryz.func64 rfl ?_;conv=>whnf
 refine zU Nat (fun k=>([(0,Dl l),(3, .ow 0 k),(4,ze k)], [.row 112 4 ((l.take k).map CO)])) (fun k=>k<=l.length) (fun k=>l.length - k) 0 (Aj _)
  ⟨_,_,zG _ _, [(3,112,4)],tA, [0],tA⟩ ?_
 intro k hk;conv=>whnf
 refine A8 (fun h6=>?_) (fun h6=>?_) <;> (repeat rw [Ac] at h6) <;> conv=>whnf
 ·have hk':k<l.length:=by omega
  have hm:=hi _ (A6 (d:=(⟨0,0,0, []⟩:Tx)) hk');have b1:=IK (l.getD k ⟨0,0,0, []⟩).images hm.1 hm.2;have hl:k=((l.take k).map CO).length:=by simp;omega
  apply zW (0) tys_ok mixed (.o [0,1,2,3,4,5,6,7,8,9,10,11,12,13,14,15,16,17,18,19,20,21,22,23,24,25] .fin) (by kernel_rfl);conv=>whnf
  try (refine tI ?_;conv=>whnf)
  try (refine tI ?_;conv=>whnf)
  try (refine tI ?_;conv=>whnf)
  try (refine tI ?_;conv=>whnf)
  refine zZ b1 ?_;conv=>whnf
  try (refine tJ ?_;conv=>whnf)
  try (refine tK ?_;conv=>whnf)
  all_goals exact⟨k+1,hk',by omega,zR (s:= [0]) ⟨⟨rfl,rfl,AH (by omega),tv⟩,⟨congrArg (fun l=>some (AB.row _ _ l)) (FD (f:=CO) (d:=(⟨0,0,0, []⟩:Tx)) hk').symm,tv⟩,rfl,rfl,rfl,rfl,rfl⟩⟩
 ·have ek:k=l.length:=by omega
  subst ek;rw [Aw];refine Af (Ab _).symm ?_;exact⟨Dl l,Bb (f:=CO) l rfl rfl,rfl⟩
theorem Om (s:Stt) (h:StSm s):Fn Tryz.prog 24 [.ag (EB s)] fun r=>r = .ag (EB s):=by
 have c1:=MR s.a (by have:=h.h.1;omega) h.h.2;have c2:=Pr s.txns (by have:=h.t.1;omega) (fun t ht=>⟨by have:=(h.t.2 t ht).1;omega,fun x hx=>by have:=(h.t.2 t ht).2 x hx;omega⟩);have c3:=G4 s.lost h.o;refine zS Tryz.func24 rfl ?_;conv=>whnf
 apply zW (0) tys_ok mixed (.o [0,1,3,4,6,7,8,2,10,5,9,11,12,13,14,15,16] .fin) (by kernel_rfl);conv=>whnf
 refine zZ c1 ?_;conv=>whnf
 refine zZ c2 ?_;conv=>whnf
 refine zZ c3 ?_;conv=>whnf
 try (refine tS ?_;conv=>whnf)
 try (refine tS ?_;conv=>whnf)
 try (refine tS ?_;conv=>whnf)
 all_goals exact⟨_,ri,rfl⟩
theorem DkOk.big {d:Dk} (h:DkOk d):d.cells.length<=1000000/\d.cache.length<=1000000/\(∀ c∈d.cells,c.bytes.length<=1000000000/\c.old.length<=1000000000)/\(∀ w∈d.cache,w.bytes.length<=1000000000):=
 ⟨by have:=h.n;omega,by have:=h.m;omega,fun c hc=>by have:=(h.c c hc).2;omega,fun w hw=>by have:=(h.w w hw).2;omega⟩
theorem TV (g:Geo) (d:Dk) (s:Stt) (h:DkOk d) (hs:StSm s):ACalls Tryz.prog false 29 [.ag (AT g), .ag (EN d), .ag (EB s)] [] fun r H=>r = .bp 0 0/\H=J5 g s 0 d:=by
 obtain⟨q1,q2,q3,q4⟩:=h.big;have c1:=O2 d q1 q2 q3 q4;have c2:=Om s hs;refine zT tys_ok Tryz.func29 rfl rfl (Ag rfl) ?_;conv=>whnf
 apply zW (0) tys_ok mixed (.o [0,1,3,2,4,5,6,7] .fin) (by kernel_rfl);conv=>whnf
 (refine zV c1 rfl ?_;rintro _ _ ⟨rfl,rfl⟩)
 conv=>whnf
 refine zZ c2 ?_;exact⟨_, .bp 0 0,J5 g s 0 d,fun _ _ h=>h,zR (s:= [6,3,4,5]) tA,rfl,rfl⟩
end
end Go.Proofs.YtepdhdfoipephaaGreatDoor.A
