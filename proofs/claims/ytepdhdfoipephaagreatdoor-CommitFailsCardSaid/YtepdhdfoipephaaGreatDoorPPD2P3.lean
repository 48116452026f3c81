/-
Several texts in one.
-/
import Derived.Test.YtepdhdfoipephaaGreatDoorPPD2P2
import Derived.Test.YtepdhdfoipephaaGreatDoorPPD2P1
import Derived.Test.YtepdhdfoipephaaGreatDoorPPD2P0
import Derived.ProofKit
import Derived.Deep.Slices
import Derived.OpenShut
set_option maxRecDepth 100000
set_option maxHeartbeats 8000000
set_option linter.unusedSimpArgs false
set_option linter.unusedVariables false
set_option linter.deprecated false
namespace Go.Proofs.YtepdhdfoipephaaGreatDoor.A
section
open Go.RowKit
structure Stt where
 a:An
 txns:List Tx
 only:Bool
 cursor:Int
 found:Int
 fixed:Int
 moved:Int
 lost:List Int
 deriving DecidableEq
def E6 (s:Stt):List AV:= [iv s.a.gen,iv s.a.epoch,iv s.a.pos,iv s.a.seq,iv s.a.last, .v (.string s.a.label),Ku s.a.homes,Eg s.txns, .v (.bool s.only),iv s.cursor,iv s.found,iv s.fixed,iv s.moved,iA s.lost]
def st0:Stt:=⟨an0, [],false,0,0,0,0, []⟩
@[reducible] def YM (g:Geo) (x:AV) (s:Stt):List AV:= [iv g.z,iv g.d,iv g.sp,iv g.sl,iv g.an,x,iv s.a.gen,iv s.a.epoch,iv s.a.pos,iv s.a.seq,iv s.a.last, .v (.string s.a.label),Ku s.a.homes,Eg s.txns, .v (.bool s.only),iv s.cursor,iv s.found,iv s.fixed,iv s.moved,iA s.lost]
@[reducible] def Z_ (g:Geo) (s:Stt) (d:Dk):List AB:= [.box 116 (YM g (.bp 1 0) s), .box 185 (H0 (.ow 2 d.cells.length) (.ow 3 d.cache.length) d.reqs d.left), .row 128 3 (d.cells.map B5), .row 134 2 (d.cache.map DR)]
@[reducible] def bwG (g:Geo) (s:Stt) (d:Dk):List AB:= [.box 116 (YM g (.bp 1 0) s), .box 185 (H0 (.ow 2 d.cells.length) (.ow 4 d.cache.length) d.reqs d.left), .row 128 3 (d.cells.map B5), .dead, .row 134 2 (d.cache.map DR)]
theorem Pm {m:Nat} (h:Nat.ble 4 m=true):∀ z∈ [1,2,3],z<m:=fun z hz=>by
 have:=Ag h;simp at hz;omega
theorem GI {m:Nat} (h:Nat.ble 4 m=true):∀ z∈ [0,1,2,3],z<m:=fun z hz=>by
 have:=Ag h;simp at hz;omega
@[reducible] def aa (g:Geo) (s:Stt) (d:Dk) (l:List AB):List AB:= .box 116 (YM g (.bp 1 0) s):: .box 185 (H0 (.ow 2 d.cells.length) (.ow 3 d.cache.length) d.reqs d.left):: .row 128 3 (d.cells.map B5):: .row 134 2 (d.cache.map DR)::l
def B3 (d:Dk) (ats:List Int):List Gt:=ats.map (To d)
def Dn (g:Geo):List Int:=(List.range g.an.toNat).map Int.ofNat
theorem SG {d:Dk} {k:Nat} (a:Int) (h:¬(d.adv k).left=0):(d.adv k).read a=(d.adv (k+1),d.got a):=by
 rw [Dk.read,if_neg h,W4 k d h,XQ]
theorem SH {d:Dk} {k:Nat} (a:Int) (h:(d.adv k).left=0):(d.adv k).read a=(d.adv k, [],8):=by rw [Dk.read,if_pos h]
theorem Ff (g:Geo):(Dn g).length=g.an.toNat:=by simp [Dn]
theorem Nu {g:Geo} {k:Nat} (h:k<g.an.toNat):(Dn g).getD k 0=k:=by
 rw [Dn,Bf (d:=0) (by simpa using h),Ab,Br h];try rfl
theorem DM (d:Dk) (ats:List Int):(B3 d ats).length=ats.length:=by simp [B3]
def BS (g:Geo) (copy:Int):List Int:=(List.range g.sl.toNat).map fun i=>AU g copy (i:Nat)
theorem EZ (g:Geo) (c:Int):(BS g c).length=g.sl.toNat:=by simp [BS]
theorem D_ {g:Geo} (hg:Bq g=true):g.an+2*g.sl+2*g.z<=A4 g:=by
 obtain⟨g1,g2,g3,g4,g5⟩:=Ar.1 hg;have hp:=GD hg;have:0<=g.z*CG g:=CO (by omega) (by omega);unfold A4;omega
theorem DY {g:Geo} {n:Nat} (hg:Bq g=true) (hn:(n:Int)=A4 g) {c s:Int} (hc:c=0\/c=1) (hs:0<=s/\s<g.sl):0<=AU g c s/\AU g c s<n:=by
 obtain⟨g1,g2,g3,g4,g5⟩:=Ar.1 hg;have:=D_ hg;unfold AU;rcases hc with rfl | rfl <;> omega
def Rx (n:Nat) (w:Wr):Prop:=(0<=w.addr/\w.addr<n)/\w.bytes.length<=200
theorem H6 {d:Dk} (h:DkOk d) {l:List Wr} (hl:∀ w∈l,Rx d.cells.length w) (k:Nat):DkOk (d.writes (l.take k)).1/\(d.writes (l.take k)).1.cells.length=d.cells.length:=
 Qb (P:=fun x=>DkOk x/\x.cells.length=d.cells.length) l (fun x hx w hw=>⟨hx.1.write (by rw [hx.2];exact(hl w hw).1) (hl w hw).2,by rw [Kx,hx.2]⟩) ⟨h,rfl⟩ k
theorem Mt (d:Dk) (a:Int) (b:List UInt8):(d.write a b).2=8\/(d.write a b).2=7\/(d.write a b).2=0:=by
 unfold Dk.write;split
 ·exact .inl rfl
 ·split
  ·exact .inr (.inl rfl)
  ·exact .inr (.inr rfl)
theorem Ky {d:Dk} {l:List Wr} {k:Nat} (hk:k<l.length) (h:(d.writes (l.take k)).2.2=false) :
  d.writes (l.take (k+1))=(((d.writes (l.take k)).1.write (l.getD k ⟨0, []⟩).addr (l.getD k ⟨0, []⟩).bytes).1,(d.writes (l.take k)).2.1+(if ((d.writes (l.take k)).1.write (l.getD k ⟨0, []⟩).addr (l.getD k ⟨0, []⟩).bytes).2=0 then 1 else 0),decide (((d.writes (l.take k)).1.write (l.getD k ⟨0, []⟩).addr (l.getD k ⟨0, []⟩).bytes).2=8)):=by
 rw [FV d hk];unfold Fx;rw [if_neg (by rw [h];decide)];simp only;by_cases h8:((d.writes (l.take k)).1.write (l.getD k ⟨0, []⟩).addr (l.getD k ⟨0, []⟩).bytes).2=8
 ·rw [if_pos h8,h8];simp
 ·rw [if_neg h8,decide_eq_false h8]
theorem Fq {d:Dk} {l:List Wr} (h:(d.writes l).2.2=true):d.putAll l=((d.writes l).1,(d.writes l).2.1,true):=by
 unfold Dk.putAll;generalize d.writes l=q at h |-
 obtain⟨a,b,c⟩:=q;simp only at h |-
 rw [if_pos h]
theorem Ey {d:Dk} {l:List Wr} (h:(d.writes l).2.2=false):d.putAll l=if (d.writes l).1.left=0 then ((d.writes l).1,(d.writes l).2.1,true) else ((d.writes l).1.flush,(d.writes l).2.1,false):=by
 unfold Dk.putAll;generalize d.writes l=q at h |-
 obtain⟨a,b,c⟩:=q;simp only at h |-
 rw [if_neg (by rw [h];decide)]
theorem J6 {d:Dk} (h:DkOk d) {l:List Wr} (hl:∀ w∈l,Rx d.cells.length w):DkOk (d.putAll l).1/\(d.putAll l).1.cells.length=d.cells.length:=by
 have hw:=H6 h hl l.length;rw [Ay] at hw;cases hd:(d.writes l).2.2 with
 | true=>rw [Fq hd];exact hw
 | false=>
  rw [Ey hd];split
  ·exact hw
  ·exact⟨hw.1.flush,by rw [XA,hw.2]⟩
def Dk.mend (d:Dk) (l:List Wr):Dk × Bool:=if l=[] then (d,false) else ((d.putAll l).1,(d.putAll l).2.2)
end
end Go.Proofs.YtepdhdfoipephaaGreatDoor.A
namespace Go.Proofs.YtepdhdfoipephaaGreatDoor
section

theorem KP {l m:List UInt8} {n:Nat} (h:l.length=n):(l ++ m).take n=l:=by subst h;simp
theorem LQ {l m:List UInt8} {n:Nat} (h:l.length=n):(l ++ m).drop n=m:=by subst h;simp
theorem G8 (a s:Int) (p:List UInt8):(Ei a s p).length=p.length+7:=by
 simp only [Ei,Ai,Ap,leB_len]
theorem EQ (a s:Int) (p:List UInt8):(CA a s p).length=p.length+11:=by
 simp only [CA,Ai,G8,leB_len]
theorem Jz {a s:Int} {p:List UInt8} (h:WC a s p):CU (CA a s p)=0/\C9 (CA a s p)=a/\Cj (CA a s p)=s/\Cz (CA a s p)=p:=by
 obtain⟨h1,h2,h3,h4,h5⟩:=h;have hl:=EQ a s p;have hs:=H8 (Ei a s p);have e1:CA a s p=Ei a s p ++ leB 4 (CS (Ei a s p)):=rfl;have e2:CA a s p=(UInt8.ofNat p.length::p) ++ (leB 2 a.toNat ++ (leB 4 s.toNat ++ leB 4 (CS (Ei a s p)))):=by rw [e1];simp only [Ei,A7]
 have e3:CA a s p=((UInt8.ofNat p.length::p) ++ leB 2 a.toNat) ++ (leB 4 s.toNat ++ leB 4 (CS (Ei a s p))):=by rw [e2,A7]
 have hpn:Cg (CA a s p)=p.length:=by
  rw [e2];show (UInt8.ofNat p.length).toNat=p.length;rw [B8];exact Nat.lt_of_le_of_lt h5 (by decide)
 refine⟨?_,?_,?_,?_⟩
 ·unfold CU;rw [if_neg (by omega),if_neg,if_pos]
  ·refine⟨?_,by omega⟩;simp only [ES,decide_eq_true_eq];omega
  ·rw [hl,show p.length+11 - 4=p.length+7 by omega,e1,LQ (G8 a s p),KP (G8 a s p),leN_leB _ _ (by have:(256:Nat) ^ 4=4294967296:=rfl;omega)];simp
 ·unfold C9;rw [hl,show p.length+11 - 10=p.length+1 by omega,e2,LQ (by simp),KP (leB_len 2 _),leN_leB _ _ (by have:(256:Nat) ^ 2=65536:=rfl;omega)];omega
 ·unfold Cj;rw [hl,show p.length+11 - 8=p.length+3 by omega,e3,LQ (by simp [leB_len]),KP (leB_len 4 _),leN_leB _ _ (by have:(256:Nat) ^ 4=4294967296:=rfl;omega)];omega
 ·unfold Cz;rw [hl,show p.length+11 - 11=p.length by omega,e2];simp
end
end Go.Proofs.YtepdhdfoipephaaGreatDoor
namespace Go.Proofs.YtepdhdfoipephaaGreatDoor.A
section
open Go.RowKit
def Bg (g:Geo) (a:An):List Wr:=(List.range g.an.toNat).map fun i=>⟨(i:Nat),Dg a (i:Nat)⟩
theorem Fw (g:Geo) (a:An):(Bg g a).length=g.an.toNat:=by simp [Bg]
theorem Ko {g:Geo} {a:An} {k:Nat} (h:k<g.an.toNat):(Bg g a).getD k ⟨0, []⟩=⟨(k:Nat),Dg a (k:Nat)⟩:=by
 rw [Bg,Bf (d:=0) (by simpa using h),Ab,Br h];try rfl
theorem LX {g:Geo} {a:An} {n:Nat} (hg:Bq g=true) (ha:Bv g a=true) (hn:(n:Int)=A4 g):∀ w∈Bg g a,Rx n w:=by
 obtain⟨g1,g2,g3,g4,g5⟩:=Ar.1 hg;have hc:=D_ hg;intro w hw;simp only [Bg,AK,AO] at hw;obtain⟨i,hi,rfl⟩:=hw;refine⟨⟨by show (0:Int)<=(i:Nat);omega,by show ((i:Nat):Int)<n;omega⟩,?_⟩;show (CA (i:Nat) a.gen (LY a)).length<=200;rw [EQ];have:=JP hg ha;omega
def Ex (g:Geo) (x:Gt) (addr:Int):Option An:=
 if x.err=0/\CU x.bytes=0/\C9 x.bytes=addr then
  match EM g (Cz x.bytes) with
  | some a=>if a.gen=Cj x.bytes then some a else none
  | none=>none
 else none
theorem Ga (e:Value):∀ (c:Ctx) (v:Value),Rd (.tp [.ag [iv 0,iv 0,iv 0,iv 0,iv 0, .v (.string ⟨#[]⟩), .v (.slice none 0 0)], .v e]) c v->Rd (.tp [.ag (EJ an0), .v e]) c v:=
 BL (m:= [.ag (EJ an0), .v e]) ⟨Bk an0_sub,ri,tv⟩
theorem Qn (b:List UInt8):(Cz b).length<=b.length:=by simp [Cz];omega
theorem ConvH.subBox {H:List AB} (k:Nat) {t:TypeId} {cs cs':List AV} (hk:H[k]? = some (.box t cs)) (h:SubL cs cs'):ConvH H (H.set k (.box t cs')):=fun _ _ c hs=>
 ⟨c,rfl,hs.recell hk rfl fun⟨g,xs,h1,h2,h3,h4⟩=>⟨g,xs,h1,h2,h.rdl h3,h4⟩,zN c⟩
def OW (g:Geo) (l:List Gt) (st:Option (An × Nat)) (i:Nat):Option (An × Nat):=
 match Ex g (l.getD i ⟨0, []⟩) (i:Nat) with
 | none=>st
 | some b=>match st with
  | none=>some (b,i)
  | some (a,j)=>if a.gen<b.gen then some (b,i) else some (a,j)
def EN (g:Geo) (l:List Gt) (k:Nat):Option (An × Nat):=(List.range k).foldl (OW g l) none
def Gl (g:Geo) (l:List Gt):Option (An × Nat):=EN g l l.length
theorem In (g:Geo) (l:List Gt) (k:Nat):EN g l (k+1)=OW g l (EN g l k) k:=by rw [EN,Bh,Cd];try rfl
def ZK (p:Option (An × Nat)):An:=match p with | some (a,_)=>a | none=>an0
def ZR (p:Option (An × Nat)):Nat:=match p with | some (_,i)=>i | none=>0

theorem Le (b:List UInt8) (m:Nat) (hm:m<=b.length) (hm4:m<=4):Fn Tryz.prog 143 [bA b,iv m] fun r=>r = iv (leN (b.take m):Nat):=by
 refine zT Tryz.func143 rfl ?_;conv=>whnf
 rw [wi (show -9223372036854775808<=(m:Int) - 1/\(m:Int) - 1<=9223372036854775807 by omega)];have hl:(b.take m).length=m:=by rw [As];omega
 refine zU Nat (fun k=>([(0,bA b),(5,iv (leN ((b.take m).drop k):Nat)),(6,iv ((k:Int) - 1))], [])) (fun k=>k<=m) (fun k=>k) m (Ah _)
  (zR (s:= []) ⟨⟨rfl,by rw [AG (by omega)];try rfl,rfl,tv⟩,tv,rfl,rfl,rfl,rfl,rfl⟩) ?_
 intro k hk;conv=>whnf
 refine A6 (fun h5=>?_) (fun h5=>?_) <;> (repeat rw [Aa] at h5) <;> conv=>whnf
 ·obtain⟨j,rfl⟩:∃ j,k=j+1:=⟨k - 1,by omega⟩;have e1:(((j+1:Nat):Int) - 1)=(j:Nat):=by omega
  have hj:j<(b.take m).length:=by omega
  have hb:b.getD j 0=(b.take m)[j]:=by rw [List.getElem_take,Ab,Ae (by omega)];try rfl
  have hd:leN ((b.take m).drop j)=(b.take m)[j].toNat+256*leN ((b.take m).drop (j+1)):=by rw [A_ hj];try rfl
  have hlt:=leN_lt ((b.take m).drop (j+1));have hx:=(b.take m)[j].toNat_lt;have hp:256 ^ ((b.take m).drop (j+1)).length<=256 ^ 3:=Nat.pow_le_pow_right (by decide) (by rw [Ak];omega);rw [e1];refine⟨⟨by omega,by omega⟩,?_⟩;conv=>whnf
  have hv:IntKind.i64.wrap (IntKind.i64.wrap (256*((leN ((b.take m).drop (j+1)):Nat):Int))+IntKind.i64.wrap ((b.getD j 0).toNat:Nat))=((leN ((b.take m).drop j):Nat):Int):=by
   rw [hb,hd,wi (n:=(((b.take m)[j].toNat:Nat):Int)) (by omega),wi (n:=256*((leN ((b.take m).drop (j+1)):Nat):Int)) (by omega),wi (by omega)];omega
  exact⟨j,by omega,by omega,zR (s:= []) ⟨⟨rfl,congrArg (fun n=>AV.v (.int .i64 n)) hv,congrArg (fun n=>AV.v (.int .i64 n)) (wi (n:=(j:Int) - 1) (by omega)),tv⟩,tv,rfl,rfl,rfl,rfl,rfl⟩⟩
 ·have ek:k=0:=by omega
  subst ek;exact⟨_,ri,rfl⟩
theorem RD (b:List UInt8) (hb:b.length<=1000000000):Fn Tryz.prog 150 [bA b] fun r=>r = iv (CS b:Nat):=OG b hb
theorem Fk (b:List UInt8) (m:Nat) (hm:m<=b.length) (hm4:m<=4):Fn Tryz.prog 143 [bA b,iv m] fun r=>r = iv (leN (b.take m):Nat):=Le b m hm hm4
def zero8:List UInt8:= [0,0,0,0,0,0,0,0]
def ent0:Ent:=⟨0,(CS zero8:Nat),false⟩
def E4 (g:Geo):List Ent:=List.replicate (g.d+1).toNat ent0
theorem VQ (stamp:Int) (b:List UInt8) (hb:b.length<=1000000000):Fn Tryz.prog 153 [iv stamp,bA b] fun r=>r = .ag (CX ⟨stamp,(CS b:Nat),false⟩):=by
 refine zT Tryz.func153 rfl ?_;conv=>whnf
 repeat' (first | (refine zZ ?_;conv=>whnf) | (refine A6 (fun _=>?_) (fun _=>?_) <;> conv=>whnf) | (refine z_ (RD b hb) ?_;conv=>whnf) | (refine Af (by first | omega | exact of_decide_eq_true rfl) ?_;conv=>whnf) | fail)
 exact⟨_,ri,rfl⟩
def bv (l:List Ent):Nat->AV
 | 0=> .v (.slice none 0 0)
 | k+1=>bA (CL (l.take (k+1)))
theorem WK (l:List Ent) (hl:l.length<=1000) (hb:∀ e∈l,(0<=e.stamp/\e.stamp<=4294967295)/\0<=e.sum/\e.sum<=4294967295):Fn Tryz.prog 131 [.ag [BP l]] fun r=>r=bA (CL l):=by
 refine zT Tryz.func131 rfl ?_;conv=>whnf
 refine zP Nat (fun k=>([(1, .bp 0 0),(3,bv l k),(4,iv k)], [.box 70 [BP l]])) (fun k=>k<=l.length) (fun k=>l.length - k) 0 (Aj _) ⟨[],tv,tA,tA,rfl,rfl,rfl⟩ ?_;intro k hk;conv=>whnf
 refine A6 (fun c1=>?_) (fun c1=>?_) <;> (repeat rw [Aa] at c1) <;> conv=>whnf
 ·have he:=hb _ (A5 (d:=⟨0,0,false⟩) c1);refine zZ ?_;conv=>whnf
  refine⟨by first | omega | (refine⟨rfl,?_,?_⟩ <;> first | omega | (simp only [Ac];done) | (simp only [Ac];omega)) | (simp only [Ac];omega),?_⟩;conv=>whnf
  have hlt:(CL (l.take k)).length<=9000:=by rw [E3,As];omega
  have p1:=Ej (CL (l.take k)) (l.getD k ⟨0,0,false⟩).stamp 4 (by omega) he.1 (by decide);have p2:=Ej (CL (l.take k) ++ leB 4 (l.getD k ⟨0,0,false⟩).stamp.toNat) (l.getD k ⟨0,0,false⟩).sum 4 (by rw [Ai,leB_len];omega) he.2 (by decide);have p3:=Ej (CL (l.take k) ++ leB 4 (l.getD k ⟨0,0,false⟩).stamp.toNat ++ leB 4 (l.getD k ⟨0,0,false⟩).sum.toNat) (CV (l.getD k ⟨0,0,false⟩).lost) 1 (by rw [Ai,Ai,leB_len,leB_len];omega) (by unfold CV;split <;> omega) (by decide);have hst:bv l (k+1)=bA (CL (l.take k) ++ leB 4 (l.getD k ⟨0,0,false⟩).stamp.toNat ++ leB 4 (l.getD k ⟨0,0,false⟩).sum.toNat ++ leB 1 (CV (l.getD k ⟨0,0,false⟩).lost).toNat):=by
   rw [bv,Mz c1,I3];rw [Ab,Ae c1];simp [rowB,A7]
  obtain⟨L,hLe⟩:∃ L,(l.getD k ⟨0,0,false⟩).lost=L:=⟨_,rfl⟩;rw [hLe] at p3 hst;rcases k with _ | k
  all_goals
   refine zA tys_ok mixed [0,1,2,4,5,3,6,7] (by kernel_rfl) ?_;conv=>whnf
   refine zY _ ?_ (zM (p1) rfl ?_)
   ·repeat' (first | exact trivial | exact fun _ _ h=>h | exact Bn _ _ | refine Af ?_ ?_ | refine Bk ?_)
   rintro _ rfl;conv=>whnf
   refine zY _ ?_ (zM (p2) rfl ?_)
   ·repeat' (first | exact trivial | exact fun _ _ h=>h | exact Bn _ _ | refine Af ?_ ?_ | refine Bk ?_)
   rintro _ rfl;conv=>whnf
   refine zZ ?_;conv=>whnf
   rw [Aa,hLe];cases L
  all_goals
   conv=>whnf
   refine z_ p3 ?_;refine⟨_,by omega,by omega, [],tv,⟨rfl,hst.symm,AR (by omega),tv⟩,tA,rfl,rfl,rfl⟩
 ·have ek:k=l.length:=by omega
  rcases k with _ | k
  ·have e:l=[]:=AQ.1 ek.symm;subst e;exact⟨bA (CL []),Bn 1 _,rfl⟩
  ·conv=>whnf
   exact⟨_,ri,by rw [ek,Ay];try rfl⟩
theorem WM (g:Geo) (hg:Bq g=true):Fn Tryz.prog 132 [.ag (Ba g)] fun r=>r = .ag [BP (E4 g)]:=by
 obtain⟨h1,h2,h3,h4,h5⟩:=Ar.1 hg;refine zT Tryz.func132 rfl ?_;conv=>whnf
 have w1:IntKind.i64.wrap (g.d+1)=g.d+1:=by rw [IntKind.wrap_i64];omega
 refine zP Nat (fun k=>([(1, .bp 0 0),(2, .bp 1 0),(3, .bp 2 0),(4,iv k)], [.box 23 (Ba g), .box 70 [.v (.slice none 0 0)], .box 70 [.ow 3 k], .row 97 3 ((List.replicate k ent0).map CX)])) (fun k=>(k:Int)<=g.d+1) (fun k=>(g.d+1 - k).toNat) 0 (show (0:Int)<=g.d+1 by omega) ⟨[(1002000,97,3)],tA,tA,tA,rfl,rfl,rfl⟩ ?_;intro k hk;conv=>whnf
 refine A6 (fun c1=>?_) (fun c1=>?_) <;> (repeat rw [Aa] at c1) <;> conv=>whnf
 ·refine zA tys_ok mixed [0,1,2,3,4,5,6,7] (by kernel_rfl) ?_;conv=>whnf
  repeat' (refine Af (by first | omega | exact of_decide_eq_true rfl) ?_;conv=>whnf)
  have e0:=VQ 0 zero8 (by decide);refine zQ (e0).go ?_;conv=>whnf
  repeat' (refine Af (by first | rfl | omega | (simp;done) | (simp only [Ac];omega)) ?_;conv=>whnf)
  refine zY _ ?_ (zM (e0) rfl ?_)
  ·repeat' (first | exact trivial | exact fun _ _ h=>h | exact Bn _ _ | exact TW zero8 rfl rfl | refine Af ?_ ?_ | refine Bk ?_)
  rintro _ rfl;conv=>whnf
  repeat' (first | (refine Af (by first | rfl | omega) ?_;conv=>whnf) | fail)
  refine⟨⟨by rw [Ac,BC],by omega⟩,?_⟩;conv=>whnf
  exact⟨k+1,by omega,by omega, [],tv,⟨rfl,rfl,rfl,AR (by omega),tv⟩,⟨rfl,rfl,rfl,by rw [List.replicate_succ',A0];try rfl,tv⟩,rfl,rfl,rfl⟩
 ·refine⟨(by rw [Ac,BC]),?_⟩;conv=>whnf
  have ek:k=(g.d+1).toNat:=by omega
  refine⟨.ag [BP (E4 g)],Bk ⟨B4 (E4 g) ?_ ?_,tv⟩,rfl⟩
  ·rw [E4,BC,ek]
  ·rw [E4,ek]
theorem HE (x:Rc):rowB (Cu x) szR=leB 1 x.kind.toNat ++ (leB 4 x.seq.toNat ++ (leB 4 x.epoch.toNat ++ (leB 1 x.at_.toNat ++ leB 1 x.of_.toNat))):=by
 simp [rowB,Cu,szR]
theorem Og {L:List UInt8} {n:Nat} {es:List (List AV)} (hn:n=L.length) (he:es=L.map Eo) (c:Ctx) (v:Value) (h:Rd (.sl 1 n fun i=>es.getD i []) c v):Rd (bA L) c v:=by
 subst he;exact zH hn (fun i hi=>Bf (f:=Eo) (l:=L) (d:=0) (hn ▸ hi)) h
theorem S6 (g:Geo) (x:Rc) (hok:DP g x=true):Fn Tryz.prog 155 [.ag (FQ x)] fun r=>r=bA (Ek x):=by
 obtain⟨K,S,E,A,O,k1,k2,k3,k4,k5,hS,hE⟩:=Xj hok;have p1:=NC (leB 1 K) S 4 (by rw [leB_len];decide) hS (by decide);have p2:=Hk (leB 1 K ++ leB 4 S) (E:Nat) 4 (by simp [leB_len]) (by omega) (by decide);have eK : [[AV.v (.int .u8 (IntKind.u8.wrap x.kind))]]=(leB 1 K).map Eo:=by
  rw [k1];show _=[[AV.v (.int .u8 ((UInt8.ofNat (K % 256)).toNat:Nat))]];rw [B8 (show K % 256<256 by omega),IntKind.wrap_u8];try rfl
 refine zT Tryz.func155 rfl ?_;conv=>whnf
 apply zV (0) tys_ok mixed (.o [0,1,2,4,5,7,8,3,6,9,10] .fin) (by kernel_rfl);conv=>whnf
 (refine zQ p1.go ?_;(conv=>whnf);refine Af rfl ?_;(conv=>whnf);refine zY [bA (leB 1 K),iv S,iv 4] ⟨Og rfl eK,by rw [k2];exact fun _ _ h=>h,ri,tv⟩ ?_;refine z_ p1 ?_)
 conv=>whnf
 (rw [k3];refine zW p2 rfl ?_;rintro _ _ ⟨rfl,rfl⟩)
 refine⟨rfl,?_⟩;refine⟨⟨by simp,by simp [leB_len]⟩,?_⟩;have eR:List.map Eo (leB 1 K ++ leB 4 S ++ leB 4 ((E:Nat):Int).toNat) ++ [[AV.v (.int .u8 (IntKind.u8.wrap x.at_))], [AV.v (.int .u8 (IntKind.u8.wrap x.of_))]]=(rowB (Cu x) szR).map Eo:=by
  rw [HE,k1,k2,k3,k4,k5];have e8:∀ n:Nat, [[AV.v (.int .u8 (IntKind.u8.wrap (n:Int)))]]=(leB 1 n).map Eo:=fun n=>by
   show _=[[AV.v (.int .u8 ((UInt8.ofNat (n % 256)).toNat:Nat))]];rw [B8 (show n % 256<256 by omega),IntKind.wrap_u8];try rfl
  simp only [A0,<-e8,Aa,A7];rfl
 rw [eR];conv=>whnf
 by_cases hk:x.kind=1
 ·rw [show (x.kind != 1)=false by simpa using hk];conv=>whnf
  repeat' (refine zZ ?_;conv=>whnf)
  obtain⟨Z,W,z1,z2,z3,z4⟩:=Xk hok hk;have hpt:=Lc x.img.bytes z4;have hR11:(rowB (Cu x) szR).length=11:=by rw [HE];simp [leB_len]
  have hA:(leB 1 K ++ leB 4 S ++ leB 4 ((E:Nat):Int).toNat).length+2=(List.map Eo (rowB (Cu x) szR)).length:=by rw [Ac,hR11];simp [leB_len]
  have hA2:(leB 1 K ++ leB 4 S ++ leB 4 ((E:Nat):Int).toNat).length+2+2<=1000000000:=by simp [leB_len]
  have e8:∀ n:Nat, [[AV.v (.int .u8 (IntKind.u8.wrap (n:Int)))]]=(leB 1 n).map Eo:=fun n=>by
   show _=[[AV.v (.int .u8 ((UInt8.ofNat (n % 256)).toNat:Nat))]];rw [B8 (show n % 256<256 by omega),IntKind.wrap_u8];try rfl
  obtain⟨Q,hQ⟩:∃ Q,Q=rowB (Cu x) szR ++ (leB 1 Z ++ leB 1 W):=⟨_,rfl⟩;have hB:Ek x=Q ++ (UInt8.ofNat x.img.bytes.length::x.img.bytes):=by
   unfold Ek;rw [if_pos hk,hQ,A7];unfold Hw;rw [z1,z2];simp [rowB]
  have eQ:List.map Eo (rowB (Cu x) szR) ++ [[AV.v (.int .u8 (IntKind.u8.wrap (Z:Int)))], [AV.v (.int .u8 (IntKind.u8.wrap (W:Int)))]]=Q.map Eo:=by
   rw [hQ,A0,A0,<-e8,<-e8];try rfl
  have hQl:Q.length=13:=by rw [hQ];simp [leB_len,hR11]
  have hP:(UInt8.ofNat x.img.bytes.length::x.img.bytes).length=(List.map Eo (UInt8.ofNat x.img.bytes.length::x.img.bytes)).length:=(Ac _).symm;have hP2:(UInt8.ofNat x.img.bytes.length::x.img.bytes).length<=256:=by rw [Ap];omega
  have hQ1:(leB 1 K ++ leB 4 S ++ leB 4 ((E:Nat):Int).toNat).length+2+2=(List.map Eo Q).length:=by rw [Ac,hQl];simp [leB_len]
  have hQ2:(leB 1 K ++ leB 4 S ++ leB 4 ((E:Nat):Int).toNat).length=9:=by simp [leB_len]
  have hF1:(leB 1 K ++ leB 4 S ++ leB 4 ((E:Nat):Int).toNat).length+2+2+(UInt8.ofNat x.img.bytes.length::x.img.bytes).length=(List.map Eo Q ++ List.map Eo (UInt8.ofNat x.img.bytes.length::x.img.bytes)).length:=by rw [hQ1,hP];exact List.length_append.symm
  have hF2:(leB 1 K ++ leB 4 S ++ leB 4 ((E:Nat):Int).toNat).length+2+2+(UInt8.ofNat x.img.bytes.length::x.img.bytes).length=(Q ++ (UInt8.ofNat x.img.bytes.length::x.img.bytes)).length:=by rw [hQ1,Ac];exact List.length_append.symm
  by_cases hw:x.img.what = -1;rw [show (x.img.what == -1)=true by simpa using hw];conv=>whnf
  have hW:(254:Int)=(W:Int):=by rw [<-z2,hw];try rfl
  rotate_left 1;rw [show (x.img.what == -1)=false by simpa using hw];conv=>whnf
  have hW:x.img.what=(W:Int):=by rw [<-z2];unfold Da;rw [if_neg hw]
  all_goals
   apply zV (2048) tys_ok mixed (.o [0,1,2,3,4,5,6,9,10] (.two 7 (.two 8 (.o [11,12,13,14] .fin) 11 (.o [8,12,13,14] .fin)) 11 (.o [7,8,12,13,14] .fin))) (by kernel_rfl);refine Af ?_ ?_;refine Af ?_ ?_;conv=>whnf
   try (refine tJ ?_;conv=>whnf)
   try (refine tK ?_;conv=>whnf)
   (rw [z1,hW,eQ];refine zW hpt rfl ?_;rintro _ _ ⟨rfl,rfl⟩)
   conv=>whnf
   try (refine tJ ?_;conv=>whnf)
   try (refine tK ?_;conv=>whnf)
   rotate_left 1;conv=>whnf
   try (refine tJ ?_;conv=>whnf)
   try (refine tK ?_;conv=>whnf)
   (rw [z1,hW,eQ];refine zW hpt rfl ?_;rintro _ _ ⟨rfl,rfl⟩)
   conv=>whnf
   try (refine tJ ?_;conv=>whnf)
   try (refine tK ?_;conv=>whnf)
   rotate_left 1;conv=>whnf
   try (refine tJ ?_;conv=>whnf)
   try (refine tK ?_;conv=>whnf)
   (rw [z1,hW,eQ];refine zW hpt rfl ?_;rintro _ _ ⟨rfl,rfl⟩)
   conv=>whnf
   try (refine tJ ?_;conv=>whnf)
   try (refine tK ?_;conv=>whnf)
   rotate_left 1;all_goals
    refine⟨hF1,?_⟩;conv=>whnf
    rw [hB];exact⟨bA _,Og hF2 List.map_append.symm,rfl⟩
 ·rw [show (x.kind != 1)=true by simpa using hk];conv=>whnf
  have hB:Ek x=rowB (Cu x) szR:=by unfold Ek;rw [if_neg hk,AM]
  rw [hB];refine Af (by rw [Ac,HE];simp [leB_len]) ?_;conv=>whnf
  exact⟨bA _,Og (by rw [HE];simp [leB_len]) rfl,rfl⟩
theorem I9 (c:Ctx) (u:Value) (e:Int) (h:Rd (.tp [.ag [iv 0,iv 0, .v (.slice none 0 0)],iv e]) c u):Rd (.tp [.ag (N7 ⟨0,0, []⟩),iv e]) c u:=by
 refine BL ?_ c u h;exact⟨Bk ⟨ri,ri,Bn _ _,tv⟩,ri,tv⟩
theorem KR {b:List UInt8} {lo:Int} {p:Nat} (h:lo.toNat=p) (hp:p<=b.length) (c:Ctx) (u:Value) (hr:Rd (.sl 1 (((b.length:Nat):Int).toNat - lo.toNat) fun i=>(fun i=> [AV.v (.int .u8 (b.getD i 0).toNat)]) (i+lo.toNat)) c u):Rd (bA (b.drop p)) c u:=
 zH (n':=(b.drop p).length) (by rw [Ak,h];omega) (fun i hi=>by simp only [Ab,BB,h,CJ]) hr
theorem R7 {b:List UInt8} {lo hi:Int} {p q:Nat} (h:lo.toNat=p) (h2:hi.toNat=q) (hp:p<=q) (hq:q<=b.length) (c:Ctx) (u:Value) (hr:Rd (.sl 1 (hi.toNat - lo.toNat) fun i=>(fun i=> [AV.v (.int .u8 (b.getD i 0).toNat)]) (i+lo.toNat)) c u):Rd (bA ((b.drop p).take (q - p))) c u:=
 zH (n':=((b.drop p).take (q - p)).length) (by rw [As,Ak,h,h2];omega) (fun i hi=>by
  have hi':i<q - p:=by omega
  simp only [Ab,BJ hi',BB,h,CJ]) hr
theorem UN (b:List UInt8) (hl:b.length<=100000):Fn Tryz.prog 212 [bA b] fun r=>r = .tp [.ag (if CU b=0 then N7 ⟨C9 b,Cj b,Cz b⟩ else N7 ⟨0,0, []⟩),iv (CU b)]:=by
 refine zT Tryz.func212 rfl ?_;conv=>whnf
 refine A6 (fun t1=>?_) (fun t1=>?_) <;> (repeat rw [Aa] at t1) <;> conv=>whnf
 ·have e:CU b=4:=by rw [CU,if_pos (by omega)]
  exact⟨_,fun c u h=>I9 c u 4 h,by rw [e];try rfl⟩
 refine A6 (fun t2=>?_) (fun t2=>?_) <;> (repeat rw [Aa] at t2) <;> conv=>whnf
 ·have e:CU b=4:=by rw [CU,if_pos (by omega)]
  exact⟨_,fun c u h=>I9 c u 4 h,by rw [e];try rfl⟩
 have w4:IntKind.i64.wrap ((b.length:Int) - 4)=b.length - 4:=wi (by omega);have w11:IntKind.i64.wrap ((b.length:Int) - 11)=b.length - 11:=wi (by omega);have w10:IntKind.i64.wrap ((b.length:Int) - 10)=b.length - 10:=wi (by omega);have w8:IntKind.i64.wrap ((b.length:Int) - 8)=b.length - 8:=wi (by omega);have e4:(b.drop (b.length - 4)).take 4=b.drop (b.length - 4):=Aw (by rw [Ak];omega);have s1:=Fk (b.drop (b.length - 4)) 4 (by rw [Ak];omega) (by omega);rw [e4] at s1;have s2:=RD (b.take (b.length - 4)) (by rw [As];omega);have s3:=Fh (Cz b) (by simp [Cz];omega);have s4:=Fk (b.drop (b.length - 10)) 2 (by rw [Ak];omega) (by omega);have s5:=Fk (b.drop (b.length - 8)) 4 (by rw [Ak];omega) (by omega);have x1:(IntKind.i64.wrap ((b.length:Int) - 4)).toNat=b.length - 4:=by rw [w4];omega
 have x2:(IntKind.i64.wrap ((b.length:Int) - 10)).toNat=b.length - 10:=by rw [w10];omega
 have x3:(IntKind.i64.wrap ((b.length:Int) - 8)).toNat=b.length - 8:=by rw [w8];omega
 refine zA tys_ok mixed [0,1,2,3,5,6,7,8,4,9,10] (by kernel_rfl) ?_;refine⟨⟨by omega,by omega,by omega,by omega⟩,?_⟩;refine⟨⟨by omega,by omega,by omega,by omega⟩,?_⟩;conv=>whnf
 refine zY _ ?_ (zM (s1) rfl ?_)
 ·repeat' (first | exact trivial | exact fun _ _ h=>h | exact Bn _ _ | exact KR x1 (by omega) | refine Af ?_ ?_ | refine Bk ?_)
 rintro _ rfl;conv=>whnf
 refine zY _ ?_ (zM (s2) rfl ?_)
 ·repeat' (first | exact trivial | exact fun _ _ h=>h | exact Bn _ _ | exact R7 (p:=0) (q:=b.length - 4) (by simp) x1 (by omega) (by omega) | refine Af ?_ ?_ | refine Bk ?_)
 rintro _ rfl;conv=>whnf
 have hp0:Cg b=(b.getD 0 0).toNat:=by
  unfold Cg;cases b <;> rfl
 have hpl:=(b.getD 0 0).toNat_lt;refine A6 (fun t3=>?_) (fun t3=>?_) <;> (repeat rw [Aa] at t3) <;> conv=>whnf
 ·have e:CU b=5:=by rw [CU,if_neg (by omega),if_pos t3]
  exact⟨_,fun c u h=>I9 c u 5 h,by rw [e];try rfl⟩
 refine⟨by first | omega | (refine⟨rfl,?_,?_⟩ <;> first | omega | (simp only [Ac];done) | (simp only [Ac];omega)) | (simp only [Ac];omega),?_⟩;conv=>whnf
 refine A6 (fun t4=>?_) (fun t4=>?_) <;> (repeat rw [Aa] at t4) <;> conv=>whnf
 ·have e:CU b=4:=by
   rw [CU,if_neg (by omega),if_neg (by rw [t3];simp),if_neg];rintro⟨h1,h2⟩;simp only [Int.toNat_zero] at t4;rw [w11,wi (by omega)] at t4;omega
  exact⟨_,fun c u h=>I9 c u 4 h,by rw [e];try rfl⟩
 have e:CU b=0:=by
  rw [CU,if_neg (by omega),if_neg (by rw [t3];simp),if_pos];simp only [Int.toNat_zero] at t4;rw [w11,wi (by omega)] at t4;refine⟨?_,by omega⟩;simp only [ES,decide_eq_true_eq];omega
 rw [e,if_pos rfl];refine zA tys_ok mixed [0,1,2,3,5,6,7,8,10,11,12,13,4,9,14,15,16,17] (by kernel_rfl) ?_;refine⟨⟨by omega,by omega,by omega,by omega⟩,?_⟩;refine⟨⟨by omega,by omega,by omega,by omega⟩,?_⟩;refine⟨⟨by omega,by omega,by omega,by omega⟩,?_⟩;conv=>whnf
 refine zY _ ?_ (zM (s3) rfl ?_)
 ·repeat' (first | exact trivial | exact fun _ _ h=>h | exact Bn _ _ | exact R7 (p:=1) (q:=b.length - 10) (by simp) x2 (by omega) (by omega) | refine Af ?_ ?_ | refine Bk ?_)
 rintro _ rfl;conv=>whnf
 refine zY _ ?_ (zM (s4) rfl ?_)
 ·repeat' (first | exact trivial | exact fun _ _ h=>h | exact Bn _ _ | exact KR x2 (by omega) | refine Af ?_ ?_ | refine Bk ?_)
 rintro _ rfl;conv=>whnf
 refine zY _ ?_ (zM (s5) rfl ?_)
 ·repeat' (first | exact trivial | exact fun _ _ h=>h | exact Bn _ _ | exact KR x3 (by omega) | refine Af ?_ ?_ | refine Bk ?_)
 rintro _ rfl;exact⟨_,ri,rfl⟩
theorem Ld (n lo hi:Int):Fn Tryz.prog 45 [iv n,iv lo,iv hi] fun r=>r = .v (.bool (C2 n lo hi)):=by
 refine zT Tryz.func45 rfl ?_;conv=>whnf
 repeat' (first | (refine Am (fun h=>?_) (fun h=>?_) <;> (try simp at h) <;> conv=>whnf) | (refine zJ tys_ok mixed (by kernel_rfl) ?_;conv=>whnf) | (refine zZ ?_;conv=>whnf) | (refine Af (by omega) ?_;conv=>whnf))
 all_goals exact⟨_,ri,by simp [C2, *] <;> omega⟩
theorem S1 (g:Geo) (n:Int) (hg:Bq g=true):Fn Tryz.prog 211 [.ag (Ba g),iv n] fun r=>r = .v (.bool (C2 n (-1) (g.d - 1))):=by
 obtain⟨h1,h2,h3,h4,h5⟩:=Ar.1 hg;have hi:=Ld n (-1) (g.d - 1);refine zT Tryz.func211 rfl ?_;conv=>whnf
 rw [wi (show -9223372036854775808<=g.d - 1/\g.d - 1<=9223372036854775807 by omega)];refine z_ hi ?_;exact⟨_,ri,rfl⟩
theorem UI (g:Geo) (l:List Ent) (hg:Bq g=true) (hl:l.length<=1000000):Fn Tryz.prog 144 [.ag (Ba g), .ag [BP l]] fun r=>r = .v (.bool (FB g l)):=by
 obtain⟨h1,h2,h3,h4,h5⟩:=Ar.1 hg;have hw:IntKind.i64.wrap (g.d+1)=g.d+1:=wi (by omega);by_cases hn:(l.length:Int)=g.d+1
 ·have hlo:Gf l g.d.toNat=(l.getD g.d.toNat ⟨0,0,false⟩).lost:=by
   rw [Gf,Ab,Ae (by omega)];try rfl
  have hO:FB g l=(l.all DD&&!(l.getD g.d.toNat ⟨0,0,false⟩).lost):=by rw [FB,hg,decide_eq_true hn,hlo];try rfl
  rw [hO];refine zT Tryz.func144 rfl ?_;conv=>whnf
  rw [hw,show ((l.length:Int) != g.d+1)=false by rw [hn];exact bne_self_eq_false _];refine⟨⟨by omega,by omega⟩,?_⟩;conv=>whnf
  cases hL:(l.getD g.d.toNat ⟨0,0,false⟩).lost with
  | true=>
   exact⟨_,ri,by rw [Bool.not_true,Bool.and_false]⟩
  | false=>
   conv=>whnf
   rw [Bool.not_false,Bx];refine zU Nat (fun k=>([(2, .bp 0 0),(3, .bp 1 0),(4, .v (.bool false)),(5,iv k)], [.box 23 (Ba g), .box 70 [BP l]])) (fun k=>k<=l.length/\(l.take k).all DD=true) (fun k=>l.length - k) 0 ⟨Aj _,rfl⟩
    (zR (s:= [0,1]) tA) ?_
   rintro k ⟨hk,hI⟩;conv=>whnf
   refine A6 (fun h6=>?_) (fun h6=>?_) <;> (repeat rw [Aa] at h6) <;> conv=>whnf
   ·have hk':k<l.length:=by omega
    have i1:=Ld (l.getD (k:Int).toNat ⟨0,0,false⟩).stamp 0 4294967295;have i2:=Ld (l.getD (k:Int).toNat ⟨0,0,false⟩).sum 0 4294967295;have hst:(l.take (k+1)).all DD=(C2 (l.getD (k:Int).toNat ⟨0,0,false⟩).stamp 0 4294967295&&C2 (l.getD (k:Int).toNat ⟨0,0,false⟩).sum 0 4294967295):=by
     rw [Aa,Ab,Ae hk',Bi,Ae hk',List.all_append,hI];simp [DD,Hr]
    have hno:(l.take (k+1)).all DD=false->l.all DD=false:=fun h=>by
     rw [<-Ca (k+1) l,List.all_append,h,CP]
    refine⟨⟨by omega,by omega⟩,?_⟩;conv=>whnf
    cases c1:C2 (l.getD (k:Int).toNat ⟨0,0,false⟩).stamp 0 4294967295 with
    | false=>
     rw [c1] at i1;refine z_ i1 ?_;exact⟨_,ri,by rw [hno (by rw [hst,c1,CP])]⟩
    | true=>
     rw [c1] at i1;refine z_ i1 ?_;refine⟨⟨by omega,by omega⟩,?_⟩;conv=>whnf
     cases c2:C2 (l.getD (k:Int).toNat ⟨0,0,false⟩).sum 0 4294967295 with
     | false=>
      rw [c2] at i2;refine z_ i2 ?_;exact⟨_,ri,by rw [hno (by rw [hst,c2,Bool.and_false])]⟩
     | true=>
      rw [c2] at i2;refine z_ i2 ?_;conv=>whnf
      exact⟨k+1,⟨hk',by rw [hst,c1,c2];try rfl⟩,by omega,zR (s:= [0,1]) ⟨⟨rfl,rfl,rfl,AR (by omega),tv⟩,tA,rfl,rfl,rfl,rfl,rfl⟩⟩
   ·have ek:k=l.length:=by omega
    exact⟨_,ri,by rw [<-hI,ek,Ay]⟩
 ·have hO:FB g l=false:=by rw [FB,hg,decide_eq_false hn];try rfl
  rw [hO];refine zT Tryz.func144 rfl ?_;conv=>whnf
  rw [hw,show ((l.length:Int) != g.d+1)=true from bne_iff_ne.2 hn];exact⟨_,ri,rfl⟩
theorem Fn.subA {P:Program} {f:FuncId} {args args':List AV} {K:AV->Prop} (h:Fn P f args' K) (hs:SubL args args'):Fn P f args K:=
 ⟨h.go,fun c us hd hM hg hr=>h.calls c us hd hM hg (hs.rdl hr)⟩
theorem T8 {b:List UInt8} {n m p:Nat} (hn:n=b.length - m - p) (c:Ctx) (u:Value) (h:Rd (.sl 1 n fun i=> [.v (.int .u8 (b.getD (i+p+m) 0).toNat)]) c u):Rd (bA ((b.drop m).drop p)) c u:=
 zH (by rw [Ak,Ak];exact hn) (fun i _=>by rw [Ab,Ab,BB,BB,show i+p+m=m+(p+i) by omega]) h
theorem VS {x:List UInt8} (h:9<=x.length):If x=⟨(leN (x.take 4):Nat),(leN ((x.drop 4).take 4):Nat),(x[8].toNat:Int) == 1⟩:=by
 have h8:=Pn h;unfold MP at h8;unfold If;rw [h8];try rfl
theorem Qu (g:Geo) (b:List UInt8) (hg:Bq g=true):Fn Tryz.prog 75 [.ag (Ba g),bA b] fun r=>r = .tp [.ag [BP ((Cb g b).getD [])], .v (.bool (Cb g b).isSome)]:=by
 obtain⟨h1,h2,h3,h4,h5⟩:=Ar.1 hg;have hw:IntKind.i64.wrap (g.d+1)=g.d+1:=wi (by omega);have hw9:IntKind.i64.wrap (9*(g.d+1))=9*(g.d+1):=wi (by omega);have zs:∀ (c:Ctx) (v:Value),Rd (.tp [.ag [.v (.slice none 0 0)], .v (.bool false)]) c v->Rd (.tp [.ag [BP []], .v (.bool false)]) c v:=BL (m:= [.ag [BP []], .v (.bool false)]) ⟨Bk ⟨Bn 3 _,tv⟩,ri,tv⟩;by_cases hn:b.length=9*(g.d+1).toNat
 ·refine zT Tryz.func75 rfl ?_;conv=>whnf
  rw [hw,hw9,show ((b.length:Int) != 9*(g.d+1))=false by simp only [bne_eq_false_iff_eq];omega];conv=>whnf
  refine zU Nat (fun k=>([(1,bA b),(2, .bp 0 0),(4, .bp 1 0),(5, .v (.bool false)),(6, .bp 2 0),(7,iv k)], [.box 23 (Ba g), .box 70 [.v (.slice none 0 0)], .box 70 [.ow 3 k], .row 97 3 ((entsOf k b).map CX)])) (fun k=>(k:Int)<=g.d+1/\K6 k b) (fun k=>(g.d+1 - k).toNat) 0 ⟨by omega,fun i hi=>absurd hi (Ao i)⟩
   ⟨_,_,zB _ _, [(1002000,97,3)],tA, [0,1,2,3],tA⟩ ?_
  rintro k ⟨hk,hA⟩;conv=>whnf
  refine A6 (fun h6=>?_) (fun h6=>?_) <;> (repeat rw [Aa] at h6) <;> conv=>whnf
  ·have wk9:IntKind.i64.wrap (9*(k:Int))=((9*k:Nat):Int):=by rw [wi (by omega)];omega
   have hlx:(b.drop (9*k)).length=b.length - 9*k:=Ak;have hx9:9<=(b.drop (9*k)).length:=by omega
   rw [wk9];refine⟨⟨by omega,by omega,by omega,by omega⟩,?_⟩;conv=>whnf
   rw [Aa];have hv:=Pn hx9;have he:=VS hx9;have hes:=entsOf_step k b;refine⟨⟨by omega,by omega⟩,?_⟩;conv=>whnf
   have hg8:(b.getD (Int.toNat 8+((9*k:Nat):Int).toNat) 0).toNat=(b.drop (9*k))[8].toNat:=by
    rw [List.getElem_drop,Ab,Aa,show Int.toNat 8+9*k=9*k+8 by omega,Ae (by omega)];try rfl
   obtain⟨Y,hY⟩:∃ Y:Nat,Y=(b.drop (9*k))[8].toNat:=⟨_,rfl⟩;rw [hg8,<-hY];rw [<-hY] at hv he;by_cases h1Y:Y<=1
   ·rw [show decide ((Y:Int) > 1)=false from decide_eq_false (by omega)];conv=>whnf
    have q1:=Le (b.drop (9*k)) 4 (by omega) (by decide);have q2:=Le ((b.drop (9*k)).drop 4) 4 (by rw [Ak];omega) (by decide);have hml:k=((entsOf k b).map CX).length:=by rw [Ac,entsOf_len]
    apply zz (0) tys_ok mixed (.o [0,1,2,4,5,7,8,9,10,3,6,11,12,13,14,15] .fin) [32,33,34,35,36,37,38,39,40,41,42,43,44,45,46] (by kernel_rfl)
    ·conv=>whnf
     try (refine tI ?_;conv=>whnf)
     try (refine tI ?_;conv=>whnf)
     (refine zY [bA (b.drop (9*k)),iv 4] ⟨AS rfl,ri,tv⟩ ?_;refine z_ q1 ?_)
     conv=>whnf
     (refine zY [bA ((b.drop (9*k)).drop 4),iv 4] ⟨T8 rfl,ri,tv⟩ ?_;refine z_ q2 ?_)
     conv=>whnf
     try (refine tJ ?_;conv=>whnf)
     try (refine tK ?_;conv=>whnf)
     try (refine tS ?_;conv=>whnf)
     exact tA
    refine⟨k+1,⟨by omega,fun i hi=>?_⟩,by omega,zR (s:= [0,1,2,3]) ⟨⟨rfl,rfl,rfl,rfl,rfl,AR (by omega),tv⟩,⟨rfl,rfl,rfl,?_,tv⟩,rfl,rfl,rfl,rfl,rfl⟩⟩
    ·by_cases hik:i=k
     ·rw [hik,hv];omega
     ·exact hA i (by omega)
    ·rw [hes,A0,he];show hget _ 3=_;rw [hg8,<-hY];try rfl
   ·rw [show decide ((Y:Int) > 1)=true from decide_eq_true (by omega)];conv=>whnf
    rw [J3 (.inr fun hall=>h1Y (by have:=hall k (by omega);omega))];exact⟨_,zs,rfl⟩
  ·have ek:k=(g.d+1).toNat:=by omega
   subst ek;have hT:=UI g (entsOf (g.d+1).toNat b) hg (by rw [entsOf_len];omega);have hR:=SI hn hA;have hS:=hT.subA (args:= [.ag (Ba g), .ag [.sl 3 (g.d+1).toNat fun i=>((entsOf (g.d+1).toNat b).map CX).getD i []]]) ⟨ri,Bk ⟨B4 (f:=CX) (entsOf (g.d+1).toNat b) (by rw [entsOf_len]) rfl,tv⟩,tv⟩;refine zj hS ⟨by rw [Ac,entsOf_len],rfl⟩ ?_;rintro _ rfl;refine⟨rfl,?_⟩;conv=>whnf
   cases ho:FB g (entsOf (g.d+1).toNat b) with
   | false=>
    rw [hR,ho,if_neg (by decide)];exact⟨_,zs,rfl⟩
   | true=>
    rw [hR,ho,if_pos rfl];refine⟨(by rw [Ac,entsOf_len]),?_⟩;exact⟨.tp [.ag [BP (entsOf (g.d+1).toNat b)], .v (.bool true)],BL ⟨Bk ⟨B4 (f:=CX) (entsOf (g.d+1).toNat b) (by rw [entsOf_len]) rfl,tv⟩,ri,tv⟩,rfl⟩
 ·refine zT Tryz.func75 rfl ?_;conv=>whnf
  rw [hw,hw9,show ((b.length:Int) != 9*(g.d+1))=true by simp only [bne_iff_ne,ne_eq];omega];conv=>whnf
  rw [J3 (.inl hn)];exact⟨_,zs,rfl⟩
theorem Hn (n lo hi:Int):Fn Tryz.prog 151 [iv n,iv lo,iv hi] fun r=>r = .v (.bool (C2 n lo hi)):=by
 refine zT Tryz.func151 rfl ?_;conv=>whnf
 repeat' (first | (refine Am (fun h=>?_) (fun h=>?_) <;> (try simp at h) <;> conv=>whnf) | (refine zJ tys_ok mixed (by kernel_rfl) ?_;conv=>whnf) | (refine zZ ?_;conv=>whnf) | (refine Af (by omega) ?_;conv=>whnf))
 all_goals exact⟨_,ri,by simp [C2, *] <;> omega⟩
theorem Qx (g:Geo) (x:Img) (hg:Bq g=true):Fn Tryz.prog 142 [.ag (Ba g), .ag (Dv x)] fun r=>r = .v (.bool (Bz g x)):=by
 obtain⟨h1,h2,h3,h4,h5⟩:=Ar.1 hg;have i1:=Hn x.zone 0 (g.z - 1);have i2:=Qu g x.bytes hg;have i3:=S1 g x.what hg;have hE:Bz g x=(C2 x.zone 0 (g.z - 1)&&(if x.what=255 then (Cb g x.bytes).isSome else C2 x.what (-1) (g.d - 1)&&decide (x.bytes.length=8))):=by simp [Bz,hg]
 rw [hE];refine zT Tryz.func142 rfl ?_;conv=>whnf
 rw [wi (show -9223372036854775808<=g.z - 1/\g.z - 1<=9223372036854775807 by omega)];cases hz:C2 x.zone 0 (g.z - 1) with
 | false=>
  rw [hz] at i1;refine z_ i1 ?_;exact⟨_,ri,rfl⟩
 | true=>
  rw [hz] at i1;refine z_ i1 ?_;conv=>whnf
  by_cases h255:x.what=255
  ·rw [show (x.what == 255)=true by simpa using h255,if_pos h255];conv=>whnf
   refine z_ i2 ?_;exact⟨_,ri,rfl⟩
  ·rw [show (x.what == 255)=false by simpa using h255,if_neg h255];conv=>whnf
   cases hw:C2 x.what (-1) (g.d - 1) with
   | false=>
    rw [hw] at i3;refine z_ i3 ?_;exact⟨_,ri,rfl⟩
   | true=>
    rw [hw] at i3;refine z_ i3 ?_;conv=>whnf
    exact⟨_,ri,congrArg (fun b=>AV.v (.bool b)) (by rw [Dt];simp;omega)⟩
theorem Zj (x:Img):decide (x=⟨0,0, []⟩)=FC x:=by
 obtain⟨zone,what,bytes⟩:=x;rw [Dt];simp only [decide_eq_true_eq,FC,Img.mk.injEq,Ad,beq_iff_eq];refine⟨fun⟨h1,h2,h3⟩=>⟨h1,h2,by rw [h3];try rfl⟩,fun⟨h1,h2,h3⟩=>⟨h1,h2,?_⟩⟩;exact AQ.1 (by omega)
theorem OH (g:Geo) (x:Rc) (hl:x.img.bytes.length<=100000) (hg:Bq g=true):Fn Tryz.prog 287 [.ag (Ba g), .ag (FQ x)] fun r=>r = .v (.bool (DP g x)):=by
 have hE:DP g x=Ef g x:=by simp [DP,hg]
 have hi:=V2 x.img ⟨0,0, []⟩ (by omega);rw [Zj] at hi;have hm:=Qx g x.img hg;rw [hE];refine zT Tryz.func287 rfl ?_;conv=>whnf
 refine zY [.ag (Dv x.img), .ag (Dv ⟨0,0, []⟩)] ⟨ri,Bk ⟨ri,ri,Bn 1 _,tv⟩,tv⟩ ?_;refine z_ hi ?_;conv=>whnf
 by_cases k0:x.kind=0
 ·rw [show (x.kind == 0)=true by simpa using k0];have hB:Ef g x=(x.seq == 0&&(x.epoch == 0&&(x.at_ == 0&&(x.of_ == 0&&FC x.img)))):=by unfold Ef;rw [if_pos k0]
  rw [hB];conv=>whnf
  cases h0:x.seq == 0 with
  | false=>
   exact⟨_,ri,rfl⟩
  | true=>
   conv=>whnf
   cases h1:x.epoch == 0 with
   | false=>
    exact⟨_,ri,rfl⟩
   | true=>
    conv=>whnf
    cases h2:x.at_ == 0 with
    | false=>
     exact⟨_,ri,rfl⟩
    | true=>
     conv=>whnf
     cases h3:x.of_ == 0 with
     | false=>
      exact⟨_,ri,rfl⟩
     | true=>
      exact⟨_,ri,rfl⟩
 ·rw [show (x.kind == 0)=false by simpa using k0];conv=>whnf
  have i1:=Hn x.seq 0 4294967295;have i2:=Hn x.epoch 0 4294967295;have i3:=Hn x.of_ 2 30;have i4:=Hn x.at_ 0 (x.of_ - 2);have hB:Ef g x=if x.kind=1 then EO x&&(C2 x.at_ 0 (x.of_ - 2)&&Bz g x.img) else if x.kind=2 then EO x&&(x.at_ == x.of_ - 1&&FC x.img) else false:=by unfold Ef;rw [if_neg k0]
  rw [hB];by_cases hN:EO x=true
  ·have hN':=hN;simp only [EO,Ad] at hN';obtain⟨n1,n2,n3⟩:=hN';have hof:=AD.1 n3;rw [n1] at i1;rw [n2] at i2;rw [n3] at i3;rw [hN,B9,B9];refine z_ i1 ?_;conv=>whnf
   refine z_ i2 ?_;conv=>whnf
   refine z_ i3 ?_;conv=>whnf
   by_cases k2:x.kind=2
   ·rw [show (x.kind == 2)=true by simpa using k2,if_neg (by omega),if_pos k2];conv=>whnf
    rw [wi (show -9223372036854775808<=x.of_ - 1/\x.of_ - 1<=9223372036854775807 by omega)];cases h1:x.at_ == x.of_ - 1 with
    | false=>
     exact⟨_,ri,rfl⟩
    | true=>
     exact⟨_,ri,rfl⟩
   ·rw [show (x.kind == 2)=false by simpa using k2,if_neg k2];conv=>whnf
    by_cases k1:x.kind=1
    ·rw [show (x.kind == 1)=true by simpa using k1,if_pos k1];conv=>whnf
     rw [wi (show -9223372036854775808<=x.of_ - 2/\x.of_ - 2<=9223372036854775807 by omega)];cases h1:C2 x.at_ 0 (x.of_ - 2) with
     | false=>
      rw [h1] at i4;refine z_ i4 ?_;exact⟨_,ri,rfl⟩
     | true=>
      rw [h1] at i4;refine z_ i4 ?_;conv=>whnf
      refine z_ hm ?_;exact⟨_,ri,rfl⟩
    ·rw [show (x.kind == 1)=false by simpa using k1,if_neg k1];exact⟨_,ri,rfl⟩
  ·have hN:EO x=false:=by simpa using hN
   have hF:(if x.kind=1 then EO x&&(C2 x.at_ 0 (x.of_ - 2)&&Bz g x.img) else if x.kind=2 then EO x&&(x.at_ == x.of_ - 1&&FC x.img) else false)=false:=by rw [hN];simp
   rw [hF];cases n1:C2 x.seq 0 4294967295 with
   | false=>
    rw [n1] at i1;refine z_ i1 ?_;exact⟨_,ri,rfl⟩
   | true=>
    rw [n1] at i1;refine z_ i1 ?_;conv=>whnf
    cases n2:C2 x.epoch 0 4294967295 with
    | false=>
     rw [n2] at i2;refine z_ i2 ?_;exact⟨_,ri,rfl⟩
    | true=>
     rw [n2] at i2;have n3:C2 x.of_ 2 30=false:=by simpa [EO,n1,n2] using hN
     rw [n3] at i3;refine z_ i2 ?_;conv=>whnf
     refine z_ i3 ?_;exact⟨_,ri,rfl⟩
theorem Pa {b:List UInt8} {i:Nat} (h:i<b.length):Cg (b.drop i)=b[i].toNat:=by
 rw [A_ h];show b[i].toNat+256*0=b[i].toNat;omega
theorem YT (x:UInt8):IntKind.i64.wrap (x.toNat:Int)=(x.toNat:Int):=wi (by have:=x.toNat_lt;omega)
theorem UZ (g:Geo) (b:List UInt8) (hl:b.length<=100000) (hg:Bq g=true):Fn Tryz.prog 285 [.ag (Ba g),bA b] fun r=>r = .tp [.ag (FQ ((F9 g b).getD zeroC)), .v (.bool (F9 g b).isSome)]:=by
 have zs:∀ (e:Value) (c:Ctx) (v:Value),Rd (.tp [.ag [iv 0,iv 0,iv 0,iv 0,iv 0,iv 0,iv 0, .v (.slice none 0 0)], .v e]) c v->Rd (.tp [.ag (FQ zeroC), .v e]) c v:=fun e=>BL (m:= [.ag (FQ zeroC), .v e]) ⟨by repeat' (first | exact trivial | exact fun _ _ h=>h | exact Bn _ _ | refine Af ?_ ?_ | refine Bk ?_),ri,tv⟩
 by_cases h11:b.length<11
 ·rw [OQ h11];refine zT Tryz.func285 rfl ?_;conv=>whnf
  refine A6 (fun _=>?_) (fun hq=>absurd h11 (by omega));exact⟨_,zs _,rfl⟩
 ·have h11':11<=b.length:=by omega
  have hp:=Pb h11';have q1:=Fk (b.drop 1) 4 (by rw [Ak];omega) (by decide);have q2:=Fk (b.drop 5) 4 (by rw [Ak];omega) (by decide);have hgd:∀ i (h:i<b.length),b.getD i 0=b[i]:=fun i h=>by rw [Ab,Ae h];try rfl
  refine zT Tryz.func285 rfl ?_;conv=>whnf
  refine A6 (fun hq=>absurd hq (by omega)) (fun hq=>?_);conv=>whnf
  apply zz (0) tys_ok mixed (.o [0,1,2,3,4,5,7,8,10,11,12,13,14,15,16,17] (.two 6 (.two 9 (.o [18,19,20] .fin) 19 (.o [9,18,20] .fin)) 19 (.o [6,9,18,20] .fin))) [6,11,12,13,14,15,16,17,18,19,20,21,22,23,24,25,26,27,28,29] (by kernel_rfl)
  ·conv=>whnf
   try (refine tI ?_;conv=>whnf)
   try (refine tI ?_;conv=>whnf)
   try (refine tI ?_;conv=>whnf)
   try (refine tI ?_;conv=>whnf)
   try (refine tI ?_;conv=>whnf)
   refine Af ?_ ?_
   ·conv=>whnf
    (refine zY [bA (b.drop 1),iv 4] ⟨AS (by omega),ri,tv⟩ ?_;refine z_ q1 ?_)
    refine Af ?_ ?_
    ·conv=>whnf
     (refine zY [bA (b.drop 5),iv 4] ⟨AS (by omega),ri,tv⟩ ?_;refine z_ q2 ?_)
     conv=>whnf
     try (refine tS ?_;conv=>whnf)
     exact tA
    ·conv=>whnf
     (refine zY [bA (b.drop 5),iv 4] ⟨AS (by omega),ri,tv⟩ ?_;refine z_ q2 ?_)
     conv=>whnf
     try (refine tS ?_;conv=>whnf)
     exact tA
   ·conv=>whnf
    (refine zY [bA (b.drop 1),iv 4] ⟨AS (by omega),ri,tv⟩ ?_;refine z_ q1 ?_)
    conv=>whnf
    (refine zY [bA (b.drop 5),iv 4] ⟨AS (by omega),ri,tv⟩ ?_;refine z_ q2 ?_)
    conv=>whnf
    try (refine tS ?_;conv=>whnf)
    exact tA
  conv=>whnf
  repeat' (refine zZ ?_;conv=>whnf)
  rw [YT,YT,YT,show b.getD (Int.toNat 0) 0=b[0] from hgd 0 (by omega),show b.getD (Int.toNat 9) 0=b[9] from hgd 9 (by omega),show b.getD (Int.toNat 10) 0=b[10] from hgd 10 (by omega)];by_cases hk:b[0].toNat=1
  ·rw [show (((b[0].toNat:Nat):Int) == 1)=true by rw [hk];try rfl];conv=>whnf
   by_cases h14:b.length<14
   ·refine A6 (fun hq=>?_) (fun hq=>absurd h14 (by omega));conv=>whnf
    rw [J4 h11' (by rw [hp,if_pos (by simp only;omega)];omega)];exact⟨_,zs _,rfl⟩
   ·refine A6 (fun hq=>absurd hq (by omega)) (fun hq=>?_);refine⟨⟨by omega,by omega⟩,?_⟩;conv=>whnf
    have h13:Cg (b.drop 13)=b[13].toNat:=Pa (by omega);have hx:=b[13].toNat_lt;obtain⟨n13,e13⟩:∃ n,n=b[13].toNat:=⟨_,rfl⟩;have g13:(b.getD (Int.toNat 13) 0).toNat=n13:=by rw [e13];exact congrArg UInt8.toNat (hgd 13 (by omega))
    rw [<-e13] at h13 hx;rw [YT,g13,wi (by omega)];by_cases hn:b.length=14+n13
    ·rw [show ((b.length:Int) != (14:Int)+((n13:Nat):Int))=false by simp only [bne_eq_false_iff_eq];omega];conv=>whnf
     have htw:=Fh (b.drop 14) (by rw [Ak];omega);apply zz (0) tys_ok mixed (.o [0,1,2,3,4,5,6,7,8,9,10,11,12,13] .fin) [47,48,49,50,51,52,53,54,55,56,57,58,59] (by kernel_rfl)
     ·conv=>whnf
      try (refine tI ?_;conv=>whnf)
      try (refine tI ?_;conv=>whnf)
      try (refine tI ?_;conv=>whnf)
      (refine zY [bA (b.drop 14)] ⟨AS (by omega),tv⟩ ?_;refine z_ htw ?_)
      conv=>whnf
      try (refine tS ?_;conv=>whnf)
      exact tA
     conv=>whnf
     obtain⟨n12,e12⟩:∃ n:Nat,n=b[12].toNat:=⟨_,rfl⟩;have g12:(b.getD (Int.toNat 12) 0).toNat=n12:=by rw [e12];exact congrArg UInt8.toNat (hgd 12 (by omega))
     obtain⟨n11,e11⟩:∃ n:Nat,n=b[11].toNat:=⟨_,rfl⟩;have g11:(b.getD (Int.toNat 11) 0).toNat=n11:=by rw [e11];exact congrArg UInt8.toNat (hgd 11 (by omega))
     obtain⟨R,hR⟩:∃ R:Rc,R=⟨(b[0].toNat:Nat),(leN ((b.drop 1).take 4):Nat),(leN ((b.drop 5).take 4):Nat),(b[9].toNat:Nat),(b[10].toNat:Nat),⟨(n11:Nat),H_ (n12:Nat),b.drop 14⟩⟩:=⟨_,rfl⟩;have hP:D8 b=R:=by rw [hp,if_pos (by omega),F3 (by rw [h13];exact hn),hR,e11,e12]
     have hRR:=ME (g:=g) h11' (by rw [hp,if_pos (by simp only;omega),h13];exact hn);rw [hP] at hRR;have hrec:=OH g R (by rw [hR];show (b.drop 14).length<=100000;rw [Ak];omega) hg;rw [YT,YT,g12,g11];repeat' (refine zZ ?_;conv=>whnf)
     by_cases h254:n12=254
     ·have eW:H_ (n12:Nat) = -1:=by rw [h254];try rfl
      rw [show (((n12:Nat):Int) == 254)=true by rw [h254];try rfl];conv=>whnf
      refine zY [.ag (Ba g), .ag (FQ R)] ⟨ri,Bk (show SubL _ (FQ R) by rw [hR,eW];exact⟨ri,ri,ri,ri,ri,ri,ri,ri,tv⟩),tv⟩ ?_;cases hok:DP g R with
      | false=>
       rw [hok] at hrec;rw [hRR,if_neg (by rw [hok];simp)];refine z_ hrec ?_;exact⟨_,zs _,rfl⟩
      | true=>
       rw [hok] at hrec;rw [hRR,if_pos hok];refine z_ hrec ?_;conv=>whnf
       exact⟨_,BL (m:= [.ag (FQ R), .v (.bool true)]) ⟨Bk (show SubL _ (FQ R) by rw [hR,eW];exact⟨ri,ri,ri,ri,ri,ri,ri,ri,tv⟩),ri,tv⟩,rfl⟩
     ·have eW:H_ (n12:Nat)=(n12:Nat):=if_neg (by omega);rw [show (((n12:Nat):Int) == 254)=false by rw [beq_eq_false_iff_ne];omega];conv=>whnf
      refine zY [.ag (Ba g), .ag (FQ R)] ⟨ri,Bk (show SubL _ (FQ R) by rw [hR,eW];exact⟨ri,ri,ri,ri,ri,ri,ri,ri,tv⟩),tv⟩ ?_;cases hok:DP g R with
      | false=>
       rw [hok] at hrec;rw [hRR,if_neg (by rw [hok];simp)];refine z_ hrec ?_;exact⟨_,zs _,rfl⟩
      | true=>
       rw [hok] at hrec;rw [hRR,if_pos hok];refine z_ hrec ?_;conv=>whnf
       exact⟨_,BL (m:= [.ag (FQ R), .v (.bool true)]) ⟨Bk (show SubL _ (FQ R) by rw [hR,eW];exact⟨ri,ri,ri,ri,ri,ri,ri,ri,tv⟩),ri,tv⟩,rfl⟩
    ·rw [J4 h11' (by rw [hp,if_pos (by simp only;omega),h13];exact hn)];rw [show ((b.length:Int) != (14:Int)+((n13:Nat):Int))=true by rw [bne_iff_ne];omega];exact⟨_,zs _,rfl⟩
  ·rw [show (((b[0].toNat:Nat):Int) == 1)=false by simpa using (by omega:¬((b[0].toNat:Nat):Int)=1)];conv=>whnf
   by_cases hn:b.length=11
   ·obtain⟨R,hR⟩:∃ R:Rc,R=⟨(b[0].toNat:Nat),(leN ((b.drop 1).take 4):Nat),(leN ((b.drop 5).take 4):Nat),(b[9].toNat:Nat),(b[10].toNat:Nat),noImg⟩:=⟨_,rfl⟩;have hP:D8 b=R:=by rw [hp,if_neg (by omega),hR]
    have hRR:=ME (g:=g) h11' (by rw [hp,if_neg (by simp only;omega)];exact hn);rw [hP] at hRR;have hrec:=OH g R (by rw [hR];show 0<=100000;decide) hg;have hsb:SubL [iv (b[0].toNat:Nat),iv (leN ((b.drop 1).take 4):Nat),iv (leN ((b.drop 5).take 4):Nat),iv (b[9].toNat:Nat),iv (b[10].toNat:Nat),iv 0,iv 0, .v (.slice none 0 0)] (FQ R):=by
     rw [hR];exact⟨fun _ _ h=>h,fun _ _ h=>h,fun _ _ h=>h,fun _ _ h=>h,fun _ _ h=>h,fun _ _ h=>h,fun _ _ h=>h,Bn 1 _,tv⟩
    rw [show ((b.length:Int) != 11)=false by rw [hn];try rfl];conv=>whnf
    refine zY [.ag (Ba g), .ag (FQ R)] ⟨ri,Bk hsb,tv⟩ ?_;cases hok:DP g R with
    | false=>
     rw [hok] at hrec;rw [hRR,if_neg (by rw [hok];simp)];refine z_ hrec ?_;exact⟨_,zs _,rfl⟩
    | true=>
     rw [hok] at hrec;rw [hRR,if_pos hok];refine z_ hrec ?_;exact⟨_,BL (m:= [.ag (FQ R), .v (.bool true)]) ⟨Bk hsb,ri,tv⟩,rfl⟩
   ·rw [J4 h11' (by rw [hp,if_neg (by simp only;omega)];exact hn)];rw [show ((b.length:Int) != 11)=true by simpa using (by omega:¬(b.length:Int)=11)];exact⟨_,zs _,rfl⟩
theorem Dd (g:Geo) (copy slot:Int) (hg:Bq g=true) (hl:Hp g copy slot=true):Fn Tryz.prog 36 [.ag (Ba g),iv copy,iv slot] fun r=>r = iv (AU g copy slot):=by
 obtain⟨h1,h2,h3,h4,h5⟩:=Ar.1 hg;simp only [Hp,Ad,AD] at hl;refine zT Tryz.func36 rfl ?_;refine⟨_,fun _ _ h=>h,?_⟩;have hm:0<=copy*g.sl/\copy*g.sl<=30:=by
  rcases(show copy=0\/copy=1 by omega) with rfl | rfl <;> omega
 rw [wi (n:=copy*g.sl) (by omega),wi (n:=g.an+copy*g.sl) (by omega),wi (n:=g.an+copy*g.sl+slot) (by omega)];try rfl
def BQ (x:Gt) (addr:Int):Option Sec:=if x.err=0/\CU x.bytes=0/\C9 x.bytes=addr then some ⟨C9 x.bytes,Cj x.bytes,Cz x.bytes⟩ else none
def zeroS:Sec:=⟨0,0, []⟩
theorem Jr (c:Ctx) (u:Value) (b:Bool) (h:Rd (.tp [.ag [iv 0,iv 0, .v (.slice none 0 0)], .v (.bool b)]) c u):Rd (.tp [.ag (N7 zeroS), .v (.bool b)]) c u:=by
 refine BL ?_ c u h;exact⟨Bk ⟨ri,ri,Bn _ _,tv⟩,ri,tv⟩
theorem M5 (x:Gt) (addr:Int) (hl:x.bytes.length<=100000):Fn Tryz.prog 145 [.ag (DB x),iv addr] fun r=>r = .tp [.ag (N7 ((BQ x addr).getD zeroS)), .v (.bool (BQ x addr).isSome)]:=by
 have s1:=UN x.bytes hl;refine zT Tryz.func145 rfl ?_;conv=>whnf
 refine A6 (fun t1=>?_) (fun t1=>?_) <;> (repeat rw [Aa] at t1) <;> conv=>whnf
 ·have e:BQ x addr=none:=by rw [BQ,if_neg (fun h=>t1 h.1)]
  rw [e];exact⟨_,fun c v h=>Jr c v false h,rfl⟩
 by_cases hO:CU x.bytes=0
 ·rw [if_pos hO,hO] at s1;refine z_ s1 ?_;conv=>whnf
  refine A6 (fun t2=>?_) (fun t2=>?_) <;> (repeat rw [Aa] at t2) <;> conv=>whnf
  ·have e:BQ x addr=none:=by rw [BQ,if_neg (fun h=>t2 h.2.2)]
   rw [e];exact⟨_,fun c v h=>Jr c v false h,rfl⟩
  ·have e:BQ x addr=some ⟨C9 x.bytes,Cj x.bytes,Cz x.bytes⟩:=by rw [BQ,if_pos ⟨t1,hO,t2⟩]
   rw [e];exact⟨_,ri,rfl⟩
 ·rw [if_neg hO] at s1;refine z_ s1 ?_;conv=>whnf
  have e:BQ x addr=none:=by rw [BQ,if_neg (fun h=>hO h.2.1)]
  rw [e];refine A6 (fun t2=>?_) (fun t2=>?_) <;> (repeat rw [Aa] at t2) <;> conv=>whnf
  ·exact⟨_,fun c v h=>Jr c v false h,rfl⟩
  ·exact absurd t2 hO
theorem UB (g:Geo) (x:Gt) (copy slot:Int) (hg:Bq g=true) (hL:Hp g copy slot=true):DK g x copy slot=match BQ x (AU g copy slot) with | none=>none | some s=>match F9 g s.pay with | some r=>if r.seq=s.stamp then some r else none | none=>none:=by
 unfold DK BQ;rw [hg,hL];by_cases h1:x.err=0 <;> by_cases h2:CU x.bytes=0 <;> by_cases h3:C9 x.bytes=AU g copy slot <;> simp [h1,h2,h3] <;> rfl
theorem OA {x:Gt} {a:Int} {s:Sec} (h:BQ x a=some s):s.pay.length<=x.bytes.length:=by
 unfold BQ at h;split at h
 ·cases h;simp [Cz];omega
 ·cases h
theorem Li (g:Geo) (x:Gt) (copy slot:Int) (hl:x.bytes.length<=100000) (hg:Bq g=true) (hL:Hp g copy slot=true):Fn Tryz.prog 272 [.ag (Ba g), .ag (DB x),iv copy,iv slot] fun r=>r = .tp [.ag (FQ ((DK g x copy slot).getD zeroC)), .v (.bool (DK g x copy slot).isSome)]:=by
 have s1:=M5 x (AU g copy slot) hl;rw [UB g x copy slot hg hL];cases hS:BQ x (AU g copy slot) with
 | none=>
  rw [hS] at s1;refine zT Tryz.func272 rfl ?_;conv=>whnf
  apply zL tys_ok mixed (.o [0,1,2,3] (.two 4 (.two 5 (.o [6,7,8,9,10,11] .fin) 9 (.o [5,6,7,8,10,11] .fin)) 9 (.o [4,5,6,7,8,10,11] .fin))) [10,11,13,14,15,16,17,18,19,20,21] (by kernel_rfl)
  ·refine Af ?_ ?_
   ·conv=>whnf
    refine z_ (Dd g copy slot hg hL) ?_;refine Af ?_ ?_
    ·conv=>whnf
     refine z_ s1 ?_;conv=>whnf
     try (refine tS ?_;conv=>whnf)
     exact tA
    ·conv=>whnf
     refine z_ s1 ?_;conv=>whnf
     try (refine tS ?_;conv=>whnf)
     exact tA
   ·conv=>whnf
    refine z_ (Dd g copy slot hg hL) ?_;conv=>whnf
    refine z_ s1 ?_;conv=>whnf
    try (refine tS ?_;conv=>whnf)
    exact tA
  exact⟨_,fun c v h=>KD c v false h,rfl⟩
 | some s=>
  rw [hS] at s1;have hp:=OA hS;have s2:=UZ g s.pay (by omega) hg;cases hR:F9 g s.pay with
  | none=>
   rw [hR] at s2;refine zT Tryz.func272 rfl ?_;conv=>whnf
   apply zL tys_ok mixed (.o [0,1,2,3] (.two 4 (.two 5 (.o [6,7,8,9,10,11] .fin) 9 (.o [5,6,7,8,10,11] .fin)) 9 (.o [4,5,6,7,8,10,11] .fin))) [10,11,13,14,15,16,17,18,19,20,21] (by kernel_rfl)
   ·refine Af ?_ ?_
    ·conv=>whnf
     refine z_ (Dd g copy slot hg hL) ?_;refine Af ?_ ?_
     ·conv=>whnf
      refine z_ s1 ?_;conv=>whnf
      try (refine tS ?_;conv=>whnf)
      exact tA
     ·conv=>whnf
      refine z_ s1 ?_;conv=>whnf
      try (refine tS ?_;conv=>whnf)
      exact tA
    ·conv=>whnf
     refine z_ (Dd g copy slot hg hL) ?_;conv=>whnf
     refine z_ s1 ?_;conv=>whnf
     try (refine tS ?_;conv=>whnf)
     exact tA
   conv=>whnf
   refine z_ s2 ?_;conv=>whnf
   exact⟨_,fun c v h=>KD c v false h,by simp only [hR];rfl⟩
  | some r=>
   rw [hR] at s2;refine zT Tryz.func272 rfl ?_;conv=>whnf
   apply zL tys_ok mixed (.o [0,1,2,3] (.two 4 (.two 5 (.o [6,7,8,9,10,11] .fin) 9 (.o [5,6,7,8,10,11] .fin)) 9 (.o [4,5,6,7,8,10,11] .fin))) [10,11,13,14,15,16,17,18,19,20,21] (by kernel_rfl)
   ·refine Af ?_ ?_
    ·conv=>whnf
     refine z_ (Dd g copy slot hg hL) ?_;refine Af ?_ ?_
     ·conv=>whnf
      refine z_ s1 ?_;conv=>whnf
      try (refine tS ?_;conv=>whnf)
      exact tA
     ·conv=>whnf
      refine z_ s1 ?_;conv=>whnf
      try (refine tS ?_;conv=>whnf)
      exact tA
    ·conv=>whnf
     refine z_ (Dd g copy slot hg hL) ?_;conv=>whnf
     refine z_ s1 ?_;conv=>whnf
     try (refine tS ?_;conv=>whnf)
     exact tA
   conv=>whnf
   refine z_ s2 ?_;conv=>whnf
   refine A6 (fun t=>?_) (fun t=>?_) <;> (repeat rw [Aa] at t) <;> (try simp only [BE] at t) <;> conv=>whnf
   ·exact⟨_,fun c v h=>KD c v false h,by simp only [hR,if_neg t];rfl⟩
   ·exact⟨_,ri,by simp only [hR,if_pos t];rfl⟩
def DW (o:Option Rc) (a:An) (seq at_ of_ left:Int):Bool:=match o with | some r=>DA r a seq at_ of_ left | none=>false
def C0 (p q:Option Rc) (b1 b2:Bool):Rc × List Int × Int:=
 if b1&&b2 then (p.getD zeroC, [],1) else if b1 then (p.getD zeroC, [1],1) else if b2 then (q.getD zeroC, [0],1) else if p.isSome || q.isSome then (zeroC, [],2) else (zeroC, [],3)
def E0 (g:Geo) (a:An) (x y:Gt) (slot seq at_ of_ left:Int):Rc × List Int × Int:=
 C0 (DK g x 0 slot) (DK g y 1 slot) (DW (DK g x 0 slot) a seq at_ of_ left) (DW (DK g y 1 slot) a seq at_ of_ left)
theorem IN (g:Geo) (x:Rc) (copy slot:Int) (hok:DP g x=true) (hl:Hp g copy slot=true):Fn Tryz.prog 89 [.ag (Ba g), .ag (FQ x),iv copy,iv slot] fun r=>r=bA (BV g x copy slot):=by
 have hg:Bq g=true:=by unfold DP at hok;simp only [Ad] at hok;exact hok.1
 have hb:=GK hg hl;have hs:=NR hok;have hn:=Et hok;have h1:=Dd g copy slot hg hl;have h2:=S6 g x hok;have h3:=HG (AU g copy slot) x.seq (Ek x) ⟨hb.1,by omega,hs.1,hs.2,by omega⟩;refine zT Tryz.func89 rfl ?_;conv=>whnf
 apply zz (0) tys_ok mixed (.o [0,1,2,4,5,6,3,7,8,9] .fin) [8,9,10,11,12,13,14,15,16,17] (by kernel_rfl)
 ·conv=>whnf
  refine z_ h1 ?_;conv=>whnf
  refine z_ h2 ?_;conv=>whnf
  refine z_ h3 ?_;exact tA
 exact⟨_,ri,rfl⟩
theorem Xi {x:Int} (c:Ctx) (u:Value) (h:Rd (.sl 1 1 fun i=> [[AV.v (.int .i64 x)]].getD i []) c u):Rd (iA [x]) c u:=
 zH (n:=1) (n':= [x].length) rfl (fun i hi=>by
  have:i=0:=by simp at hi;omega
  subst this;rfl) h
theorem UR (how:Int) (c:Ctx) (u:Value) (h:Rd (.tp [.ag [iv 0,iv 0,iv 0,iv 0,iv 0,iv 0,iv 0, .v (.slice none 0 0)], .v (.slice none 0 0),iv how]) c u):Rd (.tp [.ag (FQ zeroC),iA [],iv how]) c u:=by
 refine BL ?_ c u h;exact⟨Bk ⟨ri,ri,ri,ri,ri,ri,ri,Bn _ _,tv⟩,Bn _ _,ri,tv⟩
theorem WY (r:Rc) (c:Ctx) (u:Value) (h:Rd (.tp [.ag (FQ r), .v (.slice none 0 0),iv 1]) c u):Rd (.tp [.ag (FQ r),iA [],iv 1]) c u:=by
 refine BL ?_ c u h;exact⟨fun _ _ h=>h,Bn _ _,fun _ _ h=>h,tv⟩
theorem WX (r:Rc) (x:Int) (c:Ctx) (u:Value) (h:Rd (.tp [.ag (FQ r), .sl 1 1 fun i=> [[AV.v (.int .i64 x)]].getD i [],iv 1]) c u):Rd (.tp [.ag (FQ r),iA [x],iv 1]) c u:=by
 refine BL ?_ c u h;exact⟨fun _ _ h=>h,Xi,fun _ _ h=>h,tv⟩
theorem UQ (g:Geo) (a:An) (x y:Gt) (slot seq at_ of_ left:Int) (hg:Bq g=true) (hs:C2 slot 0 (g.sl - 1)=true) (hx:x.bytes.length<=100000) (hy:y.bytes.length<=100000) :
  Fn Tryz.prog 248 [.ag (Ba g), .ag (EJ a), .ag (DB x), .ag (DB y),iv slot,iv seq,iv at_,iv of_,iv left]
   fun r=>r = .tp [.ag (FQ (E0 g a x y slot seq at_ of_ left).1),iA (E0 g a x y slot seq at_ of_ left).2.1, .v (.int .i64 (E0 g a x y slot seq at_ of_ left).2.2)]:=by
 have s2:=Li g x 0 slot hx hg (by rw [Hp,hs];try rfl);have s3:=Li g y 1 slot hy hg (by rw [Hp,hs];try rfl);unfold E0;generalize DK g x 0 slot=p at s2 |-
 generalize DK g y 1 slot=q at s3 |-
 have i1:∀ r,p=some r->Fn Tryz.prog 273 [.ag (FQ r), .ag (EJ a),iv seq,iv at_,iv of_,iv left] fun x=>x = .v (.bool (DW p a seq at_ of_ left)):=by
  rintro r rfl;exact RF r a seq at_ of_ left
 have i2:∀ r,q=some r->Fn Tryz.prog 273 [.ag (FQ r), .ag (EJ a),iv seq,iv at_,iv of_,iv left] fun x=>x = .v (.bool (DW q a seq at_ of_ left)):=by
  rintro r rfl;exact RF r a seq at_ of_ left
 have n1:p=none->DW p a seq at_ of_ left=false:=by rintro rfl;rfl
 have n2:q=none->DW q a seq at_ of_ left=false:=by rintro rfl;rfl
 generalize DW p a seq at_ of_ left=b1 at i1 n1 |-
 generalize DW q a seq at_ of_ left=b2 at i2 n2 |-
 rcases p with _ | p <;> rcases q with _ | q <;> cases b1 <;> cases b2
 all_goals first
  | exact absurd (n1 rfl) (by decide)
  | exact absurd (n2 rfl) (by decide)
  | skip
 all_goals
  refine zT Tryz.func248 rfl ?_;conv=>whnf
  repeat' (first | (refine zZ ?_;conv=>whnf) | (refine A6 (fun _=>?_) (fun _=>?_) <;> conv=>whnf) | (refine z_ s2 ?_;conv=>whnf) | (refine z_ s3 ?_;conv=>whnf) | (refine z_ (i1 _ rfl) ?_;conv=>whnf) | (refine z_ (i2 _ rfl) ?_;conv=>whnf) | (refine Af (by first | omega | exact of_decide_eq_true rfl) ?_;conv=>whnf) | fail)
  first
   | exact⟨_,fun c u h=>UR 2 c u h,rfl⟩
   | exact⟨_,fun c u h=>UR 3 c u h,rfl⟩
   | exact⟨_,fun c u h=>WY _ c u h,rfl⟩
   | exact⟨_,fun c u h=>WX _ _ c u h,rfl⟩
def IW (x:Int) (n:Int):Int:=IntKind.i64.wrap ((IntKind.u64.wrap x).tmod n)
theorem EC {x n:Int} (h:0<n) (h2:n<=4611686018427387904):0<=IW x n/\IW x n<n:=by
 have h0:0<=IntKind.u64.wrap x:=by rw [IntKind.wrap_u64];omega
 have h1:=Be n h0;have h3:=AL (IntKind.u64.wrap x) h;unfold IW;rw [wi (by omega)];exact⟨h1,h3⟩
def II (z d sp sl an:Int):Geo:=⟨1+IW z 4,1+IW d 4,IW sp 3,14+IW sl 17,1+IW an 3⟩
theorem O6 (z d sp sl an:Int):Bq (II z d sp sl an)=true:=by
 have h1:=EC (x:=z) (n:=4) (by decide) (by decide);have h2:=EC (x:=d) (n:=4) (by decide) (by decide);have h3:=EC (x:=sp) (n:=3) (by decide) (by decide);have h4:=EC (x:=sl) (n:=17) (by decide) (by decide);have h5:=EC (x:=an) (n:=3) (by decide) (by decide);refine Ar.2 ?_;simp only [II];omega
theorem R8 (z d sp sl an:Int):Fn Tryz.prog 19 [iv z,iv d,iv sp,iv sl,iv an] fun r=>r = .ag (Ba (II z d sp sl an)):=by
 have h1:=EC (x:=z) (n:=4) (by decide) (by decide);have h2:=EC (x:=d) (n:=4) (by decide) (by decide);have h4:=EC (x:=sl) (n:=17) (by decide) (by decide);have h5:=EC (x:=an) (n:=3) (by decide) (by decide);refine zT Tryz.func19 rfl ?_;conv=>whnf
 repeat' (refine Af (by decide) ?_;conv=>whnf)
 refine⟨_,fun _ _ h=>h,?_⟩;simp only [Ba,II];rw [<-wi (n:=1+IW z 4) (by omega),<-wi (n:=1+IW d 4) (by omega),<-wi (n:=14+IW sl 17) (by omega),<-wi (n:=1+IW an 3) (by omega)];try rfl
def B_ (g:Geo) (s:ByteArray):An:=⟨1,0,0,1,0,s,List.replicate g.z.toNat ⟨(List.range (g.d+1).toNat).map Int.ofNat,g.d+1,0⟩⟩
def GC (n:Nat):List (List AV):=(List.range n).map fun i=> [iv (i:Nat)]
theorem J_ (n:Nat):GC (n+1)=GC n ++ [[iv (n:Nat)]]:=by simp [GC,Bh]
theorem QC {n i:Nat} (h:i<n):(GC n).getD i []=[iv (i:Nat)]:=Eu h
def MW (g:Geo):List AV:= [.sl 1 (g.d+1).toNat fun i=>(GC (g.d+1).toNat).getD i [],iv (g.d+1),iv 0]
theorem Ti (g:Geo):SubL (MW g) (Jq ⟨(List.range (g.d+1).toNat).map Int.ofNat,g.d+1,0⟩):=
 ⟨fun _ _ h=>zH (by simp) (fun i hi=>by rw [QC hi,Eu hi];try rfl) h,fun _ _ h=>h,fun _ _ h=>h,tv⟩
theorem VO (g:Geo) (s:ByteArray) (hg:Bq g=true):Fn Tryz.prog 129 [.ag (Ba g), .v (.string s)] fun r=>r = .ag (EJ (B_ g s)):=by
 obtain⟨h1,h2,h3,h4,h5⟩:=Ar.1 hg;have w1:IntKind.i64.wrap (g.d+1)=g.d+1:=wi (by omega);refine zT Tryz.func129 rfl ?_;conv=>whnf
 refine zP Nat (fun k=>([(2, .bp 0 0),(4, .bp 1 0),(5, .bp 2 0),(6,iv k)], [.box 23 (Ba g), .box 33 [iv 0,iv 0,iv 0,iv 0,iv 0, .v (.string ⟨#[]⟩), .v (.slice none 0 0)], .box 33 [iv 1,iv 0,iv 0,iv 1,iv 0, .v (.string s), .ow 3 k], .row 177 3 (List.replicate k (MW g))])) (fun k=>k<=g.z.toNat) (fun k=>g.z.toNat - k) 0 (Aj _) ⟨[(1002006,177,3)],tA,tA,tA,rfl,rfl,rfl⟩ ?_;intro k hk;conv=>whnf
 refine A6 (fun t1=>?_) (fun t1=>?_) <;> (repeat rw [Aa] at t1) <;> conv=>whnf
 ·refine zP Nat (fun j=>([(2, .bp 0 0),(4, .bp 1 0),(5, .bp 2 0),(6,iv k),(7, .bp 4 0),(8,iv j)], [.box 23 (Ba g), .box 33 [iv 0,iv 0,iv 0,iv 0,iv 0, .v (.string ⟨#[]⟩), .v (.slice none 0 0)], .box 33 [iv 1,iv 0,iv 0,iv 1,iv 0, .v (.string s), .ow 3 k], .row 177 3 (List.replicate k (MW g)), .box 177 [.ow 5 j,iv (g.d+1),iv 0], .row 3 1 (GC j)])) (fun j=>j<=(g.d+1).toNat) (fun j=>(g.d+1).toNat - j) 0 (Aj _) ⟨[(1004000,3,1)],tA,tA,⟨rfl,rfl,rfl,rfl,by rw [w1];try rfl,rfl,tv⟩,rfl,rfl,rfl⟩ ?_;intro j hj;conv=>whnf
  refine A6 (fun t2=>?_) (fun t2=>?_) <;> (repeat rw [Aa] at t2) <;> conv=>whnf
  ·refine⟨rfl,?_⟩;refine⟨⟨by simp [GC],by omega⟩,?_⟩;exact⟨j+1,by omega,by omega,(Wk.plain (by repeat' first | exact trivial | exact rfl | refine Af ?_ ?_ | exact AR (by omega) | exact congrArg (AB.row _ _) (J_ j)) (by repeat' first | exact trivial | exact rfl | refine Af ?_ ?_ | exact AR (by omega) | exact congrArg (AB.row _ _) (J_ j)) rfl rfl rfl)⟩
  ·have ej:j=(g.d+1).toNat:=by omega
   refine⟨(by simp [GC]),?_⟩;refine⟨rfl,?_⟩;refine⟨⟨by simp,by omega⟩,?_⟩;conv=>whnf
   have er:AB.row 177 3 (List.replicate (k+1) (MW g)) = .row 177 3 (List.replicate k (MW g) ++ [[AV.sl 1 j fun i=>(GC j).getD i [],iv (g.d+1),iv 0]]):=by
    rw [List.replicate_succ',MW,<-ej]
   exact⟨k+1,by omega,by omega,(Wk.plain (by repeat' first | exact trivial | exact rfl | refine Af ?_ ?_ | exact AR (by omega) | exact er) (by repeat' first | exact trivial | exact rfl | refine Af ?_ ?_ | exact AR (by omega) | exact er) rfl rfl rfl)⟩
 ·refine⟨by simp,?_⟩;conv=>whnf
  have ek:k=g.z.toNat:=by omega
  refine⟨.ag (EJ (B_ g s)),fun c u h=>?_,rfl⟩;refine Bk ?_ c u h;refine⟨fun _ _ h=>h,fun _ _ h=>h,fun _ _ h=>h,fun _ _ h=>h,fun _ _ h=>h,fun _ _ h=>h,fun c u h=>Rd.sub (by simp [B_,ek]) (fun i hi=>?_) h,tv⟩;rw [B_,Ab,Ab,CN hi,CN (by omega)];exact Ti g
theorem M9 {g:Geo} {r:Rc} {copy slot:Int} (hg:Bq g=true) (hok:DP g r=true) (hl:Hp g copy slot=true):DK g ⟨0,BV g r copy slot⟩ copy slot=some r:=by
 have hb:=GK hg hl;have hs:=NR hok;have hn:=Et hok;obtain⟨h1,h2,h3,h4⟩:=Jz (a:=AU g copy slot) (s:=r.seq) (p:=Ek r) ⟨hb.1,hb.2,hs.1,hs.2,by omega⟩;unfold DK;rw [hg,hl];simp only [BV,h1,h2,h3,h4,Q6 hok];rfl
theorem lab_nil:FF []=0:=by rw [<-MS,Iu];simp
theorem Ng {g:Geo} {s:ByteArray} (hg:Bq g=true) (hs:FF s.data.toList=0):Bv g (B_ g s)=true:=by
 obtain⟨h1,h2,h3,h4,h5⟩:=Ar.1 hg;have hp:OV ((List.range (g.d+1).toNat).map Int.ofNat) (g.d+1)=true:=by
  rcases(show g.d=1\/g.d=2\/g.d=3\/g.d=4 by omega) with h | h | h | h <;> rw [h] <;> decide
 have hh:DL g ⟨(List.range (g.d+1).toNat).map Int.ofNat,g.d+1,0⟩=true:=by
  simp [DL,hp,C2];omega
 simp [Bv,B_,hs,C2];exact⟨by omega,by omega, .inr hh⟩
theorem I6 (b:List UInt8) (h:b.length<=100000000000):Fn Tryz.prog 14 [bA b,bA b] fun x=>x = .v (.bool true):=by
 have:=PN b b h;rw [decide_eq_true rfl] at this;exact this


end
end Go.Proofs.YtepdhdfoipephaaGreatDoor.A
namespace Go.Proofs.YtepdhdfoipephaaGreatDoor
section
open Go.ChangeShapes Go.WideShapes Go.ChangeAt Go.RowKit Go.Deep
variable {H:Type} {enc:TypeId × Value->H}

instance:Rp Geo where
 sz:=5
 agg:=true
 pos:=by omega
 E:=fun _ _ cs g=>cs=[.int .i64 g.z, .int .i64 g.d, .int .i64 g.sp, .int .i64 g.sl, .int .i64 g.an]
 len:=fun h=>by rw [h];try rfl
 one:=fun h u hu=>by rw [h] at hu;simp at hu;rcases hu with rfl | rfl | rfl | rfl | rfl <;> rfl
 mono:=fun _ h=>h
end
end Go.Proofs.YtepdhdfoipephaaGreatDoor
namespace Go.Proofs.YtepdhdfoipephaaGreatDoor.A
section
open Go.RowKit
def LT (w:World):Ctx:={ w:=w,M:=noM,base:=w.heap.size,dom:=0,len:=fun _=>0,rho:=fun _=>undef }
theorem Fn.any {P:Program} {f:FuncId} {args:List AV} {a:AV} (h:Fn P f args fun r=>r=a) (w:World) (hg:globOk w) (us:List Value) (hr:RdL args (LT w) us) :
  Calls P f us.toArray w fun e w'=>∃ v,e = .returned v/\Below w.heap.size w w'/\Rd a { LT w with w:=w' } v:=by
 refine(h.calls (LT w) us rfl (fun _ h=>h.elim) hg hr).mono ?_;rintro e w' ⟨v,r,rfl,rfl,h1,h2⟩;exact⟨v,rfl,h1,h2⟩
theorem Fn.anyV {P:Program} {f:FuncId} {args:List AV} {a:Value} (h:Fn P f args fun r=>r = .v a) (w:World) (hg:globOk w) (us:List Value) (hr:RdL args (LT w) us) :
  Calls P f us.toArray w fun e w'=>e = .returned a/\Below w.heap.size w w':=by
 refine(h.any w hg us hr).mono ?_;rintro e w' ⟨v,rfl,h1,h2⟩;simp only [Rd] at h2;exact⟨by rw [h2],h1⟩
end
section
open Go.RowKit Go.ChangeShapes Go.WideShapes Go.ChangeAt Go.Deep
open Go.ChangeMaps (open_string)

section
variable {H:Type} {enc:TypeId × Value->H} {w:World}
def OpenE (enc:TypeId × Value->H) (w:World) (t:TypeId) (sz:Nat) (G:List AV->Prop):Prop:=
 Tryz.prog.cellsOf t=sz/\∀ n cs x,DataW.trod enc Tryz.prog w 0 (fun _=>true) true n t cs=some x->∃ L,G L/\RdL L (LT w) cs/\(∀ u∈cs,u.oneCell'=true)/\L.length=sz
theorem OpenE.mono {t sz:Nat} {G G':List AV->Prop} (h:OpenE enc w t sz G) (hg:∀ L,G L->G' L):OpenE enc w t sz G':=
 ⟨h.1,fun n cs x hx=>let ⟨L,h1,h2⟩:=h.2 n cs x hx;⟨L,hg L h1,h2⟩⟩
structure FieldE (enc:TypeId × Value->H) (w:World) where
 t:TypeId
 sz:Nat
 G:List AV->Prop
 ok:OpenE enc w t sz G
end
section
variable {H:Type} {enc:TypeId × Value->H} {w:World}
end
end
section
open Go.RowKit
theorem Qq {g:Geo} {x:Gt} {copy slot:Int} (h:(Bq g&&Hp g copy slot)=false):DK g x copy slot=none:=by
 unfold DK;rw [h];try rfl
theorem Lb {g:Geo} {x:Gt} {copy slot:Int} {r:Rc} (h:DK g x copy slot=some r):DP g r=true/\Hp g copy slot=true/\r.img.bytes.length<=59:=by
 unfold DK at h;split at h
 ·rename_i hc;simp only [Ad] at hc;split at h
  ·rename_i r' hr;split at h
   ·injection h with h
    subst h;obtain⟨h1,h2⟩:=Q5 hr;have h3:=Et h1;have h4:=IR h1;refine⟨h1,hc.1.1.1.2,?_⟩;by_cases hk:r'.kind=1
    ·rw [if_pos hk] at h4;omega
    ·have:r'.img.bytes.length=0:=by
      unfold DP Ef at h1;simp only [Ad] at h1;have h5:=h1.2;split at h5
      ·simp only [FC,Ad,beq_iff_eq] at h5;omega
      ·split at h5
       ·simp only [FC,Ad,beq_iff_eq] at h5;omega
       ·cases h5
     omega
   ·cases h
  ·cases h
 ·cases h
theorem Po {p q:Option Rc} {b1 b2:Bool} {Q:Rc->Prop} (h1:b1=true->∃ r,p=some r/\Q r) (h2:b2=true->∃ r,q=some r/\Q r) :
  ((C0 p q b1 b2).2.2=1/\Q (C0 p q b1 b2).1/\(C0 p q b1 b2).2.1.length<=1/\∀ c∈(C0 p q b1 b2).2.1,c=0\/c=1)\/(((C0 p q b1 b2).2.2=2\/(C0 p q b1 b2).2.2=3)/\(C0 p q b1 b2).2.1=[]/\(C0 p q b1 b2).1=zeroC):=by
 unfold C0;cases b1 <;> cases b2
 ·by_cases h:(p.isSome || q.isSome)=true
  ·simp [h]
  ·simp [h]
 ·obtain⟨r,rfl,hr⟩:=h2 rfl;exact .inl ⟨rfl,hr,by simp,by simp⟩
 ·obtain⟨r,rfl,hr⟩:=h1 rfl;exact .inl ⟨rfl,hr,by simp,by simp⟩
 ·obtain⟨r,rfl,hr⟩:=h1 rfl;exact .inl ⟨rfl,hr,by simp,by simp⟩
theorem Pf {g:Geo} {a:An} {x:Gt} {c slot seq at_ of_ left:Int} (h:DW (DK g x c slot) a seq at_ of_ left=true):∃ r,DK g x c slot=some r/\DP g r=true/\r.img.bytes.length<=59/\DA r a seq at_ of_ left=true:=by
 cases hp:DK g x c slot with
 | none=>rw [hp] at h;cases h
 | some r=>
  rw [hp] at h;obtain⟨e1, -,e3⟩:=Lb hp;exact⟨r,rfl,e1,e3,h⟩
theorem Kd {g:Geo} {a:An} {x y:Gt} {slot seq at_ of_ left:Int} (hs:0<=slot/\slot<g.sl) :
  ((E0 g a x y slot seq at_ of_ left).2.2=1/\(DP g (E0 g a x y slot seq at_ of_ left).1=true/\(E0 g a x y slot seq at_ of_ left).1.img.bytes.length<=59/\DA (E0 g a x y slot seq at_ of_ left).1 a seq at_ of_ left=true)/\(E0 g a x y slot seq at_ of_ left).2.1.length<=1/\∀ c∈(E0 g a x y slot seq at_ of_ left).2.1,Hp g c slot=true)\/
  (((E0 g a x y slot seq at_ of_ left).2.2=2\/(E0 g a x y slot seq at_ of_ left).2.2=3)/\(E0 g a x y slot seq at_ of_ left).2.1=[]/\(E0 g a x y slot seq at_ of_ left).1=zeroC):=by
 have hi:C2 slot 0 (g.sl - 1)=true:=AD.2 (by omega);have o0:Hp g 0 slot=true:=by rw [Hp,hi];try rfl
 have o1:Hp g 1 slot=true:=by rw [Hp,hi];try rfl
 refine(Po (Q:=fun r=>DP g r=true/\r.img.bytes.length<=59/\DA r a seq at_ of_ left=true) Pf Pf).imp (fun h=>⟨h.1,h.2.1,h.2.2.1,fun c hc=>?_⟩) id;rcases h.2.2.2 c hc with rfl | rfl
 ·exact o0
 ·exact o1
def gz:Gt:=⟨0, []⟩
def BW (g:Geo) (pos at_:Int):Int:=(IntKind.i64.wrap (pos+at_)).tmod g.sl
def D7 (g:Geo) (a:An) (x y:List Gt) (pos seq left at_ of_:Int):Rc × Int × List Wr:=
 let s:=BW g pos at_;let q:=E0 g a (x.getD s.toNat gz) (y.getD s.toNat gz) s seq at_ of_ left
 (q.1,q.2.2,q.2.1.map fun c=>⟨AU g c s,BV g q.1 c s⟩)
def BA (look:Int->Rc × Int × List Wr):Nat->Int->Rc->List Img->List Wr->Int × List Img × List Wr
 | 0,_,r,im,w=>(1,if r.kind=1 then im ++ [r.img] else im,w)
 | f+1,at_,r,im,w=>
  let q:=look at_
  if q.2.1≠1 then (q.2.1, [], []) else BA look f (at_+1) q.1 (if r.kind=1 then im ++ [r.img] else im) (w ++ q.2.2)
def FP (g:Geo) (a:An) (x y:List Gt) (pos seq left:Int):Int × Int × List Img × List Wr:=
 let q:=D7 g a x y pos seq left 0 0
 if q.2.1≠1 then (q.2.1,0, [], []) else
  let t:=BA (fun k=>D7 g a x y pos seq left k q.1.of_) (q.1.of_ - 1).toNat 1 q.1 [] q.2.2
  if t.1≠1 then (t.1,0, [], []) else (1,q.1.of_,t.2.1,t.2.2)
def E8 (g:Geo) (a:An) (x y:List Gt):Nat->Int->Int->Int->List Tx->List Wr->Option (List Tx × List Wr × Int)
 | 0,_,seq,_,l,w=>some (l,w,seq)
 | f+1,pos,seq,left,l,w=>
  if 0<left/\seq<=4294967295 then
   let t:=FP g a x y pos seq left
   if t.1=3 then none else if t.1≠1 then some (l,w,seq)
   else E8 g a x y f ((pos+t.2.1).tmod g.sl) (seq+1) (left - t.2.1) (l ++ [⟨seq,pos,t.2.1,t.2.2.1⟩]) (w ++ t.2.2.2)
  else some (l,w,seq)
def damaged:Int:=12
def T0 (a:An):Option (List Tx × List Wr × Int)->List Tx × List Wr × Int
 | none=>([], [],damaged)
 | some (l,w,seq)=>if seq - 1<a.last then ([], [],damaged) else (l,w,0)
theorem Hz {a:An} {l:List Tx} {w:List Wr} {seq:Int} (h:seq - 1<a.last):T0 a (some (l,w,seq))=([], [],damaged):=if_pos h
theorem Fu {a:An} {l:List Tx} {w:List Wr} {seq:Int} (h:¬seq - 1<a.last):T0 a (some (l,w,seq))=(l,w,0):=if_neg h
def DS (g:Geo) (a:An) (x y:List Gt):List Tx × List Wr × Int:=T0 a (E8 g a x y g.sl.toNat a.pos a.seq g.sl [] [])
theorem Hg {g:Geo} {pos at_:Int} (hg:Bq g=true) (hp:0<=pos/\pos<g.sl) (hat:0<=at_/\at_<=1000):0<=BW g pos at_/\BW g pos at_<g.sl:=by
 obtain⟨h1,h2,h3,h4,h5⟩:=Ar.1 hg;have hw:IntKind.i64.wrap (pos+at_)=pos+at_:=by rw [IntKind.wrap_i64];omega
 exact⟨Be _ (by rw [hw];omega),AL _ (by omega)⟩
theorem GB {g:Geo} {a:An} {x y:List Gt} {pos seq left at_ of_:Int} (hg:Bq g=true) (hp:0<=pos/\pos<g.sl) (hat:0<=at_/\at_<=1000) :
  ((D7 g a x y pos seq left at_ of_).2.1=1/\(DP g (D7 g a x y pos seq left at_ of_).1=true/\(D7 g a x y pos seq left at_ of_).1.img.bytes.length<=59/\DA (D7 g a x y pos seq left at_ of_).1 a seq at_ of_ left=true)/\(D7 g a x y pos seq left at_ of_).2.2.length<=1)\/
  (((D7 g a x y pos seq left at_ of_).2.1=2\/(D7 g a x y pos seq left at_ of_).2.1=3)/\(D7 g a x y pos seq left at_ of_).2.2=[]/\(D7 g a x y pos seq left at_ of_).1=zeroC):=by
 refine(Kd (a:=a) (x:=x.getD (BW g pos at_).toNat gz) (y:=y.getD (BW g pos at_).toNat gz) (seq:=seq) (at_:=at_) (of_:=of_) (left:=left) (Hg hg hp hat)).imp (fun h=>⟨h.1,h.2.1,?_⟩) (fun h=>⟨h.1,?_,h.2.2⟩)
 ·simp only [D7,Ac];exact h.2.2.1
 ·simp only [D7,h.2.1,BM]
theorem J9 {r:Rc} {g:Geo} {a:An} {seq at_ of_ left:Int} (hk:DP g r=true) (h:DA r a seq at_ of_ left=true):2<=r.of_/\r.of_<=30/\r.at_=at_/\r.at_<=r.of_ - 1/\(of_=0->r.of_<=left)/\(of_≠0->r.of_=of_):=by
 have h:=of_decide_eq_true h;unfold DP Ef at hk;simp only [Ad] at hk;have h2:=hk.2;rw [if_neg h.1] at h2;split at h2
 ·simp only [EO,Ad,AD] at h2;refine⟨by omega,by omega,h.2.2.1,by omega,h.2.2.2.1,h.2.2.2.2.1⟩
 ·split at h2
  ·simp only [EO,Ad,AD,beq_iff_eq] at h2;refine⟨by omega,by omega,h.2.2.1,by omega,h.2.2.2.1,h.2.2.2.2.1⟩
  ·cases h2
@[reducible] def ZX (g:Geo) (a:An) (x y:List Gt) (pos seq left:Int) (w:AV):List AV:=
 [iv g.z,iv g.d,iv g.sp,iv g.sl,iv g.an,iv a.gen,iv a.epoch,iv a.pos,iv a.seq,iv a.last, .v (.string a.label),Ku a.homes,FG x,FG y,iv pos,iv seq,iv left,w]
theorem QP (seq epoch of_:Int) {k:Nat} {l:List Img} (hk:k<l.length):(Iw seq epoch of_ (k+1) l).map FQ=(Iw seq epoch of_ k l).map FQ ++ [FQ ⟨1,seq,epoch,(k:Nat),of_,l.getD k ⟨0,0, []⟩⟩]:=by
 rw [Th seq epoch of_ hk,A0,Ab,Ae hk];try rfl

def Vw (seq epoch n:Int):List AV:= [iv 2,iv seq,iv epoch,iv n,iv (n+1),iv 0,iv 0, .v (.slice none 0 0)]
theorem UY (seq epoch:Int) (l:List Img) (i:Nat) (hi:i<l.length+1) :
  SubL ((List.map FQ (Iw seq epoch (l.length+1) l.length l) ++ [Vw seq epoch l.length]).getD i [])
   (FQ ((CE seq epoch l).getD i ⟨0,0,0,0,0,⟨0,0, []⟩⟩)):=by
 have hlk:(Iw seq epoch (l.length+1) l.length l).length=l.length:=by rw [Jb];omega
 rcases BU i l.length with h | h
 ·have e1:(List.map FQ (Iw seq epoch (l.length+1) l.length l) ++ [Vw seq epoch l.length]).getD i []=FQ ((CE seq epoch l).getD i ⟨0,0,0,0,0,⟨0,0, []⟩⟩):=by
   unfold CE;rw [Jc (by rw [Ac,hlk];exact h),Jc (by rw [hlk];exact h)];exact Bf (by rw [hlk];exact h)
  rw [e1];exact SubL.refl _
 ·obtain rfl:i=l.length:=by omega
  unfold CE;rw [HN (by rw [Ac,hlk];omega),HN (by rw [hlk];omega),Ac,hlk,CI];simp only [List.getD_cons_zero,FQ,noImg,Vw];exact⟨fun _ _ h=>h,fun _ _ h=>h,fun _ _ h=>h,fun _ _ h=>h,fun _ _ h=>h,fun _ _ h=>h,fun _ _ h=>h,Bn _ _,tv⟩
theorem Lh (seq epoch:Int) (l:List Img):(CE seq epoch l).length=l.length+1:=by
 unfold CE;rw [Ai,Jb];simp

def IL (g:Geo) (a:An) (x y:List Gt):List Tx × List Wr × Int:=
 if Bq g&&Bv g a then (if (x.length:Int)=g.sl/\(y.length:Int)=g.sl then DS g a x y else ([], [],2)) else ([], [],1)
theorem J0 (k:Int) (c:Ctx) (u:Value) (h:Rd (.tp [.v (.slice none 0 0), .v (.slice none 0 0),iv k]) c u):Rd (.tp [Eg [],Ma [],iv k]) c u:=by
 refine BL ?_ c u h;exact⟨Bn _ _,Bn _ _,fun _ _ h=>h,tv⟩
theorem Jk {g:Geo} {a:An} (h:Bv g a=true):(0<=a.seq/\a.seq<=4294967296)/\0<=a.pos/\a.pos<g.sl:=by
 simp only [Bv,AX,Ad,AD] at h;omega
theorem Kh {look:Int->Rc × Int × List Wr}:∀ (f:Nat) (k:Int) (r:Rc) (im:List Img) (w:List Wr),(∀ i,k<=i->i<k+f->(look i).2.2.length<=1)->(BA look f k r im w).2.2.length<=w.length+f
 | 0,_,_,_,_,_=>by simp [BA]
 | f+1,k,r,im,w,h=>by
  have h1:=h k (by omega) (by omega);unfold BA;simp only;split
  ·simp
  ·have:=Kh f (k+1) (look k).1 (if r.kind=1 then im ++ [r.img] else im) (w ++ (look k).2.2) fun i h2 h3=>h i (by omega) (by omega)
   rw [Ai] at this;omega
theorem Ki {look:Int->Rc × Int × List Wr}:∀ (f:Nat) (k:Int) (r:Rc) (im:List Img) (w:List Wr),(∀ i,k<=i->i<k+f->(look i).2.1=1\/(look i).2.1=2\/(look i).2.1=3)->(BA look f k r im w).1=1\/(BA look f k r im w).1=2\/(BA look f k r im w).1=3
 | 0,_,_,_,_,_=> .inl rfl
 | f+1,k,r,im,w,h=>by
  have h1:=h k (by omega) (by omega);unfold BA;simp only;split
  ·exact h1
  ·exact Ki f (k+1) (look k).1 (if r.kind=1 then im ++ [r.img] else im) (w ++ (look k).2.2) fun i h2 h3=>h i (by omega) (by omega)
theorem Ii {g:Geo} {a:An} {x y:List Gt} {pos seq left:Int} (hg:Bq g=true) (hp:0<=pos/\pos<g.sl) :
  ((FP g a x y pos seq left).1=1/\(2<=(FP g a x y pos seq left).2.1/\(FP g a x y pos seq left).2.1<=left/\(FP g a x y pos seq left).2.1<=30)/\(FP g a x y pos seq left).2.2.2.length<=30)\/((FP g a x y pos seq left).1=2\/(FP g a x y pos seq left).1=3):=by
 have r0:=GB (a:=a) (x:=x) (y:=y) (seq:=seq) (left:=left) (of_:=0) (at_:=0) hg hp (by omega);unfold FP;simp only;rcases r0 with ⟨e1,⟨e2, -,e3⟩,e4⟩ | ⟨e1, -, -⟩
 ·rw [if_neg (by omega)];have hN:=J9 e2 e3;have hA:=fun(i:Int) (h1:1<=i) (h2:i<1+((D7 g a x y pos seq left 0 0).1.of_ - 1).toNat)=>GB (a:=a) (x:=x) (y:=y) (seq:=seq) (left:=left) (of_:=(D7 g a x y pos seq left 0 0).1.of_) (at_:=i) hg hp (by omega)
  have hH:=Ki (look:=fun k=>D7 g a x y pos seq left k (D7 g a x y pos seq left 0 0).1.of_) ((D7 g a x y pos seq left 0 0).1.of_ - 1).toNat 1 (D7 g a x y pos seq left 0 0).1 [] (D7 g a x y pos seq left 0 0).2.2 fun i h1 h2=>(hA i h1 h2).imp (fun h=>h.1) fun h=>h.1
  split
  ·exact .inr (hH.resolve_left ‹_›)
  ·refine .inl ⟨rfl,⟨hN.1,hN.2.2.2.2.1 rfl,hN.2.1⟩,?_⟩;have:=Kh (look:=fun k=>D7 g a x y pos seq left k (D7 g a x y pos seq left 0 0).1.of_) ((D7 g a x y pos seq left 0 0).1.of_ - 1).toNat 1 (D7 g a x y pos seq left 0 0).1 [] (D7 g a x y pos seq left 0 0).2.2 fun i h1 h2=>by
    rcases hA i h1 h2 with ⟨_,_,h⟩ | ⟨_,h,_⟩
    ·exact h
    ·rw [h];simp
   exact Bo this (by omega)
 ·rw [if_pos (by omega)];exact .inr e1
def Zc (g:Geo) (t:Tx) (s:Int):Int:=(IntKind.i64.wrap (IntKind.i64.wrap (s - t.pos)+g.sl)).tmod g.sl
def Zb (g:Geo) (t:Tx) (s:Int):Bool:=C2 t.pos 0 (g.sl - 1)&&C2 t.n 0 g.sl&&decide (Zc g t s<t.n)
def Yf (g:Geo) (s:Int):List Tx->Nat->Option (Nat × Int)
 | [],_=>none
 | t::r,i=>if Zb g t s then some (i,Zc g t s) else Yf g s r (i+1)
end
end Go.Proofs.YtepdhdfoipephaaGreatDoor.A
namespace Go.Proofs.YtepdhdfoipephaaGreatDoor
section

def rc0:Rc:=⟨0,0,0,0,0,⟨0,0, []⟩⟩
theorem J2 (seq epoch:Int) (l:List Img) {k:Nat} (hk:k<l.length+1):(CE seq epoch l).getD k rc0=if k<l.length then ⟨1,seq,epoch,(k:Nat),l.length+1,l.getD k ⟨0,0, []⟩⟩ else ⟨2,seq,epoch,(k:Nat),l.length+1,noImg⟩:=by
 have hlen:(Iw seq epoch (l.length+1) l.length l).length=l.length:=by rw [Jb];omega
 unfold CE;rw [Ab];by_cases h:k<l.length
 ·rw [if_pos h,AA (by omega)];have h2:(Iw seq epoch (l.length+1) l.length l)[k]? = some ⟨1,seq,epoch,(k:Nat),l.length+1,l[k]⟩:=by
   unfold Iw;rw [Ay,AZ,List.getElem?_zipIdx,Ae h];simp
  rw [h2,Ab,Ae h];try rfl
 ·have e:k=l.length:=by omega
  subst e;rw [if_neg h,A9 (by omega),hlen];simp
structure RecAt (g:Geo) (seq epoch:Int) (l:List Img) (k:Nat) (r:Rc):Prop where
 ok:DP g r=true
 seq:r.seq=seq
 epoch:r.epoch=epoch
 at_:r.at_=(k:Nat)
 of_:r.of_=l.length+1
 kind:r.kind≠0
 img:(r.kind=1↔k<l.length)/\(k<l.length->r.img=l.getD k ⟨0,0, []⟩)
end
end Go.Proofs.YtepdhdfoipephaaGreatDoor
namespace Go.Proofs.YtepdhdfoipephaaGreatDoor.A
section
open Go.RowKit
def tz:Tx:=⟨0,0,0, []⟩
def Va (g:Geo) (l:List Tx) (epoch s:Int):Rc:=match Yf g s l 0 with
 | none=>zeroC
 | some (i,k)=>(CE (l.getD i tz).seq epoch (l.getD i tz).images).getD k.toNat zeroC
def Gh (g:Geo) (l:List Tx) (epoch copy:Int) (n:Nat):List Gt:=(List.range n).map fun s=>⟨0,BV g (Va g l epoch (s:Nat)) copy (s:Nat)⟩
structure LogOk (g:Geo) (l:List Tx) (epoch:Int):Prop where
 len:l.length<=1000
 img:∀ t∈l,t.images.length<=1000/\∀ x∈t.images,x.bytes.length<=1000000
 who:∀ s i k,0<=s/\s<g.sl->Yf g s l 0=some (i,k)->i<l.length/\0<=k/\k.toNat<(l.getD i tz).images.length+1
 ok:∀ s,0<=s/\s<g.sl->DP g (Va g l epoch s)=true
def SubLL:List (List AV)->List (List AV)->Prop
 | [], []=>True
 | a::r,b::s=>SubL a b/\SubLL r s
 | _,_=>False
theorem SubLL.get:∀ {es fs:List (List AV)} {i:Nat},SubLL es fs->i<es.length->SubL (es.getD i []) (fs.getD i [])
 | [],_,_,_,h=>by simp at h
 | a::r,b::s,0,h,_=>by simpa using h.1
 | a::r,b::s,i+1,h,hi=>by
  have:=SubLL.get (i:=i) h.2 (by simpa using hi);simpa using this
 | _::_, [],_,h,_=>h.elim
theorem OI {α:Type} {f:α->List AV} {d:α} {sz n:Nat} {es:List (List AV)} (l:List α) (hn:n=l.length) (he:n=es.length) (h:SubLL es (l.map f)) (c:Ctx) (u:Value) (hr:Rd (.sl sz n fun i=>es.getD i []) c u):Rd (.sl sz l.length fun i=>f (l.getD i d)) c u:=
 Rd.sub hn (fun i hi=>by
  have:=h.get (i:=i) (by omega);rwa [Bf (d:=d) (by omega)] at this) hr
theorem Ny {g:Geo} {l:List Tx} {epoch:Int} (hg:Bq g=true) (h:LogOk g l epoch) {copy:Int} (hc:copy=0\/copy=1) {s:Nat} (hs:(s:Int)<g.sl):DK g ((Gh g l epoch copy g.sl.toNat).getD s gz) copy (s:Nat)=some (Va g l epoch (s:Nat)):=by
 have hin:(0:Int)<=(s:Nat)/\((s:Nat):Int)<g.sl:=by omega
 have e:(Gh g l epoch copy g.sl.toNat).getD s gz=⟨0,BV g (Va g l epoch (s:Nat)) copy (s:Nat)⟩:=by
  unfold Gh;rw [Bf (d:=0) (by rw [Cc];omega)];rw [Ab,Br (by omega)];try rfl
 rw [e];refine M9 hg (h.ok s hin) ?_;rw [Hp,AD.2 (show 0<=((s:Nat):Int)/\((s:Nat):Int)<=g.sl - 1 by omega)];rcases hc with rfl | rfl <;> rfl
theorem J1 {g:Geo} {x:Gt} {copy s:Int} (h:¬(0<=s/\s<g.sl)):DK g x copy s=none:=by
 refine Qq ?_;have:C2 s 0 (g.sl - 1)=false:=by
  rw [<-BF];intro e;have:=AD.1 e;omega
 rw [Hp,this];simp
def Pp (a:An) (p q:Int->Option Rc) (slot seq at_ of_ left:Int):Rc × List Int × Int:=
 C0 (p slot) (q slot) (DW (p slot) a seq at_ of_ left) (DW (q slot) a seq at_ of_ left)
def C3 (g:Geo) (a:An) (p q:Int->Option Rc) (pos seq left at_ of_:Int):Rc × Int × List Wr:=
 let s:=BW g pos at_;let z:=Pp a p q s seq at_ of_ left
 (z.1,z.2.2,z.2.1.map fun c=>⟨AU g c s,BV g z.1 c s⟩)
def F6 (g:Geo) (a:An) (p q:Int->Option Rc) (pos seq left:Int):Int × Int × List Img × List Wr:=
 let z:=C3 g a p q pos seq left 0 0
 if z.2.1≠1 then (z.2.1,0, [], []) else
  let t:=BA (fun k=>C3 g a p q pos seq left k z.1.of_) (z.1.of_ - 1).toNat 1 z.1 [] z.2.2
  if t.1≠1 then (t.1,0, [], []) else (1,z.1.of_,t.2.1,t.2.2)
def ER (g:Geo) (a:An) (p q:Int->Option Rc):Nat->Int->Int->Int->List Tx->List Wr->Option (List Tx × List Wr × Int)
 | 0,_,seq,_,l,w=>some (l,w,seq)
 | f+1,pos,seq,left,l,w=>
  if 0<left/\seq<=4294967295 then
   let t:=F6 g a p q pos seq left
   if t.1=3 then none else if t.1≠1 then some (l,w,seq)
   else ER g a p q f ((pos+t.2.1).tmod g.sl) (seq+1) (left - t.2.1) (l ++ [⟨seq,pos,t.2.1,t.2.2.1⟩]) (w ++ t.2.2.2)
  else some (l,w,seq)
def M7 (g:Geo) (a:An) (p q:Int->Option Rc):List Tx × List Wr × Int:=T0 a (ER g a p q g.sl.toNat a.pos a.seq g.sl [] [])
def DT (g:Geo) (x:List Gt) (copy:Int):Int->Option Rc:=fun s=>DK g (x.getD s.toNat gz) copy s
theorem RB (g:Geo) (a:An) (x y:List Gt):∀ (f:Nat) (pos seq left:Int) (l:List Tx) (w:List Wr),E8 g a x y f pos seq left l w=ER g a (DT g x 0) (DT g y 1) f pos seq left l w
 | 0,_,_,_,_,_=>rfl
 | f+1,pos,seq,left,l,w=>by
  unfold E8 ER;have e:FP g a x y pos seq left=F6 g a (DT g x 0) (DT g y 1) pos seq left:=rfl;rw [e];simp only [RB g a x y f]
theorem N8 (g:Geo) (a:An) (x y:List Gt):DS g a x y=M7 g a (DT g x 0) (DT g y 1):=by
 unfold DS M7;rw [RB]
def GY (g:Geo) (l:List Tx) (epoch:Int) (bad:Int->Bool):Int->Option Rc:=fun s=>if 0<=s/\s<g.sl then (if bad s then none else some (Va g l epoch s)) else none
theorem RC {g:Geo} {l:List Tx} {epoch:Int} (hg:Bq g=true) (h:LogOk g l epoch) {copy:Int} (hc:copy=0\/copy=1):DT g (Gh g l epoch copy g.sl.toNat) copy=GY g l epoch fun _=>false:=by
 funext s;unfold DT GY;by_cases hs:0<=s/\s<g.sl
 ·rw [if_pos hs,if_neg (Bool.false_ne_true)];obtain⟨k,rfl⟩:=Int.eq_ofNat_of_zero_le hs.1;rw [Aa];exact Ny hg h hc hs.2
 ·rw [if_neg hs];exact J1 hs
theorem RdL.split {c:Ctx}:∀ {l m:List AV} {xs:List Value},RdL (l ++ m) c xs->∃ a b,xs=a ++ b/\RdL l c a/\RdL m c b
 | [],m,xs,h=>⟨[],xs,rfl,by simp only [RdL],h⟩
 | x::l,m,xs,h=>by
  simp only [Bl,RdL] at h;obtain⟨y,ys,rfl,h1,h2⟩:=h;obtain⟨a,b,rfl,h3,h4⟩:=RdL.split h2;exact⟨y::a,b,rfl,by simp only [RdL];exact⟨y,a,rfl,h1,h3⟩,h4⟩
theorem SubLL.len:∀ {es fs:List (List AV)},SubLL es fs->es.length=fs.length
 | [], [],_=>rfl
 | _::_,_::_,h=>by simp [SubLL.len h.2]
 | [],_::_,h=>h.elim
 | _::_, [],h=>h.elim
theorem SubLL.flat:∀ {es fs:List (List AV)} {c:Ctx} {xs:List Value},SubLL es fs->RdL es.flatten c xs->RdL fs.flatten c xs
 | [], [],_,_,_,h=>h
 | a::r,b::s,c,xs,h,hr=>by
  rw [AP] at hr |-
  obtain⟨x1,x2,rfl,h1,h2⟩:=RdL.split hr;exact RdL.append (h.1.rdl h1) (SubLL.flat h.2 h2)
 | [],_::_,_,_,h,_=>h.elim
 | _::_, [],_,_,h,_=>h.elim
theorem SubLL.sz:∀ {es fs:List (List AV)} {sz:Nat},SubLL es fs->(∀ e∈es,e.length=sz)->∀ e∈fs,e.length=sz
 | [], [],_,_,_=>by simp
 | a::r,b::s,sz,h,hs=>by
  intro e he;rcases Bb.1 he with rfl | he
  ·rw [<-h.1.len];exact hs a (by simp)
  ·exact SubLL.sz h.2 (fun e he=>hs e (AY _ he)) e he
 | [],_::_,_,h,_=>h.elim
 | _::_, [],_,h,_=>h.elim
def ABSub:AB->AB->Prop
 | .row t sz es, .row t' sz' es'=>t=t'/\sz=sz'/\SubLL es es'
 | x,y=>x=y
def HSub:List AB->List AB->Prop
 | [], []=>True
 | x::r,y::s=>ABSub x y/\HSub r s
 | _,_=>False
theorem HSub.len:∀ {H H':List AB},HSub H H'->H.length=H'.length
 | [], [],_=>rfl
 | _::_,_::_,h=>by simp [HSub.len h.2]
 | [],_::_,h=>h.elim
 | _::_, [],h=>h.elim
theorem HSub.get:∀ {H H':List AB} {k:Nat} {y:AB},HSub H H'->H'[k]? = some y->∃ x,H[k]? = some x/\ABSub x y
 | [], [],k,y,_,h=>by simp at h
 | x::r,y::s,0,z,h,hz=>by
  simp at hz;subst hz;exact⟨x,by simp,h.1⟩
 | x::r,y::s,k+1,z,h,hz=>by
  obtain⟨w,h1,h2⟩:=HSub.get (k:=k) h.2 (by simpa using hz);exact⟨w,by simpa using h1,h2⟩
 | [],_::_,_,_,h,_=>h.elim
 | _::_, [],_,_,_,hz=>by simp at hz
theorem ABSub.live:∀ {x y:AB},ABSub x y->x.live=y.live:=by
 intro x y h;cases x <;> cases y <;> simp only [ABSub] at h <;> first | rfl | cases h
theorem ABSub.blk {c:Ctx} {k:Nat}:∀ {x y:AB},ABSub x y->BlkOk c k x->BlkOk c k y
 | .row t sz es, .row t' sz' es',h,hb=>by
  obtain⟨rfl,rfl,h⟩:=h;obtain⟨h1,h2,h3,xs,h4,h5,h6⟩:=hb;refine⟨h1.trans h.len,h2,h.sz h3,xs,?_,h.flat h5,h6⟩;rw [<-h.len];exact h4
 | .row _ _ _, .box _ _,h,_=>by cases h
 | .row _ _ _, .iter _ _,h,_=>by cases h
 | .row _ _ _, .dead,h,_=>by cases h
 | .row _ _ _, .rowo _ _ _ _,h,_=>by cases h
 | .rowo t sz es m,y,h,hb=>by
  have h:AB.rowo t sz es m=y:=h;subst h;exact hb
 | .box t cs,y,h,hb=>by
  have h:AB.box t cs=y:=h;subst h;exact hb
 | .iter a b,y,h,hb=>by
  have h:AB.iter a b=y:=h;subst h;exact hb
 | .dead,y,h,hb=>by
  have h:AB.dead=y:=h;subst h;exact hb
theorem HS.hsub {w0:Fl} {M0:Ms} {c:Ctx} {H H':List AB} (hs:HS w0 M0 c H) (h:HSub H H'):HS w0 M0 c H':=by
 refine⟨hs.low,hs.base,hs.dom.trans h.len,hs.foreign,hs.lt,fun k y hy=>?_,fun k y g hy hl ho=>?_,fun j k y z g hj hk hy hz ho ho'=>?_⟩
 ·obtain⟨x,h1,h2⟩:=h.get hy;exact h2.blk (hs.blk k x h1)
 ·obtain⟨x,h1,h2⟩:=h.get hy;exact hs.own k x g h1 (h2.live.trans hl) ho
 ·obtain⟨x1,h1,h2⟩:=h.get hj;obtain⟨x2,h3,h4⟩:=h.get hk;exact hs.dis j k x1 x2 g h1 h3 (h2.live.trans hy) (h4.live.trans hz) ho ho'
theorem ACalls.hsub {P:Program} {q:Bool} {f:FuncId} {args:List AV} {H:List AB} {k:AV->List AB->Prop} (H':List AB) (hs:HSub H H') (h:ACalls P q f args H' k):ACalls P q f args H k:=
 ⟨h.go,fun w0 M0 c us hs0 hr=>h.calls w0 M0 c us (hs0.hsub hs) hr⟩
theorem SubLL.refl:∀ l,SubLL l l
 | []=>trivial
 | _::l=>⟨SubL.refl _,SubLL.refl l⟩
theorem SubLL.set {a b:List AV} (h:SubL a b):∀ {l m:List (List AV)} (k:Nat),SubLL l m->SubLL (l.set k a) (m.set k b)
 | [], [],_,h=>h
 | _::_,_::_,0,h2=>⟨h,h2.2⟩
 | _::_,_::_,k+1,h2=>⟨h2.1,SubLL.set h k h2.2⟩
 | [],_::_,_,h=>h.elim
 | _::_, [],_,h=>h.elim
def Y6 (g:Geo) (fill:UInt8) (i k:Nat):Img:=
 if (i+k) % 4=3 then ⟨((i+k:Nat):Int).tmod g.z,255,CL (E4 g)⟩ else ⟨((i+k:Nat):Int).tmod g.z,((i+2*k:Nat):Int).tmod (g.d+1) - 1, [fill,UInt8.ofNat i,UInt8.ofNat k,1,2,3,4,5]⟩
def Zk (g:Geo) (a:An) (fill:UInt8) (i:Nat) (pos:Int) (n:Nat):Tx:=⟨a.seq+i,pos,n+1,(List.range n).map fun k=>Y6 g fill i k⟩
theorem SubLL.app {e f:List AV} (h:SubL e f):∀ {a b:List (List AV)},SubLL a b->SubLL (a ++ [e]) (b ++ [f])
 | [], [],_=>⟨h,tv⟩
 | _::_,_::_,h2=>⟨h2.1,SubLL.app h h2.2⟩
 | [],_::_,h=>h.elim
 | _::_, [],h=>h.elim
end
end Go.Proofs.YtepdhdfoipephaaGreatDoor.A
namespace Go.Proofs.YtepdhdfoipephaaGreatDoor
section

def P2 (b:List UInt8) (k:Nat):List UInt8:=b.modify (k / 8) fun x=>x ^^^ UInt8.ofNat (2 ^ (k % 8))
theorem Oa (b:List UInt8) (k:Nat):(P2 b k).length=b.length:=List.length_modify _ _ _
def FZ (p:Nat->Bool) (a:Nat) (b:List UInt8):Nat->List UInt8
 | 0=>b
 | i+1=>if p i&&decide (a+i<8*b.length) then P2 (FZ p a b i) (a+i) else FZ p a b i
theorem Jg (p:Nat->Bool) (a:Nat) (b:List UInt8) (i:Nat):(FZ p a b i).length=b.length:=by
 induction i with
 | zero=>rfl
 | succ i ih=>unfold FZ;split;rw [Oa,ih];exact ih
def fX (bs:Int):Nat:=if (bs % 4294967296).toNat % 2=0 then (bs % 4294967296).toNat+1 else (bs % 4294967296).toNat
theorem XW (bs:Int):fX bs<4294967296:=by unfold fX;split <;> omega
def Nd (b:List UInt8) (bit bs:Int):List UInt8:=FZ (fun i=>decide (fX bs / 2 ^ i % 2=1)) (bit % (8*(b.length:Int))).toNat b 32
theorem GQ (b:List UInt8) (bit bs:Int):(Nd b bit bs).length=b.length:=Jg _ _ _ _
theorem Tt (bit bs:Int):Nd [] bit bs=[]:=Bc (GQ _ _ _)

end
end Go.Proofs.YtepdhdfoipephaaGreatDoor
namespace Go.Proofs.YtepdhdfoipephaaGreatDoor.A
section
open Go.RowKit
theorem Sv {a n:Int} (hn:0<n):(if a.tmod n<0 then a.tmod n+n else a.tmod n)=a % n:=by
 have b1:=AL a hn;have b2:=Int.lt_tmod_of_pos a hn;split
 ·have e1:(a.tmod n+n) % n=a % n:=by
   rw [Int.add_emod_right,Int.tmod_eq_emod];split
   ·rw [show ((0:Nat):Int)=0 from rfl,Int.sub_zero,Int.emod_emod_of_dvd _ (Int.dvd_refl n)]
   ·rw [Int.sub_emod,Int.emod_emod_of_dvd _ (Int.dvd_refl n),show (n.natAbs:Int)=n by omega,Int.emod_self,Int.sub_zero,Int.emod_emod_of_dvd _ (Int.dvd_refl n)]
  rw [<-e1,Int.emod_eq_of_lt (by omega) (by omega)]
 ·rename_i hr;have e1:=Int.tmod_eq_emod (a:=a) (b:=n);rw [Int.tmod_eq_emod];split
  ·omega
  ·rename_i hc;rw [if_neg hc] at e1;have:=Int.emod_lt_of_pos a hn;omega
def bR (b:List UInt8):List (List AV):=b.map fun x=> [.v (.int .u8 x.toNat)]
theorem Wv {b:List UInt8} {i:Nat} (h:i<b.length):(bR b).getD i []=[.v (.int .u8 (b.getD i 0).toNat)]:=Bf (d:=0) h
theorem YQ (b:List UInt8) (i:Nat) (y:UInt8):(bR b).set i [.v (.int .u8 y.toNat)]=bR (b.set i y):=by simp [bR,C6]
theorem Wt (b:List UInt8) (c:Ctx) (u:Value) (h:Rd (.sl 1 b.length fun i=>(bR b).getD i []) c u):Rd (bA b) c u:=
 zH rfl (fun _ hi=>Bf (d:=0) hi) h
theorem XN {b:List UInt8} {n:Nat} (hn:n=b.length) (c:Ctx) (u:Value) (h:Rd (.sl 1 n fun i=>(bR b).getD i []) c u):Rd (bA b) c u:=by
 subst hn;exact Wt b c u h
theorem Wu (b:List UInt8):(List.range b.length).map (fun i=> [AV.v (.int .u8 (b.getD i 0).toNat)])=bR b:=by
 apply List.ext_getElem
 ·simp [bR]
 ·intro i h1 h2;simp only [Ac,Cc] at h1;simp [bR,Ab,Ae h1]
theorem Uv (x:UInt8) (z:Nat) (hz:z<256):IntKind.u8.wrap (BitVec.ofInt IntKind.u8.bits (x.toNat:Int) ^^^ BitVec.ofInt IntKind.u8.bits (z:Int)).toNat=((x ^^^ UInt8.ofNat z).toNat:Int):=by
 show IntKind.u8.wrap (BitVec.ofInt 8 (x.toNat:Int) ^^^ BitVec.ofInt 8 (z:Int)).toNat=((x ^^^ UInt8.ofNat z).toNat:Int);have hx:=x.toNat_lt;have h1:(BitVec.ofInt 8 (x.toNat:Int))=BitVec.ofNat 8 x.toNat:=BitVec.ofInt_natCast _ _;have h2:(BitVec.ofInt 8 (z:Int))=BitVec.ofNat 8 z:=BitVec.ofInt_natCast _ _;have h3:x.toNat ^^^ z<256:=Nat.xor_lt_two_pow (n:=8) hx hz;rw [h1,h2,BitVec.toNat_xor,BitVec.toNat_ofNat,BitVec.toNat_ofNat,DE hx,DE hz,UInt8.toNat_xor,B8 hz,IntKind.wrap_u8];omega
theorem Tu (b:List UInt8) (k:Nat) (h:k / 8<b.length):P2 b k=b.set (k / 8) (b.getD (k / 8) 0 ^^^ UInt8.ofNat (2 ^ (k % 8))):=by
 rw [Ab,Ae h];unfold P2;apply List.ext_getElem?;intro i;rw [List.getElem?_modify,List.getElem?_set];split
 ·subst_vars;simp [h]
 ·simp

structure TxIn (g:Geo) (a:An) (fill:UInt8) (i0:Nat) (l:List Tx):Prop where
 at_:∀ j,j<l.length->∃ pos n,l.getD j tz=Zk g a fill (i0+j) pos n/\1<=n/\n<=5/\0<=pos/\pos<g.sl
theorem N0 {x n:Int} (h0:0<=x) (h1:x<n):x.tmod n=x:=Int.tmod_eq_of_lt h0 h1
theorem R4 {x n:Int} (h0:n<=x) (h1:x<2*n) (hn:0<n):x.tmod n=x - n:=by
 rw [AI (by omega),<-Int.sub_emod_right x n];exact Int.emod_eq_of_lt (by omega) (by omega)

def GT (g:Geo):List Tx->Int->Int->Prop
 | [],_,_=>True
 | t::r,seq,pos=>(t.seq=seq/\t.pos=pos/\t.n=t.images.length+1/\2<=t.n)/\GT g r (seq+1) ((pos+t.n).tmod g.sl)
def usedM:List Tx->Int
 | []=>0
 | t::r=>t.n+usedM r
def SO (g:Geo):List Tx->Int->Int
 | [],pos=>pos
 | t::r,pos=>SO g r ((pos+t.n).tmod g.sl)
theorem Np (g:Geo):∀ (l:List Tx) (seq pos:Int) (t:Tx),GT g l seq pos->(t.seq=seq+l.length/\t.pos=SO g l pos/\t.n=t.images.length+1/\2<=t.n)->GT g (l ++ [t]) seq pos
 | [],seq,pos,t,_,h=>⟨⟨by have:=h.1;simpa using this,h.2.1,h.2.2.1,h.2.2.2⟩,tv⟩
 | x::r,seq,pos,t,h,ht=>by
  refine⟨h.1,Np g r (seq+1) _ t h.2 ⟨?_,ht.2⟩⟩;rw [ht.1];simp only [Ap];omega
theorem used_app:∀ (l:List Tx) (t:Tx),usedM (l ++ [t])=usedM l+t.n
 | [],t=>by simp [usedM]
 | x::r,t=>by simp only [Bl,usedM,used_app r t];omega
theorem RM (g:Geo):∀ (l:List Tx) (pos:Int) (t:Tx),SO g (l ++ [t]) pos=((SO g l pos)+t.n).tmod g.sl
 | [],pos,t=>rfl
 | x::r,pos,t=>by simp only [Bl,SO];exact RM g r _ t
theorem Kg {g:Geo} {a:An} {seq left n:Int} {look:Int->Rc × Int × List Wr} (hlook:∀ i,1<=i->i<n->(look i).2.1=1->DP g (look i).1=true/\DA (look i).1 a seq i n left=true):∀ (f:Nat) (k:Int) (r:Rc) (im:List Img) (w:List Wr),1<=k->k+f=n->DP g r=true->r.at_=k - 1->r.of_=n->r.kind≠0->(im.length:Int)=k - 1->(BA look f k r im w).1=1->((BA look f k r im w).2.1.length:Int)+1=n
 | 0,k,r,im,w,hk,hn,hr,ha,ho,h0,hi,_=>by
  have hk1:r.kind≠1:=by
   intro e;unfold DP Ef at hr;simp only [Ad] at hr;have h2:=hr.2;rw [if_neg h0,if_pos e] at h2;simp only [Ad,AD] at h2;omega
  unfold BA;simp only [if_neg hk1];omega
 | f+1,k,r,im,w,hk,hn,hr,ha,ho,h0,hi,hG=>by
  have hk1:r.kind=1:=by
   unfold DP Ef at hr;simp only [Ad] at hr;have h2:=hr.2;rw [if_neg h0] at h2;split at h2
   ·assumption
   ·split at h2
    ·simp only [Ad,beq_iff_eq] at h2;omega
    ·cases h2
  unfold BA at hG |-
  simp only [if_pos hk1] at hG |-
  by_cases hq:(look k).2.1≠1
  ·rw [if_pos hq] at hG;exact absurd hG hq
  ·rw [if_neg hq] at hG |-
   have hl:=hlook k hk (by omega) (by omega);have h1:=J9 hl.1 hl.2;have h2:=(of_decide_eq_true hl.2).1;refine Kg hlook f (k+1) (look k).1 _ _ (by omega) (by omega) hl.1 (by omega) ?_ h2 ?_ hG
   ·exact h1.2.2.2.2.2 (by omega)
   ·rw [Ai];simp only [Ap,Bd];omega
theorem Sr {g:Geo} {a:An} {x y:List Gt} {pos seq left:Int} (hg:Bq g=true) (hp:0<=pos/\pos<g.sl) (h:(FP g a x y pos seq left).1=1):((FP g a x y pos seq left).2.2.1.length:Int)+1=(FP g a x y pos seq left).2.1:=by
 have r0:=GB (a:=a) (x:=x) (y:=y) (seq:=seq) (left:=left) (of_:=0) (at_:=0) hg hp (by omega);unfold FP at h |-
 simp only at h |-
 rcases r0 with ⟨e1,⟨e2, -,e3⟩,e4⟩ | ⟨e1, -, -⟩
 ·rw [if_neg (by omega)] at h |-
  have hN:=J9 e2 e3;have h0:=(of_decide_eq_true e3).1;by_cases hq:(BA (fun k=>D7 g a x y pos seq left k (D7 g a x y pos seq left 0 0).1.of_) ((D7 g a x y pos seq left 0 0).1.of_ - 1).toNat 1 (D7 g a x y pos seq left 0 0).1 [] (D7 g a x y pos seq left 0 0).2.2).1≠1
  ·rw [if_pos hq] at h;exact absurd h hq
  ·rw [if_neg hq];refine Kg (g:=g) (a:=a) (seq:=seq) (left:=left) (n:=(D7 g a x y pos seq left 0 0).1.of_) (look:=fun k=>D7 g a x y pos seq left k (D7 g a x y pos seq left 0 0).1.of_) (fun i h1 h2 h3=>?_) _ 1 _ [] _ (by omega) (by omega) e2 (by omega) rfl h0 (by simp) (by omega);rcases GB (a:=a) (x:=x) (y:=y) (seq:=seq) (left:=left) (of_:=(D7 g a x y pos seq left 0 0).1.of_) (at_:=i) hg hp (by omega) with ⟨_,⟨q1,_,q2⟩,_⟩ | ⟨q,_⟩
   ·exact⟨q1,q2⟩
   ·omega
 ·rw [if_pos (by omega)] at h;simp only at h;omega
theorem JX {g:Geo} {a:An} {x y:List Gt} (hg:Bq g=true):∀ (f:Nat) (pos seq left:Int) (l:List Tx) (w:List Wr) {l':List Tx} {w':List Wr} {seq':Int},GT g l a.seq a.pos->pos=SO g l a.pos->seq=a.seq+l.length->usedM l+left=g.sl->0<=left->(0<=pos/\pos<g.sl)->E8 g a x y f pos seq left l w=some (l',w',seq')->
  GT g l' a.seq a.pos/\seq'=a.seq+l'.length/\usedM l'<=g.sl
 | 0,pos,seq,left,l,w,l',w',seq',h1,h2,h3,h4,h5,h6,h=>by
  unfold E8 at h;injection h with h
  injection h with e1 h
  injection h with e2 e3
  subst e1;subst e3;exact⟨h1,h3,by omega⟩
 | f+1,pos,seq,left,l,w,l',w',seq',h1,h2,h3,h4,h5,h6,h=>by
  unfold E8 at h;have fin:some (l,w,seq)=some (l',w',seq')->GT g l' a.seq a.pos/\seq'=a.seq+l'.length/\usedM l'<=g.sl:=fun h=>by
   injection h with h
   injection h with e1 h
   injection h with e2 e3
   subst e1;subst e3;exact⟨h1,h3,by omega⟩
  by_cases hc:0<left/\seq<=4294967295
  ·rw [if_pos hc] at h;simp only at h;have tf:=Ii (a:=a) (x:=x) (y:=y) (seq:=seq) (left:=left) hg h6;have ti:=fun e=>Sr (a:=a) (x:=x) (y:=y) (seq:=seq) (left:=left) hg h6 e
   generalize FP g a x y pos seq left=q at tf ti h;obtain⟨how,n,im,ws⟩:=q;simp only at tf ti h;rcases tf with ⟨rfl,t1,t2⟩ | tf
   ·rw [if_neg (by decide),if_neg (by decide)] at h;have hi:=ti rfl;obtain⟨g1,g2,g3,g4,g5⟩:=Ar.1 hg;have hm:=AL (pos+n) (show 0<g.sl by omega);have hm0:=Be g.sl (show 0<=pos+n by omega);refine JX hg f _ _ _ _ _ (Np g l a.seq a.pos ⟨seq,pos,n,im⟩ h1 ⟨h3,h2,by simp only;omega,t1.1⟩) ?_ ?_ ?_ (by omega) ⟨hm0,hm⟩ h
    ·rw [RM,<-h2]
    ·rw [Ai];simp only [Ap,Bd];omega
    ·rw [used_app];simp only;omega
   ·by_cases h3':how=3
    ·rw [if_pos h3'] at h;cases h
    ·rw [if_neg h3',if_pos (by omega)] at h;exact fin h
  ·rw [if_neg hc] at h;exact fin h






section
variable {g:Geo} {a:An} {fill:UInt8} {sizes:List Int}
end
section
variable {g:Geo} {a:An} {fill:UInt8} {sizes:List Int}
end
theorem KO {p u v n:Int} (hp:0<=p/\p<n) (hu:0<=u/\u<n) (hv:0<=v/\v<n) (h:(p+u).tmod n=(p+v).tmod n):u=v:=by
 have h1:(p+u).tmod n=if p+u<n then p+u else p+u - n:=by
  split
  ·exact N0 (by omega) (by omega)
  ·exact R4 (by omega) (by omega) (by omega)
 have h2:(p+v).tmod n=if p+v<n then p+v else p+v - n:=by
  split
  ·exact N0 (by omega) (by omega)
  ·exact R4 (by omega) (by omega) (by omega)
 rw [h1,h2] at h;split at h <;> split at h <;> omega
section
variable {g:Geo} {a:An} {fill:UInt8} {sizes:List Int}
end
abbrev PQ:=(Int->Option Rc) × (Int->Option Rc)
def Ug (p:Int->Option Rc) (s:Int) (v:Option Rc):Int->Option Rc:=fun t=>if t=s then v else p t
def Ic (g:Geo) (x:Wr) (z:PQ):PQ:=if x.addr - g.an<g.sl then (Ug z.1 (x.addr - g.an) (DK g ⟨0,x.bytes⟩ 0 (x.addr - g.an)),z.2) else (z.1,Ug z.2 (x.addr - g.an - g.sl) (DK g ⟨0,x.bytes⟩ 1 (x.addr - g.an - g.sl)))
def Ez (g:Geo):List Wr->PQ->PQ
 | [],z=>z
 | x::r,z=>Ez g r (Ic g x z)
def Up (g:Geo) (x:Wr):Int:=if x.addr - g.an<g.sl then x.addr - g.an else x.addr - g.an - g.sl
theorem Gu (g:Geo):∀ (l m:List Wr) (z:PQ),Ez g (l ++ m) z=Ez g m (Ez g l z)
 | [],_,_=>rfl
 | x::r,m,z=>Gu g r m (Ic g x z)
def AtS (z z':PQ) (s:Int):Prop:=z.1 s=z'.1 s/\z.2 s=z'.2 s
theorem Pk {g:Geo} {x:Wr} {z z':PQ} {s:Int} (h:AtS z z' s):AtS (Ic g x z) (Ic g x z') s:=by
 unfold Ic Ug;split
 ·refine⟨?_,h.2⟩;dsimp only;split
  ·rfl
  ·exact h.1
 ·refine⟨h.1,?_⟩;dsimp only;split
  ·rfl
  ·exact h.2
theorem Ht {g:Geo}:∀ (l:List Wr) {z z':PQ} {s:Int},AtS z z' s->AtS (Ez g l z) (Ez g l z') s
 | [],_,_,_,h=>h
 | _::r,_,_,_,h=>Ht r (Pk h)
theorem SU {g:Geo} {x:Wr} {z:PQ} {s:Int} (h:Up g x≠s):AtS (Ic g x z) z s:=by
 unfold Up at h;unfold Ic Ug;split
 ·rename_i hc;rw [if_pos hc] at h;exact⟨if_neg (Ne.symm h),rfl⟩
 ·rename_i hc;rw [if_neg hc] at h;exact⟨rfl,if_neg (Ne.symm h)⟩
theorem AtS.trans {a b c:PQ} {s:Int} (h:AtS a b s) (k:AtS b c s):AtS a c s:=⟨h.1.trans k.1,h.2.trans k.2⟩
theorem AtS.symm {a b:PQ} {s:Int} (h:AtS a b s):AtS b a s:=⟨h.1.symm,h.2.symm⟩
theorem Gq {g:Geo}:∀ (l:List Wr) {z:PQ} {s:Int},(∀ x∈l,Up g x≠s)->AtS (Ez g l z) z s
 | [],_,_,_=>tA
 | x::r,z,s,h=>(Gq r fun y hy=>h y (AY _ hy)).trans (SU (h x (by simp)))
theorem Lp {g:Geo} {c s:Int} (hc:c=0\/c=1) (hs:0<=s/\s<g.sl):Hp g c s=true:=by
 rw [Hp,AD.2 (show 0<=s/\s<=g.sl - 1 by omega)];rcases hc with rfl | rfl <;> rfl
theorem GH {g:Geo} {c s:Int} {r:Rc} {z:PQ} (hg:Bq g=true) (hc:c=0\/c=1) (hs:0<=s/\s<g.sl) (hr:DP g r=true):Ic g ⟨AU g c s,BV g r c s⟩ z=if c=0 then (Ug z.1 s (some r),z.2) else (z.1,Ug z.2 s (some r)):=by
 have h:=M9 hg hr (Lp hc hs);unfold Ic AU;rcases hc with rfl | rfl
 ·have e:g.an+0*g.sl+s - g.an=s:=by omega
  dsimp only;rw [e,if_pos hs.2,if_pos rfl,h]
 ·have e:g.an+1*g.sl+s - g.an=s+g.sl:=by omega
  dsimp only;rw [e,if_neg (by omega),if_neg (by decide),show s+g.sl - g.sl=s by omega,h]
theorem Uo {g:Geo} {c s:Int} {b:List UInt8} (hc:c=0\/c=1) (hs:0<=s/\s<g.sl):Up g ⟨AU g c s,b⟩=s:=by
 unfold Up AU;rcases hc with rfl | rfl
 ·dsimp only;rw [if_pos (by omega)];omega
 ·dsimp only;rw [if_neg (by omega)];omega
theorem U_ {g:Geo} {a:An} {p q:Int->Option Rc} {z':PQ} {pos seq left at_ of_:Int} (hg:Bq g=true) (hok:∀ s r,p s=some r\/q s=some r->DP g r=true) (hs:0<=BW g pos at_/\BW g pos at_<g.sl) (h:(C3 g a p q pos seq left at_ of_).2.1=1) (hz:AtS z' (Ez g (C3 g a p q pos seq left at_ of_).2.2 (p,q)) (BW g pos at_)):C3 g a z'.1 z'.2 pos seq left at_ of_=((C3 g a p q pos seq left at_ of_).1,1, []):=by
 unfold C3 Pp at h hz |-
 dsimp only at h hz |-
 generalize BW g pos at_=s at h hz hs |-
 cases hp:p s with
 | none=>
  cases hq:q s with
  | none=>rw [hp,hq] at h;simp [DW,C0] at h
  | some r=>
   rw [hp,hq] at h hz;have ho:DA r a seq at_ of_ left=true:=by
    cases hb:DA r a seq at_ of_ left with
    | true=>rfl
    | false=>simp [DW,hb,C0] at h
   simp [DW,ho,C0,Ez] at hz;rw [GH hg (.inl rfl) hs (hok s r (.inr hq)),if_pos rfl] at hz;obtain⟨h1,h2⟩:=hz;dsimp only [Ug] at h1 h2;rw [if_pos rfl] at h1;rw [h1,h2,hq];simp [DW,ho,C0]
 | some r1=>
  cases hq:q s with
  | none=>
   rw [hp,hq] at h hz;have ho:DA r1 a seq at_ of_ left=true:=by
    cases hb:DA r1 a seq at_ of_ left with
    | true=>rfl
    | false=>simp [DW,hb,C0] at h
   simp [DW,ho,C0,Ez] at hz;rw [GH hg (.inr rfl) hs (hok s r1 (.inl hp)),if_neg (by decide)] at hz;obtain⟨h1,h2⟩:=hz;dsimp only [Ug] at h1 h2;rw [if_pos rfl] at h2;rw [h1,h2,hp];simp [DW,ho,C0]
  | some r2=>
   rw [hp,hq] at h hz;cases ho1:DA r1 a seq at_ of_ left with
   | true=>
    cases ho2:DA r2 a seq at_ of_ left with
    | true=>
     simp [DW,ho1,ho2,C0,Ez] at hz;obtain⟨h1,h2⟩:=hz;dsimp only at h1 h2;rw [h1,h2,hp,hq];simp [DW,ho1,ho2,C0]
    | false=>
     simp [DW,ho1,ho2,C0,Ez] at hz;rw [GH hg (.inr rfl) hs (hok s r1 (.inl hp)),if_neg (by decide)] at hz;obtain⟨h1,h2⟩:=hz;dsimp only [Ug] at h1 h2;rw [if_pos rfl] at h2;rw [h1,h2,hp];simp [DW,ho1,ho2,C0]
   | false=>
    cases ho2:DA r2 a seq at_ of_ left with
    | true=>
     simp [DW,ho1,ho2,C0,Ez] at hz;rw [GH hg (.inl rfl) hs (hok s r2 (.inr hq)),if_pos rfl] at hz;obtain⟨h1,h2⟩:=hz;dsimp only [Ug] at h1 h2;rw [if_pos rfl] at h1;rw [h1,h2,hq];simp [DW,ho1,ho2,C0]
    | false=>simp [DW,ho1,ho2,C0] at h
theorem Il {g:Geo} {a:An} {p q:Int->Option Rc} {pos seq left at_ of_:Int} (hok:∀ s r,p s=some r\/q s=some r->DP g r=true) (h:(C3 g a p q pos seq left at_ of_).2.1=1):DP g (C3 g a p q pos seq left at_ of_).1=true/\DA (C3 g a p q pos seq left at_ of_).1 a seq at_ of_ left=true:=by
 unfold C3 Pp at h |-
 dsimp only at h |-
 generalize BW g pos at_=s at h |-
 cases hp:p s with
 | none=>
  cases hq:q s with
  | none=>rw [hp,hq] at h;simp [DW,C0] at h
  | some r=>
   rw [hp,hq] at h;cases hb:DA r a seq at_ of_ left with
   | true=>simp [DW,hb,C0,hok s r (.inr hq)]
   | false=>simp [DW,hb,C0] at h
 | some r1=>
  cases hq:q s with
  | none=>
   rw [hp,hq] at h;cases hb:DA r1 a seq at_ of_ left with
   | true=>simp [DW,hb,C0,hok s r1 (.inl hp)]
   | false=>simp [DW,hb,C0] at h
  | some r2=>
   rw [hp,hq] at h;cases ho1:DA r1 a seq at_ of_ left with
   | true=>cases ho2:DA r2 a seq at_ of_ left <;> simp [DW,ho1,ho2,C0,hok s r1 (.inl hp)]
   | false=>
    cases ho2:DA r2 a seq at_ of_ left with
    | true=>simp [DW,ho1,ho2,C0,hok s r2 (.inr hq)]
    | false=>simp [DW,ho1,ho2,C0] at h
theorem Vu (x y:Option Rc) (b1 b2:Bool):∀ c∈(C0 x y b1 b2).2.1,c=0\/c=1:=by
 unfold C0;cases b1 <;> cases b2
 ·by_cases h:(x.isSome || y.isSome)=true <;> simp [h]
 ·simp
 ·simp
 ·simp
theorem Xc {g:Geo} {a:An} {p q:Int->Option Rc} {pos seq left at_ of_:Int} (hs:0<=BW g pos at_/\BW g pos at_<g.sl):∀ x∈(C3 g a p q pos seq left at_ of_).2.2,Up g x=BW g pos at_:=by
 intro x hx;unfold C3 at hx;obtain⟨c,hc,rfl⟩:=AK.1 hx;exact Uo (Vu _ _ _ _ c hc) hs
theorem QL (x y:Option Rc) (b1 b2:Bool) (h:(C0 x y b1 b2).2.2≠1):(C0 x y b1 b2).2.1=[]:=by
 unfold C0 at h |-
 cases b1 <;> cases b2
 ·by_cases h:(x.isSome || y.isSome)=true <;> simp [h]
 ·simp at h
 ·simp at h
 ·simp at h
theorem Dy {g:Geo} {r:Rc} (h:DP g r=true) (copy slot:Int):(BV g r copy slot).length<=200:=by
 have:=Et h;rw [BV,EQ];omega
theorem Q3 {g:Geo} {a:An} {p q:Int->Option Rc} {pos seq left at_ of_:Int} (hok:∀ s r,p s=some r\/q s=some r->DP g r=true):∀ x∈(C3 g a p q pos seq left at_ of_).2.2,x.bytes.length<=200:=by
 intro x hx;by_cases h:(C3 g a p q pos seq left at_ of_).2.1=1
 ·have hr:=(Il hok h).1;unfold C3 at hx hr;obtain⟨c,hc,rfl⟩:=AK.1 hx;exact Dy hr _ _
 ·unfold C3 Pp at hx h;dsimp only at hx h;rw [QL _ _ _ _ h] at hx;simp at hx
theorem M4 {g:Geo} {p0 U k:Int} (hg:Bq g=true) (hp:0<=p0/\p0<g.sl) (hU:0<=U) (hk:0<=k/\k<=1000):BW g ((p0+U).tmod g.sl) k=(p0+(U+k)).tmod g.sl:=by
 obtain⟨h1,h2,h3,h4,h5⟩:=Ar.1 hg;unfold BW;have q1:=Be g.sl (show 0<=p0+U by omega);have q2:=AL (p0+U) (show 0<g.sl by omega);rw [show IntKind.i64.wrap ((p0+U).tmod g.sl+k)=(p0+U).tmod g.sl+k by rw [IntKind.wrap_i64];omega];rw [AI (show 0<=p0+U by omega)] at q1 |-
 rw [AI (by omega),AI (by omega),Int.emod_add_emod,Int.add_assoc]
theorem Kf {look:Int->Rc × Int × List Wr} {f:Nat} {k:Int} {r:Rc} {im:List Img} {w:List Wr} (h:(look k).2.1=1):BA look (f+1) k r im w=BA look f (k+1) (look k).1 (if r.kind=1 then im ++ [r.img] else im) (w ++ (look k).2.2):=by
 conv=>lhs;unfold BA
 dsimp only;rw [if_neg (not_not_intro h)]
theorem Px {look:Int->Rc × Int × List Wr} {f:Nat} {k:Int} {r:Rc} {im:List Img} {w:List Wr} (h:(look k).2.1≠1):BA look (f+1) k r im w=((look k).2.1, [], []):=by
 conv=>lhs;unfold BA
 dsimp only;rw [if_pos h]
theorem H7 {g:Geo} {a:An} {p q:Int->Option Rc} {pos seq left:Int} (h:(C3 g a p q pos seq left 0 0).2.1=1):F6 g a p q pos seq left=(let t:=BA (fun k=>C3 g a p q pos seq left k (C3 g a p q pos seq left 0 0).1.of_) ((C3 g a p q pos seq left 0 0).1.of_ - 1).toNat 1 (C3 g a p q pos seq left 0 0).1 [] (C3 g a p q pos seq left 0 0).2.2
  if t.1≠1 then (t.1,0, [], []) else (1,(C3 g a p q pos seq left 0 0).1.of_,t.2.1,t.2.2)):=by
 conv=>lhs;unfold F6
 dsimp only;rw [if_neg (not_not_intro h)]
theorem Ju {g:Geo} {a:An} {p q:Int->Option Rc} {pos seq left:Int} (h:(C3 g a p q pos seq left 0 0).2.1≠1):F6 g a p q pos seq left=((C3 g a p q pos seq left 0 0).2.1,0, [], []):=by
 conv=>lhs;unfold F6
 dsimp only;rw [if_pos h]
theorem Hy {look look':Int->Rc × Int × List Wr}:∀ (f:Nat) (k:Int) (r:Rc) (im:List Img) (w w0:List Wr),(∀ i,k<=i->i<k+f->(look i).2.1=1->look' i=((look i).1,1, []))->(BA look f k r im w).1=1->
  BA look' f k r im w0=(1,(BA look f k r im w).2.1,w0)/\(BA look f k r im w).2.2=w ++ (List.range f).flatMap (fun j=>(look (k+(j:Nat))).2.2)/\∀ i,k<=i->i<k+f->(look i).2.1=1
 | 0,k,r,im,w,w0,_,_=>⟨rfl,by simp [BA],fun i h1 h2=>by omega⟩
 | f+1,k,r,im,w,w0,hl,h=>by
  by_cases hq:(look k).2.1=1
  ·have e:=hl k (by omega) (by omega) hq;rw [Kf hq] at h |-
   rw [Kf (show (look' k).2.1=1 by rw [e]),e];dsimp only;obtain⟨i1,i2,i3⟩:=Hy f (k+1) (look k).1 (if r.kind=1 then im ++ [r.img] else im) (w ++ (look k).2.2) (w0 ++ []) (fun i h1 h2=>hl i (by omega) (by omega)) h;refine⟨?_,?_,fun i h1 h2=>?_⟩
   ·rw [i1,AM]
   ·rw [i2,List.range_succ_eq_map,List.flatMap_cons,List.flatMap_map,A7];congr 1;congr 1
    ·rw [show k+((0:Nat):Int)=k by omega]
    ·congr 1;funext j;rw [show k+1+(j:Int)=k+((j.succ:Nat):Int) by omega]
   ·by_cases ei:i=k
    ·rw [ei];exact hq
    ·exact i3 i (by omega) (by omega)
  ·rw [Px hq] at h;exact absurd h hq
theorem Jd {look look':Int->Rc × Int × List Wr}:∀ (f:Nat) (k:Int) (r:Rc) (im:List Img) (w:List Wr),(∀ i,k<=i->i<k+f->look' i=look i)->BA look' f k r im w=BA look f k r im w
 | 0,_,_,_,_,_=>rfl
 | f+1,k,r,im,w,hl=>by
  unfold BA;dsimp only;rw [hl k (by omega) (by omega),Jd f (k+1) (look k).1 _ _ (fun i h1 h2=>hl i (by omega) (by omega))]
theorem MN {g:Geo} {W:Nat->List Wr} {z:PQ} {s:Int} {k:Nat}:∀ n,k<n->(∀ j,j<n->j≠k->∀ x∈W j,Up g x≠s)->AtS (Ez g ((List.range n).flatMap W) z) (Ez g (W k) z) s
 | 0,h,_=>by omega
 | n+1,hk,h=>by
  rw [Bh,List.flatMap_append,Gu];simp only [List.flatMap_cons,List.flatMap_nil,AM];by_cases e:k=n
  ·subst e;refine Ht (W k) (Gq _ fun x hx=>?_);obtain⟨j,hj,hx⟩:=List.mem_flatMap.1 hx;have hj:=AO.1 hj;exact h j (by omega) (by omega) x hx
  ·exact(Gq (W n) (h n (by omega) (Ne.symm e))).trans (MN n (by omega) fun j hj hne=>h j (by omega) hne)
def WB (g:Geo) (p0 U:Int) (z z':PQ):Prop:=∀ u,U<=u->u<g.sl->AtS z z' ((p0+u).tmod g.sl)
section
variable {g:Geo} {a:An} {p q:Int->Option Rc} {p0:Int}
theorem SF {z':PQ} {pos seq left at_ of_:Int} (h:AtS z' (p,q) (BW g pos at_)):C3 g a z'.1 z'.2 pos seq left at_ of_=C3 g a p q pos seq left at_ of_:=by
 unfold C3 Pp;dsimp only;rw [h.1,h.2]
theorem Sq {z':PQ} {U seq left:Int} (hg:Bq g=true) (hok:∀ s r,p s=some r\/q s=some r->DP g r=true) (hp:0<=p0/\p0<g.sl) (hU:0<=U/\U+left=g.sl/\0<left) (h:WB g p0 U z' (p,q)):F6 g a z'.1 z'.2 ((p0+U).tmod g.sl) seq left=F6 g a p q ((p0+U).tmod g.sl) seq left:=by
 obtain⟨h1,h2,h3,h4,h5⟩:=Ar.1 hg;have hr:∀ (k of_:Int),0<=k->U+k<g.sl->C3 g a z'.1 z'.2 ((p0+U).tmod g.sl) seq left k of_=C3 g a p q ((p0+U).tmod g.sl) seq left k of_:=fun k of_ hk hk2=>SF (by rw [M4 hg hp hU.1 (by omega)];exact h _ (by omega) hk2)
 by_cases h0:(C3 g a p q ((p0+U).tmod g.sl) seq left 0 0).2.1=1
 ·rw [H7 h0,H7 (by rw [hr 0 0 (by omega) (by omega)];exact h0),hr 0 0 (by omega) (by omega)];obtain⟨f1,f2⟩:=Il hok h0;have hN:=J9 f1 f2;have hlft:=hN.2.2.2.2.1 rfl;rw [Jd (look:=fun k=>C3 g a p q ((p0+U).tmod g.sl) seq left k (C3 g a p q ((p0+U).tmod g.sl) seq left 0 0).1.of_) _ _ _ _ _ (fun i h1 h2=>hr i _ (by omega) (by omega))]
 ·rw [Ju h0,Ju (by rw [hr 0 0 (by omega) (by omega)];exact h0),hr 0 0 (by omega) (by omega)]
theorem Uy {U seq left:Int} (hg:Bq g=true) (hok:∀ s r,p s=some r\/q s=some r->DP g r=true) (hp:0<=p0/\p0<g.sl) (hU:0<=U/\U+left=g.sl) (h:(F6 g a p q ((p0+U).tmod g.sl) seq left).1=1) :
  (2<=(F6 g a p q ((p0+U).tmod g.sl) seq left).2.1/\(F6 g a p q ((p0+U).tmod g.sl) seq left).2.1<=left)/\
  (∀ x∈(F6 g a p q ((p0+U).tmod g.sl) seq left).2.2.2,∃ u,(U<=u/\u<U+(F6 g a p q ((p0+U).tmod g.sl) seq left).2.1)/\Up g x=(p0+u).tmod g.sl/\x.bytes.length<=200)/\
  ∀ z':PQ,(∀ u,U<=u->u<U+(F6 g a p q ((p0+U).tmod g.sl) seq left).2.1->AtS z' (Ez g (F6 g a p q ((p0+U).tmod g.sl) seq left).2.2.2 (p,q)) ((p0+u).tmod g.sl))->
   F6 g a z'.1 z'.2 ((p0+U).tmod g.sl) seq left=(1,(F6 g a p q ((p0+U).tmod g.sl) seq left).2.1,(F6 g a p q ((p0+U).tmod g.sl) seq left).2.2.1, []):=by
 obtain⟨h1,h2,h3,h4,h5⟩:=Ar.1 hg;by_cases h0:(C3 g a p q ((p0+U).tmod g.sl) seq left 0 0).2.1=1
 ·obtain⟨f1,f2⟩:=Il hok h0;have hN:=J9 f1 f2;have hlft:=hN.2.2.2.2.1 rfl;obtain⟨of_,hof⟩:∃ n:Nat,(C3 g a p q ((p0+U).tmod g.sl) seq left 0 0).1.of_=(n:Int)+1:=⟨((C3 g a p q ((p0+U).tmod g.sl) seq left 0 0).1.of_ - 1).toNat,by omega⟩;have et:((of_:Int)+1 - 1).toNat=of_:=by omega
  have hsl:∀ k:Int,0<=k->k<=of_->BW g ((p0+U).tmod g.sl) k=(p0+(U+k)).tmod g.sl/\0<=BW g ((p0+U).tmod g.sl) k/\BW g ((p0+U).tmod g.sl) k<g.sl:=fun k hk hk2=>by
   have e:=M4 hg hp hU.1 (k:=k) (by omega);rw [e];exact⟨rfl,Be g.sl (by omega),AL _ (by omega)⟩
  rw [H7 h0,hof,et] at h |-
  dsimp only at h |-
  by_cases hG:(BA (fun k=>C3 g a p q ((p0+U).tmod g.sl) seq left k ((of_:Int)+1)) of_ 1 (C3 g a p q ((p0+U).tmod g.sl) seq left 0 0).1 [] (C3 g a p q ((p0+U).tmod g.sl) seq left 0 0).2.2).1=1
  ·rw [if_neg (not_not_intro hG)];dsimp only;obtain⟨-,g2,g3⟩:=Hy (look':=fun i=>((C3 g a p q ((p0+U).tmod g.sl) seq left i ((of_:Int)+1)).1,1, [])) of_ 1 (C3 g a p q ((p0+U).tmod g.sl) seq left 0 0).1 [] (C3 g a p q ((p0+U).tmod g.sl) seq left 0 0).2.2 [] (fun i _ _ _=>rfl) hG
   -- what is to be written,record by record
   have eW:(BA (fun k=>C3 g a p q ((p0+U).tmod g.sl) seq left k ((of_:Int)+1)) of_ 1 (C3 g a p q ((p0+U).tmod g.sl) seq left 0 0).1 [] (C3 g a p q ((p0+U).tmod g.sl) seq left 0 0).2.2).2.2=(List.range (of_+1)).flatMap fun j=>(C3 g a p q ((p0+U).tmod g.sl) seq left (j:Nat) (if j=0 then 0 else (of_:Int)+1)).2.2:=by
    rw [g2,List.range_succ_eq_map,List.flatMap_cons,List.flatMap_map];congr 1;congr 1;funext j;rw [if_neg (Nat.succ_ne_zero j),show 1+(j:Int)=((j.succ:Nat):Int) by omega]
   have hwr:∀ j:Nat,j<of_+1->∀ x∈(C3 g a p q ((p0+U).tmod g.sl) seq left (j:Nat) (if j=0 then 0 else (of_:Int)+1)).2.2,Up g x=(p0+(U+j)).tmod g.sl:=fun j hj x hx=>by
    obtain⟨e1,e2⟩:=hsl j (by omega) (by omega);rw [Xc e2 x hx,e1]
   refine⟨⟨by omega,by omega⟩,fun x hx=>?_,fun z' hz=>?_⟩
   ·rw [eW] at hx;obtain⟨j,hj,hx⟩:=List.mem_flatMap.1 hx;have hj:=AO.1 hj;exact⟨U+j,by omega,hwr j hj x hx,Q3 hok x hx⟩
   ·rw [eW] at hz;have hrec:∀ k:Nat,k<of_+1->(C3 g a p q ((p0+U).tmod g.sl) seq left (k:Nat) (if k=0 then 0 else (of_:Int)+1)).2.1=1->C3 g a z'.1 z'.2 ((p0+U).tmod g.sl) seq left (k:Nat) (if k=0 then 0 else (of_:Int)+1)=((C3 g a p q ((p0+U).tmod g.sl) seq left (k:Nat) (if k=0 then 0 else (of_:Int)+1)).1,1, []):=fun k hk hf=>by
     obtain⟨e1,e2⟩:=hsl k (by omega) (by omega);refine U_ hg hok e2 hf ?_;rw [e1];refine(hz (U+k) (by omega) (by omega)).trans ?_;refine MN (W:=fun j=>(C3 g a p q ((p0+U).tmod g.sl) seq left (j:Nat) (if j=0 then 0 else (of_:Int)+1)).2.2) (k:=k) _ hk fun j hj hne x hx e=>?_
     rw [hwr j hj x hx] at e;have:=KO hp (by omega) (by omega) e;omega
    have r0:=hrec 0 (by omega) h0;rw [if_pos rfl] at r0;have r0':C3 g a z'.1 z'.2 ((p0+U).tmod g.sl) seq left 0 0=((C3 g a p q ((p0+U).tmod g.sl) seq left 0 0).1,1, []):=r0;rw [H7 (by rw [r0']),r0'];dsimp only;rw [hof,et];obtain⟨g4, -, -⟩:=Hy (look:=fun k=>C3 g a p q ((p0+U).tmod g.sl) seq left k ((of_:Int)+1)) (look':=fun k=>C3 g a z'.1 z'.2 ((p0+U).tmod g.sl) seq left k ((of_:Int)+1)) of_ 1 (C3 g a p q ((p0+U).tmod g.sl) seq left 0 0).1 [] (C3 g a p q ((p0+U).tmod g.sl) seq left 0 0).2.2 [] (fun i i1 i2 hf=>by
     obtain⟨k,rfl⟩:=Int.eq_ofNat_of_zero_le (show 0<=i by omega);have:=hrec k (by omega);rw [if_neg (by omega)] at this;exact this hf) hG
    rw [g4];dsimp only;rw [if_neg (fun h=>h rfl)]
  ·rw [if_pos hG] at h;exact absurd h hG
 ·rw [Ju h0] at h;exact absurd h h0
theorem M6 (hg:Bq g=true) (hok:∀ s r,p s=some r\/q s=some r->DP g r=true) (hp:0<=p0/\p0<g.sl):∀ (f:Nat) (U seq left:Int) (l:List Tx) (w:List Wr) {l':List Tx} {w':List Wr} {seq':Int},0<=U->U+left=g.sl->ER g a p q f ((p0+U).tmod g.sl) seq left l w=some (l',w',seq')->
  ∃ wr,w'=w ++ wr/\(∀ x∈wr,∃ u,(U<=u/\u<g.sl)/\Up g x=(p0+u).tmod g.sl/\x.bytes.length<=200)/\∀ z':PQ,WB g p0 U z' (Ez g wr (p,q))->∀ w0,ER g a z'.1 z'.2 f ((p0+U).tmod g.sl) seq left l w0=some (l',w0,seq')
 | 0,U,seq,left,l,w,l',w',seq',_,_,h=>by
  unfold ER at h;injection h with h
  injection h with e1 h
  injection h with e2 e3
  subst e1 e2 e3;exact⟨[],by simp,by simp,fun _ _ _=>rfl⟩
 | f+1,U,seq,left,l,w,l',w',seq',hU,hl,h=>by
  obtain⟨h1,h2,h3,h4,h5⟩:=Ar.1 hg;unfold ER at h;by_cases hc:0<left/\seq<=4294967295
  ·rw [if_pos hc] at h;dsimp only at h;by_cases t3:(F6 g a p q ((p0+U).tmod g.sl) seq left).1=3
   ·rw [if_pos t3] at h;cases h
   ·rw [if_neg t3] at h;by_cases t1:(F6 g a p q ((p0+U).tmod g.sl) seq left).1=1
    ·rw [if_neg (fun h=>h t1)] at h;obtain⟨⟨n1,n2⟩,n3,n4⟩:=Uy hg hok hp ⟨hU,hl⟩ t1;generalize F6 g a p q ((p0+U).tmod g.sl) seq left=T at h n1 n2 n3 n4;obtain⟨how,n,im,tw⟩:=T;dsimp only at h n1 n2 n3 n4;have ep:((p0+U).tmod g.sl+n).tmod g.sl=(p0+(U+n)).tmod g.sl:=by
      rw [AI (show 0<=p0+U by omega)];have q1:=Int.emod_nonneg (p0+U) (show g.sl≠0 by omega);rw [AI (by omega),AI (by omega),Int.emod_add_emod,Int.add_assoc]
     rw [ep] at h;obtain⟨wr,i1,i2,i3⟩:=M6 hg hok hp f (U+n) (seq+1) (left - n) _ _ (by omega) (by omega) h;refine⟨tw ++ wr,by rw [i1,A7],fun x hx=>?_,fun z' hz w0=>?_⟩
     ·rcases A3.1 hx with hx | hx
      ·obtain⟨u,u1,u2⟩:=n3 x hx;exact⟨u,by omega,u2⟩
      ·obtain⟨u,u1,u2⟩:=i2 x hx;exact⟨u,by omega,u2⟩
     ·unfold WB at hz;have ht:=n4 z' fun u u1 u2=>by
       have:=hz u u1 (by omega);rw [Gu] at this;refine this.trans (Gq wr fun x hx e=>?_);obtain⟨v,v1,v2, -⟩:=i2 x hx;rw [v2] at e;have:=KO hp (by omega) (by omega) e;omega
      unfold ER;rw [if_pos hc,ht];dsimp only;rw [if_neg (by decide),if_neg (fun h=>h rfl),ep];have:=i3 z' (fun u u1 u2=>by
       have:=hz u (by omega) u2;rw [Gu] at this;refine this.trans (Ht wr (Gq tw fun x hx e=>?_));obtain⟨v,v1,v2, -⟩:=n3 x hx;rw [v2] at e;have:=KO hp (by omega) (by omega) e;omega) (w0 ++ [])
      rw [this,AM]
    ·rw [if_pos t1] at h;injection h with h
     injection h with e1 h
     injection h with e2 e3
     subst e1 e2 e3;refine⟨[],by simp,by simp,fun z' hz w0=>?_⟩;have ht:=Sq (a:=a) (seq:=seq) hg hok hp ⟨hU,hl,hc.1⟩ hz;unfold ER;rw [if_pos hc,ht];dsimp only;rw [if_neg t3,if_pos t1]
  ·rw [if_neg hc] at h;injection h with h
   injection h with e1 h
   injection h with e2 e3
   subst e1 e2 e3;refine⟨[],by simp,by simp,fun z' hz w0=>?_⟩;unfold ER;rw [if_neg hc]
end
theorem JS (l:List Int) (hl:l.length<=1000000):Fn Tryz.prog 65 [iA l] fun r=>r=iA l:=by
 refine zT Tryz.func65 rfl ?_;refine⟨by omega,?_⟩;refine⟨by simp,?_⟩;exact⟨iA l,fun c v h=>zH rfl (fun i hi=>Eu hi) h,rfl⟩
theorem Mc (a:An) (hh:a.homes.length<=1000) (hp:∀ h∈a.homes,h.places.length<=1000000):Fn Tryz.prog 63 [.ag (EJ a)] fun r=>r = .ag (EJ a):=by
 refine zT Tryz.func63 rfl ?_;conv=>whnf
 refine zP Nat (fun k=>([(1, .bp 0 0),(2, .bp 1 0),(3,Ku a.homes),(4,iv k)], [.box 33 [iv a.gen,iv a.epoch,iv a.pos,iv a.seq,iv a.last, .v (.string a.label), .ow 2 k], .box 33 [iv 0,iv 0,iv 0,iv 0,iv 0, .v (.string ⟨#[]⟩), .v (.slice none 0 0)], .row 177 3 ((a.homes.take k).map Jq)])) (fun k=>k<=a.homes.length) (fun k=>a.homes.length - k) 0 (Aj _) ⟨[(1000006,177,3)],tA,tA,tA,rfl,rfl,rfl⟩ ?_;intro k hk;conv=>whnf
 refine A6 (fun c1=>?_) (fun c1=>?_) <;> (repeat rw [Aa] at c1) <;> conv=>whnf
 ·have ti:=JS (a.homes.getD k ⟨[],0,0⟩).places (hp _ (A5 c1));refine zA tys_ok mixed [0,1,2,3,4,5,6,8,9,10,11,12,13,14,15,16,17,7,18,19,20,21,22] (by kernel_rfl) ?_;conv=>whnf
  repeat' (first | (refine zZ ?_;conv=>whnf) | (refine A6 (fun _=>?_) (fun _=>?_) <;> conv=>whnf) | (refine z_ ti ?_;conv=>whnf) | (refine Af (by first | omega | exact of_decide_eq_true rfl) ?_;conv=>whnf) | fail)
  refine Af ⟨by rw [Ac,As];omega,by omega⟩ ?_;exact⟨k+1,by omega,by omega, [],tv,⟨rfl,rfl,rfl,AR (by omega),tv⟩,⟨rfl,rfl,congrArg (AB.row _ _) (Ia c1),tv⟩,rfl,rfl,rfl⟩
 ·refine Af (by rw [Ac,As];omega) ?_;conv=>whnf
  have ek:k=a.homes.length:=by omega
  subst ek;refine⟨.ag (EJ a),Bk ⟨ri,ri,ri,ri,ri,ri,?_,tv⟩,rfl⟩;rw [Ay];exact B4 a.homes rfl rfl
theorem FM {g:Geo} {a:An} (h:Bv g a=true):(0<=a.gen/\a.gen<=4294967295)/\(0<=a.epoch/\a.epoch<=4294967295)/\(1<=a.seq/\a.seq<=4294967295)/\(0<=a.last/\a.last<=4294967295/\a.seq - 1<=a.last)/\(0<=a.pos/\a.pos<g.sl)/\(a.homes.length:Int)=g.z/\∀ x∈a.homes,DL g x=true:=by
 simp only [Bv,AX,BD,Ad,AD,decide_eq_true_eq,Av] at h;obtain⟨⟨q1,q2,q3,q4, -⟩,q5,q6,q7,q8,q9,q10⟩:=h;exact⟨q1,q2,⟨q5,q3.2⟩,⟨q4.1,q4.2,q6⟩,⟨q7.1,by omega⟩,q9,q10⟩
theorem Kn {g:Geo} {a:An} (hg:Bq g=true) (h:Bv g a=true):∀ x∈a.homes,x.places.length<=1000000:=by
 obtain⟨h1,h2,h3,h4,h5⟩:=Ar.1 hg;intro x hx;have:=(FM h).2.2.2.2.2.2 x hx;simp only [DL,Ad,decide_eq_true_eq] at this;omega
theorem WS {g:Geo} {b:An} {x y:List Gt} {p q:Int->Option Rc} {r:List Tx × List Wr × Int} (hg:Bq g=true) (hb:Bv g b=true) (hx:(x.length:Int)=g.sl) (hy:(y.length:Int)=g.sl) (hp:DT g x 0=p) (hq:DT g y 1=q) (h:M7 g b p q=r):IL g b x y=r:=by
 unfold IL;rw [if_pos (by rw [hg,hb];try rfl),if_pos ⟨hx,hy⟩,N8,hp,hq,h]
def QK (g:Geo) (x:Wr) (z:List Gt × List Gt):List Gt × List Gt:=if x.addr - g.an<g.sl then (z.1.set (x.addr - g.an).toNat ⟨0,x.bytes⟩,z.2) else (z.1,z.2.set (x.addr - g.an - g.sl).toNat ⟨0,x.bytes⟩)
def IX (g:Geo) (w:List Wr) (z:List Gt × List Gt):Nat->List Gt × List Gt
 | 0=>z
 | k+1=>QK g (w.getD k ⟨0, []⟩) (IX g w z k)
theorem JB {g:Geo} {w:List Wr} {z:List Gt × List Gt}:∀ k,(IX g w z k).1.length=z.1.length/\(IX g w z k).2.length=z.2.length
 | 0=>tA
 | k+1=>by
  obtain⟨h1,h2⟩:=JB (g:=g) (w:=w) (z:=z) k;unfold IX QK;split
  ·exact⟨by rw [AW,h1],h2⟩
  ·exact⟨h1,by rw [AW,h2]⟩
theorem OE {g:Geo} {x:List Gt} {copy:Int} {k:Nat} {b:List UInt8} (hk:k<x.length):DT g (x.set k ⟨0,b⟩) copy=Ug (DT g x copy) (k:Nat) (DK g ⟨0,b⟩ copy (k:Nat)):=by
 funext s;unfold DT Ug;by_cases e:s=(k:Nat)
 ·subst e;rw [if_pos rfl,Aa,Ab,AE hk];try rfl
 ·rw [if_neg e];by_cases hs:0<=s/\s<g.sl
  ·obtain⟨i,rfl⟩:=Int.eq_ofNat_of_zero_le hs.1;rw [Aa,Ab,AC (by omega),<-Ab];try rfl
  ·rw [J1 hs];exact(J1 hs).symm
def YU (g:Geo) (x:Wr):Prop:=0<=x.addr - g.an/\x.addr - g.an<2*g.sl
theorem MM {g:Geo} {w:List Wr} {z:List Gt × List Gt} (h1:(z.1.length:Int)=g.sl) (h2:(z.2.length:Int)=g.sl):∀ k,k<=w.length->(∀ x∈w,YU g x)->(DT g (IX g w z k).1 0,DT g (IX g w z k).2 1)=Ez g (w.take k) (DT g z.1 0,DT g z.2 1)
 | 0,_,_=>rfl
 | k+1,hk,hw=>by
  have ih:=MM h1 h2 k (by omega) hw;have hx:=hw _ (A5 (d:=⟨0, []⟩) (show k<w.length by omega));obtain⟨l1,l2⟩:=JB (g:=g) (w:=w) (z:=z) k;rw [AN (by omega),Gu,<-ih];rw [show w[k]=w.getD k ⟨0, []⟩ by rw [Ab,Ae (by omega)];try rfl];simp only [Ez,Ic,IX,QK];generalize w.getD k ⟨0, []⟩=x at hx;unfold YU at hx;by_cases hc:x.addr - g.an<g.sl
  ·rw [if_pos hc,if_pos hc];dsimp only;rw [OE (by omega),BZ hx.1]
  ·rw [if_neg hc,if_neg hc];dsimp only;rw [OE (by omega),BZ (show 0<=x.addr - g.an - g.sl by omega)]
theorem UD {g:Geo} {x y:List Gt}:∀ s r,DT g x 0 s=some r\/DT g y 1 s=some r->DP g r=true:=by
 rintro s r (h | h)
 ·exact(Lb h).1
 ·exact(Lb h).1
theorem Qp {g:Geo} {a:An} {x y:List Gt} {l:List Tx} {w:List Wr} (h:IL g a x y=(l,w,0)):(Bq g=true/\Bv g a=true)/\((x.length:Int)=g.sl/\(y.length:Int)=g.sl)/\(∀ z∈w,YU g z/\z.bytes.length<=200)/\IL g a (IX g w (x,y) w.length).1 (IX g w (x,y) w.length).2=(l, [],0):=by
 unfold IL at h;by_cases hA:(Bq g&&Bv g a)=true
 ·rw [if_pos hA] at h;obtain⟨hg,ha⟩:=Bool.and_eq_true_iff.1 hA;obtain⟨h1,h2,h3,h4,h5⟩:=Ar.1 hg;have hq:=Jk ha;by_cases hx:(x.length:Int)=g.sl/\(y.length:Int)=g.sl
  ·rw [if_pos hx,N8] at h;unfold M7 at h;cases hR:ER g a (DT g x 0) (DT g y 1) g.sl.toNat a.pos a.seq g.sl [] [] with
   | none=>rw [hR] at h;simp [T0,damaged] at h
   | some R=>
    obtain⟨l',w',seq'⟩:=R;rw [hR] at h;by_cases hl:seq' - 1<a.last
    ·rw [Hz hl] at h;simp [damaged] at h
    ·rw [Fu hl] at h;injection h with e1 h
     injection h with e2 _
     subst e1 e2;have e0:(a.pos+0).tmod g.sl=a.pos:=by rw [Int.add_zero];exact N0 hq.2.1 hq.2.2
     rw [<-e0] at hR;obtain⟨wr,w1,w2,w3⟩:=M6 hg (UD (g:=g) (x:=x) (y:=y)) hq.2 g.sl.toNat 0 a.seq g.sl [] [] (C7 0) (by omega) hR;rw [Bu] at w1;subst w1;have hin:∀ z∈w',YU g z/\z.bytes.length<=200:=fun z hz=>by
      obtain⟨u,u1,u2,u3⟩:=w2 z hz;refine⟨?_,u3⟩;have q1:=Be g.sl (show 0<=a.pos+u by omega);have q2:=AL (a.pos+u) (show 0<g.sl by omega);rw [<-u2] at q1 q2;unfold Up at q1 q2;unfold YU;split at q1 <;> omega
     refine⟨⟨hg,ha⟩,hx,hin,?_⟩;obtain⟨l1,l2⟩:=JB (g:=g) (w:=w') (z:=(x,y)) w'.length;have hm:=MM (g:=g) (w:=w') (z:=(x,y)) hx.1 hx.2 w'.length (Ah _) fun z hz=>(hin z hz).1
     rw [Ay] at hm;have hm1:=congrArg Prod.fst hm;have hm2:=congrArg Prod.snd hm;refine WS hg ha (by rw [l1];exact hx.1) (by rw [l2];exact hx.2) hm1 hm2 ?_;unfold M7;have:=w3 (Ez g w' (DT g x 0,DT g y 1)) (fun u _ _=>tA) [];rw [e0] at this;rw [this,Fu hl]
  ·rw [if_neg hx] at h;injection h with _ h
   injection h with _ h
   cases h
 ·rw [if_neg hA] at h;injection h with _ h
  injection h with _ h
  cases h
theorem La {g:Geo} {a:An} {x y:List Gt} (hg:Bq g=true):∀ (f:Nat) (pos seq left:Int) (l:List Tx) (w:List Wr) {l':List Tx} {w':List Wr} {seq':Int},(0<=pos/\pos<g.sl)->E8 g a x y f pos seq left l w=some (l',w',seq')->w'.length<=w.length+30*f
 | 0,pos,seq,left,l,w,l',w',seq',_,h=>by
  unfold E8 at h;injection h with h
  injection h with e1 h
  injection h with e2 e3
  subst e2;omega
 | f+1,pos,seq,left,l,w,l',w',seq',hp,h=>by
  unfold E8 at h;have fin:some (l,w,seq)=some (l',w',seq')->w'.length<=w.length+30*(f+1):=fun h=>by
   injection h with h
   injection h with e1 h
   injection h with e2 e3
   subst e2;omega
  by_cases hc:0<left/\seq<=4294967295
  ·rw [if_pos hc] at h;dsimp only at h;have tf:=Ii (a:=a) (x:=x) (y:=y) (seq:=seq) (left:=left) hg hp;generalize FP g a x y pos seq left=T at tf h;obtain⟨how,n,im,ws⟩:=T;dsimp only at tf h;rcases tf with ⟨rfl,t1,t2⟩ | tf
   ·rw [if_neg (by decide),if_neg (by decide)] at h;obtain⟨h1,h2,h3,h4,h5⟩:=Ar.1 hg;have hm:=AL (pos+n) (show 0<g.sl by omega);have hm0:=Be g.sl (show 0<=pos+n by omega);have:=La hg f _ _ _ _ _ ⟨hm0,hm⟩ h;rw [Ai] at this;omega
   ·by_cases e3:how=3
    ·rw [if_pos e3] at h;cases h
    ·rw [if_neg e3,if_pos (by omega)] at h;exact fin h
  ·rw [if_neg hc] at h;exact fin h
theorem Qo {g:Geo} {a:An} {x y:List Gt}:(IL g a x y).2.1.length<=900:=by
 unfold IL;by_cases hA:(Bq g&&Bv g a)=true
 ·rw [if_pos hA];obtain⟨hg,ha⟩:=Bool.and_eq_true_iff.1 hA;obtain⟨h1,h2,h3,h4,h5⟩:=Ar.1 hg;split
  ·unfold DS;cases hR:E8 g a x y g.sl.toNat a.pos a.seq g.sl [] [] with
   | none=>exact Aj _
   | some R=>
    obtain⟨l',w',seq'⟩:=R;have:=La hg _ _ _ _ _ _ (Jk ha).2 hR;by_cases hl:seq' - 1<a.last
    ·rw [Hz hl];exact Aj _
    ·rw [Fu hl];simp only [Bd] at this;dsimp only;omega
  ·exact Aj _
 ·rw [if_neg hA];exact Aj _
theorem M8 {g:Geo} {a:An} {x y:List Gt}:∀ (f:Nat) (pos seq left:Int) (l:List Tx) (w:List Wr) {l':List Tx} {w':List Wr} {seq':Int},seq<=4294967296->E8 g a x y f pos seq left l w=some (l',w',seq')->seq'<=4294967296
 | 0,pos,seq,left,l,w,l',w',seq',h1,h=>by
  unfold E8 at h;injection h with h
  injection h with e1 h
  injection h with e2 e3
  omega
 | f+1,pos,seq,left,l,w,l',w',seq',h1,h=>by
  unfold E8 at h;have fin:some (l,w,seq)=some (l',w',seq')->seq'<=4294967296:=fun h=>by
   injection h with h
   injection h with e1 h
   injection h with e2 e3
   omega
  by_cases hc:0<left/\seq<=4294967295
  ·rw [if_pos hc] at h;simp only at h;generalize FP g a x y pos seq left=q at h;split at h
   ·cases h
   ·split at h
    ·exact fin h
    ·exact M8 f _ _ _ _ _ (by omega) h
  ·rw [if_neg hc] at h;exact fin h
theorem K_ {g:Geo} {a:An} {x y:List Gt} (hg:Bq g=true) (ha:Bv g a=true) (h:(DS g a x y).2.2=0):a.last<=a.seq+(DS g a x y).1.length - 1/\a.seq+(DS g a x y).1.length - 1<=4294967295:=by
 obtain⟨g1,g2,g3,g4,g5⟩:=Ar.1 hg;have hq:=Jk ha;have hp:=FM ha;unfold DS at h |-
 cases hR:E8 g a x y g.sl.toNat a.pos a.seq g.sl [] [] with
 | none=>rw [hR] at h;simp [T0,damaged] at h
 | some q=>
  obtain⟨l,w,seq⟩:=q;rw [hR] at h;obtain⟨c1,c2,c3⟩:=JX hg _ _ _ _ _ _ (l':=l) (w':=w) (seq':=seq) (show GT g [] a.seq a.pos from trivial) rfl (by simp) (by simp [usedM]) (by omega) hq.2 hR;have hm:=M8 _ _ _ _ _ _ (by omega) hR;by_cases hl:seq - 1<a.last
  ·rw [Hz hl] at h;simp [damaged] at h
  ·rw [Fu hl];simp only;omega
def D9 (a:An) (n:Nat):An:={ a with gen:=a.gen+1,epoch:=a.epoch+1,last:=a.seq+n - 1 }
theorem Lt {g:Geo} {a:An} {n:Nat} (ha:Bv g a=true) (h1:a.gen≠4294967295) (h2:a.epoch≠4294967295) (h3:a.seq+n - 1<=4294967295):Bv g (D9 a n)=true:=by
 have hp:=FM ha;simp only [Bv,AX,BD,Ad,AD,decide_eq_true_eq] at ha;simp only [Bv,AX,BD,Ad,AD,decide_eq_true_eq];obtain⟨⟨q1,q2,q3,q4,q11⟩,q5,q6,q7,q8,q9,q10⟩:=ha;refine⟨⟨?_,?_,q3,?_,q11⟩,q5,?_,q7,q8,q9,q10⟩
 ·show 0<=a.gen+1/\a.gen+1<=4294967295;omega
 ·show 0<=a.epoch+1/\a.epoch+1<=4294967295;omega
 ·show 0<=a.seq+n - 1/\a.seq+n - 1<=4294967295;omega
 ·show a.seq - 1<=a.seq+n - 1;omega
def Bt (a:An) (t:List Tx):Stt:=⟨a,t,false,0,0,0,0, []⟩
def Lu (g:Geo) (a:An) (t:List Tx) (d:Dk):Dk × Int × Stt:=
 if a.gen=4294967295\/a.epoch=4294967295 then (d,14,st0) else
 let q:=d.putAll (Bg g (D9 a t.length))
 if q.2.2 then (q.1,8,st0) else if q.2.1=0 then (q.1,14,st0) else (q.1,0,Bt (D9 a t.length) t)
def Lw (g:Geo) (a:An) (q:List Tx × List Wr × Int) (d:Dk):Dk × Int × Stt:=
 if q.2.2≠0 then (d,q.2.2,st0) else
 if (d.mend q.2.1).2 then ((d.mend q.2.1).1,8,st0) else Lu g a q.1 (d.mend q.2.1).1
def Ir (g:Geo) (a:An) (d:Dk):Dk × Int × Stt:=
 if d.live (2*g.sl.toNat) then Lw g a (DS g a (B3 d (BS g 0)) (B3 d (BS g 1))) (d.adv (2*g.sl.toNat)) else (d.adv (2*g.sl.toNat),8,st0)
def C_ (g:Geo) (d:Dk):Dk × Int × Stt:=
 if d.live g.an.toNat then
  match Gl g (B3 d (Dn g)) with
  | none=>(d.adv g.an.toNat,11,st0)
  | some (a,_)=>Ir g a (d.adv g.an.toNat)
 else (d.adv g.an.toNat,8,st0)
theorem UC {g:Geo} {x:Gt} {i:Int} {a:An} (hg:Bq g=true) (h:Ex g x i=some a):Bv g a=true:=by
 unfold Ex at h;split at h
 ·cases hR:EM g (Cz x.bytes) with
  | none=>rw [hR] at h;cases h
  | some b=>
   rw [hR] at h;simp only at h;split at h
   ·cases h;exact(Q7 hg hR).1
   ·cases h
 ·cases h
theorem IT {g:Geo} {l:List Gt} (hg:Bq g=true):∀ (k:Nat) {a:An} {j:Nat},EN g l k=some (a,j)->Bv g a=true
 | 0,a,j,h=>by cases h
 | k+1,a,j,h=>by
  rw [In,OW] at h;cases hS:Ex g (l.getD k ⟨0, []⟩) (k:Nat) with
  | none=>rw [hS] at h;exact IT hg k h
  | some b=>
   have hb:=UC hg hS;rw [hS] at h;cases hP:EN g l k with
   | none=>rw [hP] at h;cases h;exact hb
   | some q=>
    obtain⟨c,i⟩:=q;rw [hP] at h;simp only at h;split at h
    ·cases h;exact hb
    ·cases h;exact IT hg k hP
theorem Hx {d:Dk} (h:DkOk d) (l:List Int):∀ x∈B3 d l,x.bytes.length<=100000:=by
 intro x hx;simp only [B3,AK] at hx;obtain⟨a,_,rfl⟩:=hx;have:=Tn h a;show (d.got a).1.length<=_;omega
theorem KZ {g:Geo} {a:An} {x y:List Gt} {n:Nat} (hg:Bq g=true) (ha:Bv g a=true) (hx:(x.length:Int)=g.sl) (hy:(y.length:Int)=g.sl) (hn:(n:Int)=A4 g) (h:(DS g a x y).2.2=0):(∀ w∈(DS g a x y).2.1,Rx n w)/\(DS g a x y).2.1.length<=900:=by
 have e:IL g a x y=DS g a x y:=by rw [IL,if_pos (by rw [hg,ha];try rfl),if_pos ⟨hx,hy⟩]
 have hl:=Qo (g:=g) (a:=a) (x:=x) (y:=y);rw [e] at hl;obtain⟨g1,g2,g3,g4,g5⟩:=Ar.1 hg;have hc:=D_ hg;refine⟨fun w hw=>?_,hl⟩;obtain⟨_,_,h3,_⟩:=Qp (l:=(DS g a x y).1) (w:=(DS g a x y).2.1) (e.trans (by rw [<-h]));obtain⟨p1,p2⟩:=h3 w hw;unfold YU at p1;exact⟨by omega,p2⟩
theorem Y5 {m:Nat} {i:Nat} (hi:Nat.blt i m=true) (h:Nat.ble 3 m=true):∀ z∈ [0,1,2,i],z<m:=fun z hz=>by
 have:=Ag h;have:=Ag hi;simp at hz;omega
theorem ACalls.pre {P:Program} {q:Bool} {f:FuncId} {args:List AV} {H H':List AB} {K:AV->List AB->Prop} (h:ConvH H H') (k:ACalls P q f args H' K):ACalls P q f args H K:=by
 refine⟨k.go,fun w0 M0 c us hs hr=>?_⟩;obtain⟨c1,e1,s1,x1⟩:=h w0 M0 c hs;have:=k.calls w0 M0 c1 us s1 (RdL.ext _ x1 hr);rw [e1] at this;refine this.mono ?_;rintro e w' ⟨v,c',r,H2,rfl,rfl,q1,q2,q3,q4,q5⟩;exact⟨v,c',r,H2,rfl,rfl,q1,q2,x1.trans q3,q4,q5⟩
theorem KW {es:List (List AV)} {i m:Nat} {e:List AV} (h:∀ x∈es,AV.ltL x 0=true) (he:AV.ltL e m=true):AV.ltL (es.set i e).flatten m=true:=by
 rw [Dj];intro x hx;obtain⟨y,hy,hx'⟩:=List.mem_flatten.1 hx;rcases Cm hy with hy | rfl
 ·exact AV.lt_mono x (Aj _) (Dj.1 (h y hy) x hx')
 ·exact Dj.1 he x hx'
theorem HC {es:List (List AV)} {i:Nat} {e:List AV} {f:Nat->Nat} (h:∀ x∈es,AV.ltL x 0=true) (he:AV.renL f e=e):(es.set i e).map (AV.renL f)=es.set i e:=by
 rw [C6,he];congr 1;conv=>rhs;rw [<-List.map_id es]
 refine Cn fun x hx=>?_
 exact AV.renL_id x (h x hx)
theorem Uz (l:List Tx):∀ x∈l.map Eb,AV.ltL x 0=true:=by
 intro x hx;obtain⟨t,_,rfl⟩:=AK.1 hx;rfl
def Uh (t:Tx) (k:Nat):List AV:= [iv t.seq,iv t.pos,iv t.n, .ow k t.images.length]
theorem WP {k n:Nat} {s:AV} (l:List Tx):(l.map Eb).map (List.map (AV.slIn k n s))=l.map Eb:=by
 rw [List.map_map];exact Cn fun t _=>rfl
theorem U8 (l:List Tx) (k:Nat) (t:Tx) (s:AV):((l.map Eb).set k (Uh t 1)).map (List.map (AV.slIn 1 (t.images.map Dv).length s))=(l.map Eb).set k [iv t.seq,iv t.pos,iv t.n,s]:=by
 rw [C6,WP];congr 1;simp [Uh,AV.slIn]
theorem MH {l:List Tx} {k:Nat} {t:Tx} (hk:k<l.length) (ht:t=l.getD k ⟨0,0,0, []⟩):ConvH [.rowo 112 4 ((l.map Eb).set k (Uh t 1)) 2, .row 166 3 (t.images.map Dv)] [.row 112 4 (l.map Eb), .dead]:=by
 refine(ConvH.sealIn (H:= [.rowo 112 4 ((l.map Eb).set k (Uh t 1)) 2, .row 166 3 (t.images.map Dv)]) 0 1 rfl rfl (U8 l k t _)).trans ?_;refine(ConvH.row (k:=0) rfl (KW (Uz l) rfl)).trans ?_;refine z8 (k:=0) (es':=l.map Eb) rfl (by simp) fun i=>?_
 refine Fo (f:=Eb) (d:=(⟨0,0,0, []⟩:Tx)) hk ?_ i;rw [<-ht];exact⟨fun _ _ h=>h,fun _ _ h=>h,fun _ _ h=>h,B4 (f:=Dv) t.images (Ac _) rfl,tv⟩
theorem Xg (l:List Tx) (hl:l.length<=1000000) (hi:∀ t∈l,t.images.length<=1000000/\∀ x∈t.images,x.bytes.length<=1000000000):Fn Tryz.prog 117 [Eg l] fun r=>r=Eg l:=by
 have hc:=Mv l (by omega);refine zT Tryz.func117 rfl ?_;conv=>whnf
 refine zW hc rfl ?_;rintro _ _ ⟨rfl,rfl⟩;conv=>whnf
 refine zU Nat (fun k=>([(0, .ow 0 l.length),(9,iv l.length),(10,iv k)], [.row 112 4 (l.map Eb)])) (fun k=>k<=l.length) (fun k=>l.length - k) 0 (Aj _)
  (zR (s:= [0]) tA) ?_
 intro k hk;conv=>whnf
 refine A6 (fun h6=>?_) (fun h6=>?_) <;> (repeat rw [Aa] at h6) <;> conv=>whnf
 ·have hk':k<l.length:=by omega
  have hm:=hi _ (A5 (d:=(⟨0,0,0, []⟩:Tx)) hk');have hE:(l.map Eb).getD (k:Int).toNat []=Eb (l.getD k ⟨0,0,0, []⟩):=by rw [Aa];exact Bf hk'
  have ho:=MV (l.getD k ⟨0,0,0, []⟩).images (by omega);repeat' (refine zZ ?_;conv=>whnf)
  refine⟨⟨by omega,by omega⟩,?_⟩;conv=>whnf
  refine Af ⟨rfl,(Ac _).symm,by rw [Aa];exact hk'⟩ ?_;conv=>whnf
  rw [hE];conv=>whnf
  refine ACalls.pre (ConvH.rowo (k:=0) rfl) ?_;refine zW ho rfl ?_;rintro _ _ ⟨rfl,rfl⟩;refine⟨⟨by omega,by omega⟩,?_⟩;conv=>whnf
  refine Af ⟨rfl,(Ac _).symm,by rw [Aa];exact hk'⟩ ?_;conv=>whnf
  rw [hE];refine⟨⟨by omega,by omega⟩,?_⟩;conv=>whnf
  refine Af ⟨rfl,by rw [AW,Ac],by rw [Aa];exact hk'⟩ ?_;conv=>whnf
  rw [Bm (by rw [Aa,Ac];exact hk')];conv=>whnf
  obtain⟨t,ht⟩:∃ t,t=l.getD k ⟨0,0,0, []⟩:=⟨_,rfl⟩;rw [<-ht] at hm hE |-
  have hS:∀ x∈l.map Eb,AV.ltL x 0=true:=Uz l;have hro:AV.ltL ((l.map Eb).set k (Uh t 1)).flatten 2=true:=KW hS rfl;refine zU Nat (fun j=>([(0, .ow 0 l.length),(3,iv k),(9,iv l.length),(10,iv k),(27, .ow 1 t.images.length),(28,iv t.images.length),(29,iv j)], [.rowo 112 4 ((l.map Eb).set k (Uh t 1)) 2, .row 166 3 (t.images.map Dv)])) (fun j=>j<=t.images.length) (fun j=>t.images.length - j) 0 (Aj _)
   (zR (s:= [0,1]) ⟨tA,⟨⟨hro,_,by rw [HC hS rfl];try rfl⟩,rfl,tv⟩,rfl,rfl,rfl,rfl,rfl⟩) ?_
  intro j hj;conv=>whnf
  refine A6 (fun h7=>?_) (fun h7=>?_) <;> (repeat rw [Aa] at h7) <;> conv=>whnf
  ·have hj':j<t.images.length:=by omega
   have hF:(t.images.map Dv).getD (j:Int).toNat []=Dv (t.images.getD j ⟨0,0, []⟩):=by rw [Aa];exact Bf hj'
   have hG:((l.map Eb).set k (Uh t 1)).getD (k:Int).toNat []=Uh t 1:=by rw [Aa];exact Bm (by rw [Ac];exact hk')
   have b1:=BK (t.images.getD j ⟨0,0, []⟩).bytes (hm.2 _ (A5 hj'));refine⟨⟨by omega,by omega⟩,?_⟩;conv=>whnf
   refine Af ⟨rfl,(Ac _).symm,by rw [Aa];exact hj'⟩ ?_;conv=>whnf
   rw [hF];conv=>whnf
   apply zV (0) tys_ok mixed (.o [0,1,2,3,4,5,6,7,8,9,10,11] .fin) (by kernel_rfl);conv=>whnf
   try (refine tI ?_;conv=>whnf)
   try (first | (refine Af ⟨rfl,by rw [AW,Ac],by rw [Aa];exact hk'⟩ ?_;(conv=>whnf);rw [hG]) | skip;conv=>whnf)
   try (first | (refine Af ⟨rfl,by rw [AW,Ac],by rw [Aa];exact hk'⟩ ?_;(conv=>whnf);rw [hG]) | skip;conv=>whnf)
   refine z_ b1 ?_;conv=>whnf
   try (refine tI ?_;conv=>whnf)
   try (refine tS ?_;conv=>whnf)
   (first | rw [hF] | skip)
   conv=>whnf
   all_goals refine⟨j+1,hj',by omega,zC (zK (z8 (k:=1) rfl (es':=t.images.map Dv) (by simp) ?_)) (s:= [0,1]) ⟨⟨rfl,rfl,rfl,rfl,rfl,rfl,AR (by omega),tv⟩,⟨⟨hro,_,by rw [HC hS rfl];try rfl⟩,rfl,tv⟩,rfl,rfl,rfl,rfl,rfl⟩⟩
   all_goals
    intro i;rw [Aa];refine Fo (f:=Dv) (d:=(⟨0,0, []⟩:Img)) hj' ?_ i;exact⟨fun _ _ h=>h,fun _ _ h=>h,fun _ _ h=>h,tv⟩
  ·exact⟨k+1,hk',by omega,zC (zK (MH hk' ht)) (s:= [0]) ⟨⟨rfl,rfl,AR (by omega),tv⟩,tA,rfl,rfl,rfl,rfl,rfl⟩⟩
 ·refine Af (Ac _).symm ?_;exact⟨Eg l,B4 (f:=Eb) l rfl rfl,rfl⟩
structure StSm (s:Stt):Prop where
 h:s.a.homes.length<=4/\∀ h∈s.a.homes,h.places.length<=1000000
 l:s.a.label.size<=24
 t:s.txns.length<=30/\∀ t∈s.txns,t.images.length<=30/\∀ i∈t.images,i.bytes.length<=59
 o:s.lost.length<=1000000
theorem st0_sm:StSm st0:=⟨⟨by simp [st0,an0],by simp [st0,an0]⟩,by show (0:Nat)<=24;omega,⟨by simp [st0],by simp [st0]⟩,by simp [st0]⟩
theorem PP (s:Stt) (h:StSm s):Fn Tryz.prog 47 [.ag (E6 s)] fun r=>r = .ag (E6 s):=by
 have c1:=PV s.a (by have:=h.h.1;omega) h.h.2;have c2:=Xg s.txns (by have:=h.t.1;omega) (fun t ht=>⟨by have:=(h.t.2 t ht).1;omega,fun x hx=>by have:=(h.t.2 t ht).2 x hx;omega⟩);have c3:=L5 s.lost (by have:=h.o;omega);refine zT Tryz.func47 rfl ?_;conv=>whnf
 apply zV (0) tys_ok mixed (.o [0,1,3,4,6,7,8,2,10,5,9,11,12,13,14,15,16] .fin) (by kernel_rfl);conv=>whnf
 refine z_ c1 ?_;conv=>whnf
 refine z_ c2 ?_;conv=>whnf
 (refine zW c3 rfl ?_;rintro _ _ ⟨rfl,rfl⟩)
 conv=>whnf
 try (refine tS ?_;conv=>whnf)
 try (refine tS ?_;conv=>whnf)
 try (refine tS ?_;conv=>whnf)
 refine Af (Ac _).symm ?_;exact⟨.ag (E6 s),Bk ⟨ri,ri,ri,ri,ri,ri,ri,ri,ri,ri,ri,ri,ri,RU rfl rfl,tv⟩,rfl⟩
@[reducible] def bwD (g:Geo) (s:Stt) (d:Dk):List AB:= [.box 116 (YM g (.bp 1 0) s), .box 185 (H0 (.ow 2 d.cells.length) (.ow 4 d.cache.length) d.reqs d.left), .dead, .dead, .dead]
theorem LU (g:Geo) (s:Stt) (d:Dk) (h:DkOk d):ACalls Tryz.prog false 44 [.bp 0 0] (bwG g s d) fun r H=>r = .ag (Eh d)/\H=bwD g s d:=by
 have ht:=PA d (by have:=h.n;omega) (by have:=h.m;omega) (fun c hc=>by have:=(h.c c hc).2;omega) (fun w hw=>by have:=(h.w w hw).2;omega);refine zS tys_ok Tryz.func44 rfl rfl (Ag rfl) ?_;conv=>whnf
 refine zQ ht.go ?_;refine Af (Ac _).symm ?_;refine Af (Ac _).symm ?_;conv=>whnf
 refine zY [.ag (Eh d)] ⟨Bk ⟨B4 (f:=B5) d.cells rfl rfl,B4 (f:=DR) d.cache rfl rfl,ri,ri,tv⟩,tv⟩ ?_;refine z_ ht ?_;exact⟨_, .ag (Eh d),bwD g s d,fun _ _ h=>h,zR (s:= [0,1,2,3,4]) tA,rfl,rfl⟩
theorem U9 (g:Geo) (d:Dk) (hg:Bq g=true) (h1:d.cells.length<=1000000) (h2:d.cache.length<=1000000):Fn Tryz.prog 52 [.ag (Ba g), .ag (Eh d)] fun r=>r = .v (.bool (Mj d&&decide ((d.cells.length:Int)=A4 g))):=by
 have c1:=Tp g hg;have c2:=Nn d h1 h2;refine zT Tryz.func52 rfl ?_;conv=>whnf
 refine z_ c1 ?_;conv=>whnf
 refine z_ c2 ?_;conv=>whnf
 cases hk:Mj d with
 | false=>
  exact⟨_,ri,rfl⟩
 | true=>
  exact⟨_,ri,rfl⟩
def dk0:Dk:=⟨[], [],0,0⟩
def ze (n:Int):AV:= iv n
def nilV:AV:= .v (.slice none 0 0)
theorem st0_sub:SubL [ze 0,ze 0,ze 0,ze 0,ze 0, .v (.string ⟨#[]⟩),nilV,nilV, .v (.bool false),ze 0,ze 0,ze 0,ze 0,nilV] (E6 st0):=
 ⟨fun _ _ h=>h,fun _ _ h=>h,fun _ _ h=>h,fun _ _ h=>h,fun _ _ h=>h,fun _ _ h=>h,Bn 3 _,Bn 4 _,fun _ _ h=>h,fun _ _ h=>h,fun _ _ h=>h,fun _ _ h=>h,fun _ _ h=>h,Bn 1 _,tv⟩
theorem dk0_sub:SubL [nilV,nilV,ze 0,ze 0] (Eh dk0):=⟨Bn 3 _,Bn 2 _,ri,ri,tv⟩
theorem QJ {g:Geo} {d:Dk} (h:(C_ g d).2.1≠0):(C_ g d).2.2=st0:=by
 unfold C_ at h |-
 split
 ·rename_i hl;rw [if_pos hl] at h;split
  ·rfl
  ·rename_i a j hp;rw [hp] at h;simp only at h;unfold Ir at h |-
   split
   ·rename_i hl2;rw [if_pos hl2] at h;unfold Lw at h |-
    split
    ·rfl
    ·rename_i h3;rw [if_neg h3] at h;split
     ·rfl
     ·rename_i h4;rw [if_neg h4] at h;unfold Lu at h |-
      split
      ·rfl
      ·rename_i h5;rw [if_neg h5] at h;simp only at h |-
       split
       ·rfl
       ·rename_i h6;rw [if_neg h6] at h;split
        ·rfl
        ·rename_i h7;rw [if_neg h7] at h;exact absurd rfl h
   ·rfl
 ·rfl
theorem ST {g:Geo} {d:Dk} (hg:Bq g=true) (h:DkOk d) (hn:(d.cells.length:Int)=A4 g):DkOk (C_ g d).1/\(C_ g d).1.cells.length=d.cells.length:=by
 have ha:=h.adv g.an.toNat;have hs:=(FN g.an.toNat d).1;have hpo:=fun {a j}=>IT (g:=g) (l:=B3 d (Dn g)) hg (B3 d (Dn g)).length (a:=a) (j:=j)
 have hpo:∀ {a j},Gl g (B3 d (Dn g))=some (a,j)->Bv g a=true:=hpo;unfold C_;split
 ·cases hP:Gl g (B3 d (Dn g)) with
  | none=>exact⟨ha,by rw [hs]⟩
  | some q=>
   obtain⟨a,j⟩:=q;have hao:=hpo hP;simp only;obtain⟨g1,g2,g3,g4,g5⟩:=Ar.1 hg;generalize d.adv g.an.toNat=d1 at ha hs |-
   have ha2:=ha.adv (2*g.sl.toNat);have hs2:=(FN (2*g.sl.toNat) d1).1;have hx1:(B3 d1 (BS g 0)).length=g.sl.toNat:=by rw [DM,EZ]
   have hx2:(B3 d1 (BS g 1)).length=g.sl.toNat:=by rw [DM,EZ]
   have hlast:=K_ (x:=B3 d1 (BS g 0)) (y:=B3 d1 (BS g 1)) hg hao;have hin:=KZ (x:=B3 d1 (BS g 0)) (y:=B3 d1 (BS g 1)) (n:=d.cells.length) hg hao (by omega) (by omega) hn;unfold Ir;split
   ·generalize DS g a (B3 d1 (BS g 0)) (B3 d1 (BS g 1))=S at hlast hin |-
    generalize d1.adv (2*g.sl.toNat)=d2 at ha2 hs2 |-
    have hn2:d2.cells.length=d.cells.length:=by rw [hs2,hs]
    unfold Lw;split
    ·exact⟨ha2,hn2⟩
    ·rename_i he;have he:S.2.2=0:=by simpa using he
     have hin:=hin he;have hdm:DkOk (d2.mend S.2.1).1/\(d2.mend S.2.1).1.cells.length=d.cells.length:=by
      unfold Dk.mend;split
      ·exact⟨ha2,hn2⟩
      ·have:=J6 ha2 (l:=S.2.1) (by rw [hn2];exact hin.1);exact⟨this.1,this.2.trans hn2⟩
     generalize (d2.mend S.2.1)=M at hdm |-
     split
     ·exact hdm
     ·unfold Lu;split
      ·exact hdm
      ·rename_i hmx;have hna:=Lt (n:=S.1.length) hao (fun e=>hmx (.inl e)) (fun e=>hmx (.inr e)) (hlast he).2;have hpa:=J6 hdm.1 (l:=Bg g (D9 a S.1.length)) (LX hg hna (by rw [hdm.2];exact hn));rw [hdm.2] at hpa;simp only;split
       ·exact hpa
       ·split <;> exact hpa
   ·exact⟨ha2,by rw [hs2,hs]⟩
 ·exact⟨ha,by rw [hs]⟩
theorem ConvF.cap {fr:Fr} {H H':List AB} (i k:Nat) {y:AV} (hx:fget fr i = .bp k 0) (h:capK [.bp k 0] H fun l H2=>l=[y]/\H2=H'):ConvF fr H ((i,y)::fr) H':=fun _ _ c _ a hs hf=>by
 have hr:RdL [.bp k 0] c [a.tmps.getD i undef]:=by
  simp only [RdL];exact⟨_,_,rfl,hx ▸ hf.get i,rfl⟩
 obtain⟨l',H1,c1,⟨rfl,rfl⟩,e1,s1,x1,r⟩:=capK_sound hs hr h;simp only [RdL] at r;obtain⟨u,us,e,r1,rfl⟩:=r;injection e with e _
 subst e;exact⟨c1,e1,s1,(hf.ext x1).cons i _ r1,x1⟩
def CD (g:Geo):List Tx->Int->Int->Int->Bool
 | [],_,_,_=>true
 | t::r,seq,pos,left=>(decide (t.seq=seq)&&(decide (t.seq<=4294967295)&&(decide (t.pos=pos)&&(decide (2<=t.n)&&(decide (t.n<=left)&&(decide (t.n=t.images.length+1)&&t.images.all (Bz g)))))))&&CD g r (seq+1) ((pos+t.n).tmod g.sl) (left - t.n)
theorem UV (g:Geo) (x:Img) (hx:x.bytes.length<=100000):Fn Tryz.prog 124 [.ag (Dv x), .rp (Ba g)] fun r=>r = .v (.bool (!Bz g x)):=by
 have h:=JH g x hx;refine zT Tryz.func124 rfl ?_;conv=>whnf
 refine z_ h ?_;conv=>whnf
 cases Bz g x with
 | true=>exact⟨_,ri,rfl⟩
 | false=>exact⟨_,ri,rfl⟩
theorem Ys (l:List Img) (g:Geo) (hb:∀ x∈l,x.bytes.length<=100000) (hl:l.length<=1000000):Fn Tryz.prog 199 [Ee l, .fn 124 [.rp (Ba g)]] fun r=>r = iv (Ui (fun x=>!Bz g x) l):=by
 refine zT Tryz.func199 rfl ?_;conv=>whnf
 refine zP Nat (fun k=>([(0,Ee l),(1, .fn 124 [.rp (Ba g)]),(7,iv l.length),(8,iv k)], [])) (fun k=>k<=l.length/\(l.take k).any (fun x=>!Bz g x)=false) (fun k=>l.length - k) 0 ⟨Aj _,by simp⟩ ⟨[],tv,tA,tv,rfl,rfl,rfl⟩ ?_;rintro k ⟨hk,hI⟩;conv=>whnf
 refine Am (fun h2=>?_) (fun h2=>?_) <;> simp at h2 <;> conv=>whnf
 ·refine⟨by first | omega | (refine⟨rfl,?_,?_⟩ <;> first | omega | (simp only [Ac];done) | (simp only [Ac];omega)) | (simp only [Ac];omega),?_⟩;conv=>whnf
  refine zM (UV g (l.getD k ⟨0,0, []⟩) (hb _ (A5 h2))) rfl ?_;rintro _ rfl;conv=>whnf
  refine Am (fun h3=>?_) (fun h3=>?_) <;> conv=>whnf
  ·exact⟨_,ri,by rw [HK (d:=⟨0,0, []⟩) h2 hI (by first | exact h3 | (rw [Aa] at h3;exact h3) | simpa using h3)]⟩
  ·refine⟨k+1,⟨by omega,DN (d:=⟨0,0, []⟩) h2 hI (by first | exact h3 | (rw [Aa] at h3;exact h3) | simpa using h3)⟩,by omega, [],tv,⟨rfl,rfl,rfl,AR (by omega),tv⟩,tv,rfl,rfl,rfl⟩
 ·exact⟨_,ri,by rw [Aw h2] at hI;rw [Gx hI]⟩
theorem Yt (l:List Img) (g:Geo) (hb:∀ x∈l,x.bytes.length<=100000) (hl:l.length<=1000000):Fn Tryz.prog 126 [Ee l, .fn 124 [.rp (Ba g)]] fun r=>r = .v (.bool (l.any (fun x=>!Bz g x))):=by
 refine zT Tryz.func126 rfl ?_;conv=>whnf
 refine z_ (Ys l g hb hl) ?_;exact⟨_,ri,by rw [JG]⟩

theorem IQ (g:Geo) (a:An) (l:List Tx) (hl:a.label.size<=1000000) (hh:a.homes.length<=1000000) (hn:l.length<=1000000) (hi:∀ t∈l,t.images.length<=1000000/\∀ x∈t.images,x.bytes.length<=100000):Fn Tryz.prog 53 [.ag (Ba g), .ag (EJ a),Eg l] fun r=>r = .v (Fv ((Bq g&&Bv g a)&&CD g l a.seq a.pos g.sl)):=by
 have hA:=Nv g a hl hh;cases hga:Bq g&&Bv g a with
 | false=>
  rw [hga] at hA;rw [CP];refine zT Tryz.func53 rfl ?_;conv=>whnf
  refine z_ hA ?_;exact⟨_,ri,rfl⟩
 | true=>
  rw [hga] at hA;rw [B9];obtain⟨hg,ha⟩:=Bool.and_eq_true_iff.1 hga;obtain⟨g1,g2,g3,g4,g5⟩:=Ar.1 hg;have hp:=FM ha;refine zT Tryz.func53 rfl ?_;conv=>whnf
  refine z_ hA ?_;conv=>whnf
  refine zJ tys_ok mixed (by kernel_rfl) ?_;conv=>whnf
  refine zU (Nat × Int × Int × Int) (fun x=>([(2,Eg l),(3, .rp (Ba g)),(8,iv x.2.1),(9,iv x.2.2.1),(10,iv x.2.2.2),(26,Eg l),(27,iv l.length),(28,iv x.1)], []))
   (fun x=>x.1<=l.length/\(0<=x.2.1/\x.2.1<g.sl)/\(0<=x.2.2.1/\x.2.2.1<=4294967296)/\(0<=x.2.2.2/\x.2.2.2<=30)/\CD g l a.seq a.pos g.sl=CD g (l.drop x.1) x.2.2.1 x.2.1 x.2.2.2) (fun x=>l.length - x.1) (0,a.pos,a.seq,g.sl) ⟨Aj _,by show 0<=a.pos/\a.pos<g.sl;omega,by show 0<=a.seq/\a.seq<=4294967296;omega,by show 0<=g.sl/\g.sl<=30;omega,rfl⟩
   ?_ ?_
  ·exact zC (ConvF.cap 3 0 (y:= .rp (Ba g)) rfl (by (conv=>whnf);exact tA)) (s:= []) tA
  rintro⟨k,pos,seq,left⟩ ⟨hk,b1,b2,b3,hI⟩;simp only at hk b1 b2 b3 hI |-
  conv=>whnf
  refine A6 (fun h6=>?_) (fun h6=>?_) <;> (repeat rw [Aa] at h6) <;> conv=>whnf
  ·have hk':k<l.length:=by omega
   have hm:=hi _ (A5 (d:=(⟨0,0,0, []⟩:Tx)) hk');have hdr:l.drop k=l.getD k ⟨0,0,0, []⟩::l.drop (k+1):=by
    rw [Ab,Ae hk'];exact A_ hk'
   rw [hdr,CD] at hI;repeat' (refine zZ ?_;conv=>whnf)
   refine⟨⟨by omega,by omega⟩,?_⟩;conv=>whnf
   rw [Aa];generalize l.getD k ⟨0,0,0, []⟩=t at hm hI |-
   have hcf:=Yt t.images g hm.2 hm.1;rw [show (t.images.any fun x=>!Bz g x) = !t.images.all (Bz g) by rw [Ce,Bool.not_not]] at hcf;have wn:IntKind.i64.wrap ((t.images.length:Int)+1)=t.images.length+1:=wi (by omega);generalize hAll:t.images.all (Bz g)=Q at hcf hI;generalize hC:(decide (t.seq=seq)&&(decide (t.seq<=4294967295)&&(decide (t.pos=pos)&&(decide (2<=t.n)&&(decide (t.n<=left)&&(decide (t.n=t.images.length+1)&&Q))))))=C at hI;clear hAll hm hi hdr hA;conv=>whnf
   repeat' (refine zZ ?_;conv=>whnf)
   repeat' (first | (refine Am (fun h=>?_) (fun h=>?_) <;> (try simp at h) <;> conv=>whnf) | (refine zZ ?_;conv=>whnf) | (refine z_ hcf ?_;conv=>whnf))
   all_goals try (exact⟨_,ri,by rw [hI,show C=false by (rw [<-hC,<-BF];clear hI hC hcf;simp [*] <;> omega)];try rfl⟩)
   have hC1:C=true:=by rw [<-hC];clear hI hC hcf;simp [*] <;> omega
   rw [hC1,B9] at hI;have wn':t.n=t.images.length+1:=by omega
   have w1:IntKind.i64.wrap (pos+t.n)=pos+t.n:=wi (by omega);have w2:IntKind.i64.wrap (seq+1)=seq+1:=wi (by omega);have w3:IntKind.i64.wrap (left - t.n)=left - t.n:=wi (by omega);apply zV (0) tys_ok mixed (.o [0,1,2,3,4,5,6,7,8,9,10,11,12,13,14,15] .fin) (by kernel_rfl);conv=>whnf
   try (refine tI ?_;conv=>whnf)
   rw [w1,w2,w3];have hq1:=Be g.sl (show 0<=pos+t.n by omega);have hq2:=AL (pos+t.n) (show 0<g.sl by omega);exact⟨(k+1,(pos+t.n).tmod g.sl,seq+1,left - t.n),⟨hk',⟨hq1,hq2⟩,(show 0<=seq+1/\seq+1<=4294967296 by omega),(show 0<=left - t.n/\left - t.n<=30 by omega),hI⟩,(show l.length - (k+1)<l.length - k by omega),zR (s:= []) ⟨⟨rfl,rfl,rfl,rfl,rfl,rfl,rfl,AR (by omega),tv⟩,tv,rfl,rfl,rfl,rfl,rfl⟩⟩
  ·have ek:k=l.length:=by omega
   subst ek;exact⟨_,ri,by rw [hI,List.drop_length];try rfl⟩
def iz:Img:=⟨0,0, []⟩
def Dx (l:List Img) (z w:Int):Nat->Option Img
 | 0=>none
 | k+1=>if (l.getD k iz).zone=z/\(l.getD k iz).what=w then some (l.getD k iz) else Dx l z w k
def FI (l:List Tx) (z w:Int):Nat->Option (Img × Int)
 | 0=>none
 | k+1=>match Dx (l.getD k tz).images z w (l.getD k tz).images.length with
  | some x=>some (x,(l.getD k tz).seq)
  | none=>FI l z w k
def Db (l:List Tx) (z w:Int):Option (Img × Int):=FI l z w l.length
theorem Nh {l:List Img} {z w:Int}:∀ {k:Nat} {x:Img},k<=l.length->Dx l z w k=some x->x∈l/\x.zone=z/\x.what=w
 | k+1,x,hk,h=>by
  rw [Dx] at h;split at h
  ·rename_i hc;obtain rfl:=Option.some.inj h;exact⟨A5 (by omega),hc⟩
  ·exact Nh (by omega) h
theorem G0 {l:List Tx} {z w:Int}:∀ {k:Nat} {x:Img} {s:Int},k<=l.length->FI l z w k=some (x,s)->∃ t∈l,t.seq=s/\x∈t.images/\x.zone=z/\x.what=w
 | k+1,x,s,hk,h=>by
  rw [FI] at h;split at h
  ·rename_i y hy;obtain⟨rfl,rfl⟩:=Prod.mk.inj (Option.some.inj h);exact⟨l.getD k tz,A5 (by omega),rfl,Nh (Ah _) hy⟩
  ·exact G0 (by omega) h
def EB (a:An) (l:List Tx) (z:Int):Int:=match Db l z 255 with
 | some p=>p.2
 | none=>(a.homes.getD z.toNat ⟨[],0,0⟩).root
def IB (n:Int):Int:=if 0<=n/\n<=30 then n else 0
def GW (l:List Tx):Nat->Int
 | 0=>0
 | k+1=>GW l k+IB (l.getD k tz).n
def CT (l:List Tx):Int:=GW l l.length
theorem Oy (n:Int):0<=IB n/\IB n<=30:=by
 unfold IB;split <;> omega
theorem F5 (l:List Tx):∀ k:Nat,0<=GW l k/\GW l k<=30*k
 | 0=>by simp [GW]
 | k+1=>by
  have:=F5 l k;have:=Oy (l.getD k tz).n;rw [GW];omega
def F0 (g:Geo) (w:Int):Int:=if w = -1 then g.d else w
def DF (g:Geo) (a:An) (z w:Int):Int:=Cs g z ((a.homes.getD z.toNat ⟨[],0,0⟩).places.getD (F0 g w).toNat 0)
def CM (g:Geo) (x:Gt) (addr root:Int):Option (List Ent):=match BQ x addr with
 | some s=>if s.stamp=root then Cb g s.pay else none
 | none=>none
def DO (x:Gt) (addr:Int) (e:Ent):Option (List UInt8):=match BQ x addr with
 | some s=>if s.stamp=e.stamp/\s.pay.length=8/\((CS s.pay:Nat):Int)=e.sum then some s.pay else none
 | none=>none
def Hb (a b:List UInt8):List UInt8:=List.zipWith (fun x y=>x ^^^ y) a b
def ez:Ent:=⟨0,0,false⟩
def F2 (t:List Ent) (had:List (List UInt8)) (at_:Nat):Nat->Option (List UInt8)
 | 0=>some zero8
 | k+1=>match F2 t had at_ k with
  | none=>none
  | some b=>if k=at_\/(t.getD k ez).lost=true then some b else if (had.getD k []).length=0 then none else some (Hb b (had.getD k []))
def BO (g:Geo) (t:List Ent) (had:List (List UInt8)) (at_:Nat):List UInt8:=
 if (t.getD at_ ez).lost then []
 else if 0<(had.getD at_ []).length then had.getD at_ []
 else match F2 t had at_ (g.d.toNat+1) with
  | none=> []
  | some b=>if ((CS b:Nat):Int)=(t.getD at_ ez).sum then b else []
def flatX:AV->Bool
 | .v _=>true
 | _=>false
def flatO:AV->Bool
 | .v _=>true
 | .ow _ _=>true
 | .tp l=>l.all fun x=>match x with | .v _=>true | .ow _ _=>true | _=>false
 | _=>false
def flatR:List AB->Bool
 | []=>true
 | .row _ _ es::r=>es.flatten.all flatX&&flatR r
 | _::_=>false
theorem P4 {c c':Ctx}:∀ {l:List AV} {us:List Value},l.all flatX=true->RdL l c us->RdL l c' us
 | [],us,_,h=>by simpa only [RdL] using h
 | x::l,us,hf,h=>by
  rw [AX,Ad] at hf;simp only [RdL] at h |-
  obtain⟨u,vs,rfl,h1,h2⟩:=h;refine⟨u,vs,rfl,?_,P4 hf.2 h2⟩;cases x <;> simp [flatX] at hf;simpa only [Rd] using h1
theorem Ob {c c':Ctx} (hr:c'.rho=c.rho) (hl:c'.len=c.len) (hd:c'.dom=c.dom) {x:AV} (hx:(match x with | .v _=>true | .ow _ _=>true | _=>false)=true) {u:Value} (h:Rd x c u):Rd x c' u:=by
 cases x <;> simp at hx
 ·simpa only [Rd] using h
 ·simp only [Rd] at h |-
  rw [hr,hl,hd];exact h
theorem VN {c c':Ctx} (hr:c'.rho=c.rho) (hl:c'.len=c.len) (hd:c'.dom=c.dom) {x:AV} (hx:flatO x=true) {u:Value} (h:Rd x c u):Rd x c' u:=by
 cases x with
 | v y=>exact Ob hr hl hd rfl h
 | ow k n=>exact Ob hr hl hd rfl h
 | tp l=>
  simp only [Rd] at h |-
  obtain⟨xs,rfl,hxs⟩:=h;refine⟨xs,rfl,?_⟩;simp only [flatO] at hx;induction l generalizing xs with
  | nil=>simpa only [RdL] using hxs
  | cons y l ih=>
   rw [AX,Ad] at hx;simp only [RdL] at hxs |-
   obtain⟨u,us,rfl,h1,h2⟩:=hxs;exact⟨u,us,rfl,Ob hr hl hd hx.1 h1,ih hx.2 us h2⟩
 | _=>simp [flatO] at hx
theorem flatR_mem:∀ {R:List AB} {y:AB},flatR R=true->y∈R->∃ t sz es,y = .row t sz es/\es.flatten.all flatX=true
 | .row t sz es::r,y,h,hy=>by
  rw [flatR,Ad] at h;rcases Bb.1 hy with rfl | hy
  ·exact⟨t,sz,es,rfl,h.1⟩
  ·exact flatR_mem h.2 hy
theorem FnO.lend {P:Program} {f:FuncId} {args args':List AV} {H:List AB} {K:AV->List AB->Prop} {q:Bool} {k:AV->List AB->Prop} (h:FnO P f args' K) (hs:sealA args H fun a _=>a=args') (hk:∀ r R,K r R->(flatO r=true/\flatR R=true)/\appK H R 0 fun d H=>Do (r.shift d) fun r=>k r H):ACalls P q f args H k:=by
 refine⟨h.go,fun w0 M0 c us hs0 hr=>?_⟩;obtain⟨l',H',c',rfl,h2,h3,h4,h5,_⟩:=sealA_sound hs0 hr hs;have hglob:globOk c'.closed.w:=h3.glob;have hc:=h.calls c'.closed us hglob rfl h3.lt h5;have ew:c'.closed.w=c.w:=h2
 suffices hh:Calls P f us.toArray c'.closed.w fun e w'=>∃ v c1 r H1,e = .returned v/\c1.w=w'/\k r H1/\HS w0 M0 c1 H1/\Ext c c1/\Rd r c1 v/\(q=true->Old c.w w') by
  rw [ew] at hh;exact hh
 refine hc.mono ?_;rintro e w' ⟨v,r,c2,R,rfl,q1,rfl,q2,q3,q4⟩;obtain⟨⟨f1,f2⟩,hkk⟩:=hk r R q1
 -- the same memory;what the caller holds is not read
 obtain⟨c3,e3⟩:∃ c3:Ctx,c3={ c2 with M:=fun b=>c2.M b\/c.M b }:=⟨_,rfl⟩;have hsub:∀ b,b<c.w.heap.size->c'.M b->c.M b:=fun b hb hm=>by
  by_cases hx:c.M b
  ·exact hx
  ·exact absurd hm (h4.keep b hb hx).1
 have hlow:=q2.low;have q2':HS (Fl.all c.w hs0.glob) c.M c3 R:=by
  subst e3;refine⟨⟨?_,?_,?_,?_,?_⟩,q2.base,q2.dom,fun b hb=>?_,fun b hb=>?_,fun i y hi=>?_,fun i y g hi hl ho=>?_,q2.dis⟩
  ·have:=hlow.os;rw [show (Fl.all c'.closed.w hglob).w=c.w from ew] at this;exact this
  ·have:=hlow.tape;rw [show (Fl.all c'.closed.w hglob).w=c.w from ew] at this;exact this
  ·have:=hlow.output;rw [show (Fl.all c'.closed.w hglob).w=c.w from ew] at this;exact this
  ·have:=hlow.size;rw [show (Fl.all c'.closed.w hglob).w=c.w from ew] at this;exact this
  ·intro b hb;have:=hlow.block b (by show b<c'.closed.w.heap.size;rw [ew];exact hb);rw [show (Fl.all c'.closed.w hglob).w=c.w from ew] at this;exact this
  ·have hb':b<c.w.heap.size:=hb;have:=q2.foreign b (by show b<c'.closed.w.heap.size;rw [ew];exact hb');exact⟨fun hx=>hx.elim (fun hx=>hsub b hb' (this.1 hx)) (fun hx=>hx),fun hx=> .inr hx⟩
  ·have hsz:c.w.heap.size<=c2.w.heap.size:=by
    have:=hlow.size;rw [show (Fl.all c'.closed.w hglob).w=c.w from ew] at this;exact this
   rcases hb with hb | hb
   ·exact q2.lt b hb
   ·exact Aq (hs0.lt b hb) hsz
  ·obtain⟨t,sz,es,rfl,hfl⟩:=flatR_mem f2 (D3 hi);obtain⟨a1,a2,a3,xs,a4,a5,a6⟩:=q2.blk i _ hi;exact⟨a1,a2,a3,xs,a4,P4 hfl a5,a6⟩
  ·have:=q2.own i y g hi hl ho;refine⟨.inl this.1,fun hx=>this.2 ?_⟩;show g<c'.closed.w.heap.size;rw [ew];exact hx
 have q3':Rd r c3 v:=VN (by rw [e3]) (by rw [e3]) (by rw [e3]) f1 q3;have q5:c3.w=c2.w:=by rw [e3]
 obtain⟨p1,p2⟩:=hs0.beside (c':=c3) q2' q4;have h1:=BI (appK_iff hkk);rw [Az,<-hs0.dom] at h1;exact⟨v,c.beside c3,_,_,rfl,by show c3.w=_;exact q5,h1,p1,p2,Rd.shift r q3',fun _=>by have:=q2'.low.below.old;rw [q5] at this;exact this⟩
theorem FnO.subA {P:Program} {f:FuncId} {args args':List AV} {K:AV->List AB->Prop} (h:FnO P f args' K) (hs:SubL args args'):FnO P f args K:=
 ⟨h.go,fun c0 us hg h1 h2 h3=>h.calls c0 us hg h1 h2 (hs.rdl h3)⟩
theorem MD (l:List Tx) (hl:l.length<=1000000):Fn Tryz.prog 176 [Eg l] fun r=>r = iv (CT l):=by
 refine zT Tryz.func176 rfl ?_;conv=>whnf
 refine zU Nat (fun k=>([(0,Eg l),(3,iv (GW l k)),(6,Eg l),(7,iv (l.length:Nat)),(8,iv k)], [])) (fun k=>k<=l.length) (fun k=>l.length - k) 0 (Aj _)
  (zR (s:= []) tA) ?_
 intro k hk;conv=>whnf
 refine A6 (fun h6=>?_) (fun h6=>?_) <;> (repeat rw [Aa] at h6) <;> conv=>whnf
 ·have hk':k<l.length:=by omega
  have hb:=F5 l k;have hs:GW l (k+1)=GW l k+IB (l.getD (k:Int).toNat ⟨0,0,0, []⟩).n:=rfl;have hn:=Oy (l.getD (k:Int).toNat ⟨0,0,0, []⟩).n;repeat' (refine zZ ?_;conv=>whnf)
  refine⟨⟨by omega,by omega⟩,?_⟩;conv=>whnf
  by_cases h0:(l.getD (k:Int).toNat ⟨0,0,0, []⟩).n>=0
  ·rw [show decide ((l.getD (k:Int).toNat ⟨0,0,0, []⟩).n>=0)=true from decide_eq_true h0];conv=>whnf
   by_cases h1:(l.getD (k:Int).toNat ⟨0,0,0, []⟩).n<=30
   ·rw [show decide ((l.getD (k:Int).toNat ⟨0,0,0, []⟩).n<=30)=true from decide_eq_true h1];have hu:IB (l.getD (k:Int).toNat ⟨0,0,0, []⟩).n=(l.getD (k:Int).toNat ⟨0,0,0, []⟩).n:=if_pos ⟨h0,h1⟩;conv=>whnf
    exact⟨k+1,hk',by omega,zR (s:= []) ⟨⟨rfl,congrArg (fun n:Int=>AV.v (.int .i64 n)) (by rw [hs,hu,wi (by rw [<-hu];omega)]),rfl,rfl,AR (by omega),tv⟩,tv,rfl,rfl,rfl,rfl,rfl⟩⟩
   ·rw [show decide ((l.getD (k:Int).toNat ⟨0,0,0, []⟩).n<=30)=false from decide_eq_false h1];have hu:IB (l.getD (k:Int).toNat ⟨0,0,0, []⟩).n=0:=if_neg fun h=>h1 h.2
    exact⟨k+1,hk',by omega,zR (s:= []) ⟨⟨rfl,congrArg (fun n:Int=>AV.v (.int .i64 n)) (by rw [hs,hu,Int.add_zero]),rfl,rfl,AR (by omega),tv⟩,tv,rfl,rfl,rfl,rfl,rfl⟩⟩
  ·rw [show decide ((l.getD (k:Int).toNat ⟨0,0,0, []⟩).n>=0)=false from decide_eq_false h0];have hu:IB (l.getD (k:Int).toNat ⟨0,0,0, []⟩).n=0:=if_neg fun h=>h0 h.1
   exact⟨k+1,hk',by omega,zR (s:= []) ⟨⟨rfl,congrArg (fun n:Int=>AV.v (.int .i64 n)) (by rw [hs,hu,Int.add_zero]),rfl,rfl,AR (by omega),tv⟩,tv,rfl,rfl,rfl,rfl,rfl⟩⟩
 ·have ek:k=l.length:=by omega
  subst ek;exact⟨_,ri,rfl⟩
theorem SD (g:Geo) (a:An) (l:List Tx) (hg:Bq g=true) (ha:Bv g a=true) (hr:CD g l a.seq a.pos g.sl=true) (hl:l.length<=1000000) (hi:∀ t∈l,t.images.length<=1000000/\∀ x∈t.images,x.bytes.length<=100000) (hla:a.label.size<=1000000) (hh:a.homes.length<=1000000) (hs:a.seq+(l.length:Int)<=4294967295):Fn Tryz.prog 108 [.ag (Ba g), .ag (EJ a),Eg l] fun r=>r = .tp [iv ((a.pos+CT l).tmod g.sl),iv (a.seq+l.length),iv 0]:=by
 obtain⟨g1,g2,g3,g4,g5⟩:=Ar.1 hg;have hu:=MD l hl;have hb:=F5 l l.length;have hc:=IQ g a l hla hh hl hi;rw [hg,ha,hr] at hc;have hp:(1<=a.seq/\a.seq<=4294967295)/\(0<=a.pos/\a.pos<g.sl):=by
  simp only [Bv,AX,BD,Bx,Ad,decide_eq_true_eq,AD] at ha;omega
 have hw:IntKind.i64.wrap (a.seq+(l.length:Int))=a.seq+l.length:=wi (by omega);have ixA:g.sl≠0:=by omega
 refine zT Tryz.func108 rfl ?_;conv=>whnf
 refine z_ hc ?_;conv=>whnf
 apply zL tys_ok mixed (.o [0,1,2,5,6,8,9,10,11,12,3,4,7,13,14] .fin) [6,7,16,17,18,19,20,21,22,23,24,25,26,27,28] (by kernel_rfl)
 ·conv=>whnf
  refine z_ hu ?_;conv=>whnf
  try (refine Af (by first | omega | exact ixA | exact ixB | (simp;done)) ?_;conv=>whnf)
  exact tA
 conv=>whnf
 rw [hw];rw [show decide (a.seq+(l.length:Int) > 4294967295)=false from decide_eq_false (by omega)];conv=>whnf
 exact⟨_,ri,by rw [wi (n:=a.pos+CT l) (by unfold CT;omega)]⟩
def Gb (g:Geo):Int:=1+g.sl+g.z*(2+g.d)
theorem KM {g:Geo} (hg:Bq g=true):18<=Gb g/\Gb g<=55/\(3<=g.z*(2+g.d)/\g.z*(2+g.d)<=24):=by
 obtain⟨g1,g2,g3,g4,g5⟩:=Ar.1 hg;have h1:g.z*(2+g.d)<=4*6:=Int.mul_le_mul (by omega) (by omega) (by omega) (by omega);have h2:1*3<=g.z*(2+g.d):=Int.mul_le_mul (by omega) (by omega) (by omega) (by omega);unfold Gb;omega
theorem Uu (g:Geo) (hg:Bq g=true):Fn Tryz.prog 54 [.ag (Ba g)] fun r=>r = iv (Gb g):=by
 obtain⟨g1,g2,g3,g4,g5⟩:=Ar.1 hg;have hu:=KM hg;have w:IntKind.i64.wrap (IntKind.i64.wrap (1+g.sl)+IntKind.i64.wrap (g.z*IntKind.i64.wrap (2+g.d)))=Gb g:=by
  rw [wi (n:=2+g.d) (by omega),wi (n:=g.z*(2+g.d)) (by omega),wi (n:=1+g.sl) (by omega)];exact wi (by unfold Gb at hu;omega)
 refine zT Tryz.func54 rfl ?_;exact⟨_,ri,by rw [w]⟩
def Ly (n:Int) (l:List Int) (i:Nat):Bool:=decide (0<=l.getD i 0)&&(decide (l.getD i 0<n)&&(decide (i=0) || decide (l.getD (i - 1) 0<l.getD i 0)))
def Lz (n:Int) (l:List Int):Bool:=(List.range l.length).all (Ly n l)
theorem SV {n:Int} {l:List Int} {k:Nat} (h:(List.range k).all (Ly n l)=true) (e:Ly n l k=true):(List.range (k+1)).all (Ly n l)=true:=by
 rw [Bh,List.all_append,h,B9,AX,e];try rfl
theorem Xt {n:Int} {l:List Int} {k:Nat} (hk:k<l.length) (e:Ly n l k=false):Lz n l=false:=by
 rw [Lz,<-BF,Av];intro h;rw [h k (AO.2 hk)] at e;cases e
def DZ (g:Geo) (s:Stt):Bool:=Lz (g.z*g.d) s.lost&&(decide (0<=s.found)&&(decide (0<=s.fixed)&&decide (0<=s.moved)))
def ZO (s:Stt):List AV:= [iv s.found,iv s.fixed,iv s.moved,iA s.lost]
theorem Rr (g:Geo) (s:Stt) (hg:Bq g=true) (hl:s.lost.length<=1000000):Fn Tryz.prog 55 [.ag (Ba g), .ag (ZO s)] fun r=>r = .v (.bool (DZ g s)):=by
 obtain⟨g1,g2,g3,g4,g5⟩:=Ar.1 hg;have hm1:g.z*g.d<=4*4:=Int.mul_le_mul (by omega) (by omega) (by omega) (by omega);have hm0:0<=g.z*g.d:=CO (by omega) (by omega);have wm:IntKind.i64.wrap (g.z*g.d)=g.z*g.d:=wi (by omega);refine zT Tryz.func55 rfl ?_;conv=>whnf
 refine zU Nat (fun k=>([(2, .bp 0 0),(3, .bp 1 0),(8,iA s.lost),(9,iv s.lost.length),(10,iv k)], [.box 23 (Ba g), .box 37 (ZO s)])) (fun k=>k<=s.lost.length/\(List.range k).all (Ly (g.z*g.d) s.lost)=true) (fun k=>s.lost.length - k) 0 ⟨Aj _,rfl⟩
  (zR (s:= [0,1]) tA) ?_
 rintro k ⟨hk,hI⟩;conv=>whnf
 refine A6 (fun h6=>?_) (fun h6=>?_) <;> (repeat rw [Aa] at h6) <;> conv=>whnf
 ·have hk':k<s.lost.length:=by omega
  have hno:=Xt (n:=g.z*g.d) hk';have hyes:=SV hI (n:=g.z*g.d) (l:=s.lost);unfold Ly at hno hyes;repeat' (refine zZ ?_;conv=>whnf)
  refine⟨⟨by omega,by omega⟩,?_⟩;conv=>whnf
  repeat' (refine zZ ?_;conv=>whnf)
  rw [Aa];refine A6 (fun q1=>?_) (fun q1=>?_)
  ·conv=>whnf
   exact⟨_,ri,by rw [DZ,hno (by rw [<-BF];simp only [Ad,C8,decide_eq_true_eq];omega),CP]⟩
  ·conv=>whnf
   rw [wm];refine A6 (fun q2=>?_) (fun q2=>?_)
   ·conv=>whnf
    exact⟨_,ri,by rw [DZ,hno (by rw [<-BF];simp only [Ad,C8,decide_eq_true_eq];omega),CP]⟩
   ·conv=>whnf
    have wk:IntKind.i64.wrap ((k:Int) - 1)=(k:Int) - 1:=wi (by omega);refine A6 (fun q3=>?_) (fun q3=>?_)
    ·conv=>whnf
     rw [wk];refine⟨⟨by omega,by omega⟩,?_⟩;conv=>whnf
     rw [show ((k:Int) - 1).toNat=k - 1 by omega];refine A6 (fun q4=>?_) (fun q4=>?_)
     ·conv=>whnf
      exact⟨_,ri,by rw [DZ,hno (by rw [<-BF];simp only [Ad,C8,decide_eq_true_eq];omega),CP]⟩
     ·conv=>whnf
      exact⟨k+1,⟨hk',hyes (by simp only [Ad,C8,decide_eq_true_eq];omega)⟩,by omega,zR (s:= [0,1]) ⟨⟨rfl,rfl,rfl,rfl,AR (by omega),tv⟩,tA,rfl,rfl,rfl,rfl,rfl⟩⟩
    ·conv=>whnf
     exact⟨k+1,⟨hk',hyes (by simp only [Ad,C8,decide_eq_true_eq];omega)⟩,by omega,zR (s:= [0,1]) ⟨⟨rfl,rfl,rfl,rfl,AR (by omega),tv⟩,tA,rfl,rfl,rfl,rfl,rfl⟩⟩
 ·have ek:k=s.lost.length:=by omega
  have hlo:Lz (g.z*g.d) s.lost=true:=by rw [Lz,<-ek];exact hI
  refine⟨_,fun _ _ h=>h,?_⟩;rw [DZ,hlo,B9];refine congrArg (fun b=>AV.v (.bool b)) ?_;rw [Dt];simp only [Ad,decide_eq_true_eq];repeat' split
  all_goals omega
def Mf (g:Geo) (d:Dk) (s:Stt):Bool:=Bq g&&((Mj d&&decide ((d.cells.length:Int)=A4 g))&&(((Bq g&&Bv g s.a)&&CD g s.txns s.a.seq s.a.pos g.sl)&&(decide (0<=s.cursor)&&(decide (s.cursor<Gb g)&&DZ g s))))
structure StBig (s:Stt):Prop where
 l:s.a.label.size<=1000000
 h:s.a.homes.length<=1000000
 t:s.txns.length<=1000000/\∀ t∈s.txns,t.images.length<=1000000/\∀ x∈t.images,x.bytes.length<=100000
 o:s.lost.length<=1000000
theorem Ub (g:Geo) (d:Dk) (s:Stt) (h1:d.cells.length<=1000000) (h2:d.cache.length<=1000000) (hs:StBig s):Fn Tryz.prog 18 [.ag (Ba g), .ag (Eh d), .ag (E6 s)] fun r=>r = .v (Fv (Mf g d s)):=by
 have hG:Fn Tryz.prog 51 [.ag (Ba g)] fun r=>r = .v (Fv (Bq g)):=DC g.z g.d g.sp g.sl g.an
 unfold Mf;cases hg:Bq g with
 | false=>
  rw [hg] at hG;refine zT Tryz.func18 rfl ?_;conv=>whnf
  refine z_ hG ?_;exact⟨_,ri,rfl⟩
 | true=>
  rw [hg] at hG;have hz:=U9 g d hg h1 h2;have hr:=IQ g s.a s.txns hs.l hs.h hs.t.1 hs.t.2;rw [hg] at hr;have hu:=Uu g hg;have hh:=Rr g s hg hs.o;generalize (Mj d&&decide ((d.cells.length:Int)=A4 g))=Z at hz |-
  generalize ((true&&Bv g s.a)&&CD g s.txns s.a.seq s.a.pos g.sl)=R at hr |-
  generalize DZ g s=Q at hh |-
  generalize Gb g=U at hu |-
  cases Z with
  | false=>
   refine zT Tryz.func18 rfl ?_;conv=>whnf
   refine z_ hG ?_;conv=>whnf
   refine z_ hz ?_;exact⟨_,ri,rfl⟩
  | true=>
   cases R with
   | false=>
    refine zT Tryz.func18 rfl ?_;conv=>whnf
    refine z_ hG ?_;conv=>whnf
    refine z_ hz ?_;conv=>whnf
    refine z_ hr ?_;exact⟨_,ri,rfl⟩
   | true=>
    refine zT Tryz.func18 rfl ?_;conv=>whnf
    refine z_ hG ?_;conv=>whnf
    refine z_ hz ?_;conv=>whnf
    refine z_ hr ?_;conv=>whnf
    refine zJ tys_ok mixed (by kernel_rfl) ?_;conv=>whnf
    refine A6 (fun q1=>?_) (fun q1=>?_)
    ·conv=>whnf
     exact⟨_,ri,by rw [decide_eq_false (by omega)];try rfl⟩
    ·conv=>whnf
     refine z_ hu ?_;conv=>whnf
     refine A6 (fun q2=>?_) (fun q2=>?_)
     ·conv=>whnf
      exact⟨_,ri,by rw [decide_eq_true (p:=0<=s.cursor) (by omega),decide_eq_false (p:=s.cursor<U) (by omega)];try rfl⟩
     ·conv=>whnf
      refine z_ hh ?_;conv=>whnf
      rw [decide_eq_true (p:=0<=s.cursor) (by omega),decide_eq_true (p:=s.cursor<U) (by omega)];cases Q with
      | false=>exact⟨_,ri,rfl⟩
      | true=>exact⟨_,ri,rfl⟩



def sumT:List Tx->Int
 | []=>0
 | t::r=>t.n+sumT r
theorem sumT_app:∀ l m:List Tx,sumT (l ++ m)=sumT l+sumT m
 | [],m=>by simp [sumT]
 | t::r,m=>by
  show t.n+sumT (r ++ m)=_;rw [sumT_app r m,sumT];omega
theorem Mu {l:List Tx} (h:∀ t∈l,0<=t.n/\t.n<=30):∀ k:Nat,k<=l.length->GW l k=sumT (l.take k)
 | 0,_=>by simp [GW,sumT]
 | k+1,hk=>by
  have e:l.take (k+1)=l.take k ++ [l.getD k tz]:=by
   rw [Bi,Ae (by omega),Ab,Ae (by omega)];try rfl
  have hm:=h _ (A5 (d:=tz) (show k<l.length by omega));rw [GW,Mu h k (by omega),e,sumT_app,IB,if_pos hm];simp [sumT]
theorem Sm {l:List Tx} (h:∀ t∈l,0<=t.n/\t.n<=30):CT l=sumT l:=by
 have:=Mu h l.length (Ah _);rwa [Ay] at this
theorem Su {p n s q:Int} (hs:0<s) (hp:0<=p) (hn:0<=n) (hq:0<=q):((p+n).tmod s+q).tmod s=(p+(n+q)).tmod s:=by
 have h1:0<=(p+n).tmod s:=Be _ (by omega);rw [AI (a:=p+n) (by omega)] at h1 |-
 rw [AI (by omega),AI (by omega),Int.emod_add_emod,Int.add_assoc]
theorem WN {l:List Tx} (h:∀ t∈l,0<=t.n/\t.n<=30):0<=sumT l:=by
 induction l with
 | nil=>simp [sumT]
 | cons t r ih=>
  have:=h t (by simp);have:=ih fun x hx=>h x (AY _ hx)
  rw [sumT];omega
theorem Gk {g:Geo} (hg:Bq g=true):∀ {l:List Tx} {seq pos left:Int},left<=g.sl->CD g l seq pos left=true->(∀ t∈l,0<=t.n/\t.n<=30)/\sumT l<=max left 0
 | [],_,_,left,_,_=>⟨by simp,by simp [sumT];omega⟩
 | t::r,seq,pos,left,hl,h=>by
  obtain⟨g1,g2,g3,g4,g5⟩:=Ar.1 hg;simp only [CD,Ad,decide_eq_true_eq] at h;obtain⟨⟨h1,h2,h3,h4,h5,h6,h7⟩,h8⟩:=h;have ih:=Gk hg (by omega) h8;refine⟨fun x hx=>?_,?_⟩
  ·rcases Bb.1 hx with rfl | hx
   ·omega
   ·exact ih.1 x hx
  ·rw [sumT];have:=ih.2;omega
theorem JY {g:Geo} (hg:Bq g=true) {x:Tx}:∀ {l:List Tx} {seq pos left:Int},0<=pos->pos<g.sl->left<=g.sl->CD g l seq pos left=true->x.seq=seq+l.length->x.seq<=4294967295->x.pos=(pos+sumT l).tmod g.sl->2<=x.n->x.n<=left - sumT l->x.n=x.images.length+1->x.images.all (Bz g)=true->CD g (l ++ [x]) seq pos left=true
 | [],seq,pos,left,h0,h1,_,_,e1,e2,e3,e4,e5,e6,e7=>by
  have e3':x.pos=pos:=by
   rw [e3,show sumT []=0 from rfl,Int.add_zero,AI h0,Int.emod_eq_of_lt h0 h1]
  simp only [Bd] at e1;have e1':x.seq=seq:=by omega
  have e5':x.n<=left:=by have:sumT []=0:=rfl;omega
  show (decide (x.seq=seq)&&(decide (x.seq<=4294967295)&&(decide (x.pos=pos)&&(decide (2<=x.n)&&(decide (x.n<=left)&&(decide (x.n=x.images.length+1)&&x.images.all (Bz g)))))))&&true=true;rw [decide_eq_true e1',decide_eq_true e2,decide_eq_true e3',decide_eq_true e4,decide_eq_true e5',decide_eq_true e6,e7];try rfl
 | t::r,seq,pos,left,h0,h1,hl,h,e1,e2,e3,e4,e5,e6,e7=>by
  obtain⟨g1,g2,g3,g4,g5⟩:=Ar.1 hg;have hh:=h;simp only [CD,Ad,decide_eq_true_eq] at hh;obtain⟨⟨q1,q2,q3,q4,q5,q6,q7⟩,q8⟩:=hh;have hin:=(Gk hg (by omega) q8).1;have hnn:=WN hin;have hp0:0<=(pos+t.n).tmod g.sl:=Be _ (by omega);have hp1:(pos+t.n).tmod g.sl<g.sl:=AL _ (by omega);rw [sumT] at e3 e5;have ih:=JY hg (x:=x) hp0 hp1 (by omega) q8 (by rw [e1];simp only [Ap];omega) e2 (by rw [e3,Su (by omega) h0 (by omega) hnn]) e4 (by omega) e6 e7;show (_&&CD g (r ++ [x]) (seq+1) ((pos+t.n).tmod g.sl) (left - t.n))=true;rw [ih,Bx];simp only [CD,Ad] at h;simpa using h.1
def Em (ats:List Int) (bs:List (List UInt8)) (i:Nat):Nat->Option (List UInt8)
 | 0=>none
 | k+1=>if ats.getD k 0=(i:Int) then some (bs.getD k []) else Em ats bs i k
def Gp (g:Geo) (t:List Ent) (had:List (List UInt8)) (ats:List Int) (bs:List (List UInt8)) (i:Nat):List UInt8:=match Em ats bs i ats.length with
 | some b=>b
 | none=>BO g t had i
def Kt (g:Geo) (t:List Ent) (had:List (List UInt8)) (ats:List Int) (bs:List (List UInt8)) (stamp:Int) (i:Nat):Ent:=
 let e:Ent:=match Em ats bs i ats.length with
  | some b=>⟨stamp,(CS b:Nat),false⟩
  | none=>t.getD i ez
 if (Gp g t had ats bs i).length=0 then { e with lost:=true } else e
def ET (g:Geo) (t:List Ent) (had:List (List UInt8)) (ats:List Int) (bs:List (List UInt8)):Nat->List UInt8
 | 0=>zero8
 | k+1=>if (Gp g t had ats bs k).length=0 then ET g t had ats bs k else Hb (ET g t had ats bs k) (Gp g t had ats bs k)
def BG (g:Geo) (t:List Ent) (had:List (List UInt8)) (ats:List Int) (bs:List (List UInt8)) (stamp:Int):List Ent:=(List.range g.d.toNat).map (Kt g t had ats bs stamp) ++ [⟨stamp,(CS (ET g t had ats bs g.d.toNat):Nat),false⟩]
def Cr (z:Int) (t:List Ent) (par:List UInt8) (ats:List Int) (bs:List (List UInt8)):List Img:=((List.range ats.length).map fun i=>⟨z,ats.getD i 0,bs.getD i []⟩) ++ [⟨z, -1,par⟩,⟨z,255,CL t⟩]
theorem H8 (b:List UInt8):CS b<=4294967295:=by unfold CS;omega
theorem Gg (a b:List UInt8):(Hb a b).length=min a.length b.length:=by simp [Hb]
theorem Ka {t:List Ent} {had:List (List UInt8)} {at_:Nat} (hh:∀ b∈had,b.length=0\/b.length=8):∀ (k:Nat) (b:List UInt8),F2 t had at_ k=some b->b.length=8
 | 0,b,h=>by
  obtain rfl:=Option.some.inj h;rfl
 | k+1,b,h=>by
  rw [F2] at h;cases hk:F2 t had at_ k with
  | none=>rw [hk] at h;cases h
  | some c=>
   rw [hk] at h;have ih:=Ka hh k c hk;simp only at h;split at h
   ·obtain rfl:=Option.some.inj h;exact ih
   ·split at h
    ·cases h
    ·rename_i h0;obtain rfl:=Option.some.inj h;have hm:(had.getD k []).length=8:=by
      by_cases hk':k<had.length
      ·rcases hh _ (A5 (d:= []) hk') with q | q
       ·exact absurd q h0
       ·exact q
      ·rw [Ab,AH (by omega)] at h0;exact absurd rfl h0
     rw [Gg,ih,hm];try rfl
theorem QO {g:Geo} {t:List Ent} {had:List (List UInt8)} (hh:∀ b∈had,b.length=0\/b.length=8) (i:Nat):(BO g t had i).length=0\/(BO g t had i).length=8:=by
 unfold BO;split
 ·exact .inl rfl
 ·split
  ·rename_i h0;by_cases hk':i<had.length
   ·exact hh _ (A5 (d:= []) hk')
   ·rw [Ab,AH (by omega)] at h0;exact absurd h0 (by simp)
  ·cases ho:F2 t had i (g.d.toNat+1) with
   | none=>exact .inl rfl
   | some b=>
    simp only;split
    ·exact .inr (Ka hh _ _ ho)
    ·exact .inl rfl
section
variable {g:Geo} {t:List Ent} {had:List (List UInt8)} {ats:List Int} {bs:List (List UInt8)}
theorem J7 (hb:∀ b∈bs,b.length=8) (hl:ats.length<=bs.length) {i:Nat}:∀ (k:Nat) (b:List UInt8),k<=ats.length->Em ats bs i k=some b->b.length=8
 | k+1,b,hk,h=>by
  rw [Em] at h;split at h
  ·obtain rfl:=Option.some.inj h;exact hb _ (A5 (d:= []) (by omega))
  ·exact J7 hb hl k b (by omega) h
theorem Ph (hh:∀ b∈had,b.length=0\/b.length=8) (hb:∀ b∈bs,b.length=8) (hl:ats.length<=bs.length) (i:Nat):(Gp g t had ats bs i).length=0\/(Gp g t had ats bs i).length=8:=by
 unfold Gp;cases hp:Em ats bs i ats.length with
 | none=>exact QO hh i
 | some b=>exact .inr (J7 hb hl _ b (Ah _) hp)
theorem Gn (hh:∀ b∈had,b.length=0\/b.length=8) (hb:∀ b∈bs,b.length=8) (hl:ats.length<=bs.length):∀ k:Nat,(ET g t had ats bs k).length=8
 | 0=>rfl
 | k+1=>by
  have ih:=Gn hh hb hl k;rw [ET];split
  ·exact ih
  ·rename_i h0;rcases Ph (g:=g) (t:=t) hh hb hl k with q | q
   ·exact absurd q h0
   ·rw [Gg,ih,q];try rfl
theorem FU (hg:Bq g=true) (ht:FB g t=true) {stamp:Int} (hs:0<=stamp/\stamp<=4294967295):FB g (BG g t had ats bs stamp)=true:=by
 obtain⟨g1,g2,g3,g4,g5⟩:=Ar.1 hg;have hsum:∀ b:List UInt8,Hr ((CS b:Nat):Int)=true:=fun b=>AD.2 (by have:=H8 b;omega)
 have hst:Hr stamp=true:=AD.2 hs;have hl:(BG g t had ats bs stamp).length=g.d.toNat+1:=by simp [BG]
 rw [FB,hg] at ht;simp only [B9,Ad,decide_eq_true_eq,Bp] at ht;obtain⟨⟨t1,t2⟩,t3⟩:=ht;rw [FB,hg,decide_eq_true (by rw [hl];omega)];have hall:(BG g t had ats bs stamp).all DD=true:=by
  rw [Av];intro x hx;simp only [BG,A3,AK,AO,AF] at hx;rcases hx with ⟨i,hi,rfl⟩ | rfl
  ·have he:∀ e:Ent,DD e=true->DD { e with lost:=true }=true:=fun e h=>h
   have h0:DD (match Em ats bs i ats.length with | some b=>(⟨stamp,(CS b:Nat),false⟩:Ent) | none=>t.getD i ez)=true:=by
    cases Em ats bs i ats.length with
    | some b=>simp only [DD,hst,hsum,Bool.and_self]
    | none=>exact Av.1 t2 _ (A5 (d:=ez) (by omega))
   unfold Kt;simp only;split
   ·exact he _ h0
   ·exact h0
  ·simp only [DD,hst,hsum,Bool.and_self]
 rw [hall];have hla:Gf (BG g t had ats bs stamp) g.d.toNat=false:=by
  unfold Gf BG;rw [A9 (by simp)];simp
 rw [hla];try rfl
end
theorem Q_ {x:Ent} (h:DD x=true) (r:List UInt8):If (I3 x ++ r)=x:=by
 obtain⟨a,s,l⟩:=x;simp only [DD,Hr,Ad,AD] at h;have hn:nums [4,4,1] (rowB [a,s,CV l] [4,4,1] ++ r)=[a,s,CV l]:=nums_rowB [a,s,CV l] [4,4,1] r rfl (fun k h1 _=>by
  match k,h1 with
  | 0,_=>exact⟨.inr (.inr rfl),h.1.1,by show a<4294967296;omega⟩
  | 1,_=>exact⟨.inr (.inr rfl),h.2.1,by show s<4294967296;omega⟩
  | 2,_=>exact⟨.inl rfl,by show 0<=CV l;unfold CV;split <;> decide,by show CV l<256;unfold CV;split <;> decide⟩)
 unfold If I3;rw [hn];cases l <;> rfl
theorem entsOf_tblB:∀ (t:List Ent),(∀ e∈t,DD e=true)->entsOf t.length (CL t)=t
 | [],_=>rfl
 | e::t,h=>by
  have e1:CL (e::t)=I3 e ++ CL t:=by simp [CL]
  have e2:(I3 e ++ CL t).drop 9=CL t:=by
   rw [List.drop_append_of_le_length (by rw [Ji];exact Ah _),AG (by rw [Ji];exact Ah _)];try rfl
  show If (CL (e::t))::entsOf t.length ((CL (e::t)).drop 9)=e::t;rw [e1,e2,Q_ (h e (by simp)),entsOf_tblB t fun x hx=>h x (AY _ hx)]
theorem Im {g:Geo} {t:List Ent} (ht:FB g t=true):Cb g (CL t)=some t:=by
 have hh:=ht;simp only [FB,Ad,decide_eq_true_eq,Av] at hh;obtain⟨⟨⟨_,t1⟩,t2⟩,_⟩:=hh;have e:(g.d+1).toNat=t.length:=by omega
 unfold Cb;rw [e,entsOf_tblB t t2,if_pos ⟨ht,rfl⟩]
def OneTab (l:List Img):Prop:=l.Pairwise fun x y=>x.what=255->y.what=255->x.zone≠y.zone
theorem Fs (z:Int) (t:List Ent) (par:List UInt8) (ats:List Int) (bs:List (List UInt8)):(Cr z t par ats bs).length=ats.length+2:=by simp [Cr]
theorem L4 {g:Geo} (hg:Bq g=true) {z:Int} (hz:0<=z/\z<g.z) {t:List Ent} (ht:FB g t=true) {par:List UInt8} (hp:par.length=8) {ats:List Int} (ha:∀ a∈ats,0<=a/\a<g.d) {bs:List (List UInt8)} (hb:∀ b∈bs,b.length=8) (hl:ats.length<=bs.length):∀ x∈Cr z t par ats bs,Bz g x=true/\x.zone=z:=by
 obtain⟨g1,g2,g3,g4,g5⟩:=Ar.1 hg;have hz':C2 z 0 (g.z - 1)=true:=AD.2 (by omega);intro x hx;simp only [Cr,A3,AK,AO,Bb,List.not_mem_nil,or_false] at hx;rcases hx with ⟨i,hi,rfl⟩ | rfl | rfl
 ·have h1:=ha _ (A5 (d:=0) hi);have h2:=hb _ (A5 (d:= []) (show i<bs.length by omega));refine⟨?_,rfl⟩;simp only [Bz,hg,hz',B9];rw [if_neg (by omega),AD.2 (show -1<=ats.getD i 0/\ats.getD i 0<=g.d - 1 by omega),decide_eq_true h2];try rfl
 ·refine⟨?_,rfl⟩;simp only [Bz,hg,hz',B9];rw [if_neg (by decide),AD.2 (show (-1:Int)<= -1/\(-1:Int)<=g.d - 1 by omega),decide_eq_true hp];try rfl
 ·refine⟨?_,rfl⟩;simp only [Bz,hg,hz',B9];rw [if_pos trivial,Im ht];try rfl
theorem Ke {g:Geo} (hg:Bq g=true) {l:List Img} {z:Int} (hl:OneTab l) (hz:∀ x∈l,x.zone<z) {t:List Ent} {par:List UInt8} {ats:List Int} (ha:∀ a∈ats,0<=a/\a<g.d) {bs:List (List UInt8)}:OneTab (l ++ Cr z t par ats bs):=by
 obtain⟨g1,g2,g3,g4,g5⟩:=Ar.1 hg;have hw:∀ x∈(List.range ats.length).map (fun i=>(⟨z,ats.getD i 0,bs.getD i []⟩:Img)),x.what≠255:=by
  intro x hx;obtain⟨i,hi,rfl⟩:=AK.1 hx;have:=ha _ (A5 (d:=0) (AO.1 hi));show ats.getD i 0≠255;omega
 refine List.pairwise_append.2 ⟨hl,List.pairwise_append.2 ⟨List.Pairwise.imp_of_mem (R:=fun _ _=>True) (fun hx _ _ h=>absurd h (hw _ hx)) (List.pairwise_of_forall (fun _ _=>trivial)),?_,fun x hx y _ h=>absurd h (hw _ hx)⟩,fun x hx y hy _ _=>?_⟩
 ·refine List.pairwise_cons.2 ⟨fun y _ h=>absurd (show (-1:Int)=255 from h) (by decide),List.pairwise_singleton _ _⟩
 ·have h1:=hz x hx;have h2:y.zone=z:=by
   simp only [Cr,A3,AK,AO,Bb,List.not_mem_nil,or_false] at hy;rcases hy with ⟨i,_,rfl⟩ | rfl | rfl <;> rfl
  omega
@[reducible] def Zf (g:Geo) (x:AV) (s:Stt) (e:Int):List AV:= [iv g.z,iv g.d,iv g.sp,iv g.sl,iv g.an,x,iv s.a.gen,iv s.a.epoch,iv s.a.pos,iv s.a.seq,iv s.a.last, .v (.string s.a.label),Ku s.a.homes,Eg s.txns, .v (.bool s.only),iv s.cursor,iv s.found,iv s.fixed,iv s.moved,iA s.lost,iv e]
@[reducible] def Jp (g:Geo) (s:Stt) (e:Int) (d:Dk):List AB:= [.box 83 (Zf g (.bp 1 0) s e), .box 85 (H0 (.ow 2 d.cells.length) (.ow 3 d.cache.length) d.reqs d.left), .row 128 3 (d.cells.map B5), .row 134 2 (d.cache.map DR)]
@[reducible] def N9 (g:Geo) (s:Stt) (e:Int) (d:Dk):List AB:= [.box 83 (Zf g (.bp 1 0) s e), .box 85 (H0 (.ow 2 d.cells.length) (.ow 4 d.cache.length) d.reqs d.left), .row 128 3 (d.cells.map B5), .dead, .row 134 2 (d.cache.map DR)]
@[reducible] def Zz (g:Geo) (s:Stt) (e:Int) (d:Dk) (l:List AB):List AB:= .box 83 (Zf g (.bp 1 0) s e):: .box 85 (H0 (.ow 2 d.cells.length) (.ow 3 d.cache.length) d.reqs d.left):: .row 128 3 (d.cells.map B5):: .row 134 2 (d.cache.map DR)::l
theorem Yn (g:Geo) (s:Stt) (e:Int) (d:Dk):ConvH (Jp g s e d) (N9 g s e d):=zw (H:=Jp g s e d) 1 3 (by decide) rfl rfl
theorem X8 (e:Int):∀ (c:Ctx) (v:Value),Rd (.ag [iv e, .v (.slice none 0 0)]) c v->Rd (.ag (DB ⟨e, []⟩)) c v:=Bk ⟨ri,Bn 1 _,tv⟩
theorem Yp (g:Geo) (s:Stt) (e:Int) (d:Dk) (a:Int) (he:e≠0) :
  ACalls Tryz.prog false 79 [.bp 0 0,iv a] (Jp g s e d) fun r H=>r = .ag (DB ⟨8, []⟩)/\H=Jp g s e d:=by
 have hb:(e != 0)=true:=bne_iff_ne.2 he;refine zS tys_ok Tryz.func79 rfl rfl (Ag rfl) ?_;conv=>whnf
 rw [hb];exact⟨_, .ag (DB ⟨8, []⟩),Jp g s e d,X8 8,zR (s:= [0,1,2,3]) tA,rfl,rfl⟩
theorem Yo (g:Geo) (s:Stt) (d:Dk) (a:Int) (h:DkOk d) (ha:0<=a/\a<d.cells.length) :
  ACalls Tryz.prog false 79 [.bp 0 0,iv a] (Jp g s 0 d) fun r H=>r = .ag (DB ⟨(d.read a).2.2,(d.read a).2.1⟩)/\H=Jp g s (if d.left=0 then 8 else 0) (d.read a).1:=by
 have hr:=UM d a h.l ha h.m (fun c hc=>by have:=(h.c c hc).2.1;omega) (fun w hw=>by have:=(h.w w hw).2;omega);have he:(d.left=0/\(d.read a).2.2=8)\/(¬d.left=0/\(d.read a).2.2≠8):=by
  unfold Dk.read;by_cases h0:d.left=0
  ·rw [if_pos h0];exact .inl ⟨h0,rfl⟩
  ·rw [if_neg h0];exact .inr ⟨h0,show (d.got a).2≠8 by have:=X6 d a;omega⟩
 generalize d.read a=q at hr he |-
 obtain⟨D,b,e⟩:=q;simp only at hr he |-
 refine zS tys_ok Tryz.func79 rfl rfl (Ag rfl) ?_;conv=>whnf
 refine zh [1,2,3] hr ?_;rintro _ _ ⟨rfl,rfl⟩;rcases he with ⟨h0,rfl⟩ | ⟨h0,he⟩
 ·rw [if_pos h0];conv=>whnf
  repeat' (refine zZ ?_;conv=>whnf)
  exact⟨_, .ag (DB ⟨8,b⟩),Jp g s 8 D,fun _ _ h=>h,zR (s:= [0,1,2,3]) tA,rfl,rfl⟩
 ·rw [if_neg h0];conv=>whnf
  repeat' (refine zZ ?_;conv=>whnf)
  refine Am (fun h8=>absurd (by simpa using h8) he) (fun _=>?_);conv=>whnf
  repeat' (refine zZ ?_;conv=>whnf)
  exact⟨_, .ag (DB ⟨e,b⟩),Jp g s 0 D,fun _ _ h=>h,zR (s:= [0,1,2,3]) tA,rfl,rfl⟩
theorem UF (g:Geo) (s:Stt) (e:Int) (d:Dk) (a:Int) (b:List UInt8) (he:e≠0) :
  ACalls Tryz.prog false 88 [.bp 0 0,iv a,bA b] (Jp g s e d) fun r H=>r = .v (.bool false)/\H=Jp g s e d:=by
 have hb:(e != 0)=true:=bne_iff_ne.2 he;refine zS tys_ok Tryz.func88 rfl rfl (Ag rfl) ?_;conv=>whnf
 rw [hb];exact⟨_, .v (.bool false),Jp g s e d,fun _ _ h=>h,zR (s:= [0,1,2,3]) tA,rfl,rfl⟩
theorem UE (g:Geo) (s:Stt) (d:Dk) (a:Int) (b:List UInt8) (h:DkOk d) (ha:0<=a/\a<d.cells.length) (hb:b.length<=200) :
  ACalls Tryz.prog false 88 [.bp 0 0,iv a,bA b] (Jp g s 0 d) fun r H=>r = .v (.bool (decide ((d.write a b).2=0)))/\H=Jp g s (if (d.write a b).2=8 then 8 else 0) (d.write a b).1:=by
 have hr:=S0 d a b h.l ha h.m (by omega);have he:=Mt d a b;generalize d.write a b=q at hr he |-
 obtain⟨D,e⟩:=q;simp only at hr he |-
 refine zS tys_ok Tryz.func88 rfl rfl (Ag rfl) ?_;conv=>whnf
 refine zh [1,2,3] hr ?_;rintro _ _ ⟨rfl,rfl⟩;rcases he with rfl | rfl | rfl
 all_goals
  conv=>whnf
  repeat' (refine zZ ?_;conv=>whnf)
 ·exact⟨_, .v (.bool false),Jp g s 8 D,fun _ _ h=>h,zR (s:= [0,1,2,3]) tA,rfl,rfl⟩
 ·exact⟨_, .v (.bool false),Jp g s 0 D,fun _ _ h=>h,zR (s:= [0,1,2,3]) tA,rfl,rfl⟩
 ·exact⟨_, .v (.bool true),Jp g s 0 D,fun _ _ h=>h,zR (s:= [0,1,2,3]) tA,rfl,rfl⟩
theorem UX (g:Geo) (s:Stt) (e:Int) (d:Dk) (h:DkOk d) :
  ACalls Tryz.prog false 90 [.bp 0 0] (Jp g s e d) fun r H=>r = .tp []/\H=N9 g s (if e=0 then if d.left=0 then 8 else 0 else e) (if e=0 then if d.left=0 then d else d.flush else d):=by
 have hf:=SE d h.l h.m (fun w hw=>(h.w w hw).1) (fun w hw=>by have:=(h.w w hw).2;omega);by_cases he:e=0
 ·subst he;rw [if_pos rfl,if_pos rfl];refine zS tys_ok Tryz.func90 rfl rfl (Ag rfl) ?_;conv=>whnf
  refine zh [1,2,3] hf ?_;rintro _ _ ⟨rfl,rfl⟩;by_cases h0:d.left=0;all_goals
   simp only [h0,if_true,if_false];exact⟨_, .tp [],N9 g s _ _,fun _ _ h=>h,zR (s:= [0,1,2,3,4]) tA,rfl,rfl⟩
 ·rw [if_neg he,if_neg he];have hb:(e == 0)=false:=beq_eq_false_iff_ne.2 he;refine zS tys_ok Tryz.func90 rfl rfl (Ag rfl) ?_;conv=>whnf
  rw [hb];exact⟨_, .tp [],N9 g s e d,fun _ _ h=>h,zC (zK (Yn g s e d)) (s:= [0,1,2,3,4]) tA,rfl,rfl⟩
theorem JR {d:Dk} {l:List Wr} {k:Nat} (hk:k<l.length) (h:(d.writes (l.take k)).2.2=true):d.writes (l.take (k+1))=d.writes (l.take k):=by
 rw [FV d hk,Ot _ h]
def T5 (b:Bool):Int:=if b then 8 else 0
theorem OS (g:Geo) (s:Stt) (d:Dk) (a:An) (hg:Bq g=true) (ha:Bv g a=true) (h:DkOk d) (hl:∀ w∈Bg g a,Rx d.cells.length w) :
  ACalls Tryz.prog false 100 [.bp 0 0, .ag (EJ a)] (Jp g s 0 d) fun r H=>r = iv ((d.writes (Bg g a)).2.1:Nat)/\H=N9 g s (T5 (d.putAll (Bg g a)).2.2) (d.putAll (Bg g a)).1:=by
 obtain⟨g1,g2,g3,g4,g5⟩:=Ar.1 hg;have hlen:=Fw g a;refine zS tys_ok Tryz.func100 rfl rfl (Ag rfl) ?_;conv=>whnf
 refine zU Nat (fun k=>([(0, .bp 0 0),(3, .bp 4 0),(5, .v (.int .i64 (d.writes ((Bg g a).take k)).2.1)),(6,iv k)],Zz g s (T5 (d.writes ((Bg g a).take k)).2.2) (d.writes ((Bg g a).take k)).1 [.box 33 (EJ a)])) (fun k=>k<=(Bg g a).length/\(d.writes ((Bg g a).take k)).2.1<=k) (fun k=>(Bg g a).length - k) 0 ⟨Aj _,Ah _⟩
  (zR (s:= [0,1,2,3,4]) tA) ?_
 rintro k ⟨hk,hnk⟩;have hd:=H6 h hl k;conv=>whnf
 refine A6 (fun h6=>?_) (fun h6=>?_) <;> (repeat rw [Aa] at h6) <;> conv=>whnf
 ·have hk':k<(Bg g a).length:=by omega
  have hm:=hl _ (A5 (d:=(⟨0, []⟩:Wr)) hk');have hrc:=Lj g a k hg ha (by omega);have hlive:=fun hlv=>Ky (d:=d) hk' hlv
  have hstay:=fun hlv=>JR (d:=d) hk' hlv
  rw [Ko (by omega)] at hlive hm;generalize hX:d.writes ((Bg g a).take k)=Q at hd hlive hstay hnk |-
  obtain⟨X,N,dead⟩:=Q;simp only at hd hlive hstay hnk;repeat' (refine zZ ?_;conv=>whnf)
  refine z_ hrc ?_;conv=>whnf
  cases dead with
  | true=>
   have hx:=hstay rfl;have hc:=UF g s 8 X k (Dg a k) (by decide);refine zh [0,1,2,3] hc ?_;rintro _ _ ⟨rfl,rfl⟩;conv=>whnf
   repeat' (refine zZ ?_;conv=>whnf)
   refine⟨k+1,⟨hk',by rw [hx];simp only;omega⟩,by omega,?_⟩;rw [hx];exact zR (s:= [0,1,2,3,4]) ⟨⟨rfl,rfl,rfl,AR (by omega),tv⟩,tA,rfl,rfl,rfl,rfl,rfl⟩
  | false=>
   have hx:=hlive rfl;have hc:=UE g s X k (Dg a k) hd.1 (by rw [hd.2];exact hm.1) hm.2;have hE:=Mt X k (Dg a k);generalize hQ:X.write k (Dg a k)=Q at hc hx hE;obtain⟨D,e⟩:=Q;simp only at hx hE hc;refine zh [0,1,2,3] hc ?_;rintro _ _ ⟨rfl,rfl⟩;rcases hE with rfl | rfl | rfl
   ·have hx:d.writes ((Bg g a).take (k+1))=(D,N,true):=hx;conv=>whnf
    repeat' (refine zZ ?_;conv=>whnf)
    refine⟨k+1,⟨hk',by rw [hx];simp only;omega⟩,by omega,?_⟩;rw [hx];exact zR (s:= [0,1,2,3,4]) ⟨⟨rfl,rfl,rfl,AR (by omega),tv⟩,tA,rfl,rfl,rfl,rfl,rfl⟩
   ·have hx:d.writes ((Bg g a).take (k+1))=(D,N,false):=hx;conv=>whnf
    repeat' (refine zZ ?_;conv=>whnf)
    refine⟨k+1,⟨hk',by rw [hx];simp only;omega⟩,by omega,?_⟩;rw [hx];exact zR (s:= [0,1,2,3,4]) ⟨⟨rfl,rfl,rfl,AR (by omega),tv⟩,tA,rfl,rfl,rfl,rfl,rfl⟩
   ·have hx:d.writes ((Bg g a).take (k+1))=(D,N+1,false):=hx;conv=>whnf
    repeat' (refine zZ ?_;conv=>whnf)
    refine⟨k+1,⟨hk',by rw [hx];simp only;omega⟩,by omega,?_⟩;rw [hx];exact zR (s:= [0,1,2,3,4]) ⟨⟨rfl,rfl,(show _=AV.v (Value.int IntKind.i64 ((N+1:Nat):Int)) from AR (show N<1000000000000 by omega)),AR (by omega),tv⟩,tA,rfl,rfl,rfl,rfl,rfl⟩
 ·have ek:k=(Bg g a).length:=by omega
  subst ek;rw [Ay] at hd hnk;rw [Ay];have hpd:=Fq (d:=d) (l:=Bg g a);have hpl:=Ey (d:=d) (l:=Bg g a);generalize d.writes (Bg g a)=Q at hpd hpl hd |-
  obtain⟨X,N,dead⟩:=Q;simp only at hpd hpl hd;have hf:=UX g s (T5 dead) X hd.1;cases dead with
  | true=>
   rw [hpd rfl];refine zh [0,1,2,3] hf ?_;rintro _ _ ⟨rfl,rfl⟩;exact⟨_,iv (N:Nat),N9 g s 8 X,fun _ _ h=>h,zR (s:= [0,1,2,3,5]) tA,rfl,rfl⟩
  | false=>
   rw [hpl rfl];refine zh [0,1,2,3] hf ?_;rintro _ _ ⟨rfl,rfl⟩;by_cases hX0:X.left=0;all_goals
    simp only [hX0,T5,Cv,if_true,if_false];exact⟨_,iv (N:Nat),N9 g s _ _,fun _ _ h=>h,zR (s:= [0,1,2,3,5]) tA,rfl,rfl⟩
theorem ACalls.lendBox {P:Program} {q:Bool} {f:FuncId} {x:AV} {H:List AB} {K:AV->List AB->Prop} (j k:Nat) {t t':TypeId} {sz':Nat} {cs cs2:List AV} {es':List (List AV)} (hj:H[j]? = some (.box t cs)) (hk:H[k]? = some (.row t' sz' es'))
  (he:cs.map (AV.slIn k es'.length (.sl sz' es'.length fun i=>es'.getD i []))=cs2) (hc:ACalls P q f [x, .ag cs2] ((H.set k .dead).set j (.box t cs2)) K):ACalls P q f [x, .ag cs] H K:=by
 refine⟨hc.go,fun w0 M0 c us hs hr=>?_⟩;subst he;have hjk:j≠k:=by rintro rfl;rw [hj] at hk;cases hk
 obtain⟨c1,e1,s1,x1,r1⟩:=hs.freeze hk;have hj1:(H.set k .dead)[j]? = some (.box t cs):=by rw [AC (Ne.symm hjk)];exact hj
 have h8:∀ (l:List AV) (us:List Value),RdL l c us->RdL (l.map (AV.slIn k es'.length (.sl sz' es'.length fun i=>es'.getD i []))) c1 us:=by
  intro l;induction l with
  | nil=>intro us h;simp only [RdL] at h;subst h;simp [RdL]
  | cons x l ih=>
   intro us h;simp only [RdL] at h;obtain⟨u,vs,rfl,a1,a2⟩:=h;simp only [A8,RdL];refine⟨u,vs,rfl,?_,ih vs a2⟩;unfold AV.slIn;split
   ·rename_i i n;split
    ·rename_i hik;subst hik;split
     ·rename_i hn;subst hn;exact r1 u a1
     ·simp [Rd]
    ·exact Rd.ext _ x1 a1
   ·exact Rd.ext _ x1 a1
 have s2:HS w0 M0 c1 ((H.set k .dead).set j (.box t (cs.map (AV.slIn k es'.length (.sl sz' es'.length fun i=>es'.getD i []))))):=by
  refine s1.recell hj1 rfl ?_;rintro⟨g,xs,h1,h2,_,h4⟩;obtain⟨g0,ys,q1,q2,q3,_⟩:=hs.blk j _ hj;have hg:=x1.box j _ (hs.klt hj) q1;rw [h1] at hg;injection hg with hg
  injection hg with hg
  injection hg with hg
  subst hg;rw [e1,q2] at h2;injection h2 with h2
  have hxy:ys.toArray=xs.toArray:=by injection h2
  have hxy:ys=xs:=by simpa using hxy
  subst hxy;exact⟨g,ys,h1,by rw [e1];exact q2,h8 _ _ q3,h4⟩
 have hr2:RdL [x, .ag (cs.map (AV.slIn k es'.length (.sl sz' es'.length fun i=>es'.getD i [])))] c1 us:=by
  simp only [RdL] at hr;obtain⟨u1,_,rfl,p1,u2,_,rfl,p2,rfl⟩:=hr;simp only [Rd] at p2;obtain⟨zs,rfl,p3⟩:=p2;simp only [RdL];exact⟨u1,_,rfl,Rd.ext _ x1 p1,_,_,rfl,by simp only [Rd];exact⟨zs,rfl,h8 _ _ p3⟩,rfl⟩
 have:=hc.calls w0 M0 c1 us s2 hr2;rw [e1] at this;refine this.mono ?_;rintro e w' ⟨v,c',r,H2,rfl,rfl,q1,q2,q3,q4,q5⟩;exact⟨v,c',r,H2,rfl,rfl,q1,q2,x1.trans q3,q4,q5⟩
theorem nums_ones:∀ (n:Nat) (r:List Int) (c:List UInt8),n<=c.length->nums (Fy n ++ r) c=((List.range n).map fun i=>((c.getD i 0).toNat:Int)) ++ nums r (c.drop n)
 | 0,r,c,_=>rfl
 | n+1,r, [],h=>by simp at h
 | n+1,r,x::c,h=>by
  have ih:=nums_ones n r c (by simpa using h);rw [show Fy (n+1) ++ r=1::(Fy n ++ r) from rfl,List.range_succ_eq_map,A8,List.map_map];show (leN ((x::c).take 1):Int)::nums (Fy n ++ r) ((x::c).drop 1)=_;rw [show (x::c).drop 1=c from rfl,ih];simp [leN]
theorem Xy (n:Nat) (c:List UInt8) (h:n+5<=c.length):JI n c=⟨(List.range n).map fun i=>((c.getD i 0).toNat:Int),((c.getD n 0).toNat:Int),(leN ((c.drop (n+1)).take 4):Nat)⟩:=by
 have e:=nums_ones (n+1) [4] c (by omega);rw [show Fy (n+1) ++ [4]=Qi n from rfl] at e;unfold JI;rw [e];have h1:List.take n ((List.range (n+1)).map (fun i=>((c.getD i 0).toNat:Int)) ++ nums [4] (c.drop (n+1)))=(List.range n).map fun i=>((c.getD i 0).toNat:Int):=by
  rw [Bh,A0,A7,List.take_left' (by simp)]
 have h2:((List.range (n+1)).map (fun i=>((c.getD i 0).toNat:Int)) ++ nums [4] (c.drop (n+1))).getD n 0=((c.getD n 0).toNat:Int):=by
  rw [Ab,AA (by simp),AZ,Br (by omega)];try rfl
 have h3:((List.range (n+1)).map (fun i=>((c.getD i 0).toNat:Int)) ++ nums [4] (c.drop (n+1))).getD (n+1) 0=(leN ((c.drop (n+1)).take 4):Nat):=by
  rw [Ab,A9 (by simp)];simp [nums]
 rw [h1,h2,h3]
theorem Y0 (b:List UInt8) (h:17<=b.length):(nums szA b).getD 0 0=(leN (b.take 4):Nat)/\(nums szA b).getD 1 0=(leN ((b.drop 4).take 4):Nat)/\(nums szA b).getD 2 0=(leN ((b.drop 8).take 4):Nat)/\(nums szA b).getD 3 0=(leN ((b.drop 12).take 4):Nat)/\(nums szA b).getD 4 0=((b.getD 16 0).toNat:Int):=by
 refine⟨rfl,rfl,?_,?_,?_⟩
 ·show ((leN ((((b.drop 4).drop 4)).take 4):Nat):Int)=_;rw [AT]
 ·show ((leN (((((b.drop 4).drop 4).drop 4)).take 4):Nat):Int)=_;rw [AT,AT]
 ·show ((leN ((((((b.drop 4).drop 4).drop 4)).drop 4).take 1):Nat):Int)=_;rw [AT,AT,AT];have e:b.drop 16=b.getD 16 0::b.drop 17:=by
   rw [Ab,Ae (by omega)];exact A_ (by omega)
  show ((leN ((b.drop 16).take 1):Nat):Int)=_;rw [e];exact congrArg (fun n:Nat=>(n:Int)) (show (b.getD 16 0).toNat+256*0=(b.getD 16 0).toNat by omega)
def XL (n:Nat) (c:List UInt8):List (List AV):=(List.range n).map fun i=> [iv ((c.getD i 0).toNat:Int)]
theorem Wi (n:Nat) (c:List UInt8):XL (n+1) c=XL n c ++ [[iv ((c.getD n 0).toNat:Int)]]:=by simp [XL,Bh]
theorem Sf (n:Nat) (c:List UInt8):(XL n c).length=n:=by simp [XL]
theorem wb (x:UInt8):IntKind.i64.wrap (x.toNat:Int)=(x.toNat:Int):=wi (by have:=x.toNat_lt;omega)
theorem S8 (g:Geo) (b:List UInt8) (hg:Bq g=true) (hb:b.length<=100000):Fn Tryz.prog 271 [.ag (Ba g),bA b] fun r=>r = .tp [.ag (EJ ((EM g b).getD an0)), .v (.bool (EM g b).isSome)]:=by
 obtain⟨g1,g2,g3,g4,g5⟩:=Ar.1 hg;have Ga:∀ (e:Value) (c:Ctx) (v:Value),Rd (.tp [.ag [iv 0,iv 0,iv 0,iv 0,iv 0, .v (.string ⟨#[]⟩), .v (.slice none 0 0)], .v e]) c v->Rd (.tp [.ag (EJ an0), .v e]) c v:=fun e=>BL (m:= [.ag (EJ an0), .v e]) ⟨Bk an0_sub,ri,tv⟩
 by_cases h18:b.length<18
 ·have hN:EM g b=none:=by
   rw [EM];split
   ·rfl
   ·rw [show Iv (b.drop 17)=none by rw [Iv,if_pos (by rw [Ak];omega)]]
  rw [hN];refine zT Tryz.func271 rfl ?_;conv=>whnf
  refine A6 (fun _=>?_) (fun hq=>absurd h18 (by omega));exact⟨_,Ga _,rfl⟩
 ·obtain⟨n0,n1,n2,n3,n4⟩:=Y0 b (by omega);have q0:=Fk b 4 (by omega) (by decide);have q1:=Fk (b.drop 4) 4 (by rw [Ak];omega) (by decide);have q2:=Fk (b.drop 8) 4 (by rw [Ak];omega) (by decide);have q3:=Fk (b.drop 12) 4 (by rw [Ak];omega) (by decide);rw [<-n0] at q0;rw [<-n1] at q1;rw [<-n2] at q2;rw [<-n3] at q3;have hr:=S7 (b.drop 17) (by rw [Ak];omega);have hdl:(b.drop 17).length=b.length - 17:=Ak ..
  cases hL:Iv (b.drop 17) with
  | none=>
   have hN:EM g b=none:=by rw [EM,if_neg (by omega),hL]
   rw [hL] at hr;rw [hN];refine zT Tryz.func271 rfl ?_;conv=>whnf
   refine A6 (fun hq=>absurd hq (by omega)) (fun hq=>?_);conv=>whnf
   apply zz (0) tys_ok mixed (.o [0,2,3,5,6,8,9,11,12,13,14] (.two 1 (.two 4 (.two 7 (.two 10 (.o [15,16,17] .fin) 16 (.o [10,15,17] .fin)) 16 (.o [7,10,15,17] .fin)) 16 (.o [4,7,10,15,17] .fin)) 16 (.o [1,4,7,10,15,17] .fin))) [6,17,18,19,20,21,22,23,24,25,26,27,28,29,30,31,32] (by kernel_rfl)
   ·conv=>whnf
    try (refine tI ?_;conv=>whnf)
    try (refine tI ?_;conv=>whnf)
    try (refine tI ?_;conv=>whnf)
    try (refine tI ?_;conv=>whnf)
    refine Af ?_ ?_
    ·conv=>whnf
     refine z_ q0 ?_;refine Af ?_ ?_
     ·conv=>whnf
      (refine zY [bA (b.drop 4),iv 4] ⟨AS (by omega),ri,tv⟩ ?_;refine z_ q1 ?_)
      refine Af ?_ ?_
      ·conv=>whnf
       (refine zY [bA (b.drop 8),iv 4] ⟨AS (by omega),ri,tv⟩ ?_;refine z_ q2 ?_)
       refine Af ?_ ?_
       ·conv=>whnf
        (refine zY [bA (b.drop 12),iv 4] ⟨AS (by omega),ri,tv⟩ ?_;refine z_ q3 ?_)
        conv=>whnf
        try (refine tS ?_;conv=>whnf)
        exact tA
       ·conv=>whnf
        (refine zY [bA (b.drop 12),iv 4] ⟨AS (by omega),ri,tv⟩ ?_;refine z_ q3 ?_)
        conv=>whnf
        try (refine tS ?_;conv=>whnf)
        exact tA
      ·conv=>whnf
       (refine zY [bA (b.drop 8),iv 4] ⟨AS (by omega),ri,tv⟩ ?_;refine z_ q2 ?_)
       conv=>whnf
       (refine zY [bA (b.drop 12),iv 4] ⟨AS (by omega),ri,tv⟩ ?_;refine z_ q3 ?_)
       conv=>whnf
       try (refine tS ?_;conv=>whnf)
       exact tA
     ·conv=>whnf
      (refine zY [bA (b.drop 4),iv 4] ⟨AS (by omega),ri,tv⟩ ?_;refine z_ q1 ?_)
      conv=>whnf
      (refine zY [bA (b.drop 8),iv 4] ⟨AS (by omega),ri,tv⟩ ?_;refine z_ q2 ?_)
      conv=>whnf
      (refine zY [bA (b.drop 12),iv 4] ⟨AS (by omega),ri,tv⟩ ?_;refine z_ q3 ?_)
      conv=>whnf
      try (refine tS ?_;conv=>whnf)
      exact tA
    ·conv=>whnf
     refine z_ q0 ?_;conv=>whnf
     (refine zY [bA (b.drop 4),iv 4] ⟨AS (by omega),ri,tv⟩ ?_;refine z_ q1 ?_)
     conv=>whnf
     (refine zY [bA (b.drop 8),iv 4] ⟨AS (by omega),ri,tv⟩ ?_;refine z_ q2 ?_)
     conv=>whnf
     (refine zY [bA (b.drop 12),iv 4] ⟨AS (by omega),ri,tv⟩ ?_;refine z_ q3 ?_)
     conv=>whnf
     try (refine tS ?_;conv=>whnf)
     exact tA
   conv=>whnf
   rw [wb,show b.getD (Int.toNat 16) 0=b.getD 16 0 from rfl,<-n4];refine⟨⟨by omega,by omega,by omega,by omega⟩,?_⟩;conv=>whnf
   refine zY [bA (b.drop 17)] ⟨AS (by omega),tv⟩ ?_;refine z_ hr ?_;conv=>whnf
   rw [show IntKind.i64.wrap (17+0)=17 from rfl];refine⟨⟨by omega,by omega,by omega,by omega⟩,?_⟩;exact⟨_,Ga _,rfl⟩
  | some q=>
   obtain⟨s,u⟩:=q;obtain⟨u1,u2,u3,u4⟩:=MT hL;rw [hL] at hr;simp only at hr;have hss:s.size=s.data.toList.length:=rfl;have hs24:=I_ u4;have wu:IntKind.i64.wrap (17+(u:Int))=17+u:=wi (by omega);have hmb:g.z*(g.d+6)<=4*10:=Int.mul_le_mul (by omega) (by omega) (by omega) (by omega);have hm0:0<=g.z*(g.d+6):=CO (by omega) (by omega);have wm:IntKind.i64.wrap (g.z*IntKind.i64.wrap (g.d+6))=g.z*(g.d+6):=by rw [wi (n:=g.d+6) (by omega)];exact wi (by omega)
   have hmn:g.z*(g.d+6)=((g.z.toNat*(g.d.toNat+6):Nat):Int):=by rw [Int.natCast_mul,Int.natCast_add];congr 1 <;> omega
   have hu0:((u:Int) == 0)=false:=beq_eq_false_iff_ne.2 (by omega);have hdl2:(b.drop (17+u)).length=b.length - (17+u):=Ak ..
   obtain⟨A,hA⟩:∃ A,A=LW (g.d.toNat+1) g.z.toNat b s u:=⟨_,rfl⟩;have hR0:EM g b=if b.length≠17+u+g.z.toNat*(g.d.toNat+6) then none else if Bv g A then some A else none:=by rw [EM,if_neg (by omega),hL,hA]
   by_cases hlen:b.length=17+u+g.z.toNat*(g.d.toNat+6)
   ·rw [if_neg (by omega)] at hR0;refine zT Tryz.func271 rfl ?_;conv=>whnf
    refine A6 (fun hq=>absurd hq (by omega)) (fun hq=>?_);conv=>whnf
    apply zz (0) tys_ok mixed (.o [0,2,3,5,6,8,9,11,12,13,14] (.two 1 (.two 4 (.two 7 (.two 10 (.o [15,16,17] .fin) 16 (.o [10,15,17] .fin)) 16 (.o [7,10,15,17] .fin)) 16 (.o [4,7,10,15,17] .fin)) 16 (.o [1,4,7,10,15,17] .fin))) [6,17,18,19,20,21,22,23,24,25,26,27,28,29,30,31,32] (by kernel_rfl)
    ·conv=>whnf
     try (refine tI ?_;conv=>whnf)
     try (refine tI ?_;conv=>whnf)
     try (refine tI ?_;conv=>whnf)
     try (refine tI ?_;conv=>whnf)
     refine Af ?_ ?_
     ·conv=>whnf
      refine z_ q0 ?_;refine Af ?_ ?_
      ·conv=>whnf
       (refine zY [bA (b.drop 4),iv 4] ⟨AS (by omega),ri,tv⟩ ?_;refine z_ q1 ?_)
       refine Af ?_ ?_
       ·conv=>whnf
        (refine zY [bA (b.drop 8),iv 4] ⟨AS (by omega),ri,tv⟩ ?_;refine z_ q2 ?_)
        refine Af ?_ ?_
        ·conv=>whnf
         (refine zY [bA (b.drop 12),iv 4] ⟨AS (by omega),ri,tv⟩ ?_;refine z_ q3 ?_)
         conv=>whnf
         try (refine tS ?_;conv=>whnf)
         exact tA
        ·conv=>whnf
         (refine zY [bA (b.drop 12),iv 4] ⟨AS (by omega),ri,tv⟩ ?_;refine z_ q3 ?_)
         conv=>whnf
         try (refine tS ?_;conv=>whnf)
         exact tA
       ·conv=>whnf
        (refine zY [bA (b.drop 8),iv 4] ⟨AS (by omega),ri,tv⟩ ?_;refine z_ q2 ?_)
        conv=>whnf
        (refine zY [bA (b.drop 12),iv 4] ⟨AS (by omega),ri,tv⟩ ?_;refine z_ q3 ?_)
        conv=>whnf
        try (refine tS ?_;conv=>whnf)
        exact tA
      ·conv=>whnf
       (refine zY [bA (b.drop 4),iv 4] ⟨AS (by omega),ri,tv⟩ ?_;refine z_ q1 ?_)
       conv=>whnf
       (refine zY [bA (b.drop 8),iv 4] ⟨AS (by omega),ri,tv⟩ ?_;refine z_ q2 ?_)
       conv=>whnf
       (refine zY [bA (b.drop 12),iv 4] ⟨AS (by omega),ri,tv⟩ ?_;refine z_ q3 ?_)
       conv=>whnf
       try (refine tS ?_;conv=>whnf)
       exact tA
     ·conv=>whnf
      refine z_ q0 ?_;conv=>whnf
      (refine zY [bA (b.drop 4),iv 4] ⟨AS (by omega),ri,tv⟩ ?_;refine z_ q1 ?_)
      conv=>whnf
      (refine zY [bA (b.drop 8),iv 4] ⟨AS (by omega),ri,tv⟩ ?_;refine z_ q2 ?_)
      conv=>whnf
      (refine zY [bA (b.drop 12),iv 4] ⟨AS (by omega),ri,tv⟩ ?_;refine z_ q3 ?_)
      conv=>whnf
      try (refine tS ?_;conv=>whnf)
      exact tA
    conv=>whnf
    rw [wb,show b.getD (Int.toNat 16) 0=b.getD 16 0 from rfl,<-n4];refine⟨⟨by omega,by omega,by omega,by omega⟩,?_⟩;conv=>whnf
    refine zY [bA (b.drop 17)] ⟨AS (by omega),tv⟩ ?_;refine z_ hr ?_;conv=>whnf
    rw [wu];refine⟨⟨by omega,by omega,by omega,by omega⟩,?_⟩;conv=>whnf
    rw [hu0];conv=>whnf
    rw [wm];refine A6 (fun hq=>absurd hq (by simp only [bne_iff_ne,ne_eq] at *;omega)) (fun hq=>?_);conv=>whnf
    have hsub:∀ (c:Ctx) (v:Value),Rd (.sl 1 ((b.length:Int).toNat - ((17:Int)+u).toNat) fun i=> [AV.v (Value.int IntKind.u8 (b.getD (i+((17:Int)+u).toNat) 0).toNat)]) c v->Rd (bA (b.drop (17+u))) c v:=by
     rw [show ((17:Int)+u).toNat=17+u by omega];exact AS (by omega)
    have hcl:∀ k,k<g.z.toNat->(g.d.toNat+1)+5<=(b.drop (17+u+(g.d.toNat+6)*k)).length:=fun k hk=>by
     have h1:(g.d.toNat+6)*(k+1)<=(g.d.toNat+6)*g.z.toNat:=Nat.mul_le_mul_left _ (by omega);rw [Nat.mul_succ,Nat.mul_comm (g.d.toNat+6) g.z.toNat] at h1;rw [Ak];omega
    refine zU Nat (fun k=>([(1,bA b),(2, .bp 0 0),(4, .bp 1 0),(6, .bp 2 0),(9,bA (b.drop (17+u+(g.d.toNat+6)*k))),(10,iv k)], [.box 23 (Ba g), .box 33 [iv 0,iv 0,iv 0,iv 0,iv 0, .v (.string ⟨#[]⟩), .v (.slice none 0 0)], .box 33 [iv ((nums szA b).getD 0 0),iv ((nums szA b).getD 1 0),iv ((nums szA b).getD 4 0),iv ((nums szA b).getD 2 0),iv ((nums szA b).getD 3 0), .v (.string s), .ow 3 k], .row 177 3 ((En (g.d.toNat+1) k (b.drop (17+u))).map Jq)])) (fun k=>k<=g.z.toNat) (fun k=>g.z.toNat - k) 0 (Aj _)
     ?_ ?_
    ·refine⟨_,_,zE 9 (y:=bA (b.drop (17+u))) rfl hsub, [(1002006,177,3)],tA, [0,1,2,3],tA⟩
    ·intro k hk;conv=>whnf
     refine A6 (fun h6=>?_) (fun h6=>?_) <;> (repeat rw [Aa] at h6) <;> conv=>whnf
     ·have hk':k<g.z.toNat:=by omega
      have hc5:=hcl k hk';have hE:=Xy (g.d.toNat+1) (b.drop (17+u+(g.d.toNat+6)*k)) hc5;have hdd:(b.drop (17+u+(g.d.toNat+6)*k)).drop (g.d.toNat+6)=b.drop (17+u+(g.d.toNat+6)*(k+1)):=by rw [AT,Nat.mul_succ,Nat.add_assoc]
      have hmm:(b.drop (17+u)).drop ((g.d.toNat+6)*k)=b.drop (17+u+(g.d.toNat+6)*k):=by rw [AT]
      have hst:=QT (g.d.toNat+1) k (b.drop (17+u));rw [show (g.d.toNat+1+5)=g.d.toNat+6 from rfl,hmm] at hst;generalize b.drop (17+u+(g.d.toNat+6)*k)=c at hc5 hE hdd hst |-
      refine zU Nat (fun i=>([(1,bA b),(2, .bp 0 0),(4, .bp 1 0),(6, .bp 2 0),(9,bA c),(10,iv k),(11, .bp 4 0),(12,iv i)], [.box 23 (Ba g), .box 33 [iv 0,iv 0,iv 0,iv 0,iv 0, .v (.string ⟨#[]⟩), .v (.slice none 0 0)], .box 33 [iv ((nums szA b).getD 0 0),iv ((nums szA b).getD 1 0),iv ((nums szA b).getD 4 0),iv ((nums szA b).getD 2 0),iv ((nums szA b).getD 3 0), .v (.string s), .ow 3 k], .row 177 3 ((En (g.d.toNat+1) k (b.drop (17+u))).map Jq), .box 177 [.ow 5 i,iv 0,iv 0], .row 3 1 (XL i c)])) (fun i=>i<=g.d.toNat+1) (fun i=>g.d.toNat+1 - i) 0 (Aj _)
       ⟨_,_,zB _ _, [(1004000,3,1)],tA, [0,1,2,3,4,5],tA⟩ ?_
      intro i hi;conv=>whnf
      refine A6 (fun h7=>?_) (fun h7=>?_) <;> (repeat rw [Aa] at h7) <;> conv=>whnf
      ·have hl:i=(XL i c).length:=(Sf i c).symm;apply zV (0) tys_ok mixed (.o [0,1,2,3,4,5,6,7,8,9,10] .fin) (by kernel_rfl);conv=>whnf
       try (refine tI ?_;conv=>whnf)
       try (refine tJ ?_;conv=>whnf)
       try (refine tK ?_;conv=>whnf)
       try (refine tS ?_;conv=>whnf)
       rw [wb];exact⟨i+1,by omega,by omega,zR (s:= [0,1,2,3,4,5]) ⟨⟨rfl,rfl,rfl,rfl,rfl,rfl,rfl,AR (by omega),tv⟩,⟨rfl,rfl,rfl,rfl,rfl,congrArg (fun l=>some (AB.row _ _ l)) (Wi i c).symm,tv⟩,rfl,rfl,rfl,rfl,rfl⟩⟩
      ·have ei:i=g.d.toNat+1:=by omega
       subst ei;have w1:IntKind.i64.wrap (g.d+1)=g.d+1:=wi (by omega);have w2:IntKind.i64.wrap (g.d+2)=g.d+2:=wi (by omega);have w6:IntKind.i64.wrap (g.d+6)=g.d+6:=wi (by omega);have hgr:=Fk (c.drop (g.d.toNat+1+1)) 4 (by rw [Ak];omega) (by decide);apply zV (0) tys_ok mixed (.o [0,1,2,3,4,5,6,7,8,9,10,11,13,12,14,15,16] .fin) (by kernel_rfl);conv=>whnf
       try (refine tI ?_;conv=>whnf)
       try (refine tI ?_;conv=>whnf)
       (refine zY [bA (c.drop (g.d.toNat+1+1)),iv 4] ⟨(by rw [w2,show (g.d+2).toNat=g.d.toNat+1+1 by omega];exact AS (by omega)),ri,tv⟩ ?_;refine z_ hgr ?_)
       conv=>whnf
       try (refine tS ?_;conv=>whnf)
       try (refine tS ?_;conv=>whnf)
       rw [w1,wb,show (g.d+1).toNat=g.d.toNat+1 by omega];refine Af (Sf _ _).symm ?_;refine⟨rfl,?_⟩;refine⟨⟨by rw [Ac,MX],by omega⟩,?_⟩;conv=>whnf
       rw [w6];refine⟨⟨by omega,by omega,by omega,by omega⟩,?_⟩;conv=>whnf
       have e':SubL [.sl 1 (g.d.toNat+1) fun i=>(XL (g.d.toNat+1) c).getD i [],iv ((c.getD (g.d.toNat+1) 0).toNat:Int),iv ((leN ((c.drop (g.d.toNat+1+1)).take 4):Nat):Int)] (Jq (JI (g.d.toNat+1) c)):=by
        rw [hE];refine⟨fun _ _ h=>zH (by simp) (fun i hi=>?_) h,fun _ _ h=>h,fun _ _ h=>h,tv⟩;have hi':i<g.d.toNat+1:=by simpa using hi
        rw [XL,Eu hi',Eu hi']
       have hs2:∀ (c':Ctx) (v:Value),Rd (.sl 1 ((c.length:Int).toNat - (g.d+6).toNat) fun i=> [AV.v (Value.int IntKind.u8 (c.getD (i+(g.d+6).toNat) 0).toNat)]) c' v->Rd (bA (b.drop (17+u+(g.d.toNat+6)*(k+1)))) c' v:=by
        rw [<-hdd,show (g.d+6).toNat=g.d.toNat+6 by omega];exact AS (by omega)
       refine⟨k+1,by omega,by omega,zC (zO (zK (ConvH.last 3 rfl e')) (zE 9 (y:=bA (b.drop (17+u+(g.d.toNat+6)*(k+1)))) rfl hs2)) (s:= [0,1,2,3]) ⟨⟨rfl,rfl,rfl,rfl,rfl,AR (by omega),tv⟩,⟨rfl,rfl,rfl,congrArg (fun l=>some (AB.row _ _ l)) (by rw [hst,A0];try rfl),tv⟩,rfl,rfl,rfl,rfl,rfl⟩⟩
     ·have ek:k=g.z.toNat:=by omega
      subst ek;have hAl:A.label.size<=1000000:=by rw [hA];show s.size<=_;omega
      have hck:=QD g A hg hAl;rw [hA] at hck;have hhl:(En (g.d.toNat+1) g.z.toNat (b.drop (17+u))).length=g.z.toNat:=MX _ _ _;refine ACalls.lendBox (cs2:= [iv ((nums szA b).getD 0 0),iv ((nums szA b).getD 1 0),iv ((nums szA b).getD 4 0),iv ((nums szA b).getD 2 0),iv ((nums szA b).getD 3 0), .v (.string s), .sl 3 ((En (g.d.toNat+1) g.z.toNat (b.drop (17+u))).map Jq).length fun i=>((En (g.d.toNat+1) g.z.toNat (b.drop (17+u))).map Jq).getD i []]) 2 3 rfl rfl ?_ ?_
      ·show [_,_,_,_,_,_,AV.slIn 3 _ _ (.ow 3 g.z.toNat)]=_;rw [AV.slIn,if_pos rfl,if_pos (by rw [Ac,hhl])];try rfl
      have hsa:SubL [iv ((nums szA b).getD 0 0),iv ((nums szA b).getD 1 0),iv ((nums szA b).getD 4 0),iv ((nums szA b).getD 2 0),iv ((nums szA b).getD 3 0), .v (.string s), .sl 3 ((En (g.d.toNat+1) g.z.toNat (b.drop (17+u))).map Jq).length fun i=>((En (g.d.toNat+1) g.z.toNat (b.drop (17+u))).map Jq).getD i []] (EJ (LW (g.d.toNat+1) g.z.toNat b s u)):=⟨ri,ri,ri,ri,ri,ri,B4 (f:=Jq) (En (g.d.toNat+1) g.z.toNat (b.drop (17+u))) (by rw [Ac]) rfl,tv⟩;refine zY [.ag (Ba g), .ag (EJ (LW (g.d.toNat+1) g.z.toNat b s u))] ⟨ri,Bk hsa,tv⟩ ?_;refine z_ hck ?_;conv=>whnf
      rw [<-hA];cases hok:Bv g A with
      | false=>
       rw [hR0,hok];exact⟨_,Ga _,rfl⟩
      | true=>
       rw [hR0,hok];conv=>whnf
       exact⟨.tp [.ag (EJ A), .v (.bool true)],BL ⟨Bk (by rw [hA];exact hsa),ri,tv⟩,rfl⟩
   ·have hN:EM g b=none:=by rw [hR0,if_pos hlen]
    rw [hN];refine zT Tryz.func271 rfl ?_;conv=>whnf
    refine A6 (fun hq=>absurd hq (by omega)) (fun hq=>?_);conv=>whnf
    apply zz (0) tys_ok mixed (.o [0,2,3,5,6,8,9,11,12,13,14] (.two 1 (.two 4 (.two 7 (.two 10 (.o [15,16,17] .fin) 16 (.o [10,15,17] .fin)) 16 (.o [7,10,15,17] .fin)) 16 (.o [4,7,10,15,17] .fin)) 16 (.o [1,4,7,10,15,17] .fin))) [6,17,18,19,20,21,22,23,24,25,26,27,28,29,30,31,32] (by kernel_rfl)
    ·conv=>whnf
     try (refine tI ?_;conv=>whnf)
     try (refine tI ?_;conv=>whnf)
     try (refine tI ?_;conv=>whnf)
     try (refine tI ?_;conv=>whnf)
     refine Af ?_ ?_
     ·conv=>whnf
      refine z_ q0 ?_;refine Af ?_ ?_
      ·conv=>whnf
       (refine zY [bA (b.drop 4),iv 4] ⟨AS (by omega),ri,tv⟩ ?_;refine z_ q1 ?_)
       refine Af ?_ ?_
       ·conv=>whnf
        (refine zY [bA (b.drop 8),iv 4] ⟨AS (by omega),ri,tv⟩ ?_;refine z_ q2 ?_)
        refine Af ?_ ?_
        ·conv=>whnf
         (refine zY [bA (b.drop 12),iv 4] ⟨AS (by omega),ri,tv⟩ ?_;refine z_ q3 ?_)
         conv=>whnf
         try (refine tS ?_;conv=>whnf)
         exact tA
        ·conv=>whnf
         (refine zY [bA (b.drop 12),iv 4] ⟨AS (by omega),ri,tv⟩ ?_;refine z_ q3 ?_)
         conv=>whnf
         try (refine tS ?_;conv=>whnf)
         exact tA
       ·conv=>whnf
        (refine zY [bA (b.drop 8),iv 4] ⟨AS (by omega),ri,tv⟩ ?_;refine z_ q2 ?_)
        conv=>whnf
        (refine zY [bA (b.drop 12),iv 4] ⟨AS (by omega),ri,tv⟩ ?_;refine z_ q3 ?_)
        conv=>whnf
        try (refine tS ?_;conv=>whnf)
        exact tA
      ·conv=>whnf
       (refine zY [bA (b.drop 4),iv 4] ⟨AS (by omega),ri,tv⟩ ?_;refine z_ q1 ?_)
       conv=>whnf
       (refine zY [bA (b.drop 8),iv 4] ⟨AS (by omega),ri,tv⟩ ?_;refine z_ q2 ?_)
       conv=>whnf
       (refine zY [bA (b.drop 12),iv 4] ⟨AS (by omega),ri,tv⟩ ?_;refine z_ q3 ?_)
       conv=>whnf
       try (refine tS ?_;conv=>whnf)
       exact tA
     ·conv=>whnf
      refine z_ q0 ?_;conv=>whnf
      (refine zY [bA (b.drop 4),iv 4] ⟨AS (by omega),ri,tv⟩ ?_;refine z_ q1 ?_)
      conv=>whnf
      (refine zY [bA (b.drop 8),iv 4] ⟨AS (by omega),ri,tv⟩ ?_;refine z_ q2 ?_)
      conv=>whnf
      (refine zY [bA (b.drop 12),iv 4] ⟨AS (by omega),ri,tv⟩ ?_;refine z_ q3 ?_)
      conv=>whnf
      try (refine tS ?_;conv=>whnf)
      exact tA
    conv=>whnf
    rw [wb,show b.getD (Int.toNat 16) 0=b.getD 16 0 from rfl,<-n4];refine⟨⟨by omega,by omega,by omega,by omega⟩,?_⟩;conv=>whnf
    refine zY [bA (b.drop 17)] ⟨AS (by omega),tv⟩ ?_;refine z_ hr ?_;conv=>whnf
    rw [wu];refine⟨⟨by omega,by omega,by omega,by omega⟩,?_⟩;conv=>whnf
    rw [hu0];conv=>whnf
    rw [wm];refine A6 (fun hq=>?_) (fun hq=>absurd hq (by omega));exact⟨_,Ga _,rfl⟩
theorem UL (g:Geo) (x:Gt) (addr:Int) (hg:Bq g=true) (hx:x.bytes.length<=100000):Fn Tryz.prog 247 [.ag (Ba g), .ag (DB x),iv addr] fun r=>r = .tp [.ag (EJ ((Ex g x addr).getD an0)), .v (.bool (Ex g x addr).isSome)]:=by
 have hs:=M5 x addr hx;by_cases h1:x.err=0/\CU x.bytes=0/\C9 x.bytes=addr
 ·have hr:=S8 g (Cz x.bytes) hg (by have:=Qn x.bytes;omega);have hS:Ex g x addr=match EM g (Cz x.bytes) with | some a=>if a.gen=Cj x.bytes then some a else none | none=>none:=by rw [Ex,if_pos h1];try rfl
  have hO:BQ x addr=some ⟨C9 x.bytes,Cj x.bytes,Cz x.bytes⟩:=by
   unfold BQ;simp [h1.1,h1.2.1,h1.2.2]
  rw [hO] at hs;cases hR:EM g (Cz x.bytes) with
  | none=>
   rw [hR] at hr hS;rw [hS];refine zT Tryz.func247 rfl ?_;conv=>whnf
   refine z_ hs ?_;conv=>whnf
   refine z_ hr ?_;exact⟨_,Ga _,rfl⟩
  | some a=>
   rw [hR] at hr hS;by_cases h4:a.gen=Cj x.bytes
   ·have hS:Ex g x addr=some a:=hS.trans (if_pos h4);rw [hS];refine zT Tryz.func247 rfl ?_;conv=>whnf
    refine z_ hs ?_;conv=>whnf
    refine z_ hr ?_;conv=>whnf
    refine A6 (fun hq=>absurd h4 hq) (fun _=>?_);exact⟨_,ri,rfl⟩
   ·have hS:Ex g x addr=none:=hS.trans (if_neg h4);rw [hS];refine zT Tryz.func247 rfl ?_;conv=>whnf
    refine z_ hs ?_;conv=>whnf
    refine z_ hr ?_;conv=>whnf
    refine A6 (fun _=>?_) (fun hq=>absurd hq h4);exact⟨_,Ga _,rfl⟩
 ·have hS:Ex g x addr=none:=by rw [Ex,if_neg h1]
  have hO:BQ x addr=none:=by
   unfold BQ;rw [if_neg h1]
  rw [hO] at hs;rw [hS];refine zT Tryz.func247 rfl ?_;conv=>whnf
  refine z_ hs ?_;exact⟨_,Ga _,rfl⟩
def ZJ (p:Option (An × Nat)):Int:=match p with | some (_,i)=>i | none=> -1
theorem Qv (g:Geo) (l:List Gt) (hg:Bq g=true) (hl:l.length<=1000000) (hb:∀ x∈l,x.bytes.length<=100000):Fn Tryz.prog 200 [.ag (Ba g),FG l] fun r=>r = .tp [.ag (EJ (ZK (Gl g l))),iv (ZJ (Gl g l))]:=by
 refine zT Tryz.func200 rfl ?_;conv=>whnf
 refine zU Nat (fun k=>([(1,FG l),(2, .bp 0 0),(4, .bp 1 0),(6, .bp 2 0),(7,iv (ZJ (EN g l k))),(8,iv k)], [.box 23 (Ba g), .box 33 [iv 0,iv 0,iv 0,iv 0,iv 0, .v (.string ⟨#[]⟩), .v (.slice none 0 0)], .box 33 (EJ (ZK (EN g l k)))])) (fun k=>k<=l.length) (fun k=>l.length - k) 0 (Aj _)
  (zC (zK (ConvH.subBox 2 rfl an0_sub)) (s:= [0,1,2]) tA) ?_
 intro k hk;have hsucc:=In g l k;conv=>whnf
 refine A6 (fun h6=>?_) (fun h6=>?_) <;> (repeat rw [Aa] at h6) <;> conv=>whnf
 ·have hk':k<l.length:=by omega
  have hx:=hb _ (A5 (d:=(⟨0, []⟩:Gt)) hk');have h2:=UL g (l.getD k ⟨0, []⟩) k hg hx;rw [OW] at hsucc;repeat' (refine zZ ?_;conv=>whnf)
  apply zz (0) tys_ok mixed (.o [0,1,2,3,4,5] (.two 6 (.o [7,8,9,10,11,12] .fin) 10 (.o [6,7,8,9,11,12] .fin))) [9,10,17,18,19,20,21,22,23,24,25,26] (by kernel_rfl)
  ·conv=>whnf
   try (refine tI ?_;conv=>whnf)
   refine Af ?_ ?_
   ·conv=>whnf
    (rw [Aa];refine z_ h2 ?_)
    conv=>whnf
    try (refine tS ?_;conv=>whnf)
    exact tA
   ·conv=>whnf
    (rw [Aa];refine z_ h2 ?_)
    conv=>whnf
    try (refine tS ?_;conv=>whnf)
    exact tA
  conv=>whnf
  generalize Ex g (l.getD k ⟨0, []⟩) (k:Nat)=S at hsucc |-
  generalize EN g l k=P at hsucc |-
  cases S with
  | none=>
   conv=>whnf
   repeat' (refine zZ ?_;conv=>whnf)
   refine⟨k+1,hk',by omega,?_⟩;rw [show EN g l (k+1)=P from hsucc];exact zR (s:= [0,1,2]) ⟨⟨rfl,rfl,rfl,rfl,rfl,AR (by omega),tv⟩,tA,rfl,rfl,rfl,rfl,rfl⟩
  | some b=>
   cases P with
   | none=>
    conv=>whnf
    repeat' (refine zZ ?_;conv=>whnf)
    refine⟨k+1,hk',by omega,?_⟩;rw [show EN g l (k+1)=some (b,k) from hsucc];exact zR (s:= [0,1,2]) ⟨⟨rfl,rfl,rfl,rfl,rfl,AR (by omega),tv⟩,tA,rfl,rfl,rfl,rfl,rfl⟩
   | some q=>
    obtain⟨a,j⟩:=q;conv=>whnf
    by_cases h5:a.gen<b.gen
    ·have e:EN g l (k+1)=some (b,k):=hsucc.trans (if_pos h5);refine A6 (fun h7=>?_) (fun h7=>absurd h5 (Int.not_lt.2 (show b.gen<=a.gen from h7)));conv=>whnf
     repeat' (refine zZ ?_;conv=>whnf)
     refine⟨k+1,hk',by omega,?_⟩;rw [e];exact zR (s:= [0,1,2]) ⟨⟨rfl,rfl,rfl,rfl,rfl,AR (by omega),tv⟩,tA,rfl,rfl,rfl,rfl,rfl⟩
    ·have e:EN g l (k+1)=some (a,j):=hsucc.trans (if_neg h5);refine A6 (fun h7=>absurd (show a.gen<b.gen from h7) h5) (fun h7=>?_);conv=>whnf
     repeat' (refine zZ ?_;conv=>whnf)
     refine⟨k+1,hk',by omega,?_⟩;rw [e];exact zR (s:= [0,1,2]) ⟨⟨rfl,rfl,rfl,rfl,rfl,AR (by omega),tv⟩,tA,rfl,rfl,rfl,rfl,rfl⟩
 ·have ek:k=l.length:=by omega
  subst ek;exact⟨_,ri,rfl⟩
def TxJ (g:Geo) (a:An) (x y:List Gt) (pos seq left:Int) (k:Nat) (of_:Int) (ims:List Img) (more:List Wr):Prop:=
 (k=0/\of_=0/\ims=[]/\more=[])\/((1<=k/\(k:Int)<=of_/\of_<=30/\of_<=left/\ims.length<=k/\more.length<=k)/\∃ r im,ims=(if r.kind=1 then im ++ [r.img] else im)/\
  FP g a x y pos seq left=(let t:=BA (fun j=>D7 g a x y pos seq left j of_) (of_ - k).toNat k r im more
   if t.1≠1 then (t.1,0, [], []) else (1,of_,t.2.1,t.2.2)))
section
variable {g:Geo} {a:An} {x y:List Gt} {pos seq left:Int}
theorem VA {look:Int->Rc × Int × List Wr} {f:Nat} {k:Int} {r:Rc} {im:List Img} {w:List Wr} (h:(look k).2.1=1):BA look (f+1) k r im w=BA look f (k+1) (look k).1 (if r.kind=1 then im ++ [r.img] else im) (w ++ (look k).2.2):=by
 conv=>lhs;unfold BA
 dsimp only;rw [if_neg (not_not_intro h)]
theorem V9 {look:Int->Rc × Int × List Wr} {f:Nat} {k:Int} {r:Rc} {im:List Img} {w:List Wr} (h:(look k).2.1≠1):BA look (f+1) k r im w=((look k).2.1, [], []):=by
 conv=>lhs;unfold BA
 dsimp only;rw [if_pos h]
theorem TxJ.step {k:Nat} {of_:Int} {ims:List Img} {more:List Wr} (h:TxJ g a x y pos seq left k of_ ims more) (hk:k=0\/(k:Int)<of_) {q:Rc × Int × List Wr} (hq:D7 g a x y pos seq left (k:Nat) of_=q) (h1:q.2.1=1) (ho:DP g q.1=true) (hi:DA q.1 a seq (k:Nat) of_ left=true) (hw:q.2.2.length<=1) :
  TxJ g a x y pos seq left (k+1) q.1.of_ (if q.1.kind=1 then ims ++ [q.1.img] else ims) (more ++ q.2.2):=by
 have hN:=J9 ho hi;have hlen:(if q.1.kind=1 then ims ++ [q.1.img] else ims).length<=ims.length+1:=by split <;> simp
 rcases h with ⟨rfl,rfl,rfl,rfl⟩ | ⟨⟨k1,k2,k3,k4,k5,k6⟩,r,im,e1,e2⟩
 ·refine .inr ⟨⟨by omega,by omega,by omega,hN.2.2.2.2.1 rfl,by simpa using hlen,by simpa using hw⟩,q.1, [],rfl,?_⟩;have hq:D7 g a x y pos seq left 0 0=q:=hq;unfold FP;dsimp only;rw [hq,if_neg (not_not_intro h1)];simp only [Bu];rfl
 ·have eo:q.1.of_=of_:=hN.2.2.2.2.2 (by omega);have hk:=hk.resolve_left (by omega);refine .inr ⟨⟨by omega,by omega,by omega,by omega,by omega,by rw [Ai];omega⟩,q.1,ims,rfl,?_⟩;rw [e2,eo];obtain⟨m,hm⟩:∃ m:Nat,(of_ - k).toNat=m+1:=⟨(of_ - k).toNat - 1,by omega⟩;rw [hm,VA (by rw [hq];exact h1),hq,<-e1,show (of_ - ((k+1:Nat):Int)).toNat=m by omega,show ((k:Int)+1)=((k+1:Nat):Int) by omega]
theorem TxJ.stop {k:Nat} {of_:Int} {ims:List Img} {more:List Wr} (h:TxJ g a x y pos seq left k of_ ims more) (hk:k=0\/(k:Int)<of_) {q:Rc × Int × List Wr} (hq:D7 g a x y pos seq left (k:Nat) of_=q) (h1:q.2.1≠1):FP g a x y pos seq left=(q.2.1,0, [], []):=by
 rcases h with ⟨rfl,rfl,rfl,rfl⟩ | ⟨⟨k1,k2,k3,k4,k5,k6⟩,r,im,e1,e2⟩
 ·have hq:D7 g a x y pos seq left 0 0=q:=hq;unfold FP;dsimp only;rw [hq,if_pos h1]
 ·have hk:=hk.resolve_left (by omega);obtain⟨m,hm⟩:∃ m:Nat,(of_ - k).toNat=m+1:=⟨(of_ - k).toNat - 1,by omega⟩;rw [e2,hm,V9 (by rw [hq];exact h1),hq];dsimp only;rw [if_pos h1]
theorem TxJ.fin {k:Nat} {of_:Int} {ims:List Img} {more:List Wr} (h:TxJ g a x y pos seq left k of_ ims more) (hk:¬(k=0\/(k:Int)<of_)):FP g a x y pos seq left=(1,of_,ims,more):=by
 rcases h with ⟨rfl,rfl,rfl,rfl⟩ | ⟨⟨k1,k2,k3,k4,k5,k6⟩,r,im,e1,e2⟩
 ·exact absurd (.inl rfl) hk
 ·rw [e2,show (of_ - k).toNat=0 by omega];unfold BA;dsimp only;rw [if_neg (by decide),<-e1]
theorem TxJ.len {k:Nat} {of_:Int} {ims:List Img} {more:List Wr} (h:TxJ g a x y pos seq left k of_ ims more):k<=30/\ims.length<=30/\more.length<=30/\0<=of_/\of_<=30:=by
 rcases h with ⟨rfl,rfl,rfl,rfl⟩ | ⟨⟨k1,k2,k3,k4,k5,k6⟩, -⟩
 ·simp
 ·omega
end
end
end Go.Proofs.YtepdhdfoipephaaGreatDoor.A
