/-
Several texts in one.
-/
import Derived.Test.YtepdhdfoipephaaGreatDoorPPD5P2
import Derived.Test.YtepdhdfoipephaaGreatDoorPPD5P1
import Derived.Test.YtepdhdfoipephaaGreatDoorPPD5P0
import Derived.ProofKit
import Derived.Deep.Slices
import Derived.OpenShut
set_option linter.defProp false
set_option maxRecDepth 100000
set_option maxHeartbeats 8000000
set_option linter.unusedSimpArgs false
set_option linter.unusedVariables false
set_option linter.deprecated false
namespace Go.Proofs.YtepdhdfoipephaaGreatDoor.A
section
open Go.RowKit
structure Stt where
 a:An
 txns:List Tx
 only:Bool
 cursor:Int
 found:Int
 fixed:Int
 moved:Int
 lost:List Int
 deriving DecidableEq
def Fe (s:Stt):List AV:= [iv s.a.gen,iv s.a.epoch,iv s.a.pos,iv s.a.seq,iv s.a.last, .v (.string s.a.label),Jr s.a.homes,DH s.txns, .v (.bool s.only),iv s.cursor,iv s.found,iv s.fixed,iv s.moved,iA s.lost]
def st0:Stt:=⟨an0, [],false,0,0,0,0, []⟩
@[reducible] def ax (g:Geo) (x:AV) (s:Stt):List AV:= [iv g.z,iv g.d,iv g.sp,iv g.sl,iv g.an,x,iv s.a.gen,iv s.a.epoch,iv s.a.pos,iv s.a.seq,iv s.a.last, .v (.string s.a.label),Jr s.a.homes,DH s.txns, .v (.bool s.only),iv s.cursor,iv s.found,iv s.fixed,iv s.moved,iA s.lost]
@[reducible] def ct (g:Geo) (s:Stt) (d:Dk):List AB:= [.box 116 (ax g (.bp 1 0) s), .box 185 (GX (.ow 2 d.cells.length) (.ow 3 d.cache.length) d.reqs d.left), .row 128 3 (d.cells.map B7), .row 134 2 (d.cache.map EE)]
@[reducible] def bwG (g:Geo) (s:Stt) (d:Dk):List AB:= [.box 116 (ax g (.bp 1 0) s), .box 185 (GX (.ow 2 d.cells.length) (.ow 4 d.cache.length) d.reqs d.left), .row 128 3 (d.cells.map B7), .dead, .row 134 2 (d.cache.map EE)]
theorem KT {m:Nat} (h:Nat.ble 4 m=true):∀ z∈ [1,2,3],z<m:=fun z hz=>by
 have:=Ag h;simp at hz;omega
theorem GV {m:Nat} (h:Nat.ble 4 m=true):∀ z∈ [0,1,2,3],z<m:=fun z hz=>by
 have:=Ag h;simp at hz;omega
@[reducible] def cu (g:Geo) (s:Stt) (d:Dk) (l:List AB):List AB:= .box 116 (ax g (.bp 1 0) s):: .box 185 (GX (.ow 2 d.cells.length) (.ow 3 d.cache.length) d.reqs d.left):: .row 128 3 (d.cells.map B7):: .row 134 2 (d.cache.map EE)::l
def BB (d:Dk) (ats:List Int):List Gt:=ats.map (OW d)
def Ek (g:Geo):List Int:=(List.range g.an.toNat).map Int.ofNat
theorem TN {d:Dk} {k:Nat} (a:Int) (h:¬(d.adv k).left=0):(d.adv k).read a=(d.adv (k+1),d.got a):=by
 rw [Dk.read,if_neg h,XO k d h,Zd]
theorem TO {d:Dk} {k:Nat} (a:Int) (h:(d.adv k).left=0):(d.adv k).read a=(d.adv k, [],8):=by rw [Dk.read,if_pos h]
theorem FN (g:Geo):(Ek g).length=g.an.toNat:=by simp [Ek]
theorem Oh {g:Geo} {k:Nat} (h:k<g.an.toNat):(Ek g).getD k 0=k:=by
 rw [Ek,Bd (d:=0) (by simpa using h),Aa,Bl h];try rfl
theorem FJ (d:Dk) (ats:List Int):(BB d ats).length=ats.length:=by simp [BB]
def BS (g:Geo) (copy:Int):List Int:=(List.range g.sl.toNat).map fun i=>Bh g copy (i:Nat)
theorem Jk (g:Geo) (c:Int):(BS g c).length=g.sl.toNat:=by simp [BS]
theorem Ey {g:Geo} (hg:Bm g=true):g.an+2*g.sl+2*g.z<=Aq g:=by
 obtain⟨g1,g2,g3,g4,g5⟩:=Ar.1 hg;have hp:=GU hg;have:0<=g.z*CK g:=Df (by omega) (by omega);unfold Aq;omega
theorem F0 {g:Geo} {n:Nat} (hg:Bm g=true) (hn:(n:Int)=Aq g) {c s:Int} (hc:c=0\/c=1) (hs:0<=s/\s<g.sl):0<=Bh g c s/\Bh g c s<n:=by
 obtain⟨g1,g2,g3,g4,g5⟩:=Ar.1 hg;have:=Ey hg;unfold Bh;rcases hc with rfl | rfl <;> omega
def QI (n:Nat) (w:Wr):Prop:=(0<=w.addr/\w.addr<n)/\w.bytes.length<=200
theorem I1 {d:Dk} (h:DkOk d) {l:List Wr} (hl:∀ w∈l,QI d.cells.length w) (k:Nat):DkOk (d.writes (l.take k)).1/\(d.writes (l.take k)).1.cells.length=d.cells.length:=
 QM (P:=fun x=>DkOk x/\x.cells.length=d.cells.length) l (fun x hx w hw=>⟨hx.1.write (by rw [hx.2];exact(hl w hw).1) (hl w hw).2,by rw [Ln,hx.2]⟩) ⟨h,rfl⟩ k
theorem Kf (d:Dk) (a:Int) (b:List UInt8):(d.write a b).2=8\/(d.write a b).2=7\/(d.write a b).2=0:=by
 unfold Dk.write;split
 ·exact .inl rfl
 ·split
  ·exact .inr (.inl rfl)
  ·exact .inr (.inr rfl)
theorem Lo {d:Dk} {l:List Wr} {k:Nat} (hk:k<l.length) (h:(d.writes (l.take k)).2.2=false) :
  d.writes (l.take (k+1))=(((d.writes (l.take k)).1.write (l.getD k ⟨0, []⟩).addr (l.getD k ⟨0, []⟩).bytes).1,(d.writes (l.take k)).2.1+(if ((d.writes (l.take k)).1.write (l.getD k ⟨0, []⟩).addr (l.getD k ⟨0, []⟩).bytes).2=0 then 1 else 0),decide (((d.writes (l.take k)).1.write (l.getD k ⟨0, []⟩).addr (l.getD k ⟨0, []⟩).bytes).2=8)):=by
 rw [GE d hk];unfold Gg;rw [if_neg (by rw [h];decide)];simp only;by_cases h8:((d.writes (l.take k)).1.write (l.getD k ⟨0, []⟩).addr (l.getD k ⟨0, []⟩).bytes).2=8
 ·rw [if_pos h8,h8];simp
 ·rw [if_neg h8,decide_eq_false h8]
theorem FZ {d:Dk} {l:List Wr} (h:(d.writes l).2.2=true):d.putAll l=((d.writes l).1,(d.writes l).2.1,true):=by
 unfold Dk.putAll;generalize d.writes l=q at h |-
 obtain⟨a,b,c⟩:=q;simp only at h |-
 rw [if_pos h]
theorem Fq {d:Dk} {l:List Wr} (h:(d.writes l).2.2=false):d.putAll l=if (d.writes l).1.left=0 then ((d.writes l).1,(d.writes l).2.1,true) else ((d.writes l).1.flush,(d.writes l).2.1,false):=by
 unfold Dk.putAll;generalize d.writes l=q at h |-
 obtain⟨a,b,c⟩:=q;simp only at h |-
 rw [if_neg (by rw [h];decide)]
theorem T_ {d:Dk} (h:DkOk d) {l:List Wr} (hl:∀ w∈l,QI d.cells.length w):DkOk (d.putAll l).1/\(d.putAll l).1.cells.length=d.cells.length:=by
 have hw:=I1 h hl l.length;rw [Aw] at hw;cases hd:(d.writes l).2.2 with
 | true=>rw [FZ hd];exact hw
 | false=>
  rw [Fq hd];split
  ·exact hw
  ·exact⟨hw.1.flush,by rw [YN,hw.2]⟩
def Dk.mend (d:Dk) (l:List Wr):Dk × Bool:=if l=[] then (d,false) else ((d.putAll l).1,(d.putAll l).2.2)
end
end Go.Proofs.YtepdhdfoipephaaGreatDoor.A
namespace Go.Proofs.YtepdhdfoipephaaGreatDoor
section

theorem LH {l m:List UInt8} {n:Nat} (h:l.length=n):(l ++ m).take n=l:=by subst h;simp
theorem MO {l m:List UInt8} {n:Nat} (h:l.length=n):(l ++ m).drop n=m:=by subst h;simp
theorem Hy (a s:Int) (p:List UInt8):(EY a s p).length=p.length+7:=by
 simp only [EY,Ai,Am,leB_len]
theorem FE (a s:Int) (p:List UInt8):(Ce a s p).length=p.length+11:=by
 simp only [Ce,Ai,Hy,leB_len]
theorem C8 {a s:Int} {p:List UInt8} (h:Vl a s p):Cn (Ce a s p)=0/\BZ (Ce a s p)=a/\Bi (Ce a s p)=s/\Cc (Ce a s p)=p:=by
 obtain⟨h1,h2,h3,h4,h5⟩:=h;have hl:=FE a s p;have hs:=I2 (EY a s p);have e1:Ce a s p=EY a s p ++ leB 4 (Cz (EY a s p)):=rfl;have e2:Ce a s p=(UInt8.ofNat p.length::p) ++ (leB 2 a.toNat ++ (leB 4 s.toNat ++ leB 4 (Cz (EY a s p)))):=by rw [e1];simp only [EY,AE]
 have e3:Ce a s p=((UInt8.ofNat p.length::p) ++ leB 2 a.toNat) ++ (leB 4 s.toNat ++ leB 4 (Cz (EY a s p))):=by rw [e2,AE]
 have hpn:Dj (Ce a s p)=p.length:=by
  rw [e2];show (UInt8.ofNat p.length).toNat=p.length;rw [BA];exact Nat.lt_of_le_of_lt h5 (by decide)
 refine⟨?_,?_,?_,?_⟩
 ·unfold Cn;rw [if_neg (by omega),if_neg,if_pos]
  ·refine⟨?_,by omega⟩;simp only [G2,decide_eq_true_eq];omega
  ·rw [hl,show p.length+11 - 4=p.length+7 by omega,e1,MO (Hy a s p),LH (Hy a s p),leN_leB _ _ (by have:(256:Nat) ^ 4=4294967296:=rfl;omega)];simp
 ·unfold BZ;rw [hl,show p.length+11 - 10=p.length+1 by omega,e2,MO (by simp),LH (leB_len 2 _),leN_leB _ _ (by have:(256:Nat) ^ 2=65536:=rfl;omega)];omega
 ·unfold Bi;rw [hl,show p.length+11 - 8=p.length+3 by omega,e3,MO (by simp [leB_len]),LH (leB_len 4 _),leN_leB _ _ (by have:(256:Nat) ^ 4=4294967296:=rfl;omega)];omega
 ·unfold Cc;rw [hl,show p.length+11 - 11=p.length by omega,e2];simp
end
end Go.Proofs.YtepdhdfoipephaaGreatDoor
namespace Go.Proofs.YtepdhdfoipephaaGreatDoor.A
section
open Go.RowKit
def Ba (g:Geo) (a:An):List Wr:=(List.range g.an.toNat).map fun i=>⟨(i:Nat),Dq a (i:Nat)⟩
theorem ED (g:Geo) (a:An):(Ba g a).length=g.an.toNat:=by simp [Ba]
theorem Lg {g:Geo} {a:An} {k:Nat} (h:k<g.an.toNat):(Ba g a).getD k ⟨0, []⟩=⟨(k:Nat),Dq a (k:Nat)⟩:=by
 rw [Ba,Bd (d:=0) (by simpa using h),Aa,Bl h];try rfl
theorem MU {g:Geo} {a:An} {n:Nat} (hg:Bm g=true) (ha:Bn g a=true) (hn:(n:Int)=Aq g):∀ w∈Ba g a,QI n w:=by
 obtain⟨g1,g2,g3,g4,g5⟩:=Ar.1 hg;have hc:=Ey hg;intro w hw;simp only [Ba,AQ,AR] at hw;obtain⟨i,hi,rfl⟩:=hw;refine⟨⟨by show (0:Int)<=(i:Nat);omega,by show ((i:Nat):Int)<n;omega⟩,?_⟩;show (Ce (i:Nat) a.gen (MV a)).length<=200;rw [FE];have:=K7 hg ha;omega
def Fo (g:Geo) (x:Gt) (addr:Int):Option An:=
 if x.err=0/\Cn x.bytes=0/\BZ x.bytes=addr then
  match FC g (Cc x.bytes) with
  | some a=>if a.gen=Bi x.bytes then some a else none
  | none=>none
 else none
theorem GQ (e:Value):∀ (c:Ctx) (v:Value),Rd (.tp [.ag [iv 0,iv 0,iv 0,iv 0,iv 0, .v (.string ⟨#[]⟩), .v (.slice none 0 0)], .v e]) c v->Rd (.tp [.ag (Ft an0), .v e]) c v:=
 Cf (m:= [.ag (Ft an0), .v e]) ⟨Bk an0_sub,ri,tv⟩
theorem Ra (b:List UInt8):(Cc b).length<=b.length:=by simp [Cc];omega
theorem ConvH.subBox {H:List AB} (k:Nat) {t:TypeId} {cs cs':List AV} (hk:H[k]? = some (.box t cs)) (h:SubL cs cs'):ConvH H (H.set k (.box t cs')):=fun _ _ c hs=>
 ⟨c,rfl,hs.recell hk rfl fun⟨g,xs,h1,h2,h3,h4⟩=>⟨g,xs,h1,h2,h.rdl h3,h4⟩,zK c⟩
def zr:=@ConvH.subBox
def PN (g:Geo) (l:List Gt) (st:Option (An × Nat)) (i:Nat):Option (An × Nat):=
 match Fo g (l.getD i ⟨0, []⟩) (i:Nat) with
 | none=>st
 | some b=>match st with
  | none=>some (b,i)
  | some (a,j)=>if a.gen<b.gen then some (b,i) else some (a,j)
def FD (g:Geo) (l:List Gt) (k:Nat):Option (An × Nat):=(List.range k).foldl (PN g l) none
def HT (g:Geo) (l:List Gt):Option (An × Nat):=FD g l l.length
theorem Jg (g:Geo) (l:List Gt) (k:Nat):FD g l (k+1)=PN g l (FD g l k) k:=by rw [FD,Bj,BJ];try rfl
def bT (p:Option (An × Nat)):An:=match p with | some (a,_)=>a | none=>an0
def cg (p:Option (An × Nat)):Nat:=match p with | some (_,i)=>i | none=>0

theorem LU (b:List UInt8) (m:Nat) (hm:m<=b.length) (hm4:m<=4):Fn Tryz.prog 143 [bA b,iv m] fun r=>r = iv (leN (b.take m):Nat):=by
 refine zR Tryz.func143 rfl ?_;conv=>whnf
 rw [wi (show -9223372036854775808<=(m:Int) - 1/\(m:Int) - 1<=9223372036854775807 by omega)];have hl:(b.take m).length=m:=by rw [Au];omega
 refine zU Nat (fun k=>([(0,bA b),(5,iv (leN ((b.take m).drop k):Nat)),(6,iv ((k:Int) - 1))], [])) (fun k=>k<=m) (fun k=>k) m (Ah _)
  (zS (s:= []) ⟨⟨rfl,by rw [AH (by omega)];try rfl,rfl,tv⟩,tv,rfl,rfl,rfl,rfl,rfl⟩) ?_
 intro k hk;conv=>whnf
 refine A7 (fun h5=>?_) (fun h5=>?_) <;> (repeat rw [Ab] at h5) <;> conv=>whnf
 ·obtain⟨j,rfl⟩:∃ j,k=j+1:=⟨k - 1,by omega⟩;have e1:(((j+1:Nat):Int) - 1)=(j:Nat):=by omega
  have hj:j<(b.take m).length:=by omega
  have hb:b.getD j 0=(b.take m)[j]:=by rw [List.getElem_take,Aa,Af (by omega)];try rfl
  have hd:leN ((b.take m).drop j)=(b.take m)[j].toNat+256*leN ((b.take m).drop (j+1)):=by rw [Bu hj];try rfl
  have hlt:=leN_lt ((b.take m).drop (j+1));have hx:=(b.take m)[j].toNat_lt;have hp:256 ^ ((b.take m).drop (j+1)).length<=256 ^ 3:=DS (by decide) (by rw [Al];omega);rw [e1];refine⟨⟨by omega,by omega⟩,?_⟩;conv=>whnf
  have hv:IntKind.i64.wrap (IntKind.i64.wrap (256*((leN ((b.take m).drop (j+1)):Nat):Int))+IntKind.i64.wrap ((b.getD j 0).toNat:Nat))=((leN ((b.take m).drop j):Nat):Int):=by
   rw [hb,hd,wi (n:=(((b.take m)[j].toNat:Nat):Int)) (by omega),wi (n:=256*((leN ((b.take m).drop (j+1)):Nat):Int)) (by omega),wi (by omega)];omega
  exact⟨j,by omega,by omega,zS (s:= []) ⟨⟨rfl,congrArg (fun n=>AV.v (.int .i64 n)) hv,congrArg (fun n=>AV.v (.int .i64 n)) (wi (n:=(j:Int) - 1) (by omega)),tv⟩,tv,rfl,rfl,rfl,rfl,rfl⟩⟩
 ·have ek:k=0:=by omega
  subst ek;exact⟨_,ri,rfl⟩
theorem S3 (b:List UInt8) (hb:b.length<=1000000000):Fn Tryz.prog 150 [bA b] fun r=>r = iv (Cz b:Nat):=JD b hb
theorem FT (b:List UInt8) (m:Nat) (hm:m<=b.length) (hm4:m<=4):Fn Tryz.prog 143 [bA b,iv m] fun r=>r = iv (leN (b.take m):Nat):=LU b m hm hm4
def zero8:List UInt8:= [0,0,0,0,0,0,0,0]
def ent0:Ent:=⟨0,(Cz zero8:Nat),false⟩
def Fd (g:Geo):List Ent:=List.replicate (g.d+1).toNat ent0
theorem MM (stamp:Int) (b:List UInt8) (hb:b.length<=1000000000):Fn Tryz.prog 153 [iv stamp,bA b] fun r=>r = .ag (Cg ⟨stamp,(Cz b:Nat),false⟩):=by
 refine zR Tryz.func153 rfl ?_;conv=>whnf
 repeat' (first | (refine z_ ?_;conv=>whnf) | (refine A7 (fun _=>?_) (fun _=>?_) <;> conv=>whnf) | (refine zZ (S3 b hb) ?_;conv=>whnf) | (refine Ae (by first | omega | exact of_decide_eq_true rfl) ?_;conv=>whnf) | fail)
 exact⟨_,ri,rfl⟩
def bv (l:List Ent):Nat->AV
 | 0=> .v (.slice none 0 0)
 | k+1=>bA (Da (l.take (k+1)))
theorem Su (l:List Ent) (hl:l.length<=1000) (hb:∀ e∈l,(0<=e.stamp/\e.stamp<=4294967295)/\0<=e.sum/\e.sum<=4294967295):Fn Tryz.prog 131 [.ag [Bp l]] fun r=>r=bA (Da l):=by
 refine zR Tryz.func131 rfl ?_;conv=>whnf
 refine zM Nat (fun k=>([(1, .bp 0 0),(3,bv l k),(4,iv k)], [.box 70 [Bp l]])) (fun k=>k<=l.length) (fun k=>l.length - k) 0 (Aj _) ⟨[],tv,tA,tA,rfl,rfl,rfl⟩ ?_;intro k hk;conv=>whnf
 refine A7 (fun c1=>?_) (fun c1=>?_) <;> (repeat rw [Ab] at c1) <;> conv=>whnf
 ·have he:=hb _ (A5 (d:=⟨0,0,false⟩) c1);refine z_ ?_;conv=>whnf
  refine⟨by first | omega | (refine⟨rfl,?_,?_⟩ <;> first | omega | (simp only [Ac];done) | (simp only [Ac];omega)) | (simp only [Ac];omega),?_⟩;conv=>whnf
  have hlt:(Da (l.take k)).length<=9000:=by rw [EV,Au];omega
  have p1:=EZ (Da (l.take k)) (l.getD k ⟨0,0,false⟩).stamp 4 (by omega) he.1 (by decide);have p2:=EZ (Da (l.take k) ++ leB 4 (l.getD k ⟨0,0,false⟩).stamp.toNat) (l.getD k ⟨0,0,false⟩).sum 4 (by rw [Ai,leB_len];omega) he.2 (by decide);have p3:=EZ (Da (l.take k) ++ leB 4 (l.getD k ⟨0,0,false⟩).stamp.toNat ++ leB 4 (l.getD k ⟨0,0,false⟩).sum.toNat) (Dm (l.getD k ⟨0,0,false⟩).lost) 1 (by rw [Ai,Ai,leB_len,leB_len];omega) (by unfold Dm;split <;> omega) (by decide);have hst:bv l (k+1)=bA (Da (l.take k) ++ leB 4 (l.getD k ⟨0,0,false⟩).stamp.toNat ++ leB 4 (l.getD k ⟨0,0,false⟩).sum.toNat ++ leB 1 (Dm (l.getD k ⟨0,0,false⟩).lost).toNat):=by
   rw [bv,Nq c1,Jy];rw [Aa,Af c1];simp [rowB,AE]
  obtain⟨L,hLe⟩:∃ L,(l.getD k ⟨0,0,false⟩).lost=L:=⟨_,rfl⟩;rw [hLe] at p3 hst;rcases k with _ | k
  all_goals
   refine zC tys_ok mixed [0,1,2,4,5,3,6,7] (by kernel_rfl) ?_;conv=>whnf
   refine zX _ ?_ (zI (p1) rfl ?_)
   ·repeat' (first | exact trivial | exact fun _ _ h=>h | exact Bo _ _ | refine Ae ?_ ?_ | refine Bk ?_)
   rintro _ rfl;conv=>whnf
   refine zX _ ?_ (zI (p2) rfl ?_)
   ·repeat' (first | exact trivial | exact fun _ _ h=>h | exact Bo _ _ | refine Ae ?_ ?_ | refine Bk ?_)
   rintro _ rfl;conv=>whnf
   refine z_ ?_;conv=>whnf
   rw [Ab,hLe];cases L
  all_goals
   conv=>whnf
   refine zZ p3 ?_;refine⟨_,by omega,by omega, [],tv,⟨rfl,hst.symm,AI (by omega),tv⟩,tA,rfl,rfl,rfl⟩
 ·have ek:k=l.length:=by omega
  rcases k with _ | k
  ·have e:l=[]:=AN.1 ek.symm;subst e;exact⟨bA (Da []),Bo 1 _,rfl⟩
  ·conv=>whnf
   exact⟨_,ri,by rw [ek,Aw];try rfl⟩
theorem Yb (g:Geo) (hg:Bm g=true):Fn Tryz.prog 132 [.ag (AU g)] fun r=>r = .ag [Bp (Fd g)]:=by
 obtain⟨h1,h2,h3,h4,h5⟩:=Ar.1 hg;refine zR Tryz.func132 rfl ?_;conv=>whnf
 have w1:IntKind.i64.wrap (g.d+1)=g.d+1:=by rw [IntKind.wrap_i64];omega
 refine zM Nat (fun k=>([(1, .bp 0 0),(2, .bp 1 0),(3, .bp 2 0),(4,iv k)], [.box 23 (AU g), .box 70 [.v (.slice none 0 0)], .box 70 [.ow 3 k], .row 97 3 ((List.replicate k ent0).map Cg)])) (fun k=>(k:Int)<=g.d+1) (fun k=>(g.d+1 - k).toNat) 0 (show (0:Int)<=g.d+1 by omega) ⟨[(1002000,97,3)],tA,tA,tA,rfl,rfl,rfl⟩ ?_;intro k hk;conv=>whnf
 refine A7 (fun c1=>?_) (fun c1=>?_) <;> (repeat rw [Ab] at c1) <;> conv=>whnf
 ·refine zC tys_ok mixed [0,1,2,3,4,5,6,7] (by kernel_rfl) ?_;conv=>whnf
  repeat' (refine Ae (by first | omega | exact of_decide_eq_true rfl) ?_;conv=>whnf)
  have e0:=MM 0 zero8 (by decide);refine zN (e0).go ?_;conv=>whnf
  repeat' (refine Ae (by first | rfl | omega | (simp;done) | (simp only [Ac];omega)) ?_;conv=>whnf)
  refine zX _ ?_ (zI (e0) rfl ?_)
  ·repeat' (first | exact trivial | exact fun _ _ h=>h | exact Bo _ _ | exact U_ zero8 rfl rfl | refine Ae ?_ ?_ | refine Bk ?_)
  rintro _ rfl;conv=>whnf
  repeat' (first | (refine Ae (by first | rfl | omega) ?_;conv=>whnf) | fail)
  refine⟨⟨by rw [Ac,Bw],by omega⟩,?_⟩;conv=>whnf
  exact⟨k+1,by omega,by omega, [],tv,⟨rfl,rfl,rfl,AI (by omega),tv⟩,⟨rfl,rfl,rfl,by rw [List.replicate_succ',A8];try rfl,tv⟩,rfl,rfl,rfl⟩
 ·refine⟨(by rw [Ac,Bw]),?_⟩;conv=>whnf
  have ek:k=(g.d+1).toNat:=by omega
  refine⟨.ag [Bp (Fd g)],Bk ⟨Bc (Fd g) ?_ ?_,tv⟩,rfl⟩
  ·rw [Fd,Bw,ek]
  ·rw [Fd,ek]
theorem I7 (x:Rc):rowB (CH x) szR=leB 1 x.kind.toNat ++ (leB 4 x.seq.toNat ++ (leB 4 x.epoch.toNat ++ (leB 1 x.at_.toNat ++ leB 1 x.of_.toNat))):=by
 simp [rowB,CH,szR]
theorem Ph {L:List UInt8} {n:Nat} {es:List (List AV)} (hn:n=L.length) (he:es=L.map E6) (c:Ctx) (v:Value) (h:Rd (.sl 1 n fun i=>es.getD i []) c v):Rd (bA L) c v:=by
 subst he;exact zD hn (fun i hi=>Bd (f:=E6) (l:=L) (d:=0) (hn ▸ hi)) h
theorem TA (g:Geo) (x:Rc) (hok:Fz g x=true):Fn Tryz.prog 155 [.ag (Kd x)] fun r=>r=bA (E8 x):=by
 obtain⟨K,S,E,A,O,k1,k2,k3,k4,k5,hS,hE⟩:=Y0 hok;have p1:=O6 (leB 1 K) S 4 (by rw [leB_len];decide) hS (by decide);have p2:=Ii (leB 1 K ++ leB 4 S) (E:Nat) 4 (by simp [leB_len]) (by omega) (by decide);have eK : [[AV.v (.int .u8 (IntKind.u8.wrap x.kind))]]=(leB 1 K).map E6:=by
  rw [k1];show _=[[AV.v (.int .u8 ((UInt8.ofNat (K % 256)).toNat:Nat))]];rw [BA (show K % 256<256 by omega),IntKind.wrap_u8];try rfl
 refine zR Tryz.func155 rfl ?_;conv=>whnf
 apply zW (0) tys_ok mixed (.o [0,1,2,4,5,7,8,3,6,9,10] .fin) (by kernel_rfl);conv=>whnf
 (refine zN p1.go ?_;(conv=>whnf);refine Ae rfl ?_;(conv=>whnf);refine zX [bA (leB 1 K),iv S,iv 4] ⟨Ph rfl eK,by rw [k2];exact fun _ _ h=>h,ri,tv⟩ ?_;refine zZ p1 ?_)
 conv=>whnf
 (rw [k3];refine zV p2 rfl ?_;rintro _ _ ⟨rfl,rfl⟩)
 refine⟨rfl,?_⟩;refine⟨⟨by simp,by simp [leB_len]⟩,?_⟩;have eR:List.map E6 (leB 1 K ++ leB 4 S ++ leB 4 ((E:Nat):Int).toNat) ++ [[AV.v (.int .u8 (IntKind.u8.wrap x.at_))], [AV.v (.int .u8 (IntKind.u8.wrap x.of_))]]=(rowB (CH x) szR).map E6:=by
  rw [I7,k1,k2,k3,k4,k5];have e8:∀ n:Nat, [[AV.v (.int .u8 (IntKind.u8.wrap (n:Int)))]]=(leB 1 n).map E6:=fun n=>by
   show _=[[AV.v (.int .u8 ((UInt8.ofNat (n % 256)).toNat:Nat))]];rw [BA (show n % 256<256 by omega),IntKind.wrap_u8];try rfl
  simp only [A8,<-e8,Ab,AE];rfl
 rw [eR];conv=>whnf
 by_cases hk:x.kind=1
 ·rw [show (x.kind != 1)=false by simpa using hk];conv=>whnf
  repeat' (refine z_ ?_;conv=>whnf)
  obtain⟨Z,W,z1,z2,z3,z4⟩:=Y1 hok hk;have hpt:=LT x.img.bytes z4;have hR11:(rowB (CH x) szR).length=11:=by rw [I7];simp [leB_len]
  have hA:(leB 1 K ++ leB 4 S ++ leB 4 ((E:Nat):Int).toNat).length+2=(List.map E6 (rowB (CH x) szR)).length:=by rw [Ac,hR11];simp [leB_len]
  have hA2:(leB 1 K ++ leB 4 S ++ leB 4 ((E:Nat):Int).toNat).length+2+2<=1000000000:=by simp [leB_len]
  have e8:∀ n:Nat, [[AV.v (.int .u8 (IntKind.u8.wrap (n:Int)))]]=(leB 1 n).map E6:=fun n=>by
   show _=[[AV.v (.int .u8 ((UInt8.ofNat (n % 256)).toNat:Nat))]];rw [BA (show n % 256<256 by omega),IntKind.wrap_u8];try rfl
  obtain⟨Q,hQ⟩:∃ Q,Q=rowB (CH x) szR ++ (leB 1 Z ++ leB 1 W):=⟨_,rfl⟩;have hB:E8 x=Q ++ (UInt8.ofNat x.img.bytes.length::x.img.bytes):=by
   unfold E8;rw [if_pos hk,hQ,AE];unfold Jp;rw [z1,z2];simp [rowB]
  have eQ:List.map E6 (rowB (CH x) szR) ++ [[AV.v (.int .u8 (IntKind.u8.wrap (Z:Int)))], [AV.v (.int .u8 (IntKind.u8.wrap (W:Int)))]]=Q.map E6:=by
   rw [hQ,A8,A8,<-e8,<-e8];try rfl
  have hQl:Q.length=13:=by rw [hQ];simp [leB_len,hR11]
  have hP:(UInt8.ofNat x.img.bytes.length::x.img.bytes).length=(List.map E6 (UInt8.ofNat x.img.bytes.length::x.img.bytes)).length:=(Ac _).symm;have hP2:(UInt8.ofNat x.img.bytes.length::x.img.bytes).length<=256:=by rw [Am];omega
  have hQ1:(leB 1 K ++ leB 4 S ++ leB 4 ((E:Nat):Int).toNat).length+2+2=(List.map E6 Q).length:=by rw [Ac,hQl];simp [leB_len]
  have hQ2:(leB 1 K ++ leB 4 S ++ leB 4 ((E:Nat):Int).toNat).length=9:=by simp [leB_len]
  have hF1:(leB 1 K ++ leB 4 S ++ leB 4 ((E:Nat):Int).toNat).length+2+2+(UInt8.ofNat x.img.bytes.length::x.img.bytes).length=(List.map E6 Q ++ List.map E6 (UInt8.ofNat x.img.bytes.length::x.img.bytes)).length:=by rw [hQ1,hP];exact List.length_append.symm
  have hF2:(leB 1 K ++ leB 4 S ++ leB 4 ((E:Nat):Int).toNat).length+2+2+(UInt8.ofNat x.img.bytes.length::x.img.bytes).length=(Q ++ (UInt8.ofNat x.img.bytes.length::x.img.bytes)).length:=by rw [hQ1,Ac];exact List.length_append.symm
  by_cases hw:x.img.what = -1;rw [show (x.img.what == -1)=true by simpa using hw];conv=>whnf
  have hW:(254:Int)=(W:Int):=by rw [<-z2,hw];try rfl
  rotate_left 1;rw [show (x.img.what == -1)=false by simpa using hw];conv=>whnf
  have hW:x.img.what=(W:Int):=by rw [<-z2];unfold DI;rw [if_neg hw]
  all_goals
   apply zW (2048) tys_ok mixed (.o [0,1,2,3,4,5,6,9,10] (.two 7 (.two 8 (.o [11,12,13,14] .fin) 11 (.o [8,12,13,14] .fin)) 11 (.o [7,8,12,13,14] .fin))) (by kernel_rfl);refine Ae ?_ ?_;refine Ae ?_ ?_;conv=>whnf
   try (refine tJ ?_;conv=>whnf)
   try (refine tK ?_;conv=>whnf)
   (rw [z1,hW,eQ];refine zV hpt rfl ?_;rintro _ _ ⟨rfl,rfl⟩)
   conv=>whnf
   try (refine tJ ?_;conv=>whnf)
   try (refine tK ?_;conv=>whnf)
   rotate_left 1;conv=>whnf
   try (refine tJ ?_;conv=>whnf)
   try (refine tK ?_;conv=>whnf)
   (rw [z1,hW,eQ];refine zV hpt rfl ?_;rintro _ _ ⟨rfl,rfl⟩)
   conv=>whnf
   try (refine tJ ?_;conv=>whnf)
   try (refine tK ?_;conv=>whnf)
   rotate_left 1;conv=>whnf
   try (refine tJ ?_;conv=>whnf)
   try (refine tK ?_;conv=>whnf)
   (rw [z1,hW,eQ];refine zV hpt rfl ?_;rintro _ _ ⟨rfl,rfl⟩)
   conv=>whnf
   try (refine tJ ?_;conv=>whnf)
   try (refine tK ?_;conv=>whnf)
   rotate_left 1;all_goals
    refine⟨hF1,?_⟩;conv=>whnf
    rw [hB];exact⟨bA _,Ph hF2 List.map_append.symm,rfl⟩
 ·rw [show (x.kind != 1)=true by simpa using hk];conv=>whnf
  have hB:E8 x=rowB (CH x) szR:=by unfold E8;rw [if_neg hk,AT]
  rw [hB];refine Ae (by rw [Ac,I7];simp [leB_len]) ?_;conv=>whnf
  exact⟨bA _,Ph (by rw [I7];simp [leB_len]) rfl,rfl⟩
theorem J2 (c:Ctx) (u:Value) (e:Int) (h:Rd (.tp [.ag [iv 0,iv 0, .v (.slice none 0 0)],iv e]) c u):Rd (.tp [.ag (O1 ⟨0,0, []⟩),iv e]) c u:=by
 refine Cf ?_ c u h;exact⟨Bk ⟨ri,ri,Bo _ _,tv⟩,ri,tv⟩
theorem LJ {b:List UInt8} {lo:Int} {p:Nat} (h:lo.toNat=p) (hp:p<=b.length) (c:Ctx) (u:Value) (hr:Rd (.sl 1 (((b.length:Nat):Int).toNat - lo.toNat) fun i=>(fun i=> [AV.v (.int .u8 (b.getD i 0).toNat)]) (i+lo.toNat)) c u):Rd (bA (b.drop p)) c u:=
 zD (n':=(b.drop p).length) (by rw [Al,h];omega) (fun i hi=>by simp only [Aa,BL,h,Db]) hr
theorem Sv {b:List UInt8} {lo hi:Int} {p q:Nat} (h:lo.toNat=p) (h2:hi.toNat=q) (hp:p<=q) (hq:q<=b.length) (c:Ctx) (u:Value) (hr:Rd (.sl 1 (hi.toNat - lo.toNat) fun i=>(fun i=> [AV.v (.int .u8 (b.getD i 0).toNat)]) (i+lo.toNat)) c u):Rd (bA ((b.drop p).take (q - p))) c u:=
 zD (n':=((b.drop p).take (q - p)).length) (by rw [Au,Al,h,h2];omega) (fun i hi=>by
  have hi':i<q - p:=by omega
  simp only [Aa,BU hi',BL,h,Db]) hr
theorem VV (b:List UInt8) (hl:b.length<=100000):Fn Tryz.prog 212 [bA b] fun r=>r = .tp [.ag (if Cn b=0 then O1 ⟨BZ b,Bi b,Cc b⟩ else O1 ⟨0,0, []⟩),iv (Cn b)]:=by
 refine zR Tryz.func212 rfl ?_;conv=>whnf
 refine A7 (fun t1=>?_) (fun t1=>?_) <;> (repeat rw [Ab] at t1) <;> conv=>whnf
 ·have e:Cn b=4:=by rw [Cn,if_pos (by omega)]
  exact⟨_,fun c u h=>J2 c u 4 h,by rw [e];try rfl⟩
 refine A7 (fun t2=>?_) (fun t2=>?_) <;> (repeat rw [Ab] at t2) <;> conv=>whnf
 ·have e:Cn b=4:=by rw [Cn,if_pos (by omega)]
  exact⟨_,fun c u h=>J2 c u 4 h,by rw [e];try rfl⟩
 have w4:IntKind.i64.wrap ((b.length:Int) - 4)=b.length - 4:=wi (by omega);have w11:IntKind.i64.wrap ((b.length:Int) - 11)=b.length - 11:=wi (by omega);have w10:IntKind.i64.wrap ((b.length:Int) - 10)=b.length - 10:=wi (by omega);have w8:IntKind.i64.wrap ((b.length:Int) - 8)=b.length - 8:=wi (by omega);have e4:(b.drop (b.length - 4)).take 4=b.drop (b.length - 4):=Az (by rw [Al];omega);have s1:=FT (b.drop (b.length - 4)) 4 (by rw [Al];omega) (by omega);rw [e4] at s1;have s2:=S3 (b.take (b.length - 4)) (by rw [Au];omega);have s3:=Eo (Cc b) (by simp [Cc];omega);have s4:=FT (b.drop (b.length - 10)) 2 (by rw [Al];omega) (by omega);have s5:=FT (b.drop (b.length - 8)) 4 (by rw [Al];omega) (by omega);have x1:(IntKind.i64.wrap ((b.length:Int) - 4)).toNat=b.length - 4:=by rw [w4];omega
 have x2:(IntKind.i64.wrap ((b.length:Int) - 10)).toNat=b.length - 10:=by rw [w10];omega
 have x3:(IntKind.i64.wrap ((b.length:Int) - 8)).toNat=b.length - 8:=by rw [w8];omega
 refine zC tys_ok mixed [0,1,2,3,5,6,7,8,4,9,10] (by kernel_rfl) ?_;refine⟨⟨by omega,by omega,by omega,by omega⟩,?_⟩;refine⟨⟨by omega,by omega,by omega,by omega⟩,?_⟩;conv=>whnf
 refine zX _ ?_ (zI (s1) rfl ?_)
 ·repeat' (first | exact trivial | exact fun _ _ h=>h | exact Bo _ _ | exact LJ x1 (by omega) | refine Ae ?_ ?_ | refine Bk ?_)
 rintro _ rfl;conv=>whnf
 refine zX _ ?_ (zI (s2) rfl ?_)
 ·repeat' (first | exact trivial | exact fun _ _ h=>h | exact Bo _ _ | exact Sv (p:=0) (q:=b.length - 4) (by simp) x1 (by omega) (by omega) | refine Ae ?_ ?_ | refine Bk ?_)
 rintro _ rfl;conv=>whnf
 have hp0:Dj b=(b.getD 0 0).toNat:=by
  unfold Dj;cases b <;> rfl
 have hpl:=(b.getD 0 0).toNat_lt;refine A7 (fun t3=>?_) (fun t3=>?_) <;> (repeat rw [Ab] at t3) <;> conv=>whnf
 ·have e:Cn b=5:=by rw [Cn,if_neg (by omega),if_pos t3]
  exact⟨_,fun c u h=>J2 c u 5 h,by rw [e];try rfl⟩
 refine⟨by first | omega | (refine⟨rfl,?_,?_⟩ <;> first | omega | (simp only [Ac];done) | (simp only [Ac];omega)) | (simp only [Ac];omega),?_⟩;conv=>whnf
 refine A7 (fun t4=>?_) (fun t4=>?_) <;> (repeat rw [Ab] at t4) <;> conv=>whnf
 ·have e:Cn b=4:=by
   rw [Cn,if_neg (by omega),if_neg (by rw [t3];simp),if_neg];rintro⟨h1,h2⟩;simp only [Int.toNat_zero] at t4;rw [w11,wi (by omega)] at t4;omega
  exact⟨_,fun c u h=>J2 c u 4 h,by rw [e];try rfl⟩
 have e:Cn b=0:=by
  rw [Cn,if_neg (by omega),if_neg (by rw [t3];simp),if_pos];simp only [Int.toNat_zero] at t4;rw [w11,wi (by omega)] at t4;refine⟨?_,by omega⟩;simp only [G2,decide_eq_true_eq];omega
 rw [e,if_pos rfl];refine zC tys_ok mixed [0,1,2,3,5,6,7,8,10,11,12,13,4,9,14,15,16,17] (by kernel_rfl) ?_;refine⟨⟨by omega,by omega,by omega,by omega⟩,?_⟩;refine⟨⟨by omega,by omega,by omega,by omega⟩,?_⟩;refine⟨⟨by omega,by omega,by omega,by omega⟩,?_⟩;conv=>whnf
 refine zX _ ?_ (zI (s3) rfl ?_)
 ·repeat' (first | exact trivial | exact fun _ _ h=>h | exact Bo _ _ | exact Sv (p:=1) (q:=b.length - 10) (by simp) x2 (by omega) (by omega) | refine Ae ?_ ?_ | refine Bk ?_)
 rintro _ rfl;conv=>whnf
 refine zX _ ?_ (zI (s4) rfl ?_)
 ·repeat' (first | exact trivial | exact fun _ _ h=>h | exact Bo _ _ | exact LJ x2 (by omega) | refine Ae ?_ ?_ | refine Bk ?_)
 rintro _ rfl;conv=>whnf
 refine zX _ ?_ (zI (s5) rfl ?_)
 ·repeat' (first | exact trivial | exact fun _ _ h=>h | exact Bo _ _ | exact LJ x3 (by omega) | refine Ae ?_ ?_ | refine Bk ?_)
 rintro _ rfl;exact⟨_,ri,rfl⟩
theorem PF (n lo hi:Int):Fn Tryz.prog 45 [iv n,iv lo,iv hi] fun r=>r = .v (.bool (CQ n lo hi)):=by
 refine zR Tryz.func45 rfl ?_;conv=>whnf
 repeat' (first | (refine Ao (fun h=>?_) (fun h=>?_) <;> (try simp at h) <;> conv=>whnf) | (refine zH tys_ok mixed (by kernel_rfl) ?_;conv=>whnf) | (refine z_ ?_;conv=>whnf) | (refine Ae (by omega) ?_;conv=>whnf))
 all_goals exact⟨_,ri,by simp [CQ, *] <;> omega⟩
theorem VN (g:Geo) (l:List Ent) (hg:Bm g=true) (hl:l.length<=1000000):Fn Tryz.prog 144 [.ag (AU g), .ag [Bp l]] fun r=>r = .v (.bool (Gi g l)):=by
 obtain⟨h1,h2,h3,h4,h5⟩:=Ar.1 hg;have hw:IntKind.i64.wrap (g.d+1)=g.d+1:=wi (by omega);by_cases hn:(l.length:Int)=g.d+1
 ·have hlo:GW l g.d.toNat=(l.getD g.d.toNat ⟨0,0,false⟩).lost:=by
   rw [GW,Aa,Af (by omega)];try rfl
  have hO:Gi g l=(l.all Ed&&!(l.getD g.d.toNat ⟨0,0,false⟩).lost):=by rw [Gi,hg,decide_eq_true hn,hlo];try rfl
  rw [hO];refine zR Tryz.func144 rfl ?_;conv=>whnf
  rw [hw,show ((l.length:Int) != g.d+1)=false by rw [hn];exact bne_self_eq_false _];refine⟨⟨by omega,by omega⟩,?_⟩;conv=>whnf
  cases hL:(l.getD g.d.toNat ⟨0,0,false⟩).lost with
  | true=>
   exact⟨_,ri,by rw [Bool.not_true,Bool.and_false]⟩
  | false=>
   conv=>whnf
   rw [Bool.not_false,B5];refine zU Nat (fun k=>([(2, .bp 0 0),(3, .bp 1 0),(4, .v (.bool false)),(5,iv k)], [.box 23 (AU g), .box 70 [Bp l]])) (fun k=>k<=l.length/\(l.take k).all Ed=true) (fun k=>l.length - k) 0 ⟨Aj _,rfl⟩
    (zS (s:= [0,1]) tA) ?_
   rintro k ⟨hk,hI⟩;conv=>whnf
   refine A7 (fun h6=>?_) (fun h6=>?_) <;> (repeat rw [Ab] at h6) <;> conv=>whnf
   ·have hk':k<l.length:=by omega
    have i1:=PF (l.getD (k:Int).toNat ⟨0,0,false⟩).stamp 0 4294967295;have i2:=PF (l.getD (k:Int).toNat ⟨0,0,false⟩).sum 0 4294967295;have hst:(l.take (k+1)).all Ed=(CQ (l.getD (k:Int).toNat ⟨0,0,false⟩).stamp 0 4294967295&&CQ (l.getD (k:Int).toNat ⟨0,0,false⟩).sum 0 4294967295):=by
     rw [Ab,Aa,Af hk',AZ,Af hk',Dt,hI];simp [Ed,HU]
    have hno:(l.take (k+1)).all Ed=false->l.all Ed=false:=fun h=>by
     rw [<-Ck (k+1) l,Dt,h,DE]
    refine⟨⟨by omega,by omega⟩,?_⟩;conv=>whnf
    cases c1:CQ (l.getD (k:Int).toNat ⟨0,0,false⟩).stamp 0 4294967295 with
    | false=>
     rw [c1] at i1;refine zZ i1 ?_;exact⟨_,ri,by rw [hno (by rw [hst,c1,DE])]⟩
    | true=>
     rw [c1] at i1;refine zZ i1 ?_;refine⟨⟨by omega,by omega⟩,?_⟩;conv=>whnf
     cases c2:CQ (l.getD (k:Int).toNat ⟨0,0,false⟩).sum 0 4294967295 with
     | false=>
      rw [c2] at i2;refine zZ i2 ?_;exact⟨_,ri,by rw [hno (by rw [hst,c2,Bool.and_false])]⟩
     | true=>
      rw [c2] at i2;refine zZ i2 ?_;conv=>whnf
      exact⟨k+1,⟨hk',by rw [hst,c1,c2];try rfl⟩,by omega,zS (s:= [0,1]) ⟨⟨rfl,rfl,rfl,AI (by omega),tv⟩,tA,rfl,rfl,rfl,rfl,rfl⟩⟩
   ·have ek:k=l.length:=by omega
    exact⟨_,ri,by rw [<-hI,ek,Aw]⟩
 ·have hO:Gi g l=false:=by rw [Gi,hg,decide_eq_false hn];try rfl
  rw [hO];refine zR Tryz.func144 rfl ?_;conv=>whnf
  rw [hw,show ((l.length:Int) != g.d+1)=true from bne_iff_ne.2 hn];exact⟨_,ri,rfl⟩
theorem Fn.subA {P:Program} {f:FuncId} {args args':List AV} {K:AV->Prop} (h:Fn P f args' K) (hs:SubL args args'):Fn P f args K:=
 ⟨h.go,fun c us hd hM hg hr=>h.calls c us hd hM hg (hs.rdl hr)⟩
theorem UF {b:List UInt8} {n m p:Nat} (hn:n=b.length - m - p) (c:Ctx) (u:Value) (h:Rd (.sl 1 n fun i=> [.v (.int .u8 (b.getD (i+p+m) 0).toNat)]) c u):Rd (bA ((b.drop m).drop p)) c u:=
 zD (by rw [Al,Al];exact hn) (fun i _=>by rw [Aa,Aa,BL,BL,show i+p+m=m+(p+i) by omega]) h
theorem Xk {x:List UInt8} (h:9<=x.length):IZ x=⟨(leN (x.take 4):Nat),(leN ((x.drop 4).take 4):Nat),(x[8].toNat:Int) == 1⟩:=by
 have h8:=P_ h;unfold NC at h8;unfold IZ;rw [h8];try rfl
theorem LS (g:Geo) (b:List UInt8) (hg:Bm g=true):Fn Tryz.prog 75 [.ag (AU g),bA b] fun r=>r = .tp [.ag [Bp ((BW g b).getD [])], .v (.bool (BW g b).isSome)]:=by
 obtain⟨h1,h2,h3,h4,h5⟩:=Ar.1 hg;have hw:IntKind.i64.wrap (g.d+1)=g.d+1:=wi (by omega);have hw9:IntKind.i64.wrap (9*(g.d+1))=9*(g.d+1):=wi (by omega);have zs:∀ (c:Ctx) (v:Value),Rd (.tp [.ag [.v (.slice none 0 0)], .v (.bool false)]) c v->Rd (.tp [.ag [Bp []], .v (.bool false)]) c v:=Cf (m:= [.ag [Bp []], .v (.bool false)]) ⟨Bk ⟨Bo 3 _,tv⟩,ri,tv⟩;by_cases hn:b.length=9*(g.d+1).toNat
 ·refine zR Tryz.func75 rfl ?_;conv=>whnf
  rw [hw,hw9,show ((b.length:Int) != 9*(g.d+1))=false by simp only [bne_eq_false_iff_eq];omega];conv=>whnf
  refine zU Nat (fun k=>([(1,bA b),(2, .bp 0 0),(4, .bp 1 0),(5, .v (.bool false)),(6, .bp 2 0),(7,iv k)], [.box 23 (AU g), .box 70 [.v (.slice none 0 0)], .box 70 [.ow 3 k], .row 97 3 ((entsOf k b).map Cg)])) (fun k=>(k:Int)<=g.d+1/\L0 k b) (fun k=>(g.d+1 - k).toNat) 0 ⟨by omega,fun i hi=>absurd hi (Ap i)⟩
   ⟨_,_,zF _ _, [(1002000,97,3)],tA, [0,1,2,3],tA⟩ ?_
  rintro k ⟨hk,hA⟩;conv=>whnf
  refine A7 (fun h6=>?_) (fun h6=>?_) <;> (repeat rw [Ab] at h6) <;> conv=>whnf
  ·have wk9:IntKind.i64.wrap (9*(k:Int))=((9*k:Nat):Int):=by rw [wi (by omega)];omega
   have hlx:(b.drop (9*k)).length=b.length - 9*k:=Al;have hx9:9<=(b.drop (9*k)).length:=by omega
   rw [wk9];refine⟨⟨by omega,by omega,by omega,by omega⟩,?_⟩;conv=>whnf
   rw [Ab];have hv:=P_ hx9;have he:=Xk hx9;have hes:=entsOf_step k b;refine⟨⟨by omega,by omega⟩,?_⟩;conv=>whnf
   have hg8:(b.getD (Int.toNat 8+((9*k:Nat):Int).toNat) 0).toNat=(b.drop (9*k))[8].toNat:=by
    rw [List.getElem_drop,Aa,Ab,show Int.toNat 8+9*k=9*k+8 by omega,Af (by omega)];try rfl
   obtain⟨Y,hY⟩:∃ Y:Nat,Y=(b.drop (9*k))[8].toNat:=⟨_,rfl⟩;rw [hg8,<-hY];rw [<-hY] at hv he;by_cases h1Y:Y<=1
   ·rw [show decide ((Y:Int) > 1)=false from decide_eq_false (by omega)];conv=>whnf
    have q1:=LU (b.drop (9*k)) 4 (by omega) (by decide);have q2:=LU ((b.drop (9*k)).drop 4) 4 (by rw [Al];omega) (by decide);have hml:k=((entsOf k b).map Cg).length:=by rw [Ac,entsOf_len]
    apply z8 (0) tys_ok mixed (.o [0,1,2,4,5,7,8,9,10,3,6,11,12,13,14,15] .fin) [32,33,34,35,36,37,38,39,40,41,42,43,44,45,46] (by kernel_rfl)
    ·conv=>whnf
     try (refine tI ?_;conv=>whnf)
     try (refine tI ?_;conv=>whnf)
     (refine zX [bA (b.drop (9*k)),iv 4] ⟨AW rfl,ri,tv⟩ ?_;refine zZ q1 ?_)
     conv=>whnf
     (refine zX [bA ((b.drop (9*k)).drop 4),iv 4] ⟨UF rfl,ri,tv⟩ ?_;refine zZ q2 ?_)
     conv=>whnf
     try (refine tJ ?_;conv=>whnf)
     try (refine tK ?_;conv=>whnf)
     try (refine tS ?_;conv=>whnf)
     exact tA
    refine⟨k+1,⟨by omega,fun i hi=>?_⟩,by omega,zS (s:= [0,1,2,3]) ⟨⟨rfl,rfl,rfl,rfl,rfl,AI (by omega),tv⟩,⟨rfl,rfl,rfl,?_,tv⟩,rfl,rfl,rfl,rfl,rfl⟩⟩
    ·by_cases hik:i=k
     ·rw [hik,hv];omega
     ·exact hA i (by omega)
    ·rw [hes,A8,he];show hget _ 3=_;rw [hg8,<-hY];try rfl
   ·rw [show decide ((Y:Int) > 1)=true from decide_eq_true (by omega)];conv=>whnf
    rw [Km (.inr fun hall=>h1Y (by have:=hall k (by omega);omega))];exact⟨_,zs,rfl⟩
  ·have ek:k=(g.d+1).toNat:=by omega
   subst ek;have hT:=VN g (entsOf (g.d+1).toNat b) hg (by rw [entsOf_len];omega);have hR:=TP hn hA;have hS:=hT.subA (args:= [.ag (AU g), .ag [.sl 3 (g.d+1).toNat fun i=>((entsOf (g.d+1).toNat b).map Cg).getD i []]]) ⟨ri,Bk ⟨Bc (f:=Cg) (entsOf (g.d+1).toNat b) (by rw [entsOf_len]) rfl,tv⟩,tv⟩;refine zp hS ⟨by rw [Ac,entsOf_len],rfl⟩ ?_;rintro _ rfl;refine⟨rfl,?_⟩;conv=>whnf
   cases ho:Gi g (entsOf (g.d+1).toNat b) with
   | false=>
    rw [hR,ho,if_neg (by decide)];exact⟨_,zs,rfl⟩
   | true=>
    rw [hR,ho,if_pos rfl];refine⟨(by rw [Ac,entsOf_len]),?_⟩;exact⟨.tp [.ag [Bp (entsOf (g.d+1).toNat b)], .v (.bool true)],Cf ⟨Bk ⟨Bc (f:=Cg) (entsOf (g.d+1).toNat b) (by rw [entsOf_len]) rfl,tv⟩,ri,tv⟩,rfl⟩
 ·refine zR Tryz.func75 rfl ?_;conv=>whnf
  rw [hw,hw9,show ((b.length:Int) != 9*(g.d+1))=true by simp only [bne_iff_ne,ne_eq];omega];conv=>whnf
  rw [Km (.inl hn)];exact⟨_,zs,rfl⟩
theorem Wd (n lo hi:Int):Fn Tryz.prog 151 [iv n,iv lo,iv hi] fun r=>r = .v (.bool (CQ n lo hi)):=by
 refine zR Tryz.func151 rfl ?_;conv=>whnf
 repeat' (first | (refine Ao (fun h=>?_) (fun h=>?_) <;> (try simp at h) <;> conv=>whnf) | (refine zH tys_ok mixed (by kernel_rfl) ?_;conv=>whnf) | (refine z_ ?_;conv=>whnf) | (refine Ae (by omega) ?_;conv=>whnf))
 all_goals exact⟨_,ri,by simp [CQ, *] <;> omega⟩


theorem Fp (g:Geo) (copy slot:Int) (hg:Bm g=true) (hl:IU g copy slot=true):Fn Tryz.prog 36 [.ag (AU g),iv copy,iv slot] fun r=>r = iv (Bh g copy slot):=by
 obtain⟨h1,h2,h3,h4,h5⟩:=Ar.1 hg;simp only [IU,Ad,AF] at hl;refine zR Tryz.func36 rfl ?_;refine⟨_,fun _ _ h=>h,?_⟩;have hm:0<=copy*g.sl/\copy*g.sl<=30:=by
  rcases(show copy=0\/copy=1 by omega) with rfl | rfl <;> omega
 rw [wi (n:=copy*g.sl) (by omega),wi (n:=g.an+copy*g.sl) (by omega),wi (n:=g.an+copy*g.sl+slot) (by omega)];try rfl
def BF (x:Gt) (addr:Int):Option Sec:=if x.err=0/\Cn x.bytes=0/\BZ x.bytes=addr then some ⟨BZ x.bytes,Bi x.bytes,Cc x.bytes⟩ else none
def zeroS:Sec:=⟨0,0, []⟩
theorem Ke (c:Ctx) (u:Value) (b:Bool) (h:Rd (.tp [.ag [iv 0,iv 0, .v (.slice none 0 0)], .v (.bool b)]) c u):Rd (.tp [.ag (O1 zeroS), .v (.bool b)]) c u:=by
 refine Cf ?_ c u h;exact⟨Bk ⟨ri,ri,Bo _ _,tv⟩,ri,tv⟩
theorem I4 (x:Gt) (addr:Int) (hl:x.bytes.length<=100000):Fn Tryz.prog 145 [.ag (D7 x),iv addr] fun r=>r = .tp [.ag (O1 ((BF x addr).getD zeroS)), .v (.bool (BF x addr).isSome)]:=by
 have s1:=VV x.bytes hl;refine zR Tryz.func145 rfl ?_;conv=>whnf
 refine A7 (fun t1=>?_) (fun t1=>?_) <;> (repeat rw [Ab] at t1) <;> conv=>whnf
 ·have e:BF x addr=none:=by rw [BF,if_neg (fun h=>t1 h.1)]
  rw [e];exact⟨_,fun c v h=>Ke c v false h,rfl⟩
 by_cases hO:Cn x.bytes=0
 ·rw [if_pos hO,hO] at s1;refine zZ s1 ?_;conv=>whnf
  refine A7 (fun t2=>?_) (fun t2=>?_) <;> (repeat rw [Ab] at t2) <;> conv=>whnf
  ·have e:BF x addr=none:=by rw [BF,if_neg (fun h=>t2 h.2.2)]
   rw [e];exact⟨_,fun c v h=>Ke c v false h,rfl⟩
  ·have e:BF x addr=some ⟨BZ x.bytes,Bi x.bytes,Cc x.bytes⟩:=by rw [BF,if_pos ⟨t1,hO,t2⟩]
   rw [e];exact⟨_,ri,rfl⟩
 ·rw [if_neg hO] at s1;refine zZ s1 ?_;conv=>whnf
  have e:BF x addr=none:=by rw [BF,if_neg (fun h=>hO h.2.1)]
  rw [e];refine A7 (fun t2=>?_) (fun t2=>?_) <;> (repeat rw [Ab] at t2) <;> conv=>whnf
  ·exact⟨_,fun c v h=>Ke c v false h,rfl⟩
  ·exact absurd t2 hO
theorem aQ (g:Geo) (x:Gt) (copy slot:Int) (hg:Bm g=true) (hL:IU g copy slot=true):FA g x copy slot=match BF x (Bh g copy slot) with | none=>none | some s=>match N3 g s.pay with | some r=>if r.seq=s.stamp then some r else none | none=>none:=by
 unfold FA BF;rw [hg,hL];by_cases h1:x.err=0 <;> by_cases h2:Cn x.bytes=0 <;> by_cases h3:BZ x.bytes=Bh g copy slot <;> simp [h1,h2,h3] <;> rfl
def R9 (o:Option Rc) (a:An) (seq at_ of_ left:Int):Bool:=match o with | some r=>GK r a seq at_ of_ left | none=>false
def Hg (p q:Option Rc) (b1 b2:Bool):Rc × List Int × Int:=
 if b1&&b2 then (p.getD zeroC, [],1) else if b1 then (p.getD zeroC, [1],1) else if b2 then (q.getD zeroC, [0],1) else if p.isSome || q.isSome then (zeroC, [],2) else (zeroC, [],3)
def Ip (g:Geo) (a:An) (x y:Gt) (slot seq at_ of_ left:Int):Rc × List Int × Int:=
 Hg (FA g x 0 slot) (FA g y 1 slot) (R9 (FA g x 0 slot) a seq at_ of_ left) (R9 (FA g y 1 slot) a seq at_ of_ left)
theorem Hz (g:Geo) (x:Rc) (copy slot:Int) (hok:Fz g x=true) (hl:IU g copy slot=true):Fn Tryz.prog 89 [.ag (AU g), .ag (Kd x),iv copy,iv slot] fun r=>r=bA (BG g x copy slot):=by
 have hg:Bm g=true:=by unfold Fz at hok;simp only [Ad] at hok;exact hok.1
 have hb:=F1 hg hl;have hs:=JM hok;have hn:=Es hok;have h1:=Fp g copy slot hg hl;have h2:=TA g x hok;have h3:=FF (Bh g copy slot) x.seq (E8 x) ⟨hb.1,by omega,hs.1,hs.2,by omega⟩;refine zR Tryz.func89 rfl ?_;conv=>whnf
 apply z8 (0) tys_ok mixed (.o [0,1,2,4,5,6,3,7,8,9] .fin) [8,9,10,11,12,13,14,15,16,17] (by kernel_rfl)
 ·conv=>whnf
  refine zZ h1 ?_;conv=>whnf
  refine zZ h2 ?_;conv=>whnf
  refine zZ h3 ?_;exact tA
 exact⟨_,ri,rfl⟩
theorem ZK (how:Int) (c:Ctx) (u:Value) (h:Rd (.tp [.ag [iv 0,iv 0,iv 0,iv 0,iv 0,iv 0,iv 0, .v (.slice none 0 0)], .v (.slice none 0 0),iv how]) c u):Rd (.tp [.ag (Kd zeroC),iA [],iv how]) c u:=by
 refine Cf ?_ c u h;exact⟨Bk ⟨ri,ri,ri,ri,ri,ri,ri,Bo _ _,tv⟩,Bo _ _,ri,tv⟩
def DO (x:Int) (n:Int):Int:=IntKind.i64.wrap ((IntKind.u64.wrap x).tmod n)
theorem DN {x n:Int} (h:0<n) (h2:n<=4611686018427387904):0<=DO x n/\DO x n<n:=by
 have h0:0<=IntKind.u64.wrap x:=by rw [IntKind.wrap_u64];omega
 have h1:=Bx n h0;have h3:=Bb (IntKind.u64.wrap x) h;unfold DO;rw [wi (by omega)];exact⟨h1,h3⟩
def KF (z d sp sl an:Int):Geo:=⟨1+DO z 4,1+DO d 4,DO sp 3,14+DO sl 17,1+DO an 3⟩
theorem VB (z d sp sl an:Int):Bm (KF z d sp sl an)=true:=by
 have h1:=DN (x:=z) (n:=4) (by decide) (by decide);have h2:=DN (x:=d) (n:=4) (by decide) (by decide);have h3:=DN (x:=sp) (n:=3) (by decide) (by decide);have h4:=DN (x:=sl) (n:=17) (by decide) (by decide);have h5:=DN (x:=an) (n:=3) (by decide) (by decide);refine Ar.2 ?_;simp only [KF];omega
theorem Yf (z d sp sl an:Int):Fn Tryz.prog 19 [iv z,iv d,iv sp,iv sl,iv an] fun r=>r = .ag (AU (KF z d sp sl an)):=by
 have h1:=DN (x:=z) (n:=4) (by decide) (by decide);have h2:=DN (x:=d) (n:=4) (by decide) (by decide);have h4:=DN (x:=sl) (n:=17) (by decide) (by decide);have h5:=DN (x:=an) (n:=3) (by decide) (by decide);refine zR Tryz.func19 rfl ?_;conv=>whnf
 repeat' (refine Ae (by decide) ?_;conv=>whnf)
 refine⟨_,fun _ _ h=>h,?_⟩;simp only [AU,KF];rw [<-wi (n:=1+DO z 4) (by omega),<-wi (n:=1+DO d 4) (by omega),<-wi (n:=14+DO sl 17) (by omega),<-wi (n:=1+DO an 3) (by omega)];try rfl
def BO (g:Geo) (s:ByteArray):An:=⟨1,0,0,1,0,s,List.replicate g.z.toNat ⟨(List.range (g.d+1).toNat).map Int.ofNat,g.d+1,0⟩⟩
def H7 (n:Nat):List (List AV):=(List.range n).map fun i=> [iv (i:Nat)]
theorem KO (n:Nat):H7 (n+1)=H7 n ++ [[iv (n:Nat)]]:=by simp [H7,Bj]
theorem Rz {n i:Nat} (h:i<n):(H7 n).getD i []=[iv (i:Nat)]:=Fj h
def NN (g:Geo):List AV:= [.sl 1 (g.d+1).toNat fun i=>(H7 (g.d+1).toNat).getD i [],iv (g.d+1),iv 0]
theorem Uu (g:Geo):SubL (NN g) (ES ⟨(List.range (g.d+1).toNat).map Int.ofNat,g.d+1,0⟩):=
 ⟨fun _ _ h=>zD (by simp) (fun i hi=>by rw [Rz hi,Fj hi];try rfl) h,fun _ _ h=>h,fun _ _ h=>h,tv⟩
theorem Xf (g:Geo) (s:ByteArray) (hg:Bm g=true):Fn Tryz.prog 129 [.ag (AU g), .v (.string s)] fun r=>r = .ag (Ft (BO g s)):=by
 obtain⟨h1,h2,h3,h4,h5⟩:=Ar.1 hg;have w1:IntKind.i64.wrap (g.d+1)=g.d+1:=wi (by omega);refine zR Tryz.func129 rfl ?_;conv=>whnf
 refine zM Nat (fun k=>([(2, .bp 0 0),(4, .bp 1 0),(5, .bp 2 0),(6,iv k)], [.box 23 (AU g), .box 33 [iv 0,iv 0,iv 0,iv 0,iv 0, .v (.string ⟨#[]⟩), .v (.slice none 0 0)], .box 33 [iv 1,iv 0,iv 0,iv 1,iv 0, .v (.string s), .ow 3 k], .row 177 3 (List.replicate k (NN g))])) (fun k=>k<=g.z.toNat) (fun k=>g.z.toNat - k) 0 (Aj _) ⟨[(1002006,177,3)],tA,tA,tA,rfl,rfl,rfl⟩ ?_;intro k hk;conv=>whnf
 refine A7 (fun t1=>?_) (fun t1=>?_) <;> (repeat rw [Ab] at t1) <;> conv=>whnf
 ·refine zM Nat (fun j=>([(2, .bp 0 0),(4, .bp 1 0),(5, .bp 2 0),(6,iv k),(7, .bp 4 0),(8,iv j)], [.box 23 (AU g), .box 33 [iv 0,iv 0,iv 0,iv 0,iv 0, .v (.string ⟨#[]⟩), .v (.slice none 0 0)], .box 33 [iv 1,iv 0,iv 0,iv 1,iv 0, .v (.string s), .ow 3 k], .row 177 3 (List.replicate k (NN g)), .box 177 [.ow 5 j,iv (g.d+1),iv 0], .row 3 1 (H7 j)])) (fun j=>j<=(g.d+1).toNat) (fun j=>(g.d+1).toNat - j) 0 (Aj _) ⟨[(1004000,3,1)],tA,tA,⟨rfl,rfl,rfl,rfl,by rw [w1];try rfl,rfl,tv⟩,rfl,rfl,rfl⟩ ?_;intro j hj;conv=>whnf
  refine A7 (fun t2=>?_) (fun t2=>?_) <;> (repeat rw [Ab] at t2) <;> conv=>whnf
  ·refine⟨rfl,?_⟩;refine⟨⟨by simp [H7],by omega⟩,?_⟩;exact⟨j+1,by omega,by omega,(zl (by repeat' first | exact trivial | exact rfl | refine Ae ?_ ?_ | exact AI (by omega) | exact congrArg (AB.row _ _) (KO j)) (by repeat' first | exact trivial | exact rfl | refine Ae ?_ ?_ | exact AI (by omega) | exact congrArg (AB.row _ _) (KO j)) rfl rfl rfl)⟩
  ·have ej:j=(g.d+1).toNat:=by omega
   refine⟨(by simp [H7]),?_⟩;refine⟨rfl,?_⟩;refine⟨⟨by simp,by omega⟩,?_⟩;conv=>whnf
   have er:AB.row 177 3 (List.replicate (k+1) (NN g)) = .row 177 3 (List.replicate k (NN g) ++ [[AV.sl 1 j fun i=>(H7 j).getD i [],iv (g.d+1),iv 0]]):=by
    rw [List.replicate_succ',NN,<-ej]
   exact⟨k+1,by omega,by omega,(zl (by repeat' first | exact trivial | exact rfl | refine Ae ?_ ?_ | exact AI (by omega) | exact er) (by repeat' first | exact trivial | exact rfl | refine Ae ?_ ?_ | exact AI (by omega) | exact er) rfl rfl rfl)⟩
 ·refine⟨by simp,?_⟩;conv=>whnf
  have ek:k=g.z.toNat:=by omega
  refine⟨.ag (Ft (BO g s)),fun c u h=>?_,rfl⟩;refine Bk ?_ c u h;refine⟨fun _ _ h=>h,fun _ _ h=>h,fun _ _ h=>h,fun _ _ h=>h,fun _ _ h=>h,fun _ _ h=>h,fun c u h=>Rd.sub (by simp [BO,ek]) (fun i hi=>?_) h,tv⟩;rw [BO,Aa,Aa,C7 hi,C7 (by omega)];exact Uu g
theorem T4 {g:Geo} {r:Rc} {copy slot:Int} (hg:Bm g=true) (hok:Fz g r=true) (hl:IU g copy slot=true):FA g ⟨0,BG g r copy slot⟩ copy slot=some r:=by
 have hb:=F1 hg hl;have hs:=JM hok;have hn:=Es hok;obtain⟨h1,h2,h3,h4⟩:=C8 (a:=Bh g copy slot) (s:=r.seq) (p:=E8 r) ⟨hb.1,hb.2,hs.1,hs.2,by omega⟩;unfold FA;rw [hg,hl];simp only [BG,h1,h2,h3,h4,Rt hok];rfl
theorem lab_nil:G6 []=0:=by rw [<-NG,Jn];simp
theorem IG {g:Geo} {s:ByteArray} (hg:Bm g=true) (hs:G6 s.data.toList=0):Bn g (BO g s)=true:=by
 obtain⟨h1,h2,h3,h4,h5⟩:=Ar.1 hg;have hp:OH ((List.range (g.d+1).toNat).map Int.ofNat) (g.d+1)=true:=by
  rcases(show g.d=1\/g.d=2\/g.d=3\/g.d=4 by omega) with h | h | h | h <;> rw [h] <;> decide
 have hh:En g ⟨(List.range (g.d+1).toNat).map Int.ofNat,g.d+1,0⟩=true:=by
  simp [En,hp,CQ];omega
 simp [Bn,BO,hs,CQ];exact⟨by omega,by omega, .inr hh⟩
theorem Jz (b:List UInt8) (h:b.length<=100000000000):Fn Tryz.prog 14 [bA b,bA b] fun x=>x = .v (.bool true):=by
 have:=Q7 b b h;rw [decide_eq_true rfl] at this;exact this


end
end Go.Proofs.YtepdhdfoipephaaGreatDoor.A
namespace Go.Proofs.YtepdhdfoipephaaGreatDoor
section
open Go.ChangeShapes Go.WideShapes Go.ChangeAt Go.RowKit Go.Deep
variable {H:Type} {enc:TypeId × Value->H}

theorem Tz {w:World} {a:Addr} {u:Value} (h:w.cell? a=some u):a.spot=none:=by
 unfold World.cell? at h;split at h
 ·split at h
  ·cases h
  ·rename_i hn;cases hs:a.spot with
   | none=>rfl
   | some x=>rw [hs] at hn;exact absurd rfl hn
 ·cases h

theorem YE {k:Int} (h:(Lit.int .i64 k).wf=true):k<=9223372036854775807:=by
 have h2:IntKind.i64.min<=k/\k<=IntKind.i64.max:=by
  simp only [Lit.wf,Ad,decide_eq_true_eq] at h;exact h
 have e2:IntKind.i64.max=9223372036854775807:=by decide
 omega
theorem YD {k:Int} (h:(Lit.int .i64 k).wf=true) : -9223372036854775808<=k:=by
 have h2:IntKind.i64.min<=k/\k<=IntKind.i64.max:=by
  simp only [Lit.wf,Ad,decide_eq_true_eq] at h;exact h
 have e2:IntKind.i64.min = -9223372036854775808:=by decide
 omega
instance:Rp Geo where
 sz:=5
 agg:=true
 pos:=by omega
 E:=fun _ _ cs g=>cs=[.int .i64 g.z, .int .i64 g.d, .int .i64 g.sp, .int .i64 g.sl, .int .i64 g.an]
 len:=fun h=>by rw [h];try rfl
 one:=fun h u hu=>by rw [h] at hu;simp at hu;rcases hu with rfl | rfl | rfl | rfl | rfl <;> rfl
 mono:=fun _ h=>h
end
end Go.Proofs.YtepdhdfoipephaaGreatDoor
namespace Go.Proofs.YtepdhdfoipephaaGreatDoor.A
section
open Go.RowKit
def K3 (w:World):Ctx:={ w:=w,M:=noM,base:=w.heap.size,dom:=0,len:=fun _=>0,rho:=fun _=>undef }
theorem Fn.any {P:Program} {f:FuncId} {args:List AV} {a:AV} (h:Fn P f args fun r=>r=a) (w:World) (hg:globOk w) (us:List Value) (hr:RdL args (K3 w) us) :
  Calls P f us.toArray w fun e w'=>∃ v,e = .returned v/\Below w.heap.size w w'/\Rd a { K3 w with w:=w' } v:=by
 refine(h.calls (K3 w) us rfl (fun _ h=>h.elim) hg hr).mono ?_;rintro e w' ⟨v,r,rfl,rfl,h1,h2⟩;exact⟨v,rfl,h1,h2⟩
theorem Fn.anyV {P:Program} {f:FuncId} {args:List AV} {a:Value} (h:Fn P f args fun r=>r = .v a) (w:World) (hg:globOk w) (us:List Value) (hr:RdL args (K3 w) us) :
  Calls P f us.toArray w fun e w'=>e = .returned a/\Below w.heap.size w w':=by
 refine(h.any w hg us hr).mono ?_;rintro e w' ⟨v,rfl,h1,h2⟩;simp only [Rd] at h2;exact⟨by rw [h2],h1⟩
end
section
open Go.RowKit Go.ChangeShapes Go.WideShapes Go.ChangeAt Go.Deep
open Go.ChangeMaps (open_string)

section
variable {H:Type} {enc:TypeId × Value->H} {w:World}
def OpenE (enc:TypeId × Value->H) (w:World) (t:TypeId) (sz:Nat) (G:List AV->Prop):Prop:=
 Tryz.prog.cellsOf t=sz/\∀ n cs x,DataW.trod enc Tryz.prog w 0 (fun _=>true) true n t cs=some x->∃ L,G L/\RdL L (K3 w) cs/\(∀ u∈cs,u.oneCell'=true)/\L.length=sz
theorem OpenE.mono {t sz:Nat} {G G':List AV->Prop} (h:OpenE enc w t sz G) (hg:∀ L,G L->G' L):OpenE enc w t sz G':=
 ⟨h.1,fun n cs x hx=>let ⟨L,h1,h2⟩:=h.2 n cs x hx;⟨L,hg L h1,h2⟩⟩
def af (L:List AV):Prop:=∃ k:Int,L=[iv k]/\ -9223372036854775808<=k/\k<=9223372036854775807
theorem ZU {t:Nat} (ht:Tryz.prog.underlying t=some (.int .i64)) (hc:Tryz.prog.cellsOf t=1):OpenE enc w t 1 af:=⟨hc,fun n cs x h=>by
 obtain⟨k,rfl, -,hw⟩:=DataW.trod_int ht h;exact⟨_,⟨k,rfl,YD hw,YE hw⟩,by simp only [RdL,Rd];exact⟨_,_,rfl,rfl,rfl⟩,by simp [Value.oneCell'],rfl⟩⟩
def ch {α:Type} (sz:Nat) (f:α->List AV) (d:α) (L:List AV):Prop:=∃ l:List α,L=[.sl sz l.length fun i=>f (l.getD i d)]
theorem Zl {α:Type} {t e sz:Nat} {f:α->List AV} {d:α} (ht:Tryz.prog.underlying t=some (.slice e)) (hc:Tryz.prog.cellsOf t=1) (hsz:0<sz) (he:OpenE enc w e sz fun L=>∃ a,L=f a):OpenE enc w t 1 (ch sz f d):=⟨hc,fun n cs x h=>by
 have hnil:∀ (u:Value),Rd (.v (.slice none 0 0)) (K3 w) u->Rd (.sl sz ([]:List α).length fun i=>f (([]:List α).getD i d)) (K3 w) u:=fun u h=>by
  simp only [Rd] at h |-
  exact⟨none,0,h,by simp,by simp [maxLen], .inl rfl⟩
 rcases open_slice ht h with ⟨rfl, -⟩ | ⟨a,len,cap,m,n',D,Pl,rfl, -,hlc,hcm,hm, -,hel'⟩
 ·exact⟨_,⟨[],rfl⟩,by simp only [RdL];exact⟨_,_,rfl,hnil _ (by simp [Rd]),rfl⟩,by simp [Value.oneCell'],rfl⟩
 ·simp only [if_true] at hm;subst hm;obtain⟨b,off,spot⟩:=a;by_cases h0:len=0
  ·subst h0;refine⟨_,⟨[],rfl⟩,?_,by simp [Value.oneCell'],rfl⟩;simp only [RdL,Rd];exact⟨_,_,rfl,⟨_,m,rfl,by simp,hcm, .inl rfl⟩,rfl⟩
  ·have hsp:spot=none:=by
    obtain⟨cs',hc',htr⟩:=hel' 0 (by omega);obtain⟨L,⟨a,rfl⟩,hR,h1,hl⟩:=he.2 n' cs' _ htr;obtain⟨-,hl2,hcell⟩:=World.cells?_some hc';have hlen:=hR.length;have:=hcell 0 (by rw [he.1];omega);rw [Af (by omega)] at this;simp only [Addr.add,Nat.zero_mul,if_true] at this;exact Tz this
   subst hsp;have key:∀ i,i<len->∃ cs,∃ a:α,RdL (f a) (K3 w) cs/\(∀ u∈cs,u.oneCell'=true)/\(f a).length=sz/\∀ j u,cs[j]? = some u->w.cell? ⟨b,off+(i*sz+j),none⟩=some u:=fun i hi=>by
    obtain⟨cs',hc',htr⟩:=hel' i (by omega);obtain⟨L,⟨a,rfl⟩,hR,h1,hl⟩:=he.2 n' cs' _ htr;refine⟨cs',a,hR,h1,hl,fun j u hu=>?_⟩;obtain⟨-,hl2,hcell⟩:=World.cells?_some hc';have hj:j<Tryz.prog.cellsOf e:=by rw [<-hl2];exact(As.1 hu).1
    have h3:=(hcell j hj).trans hu;rw [he.1,Addr.add_lit,Addr.add_lit,Dz] at h3;exact h3
   have hex:∀ k,k<=len->∃ l:List α,l.length=k/\∀ i,i<k->(f (l.getD i d)).length=sz/\RdAt (f (l.getD i d)) (K3 w) b (off+i*sz):=by
    intro k;induction k with
    | zero=>exact fun _=>⟨[],rfl,fun i hi=>absurd hi (Ap i)⟩
    | succ k ih=>
     intro hk;obtain⟨l,hl,hr⟩:=ih (by omega);obtain⟨cs',a,hR,h1,hla,h2⟩:=key k (by omega);refine⟨l ++ [a],by simp [hl],fun i hi=>?_⟩;by_cases hik:i<k
     ·have e:(l ++ [a]).getD i d=l.getD i d:=by rw [Aa,Aa,AC (by omega)]
      rw [e];exact hr i hik
     ·have e2:i=k:=by omega
      subst e2;have e:(l ++ [a]).getD i d=a:=by rw [Aa,A9 (by omega),hl];simp
      rw [e];refine⟨hla,RdAt.of hR h1 fun j u hu=>?_⟩;have:=h2 j u hu;rw [Dz];exact this
   obtain⟨l,hl,hr⟩:=hex len (Ah _);refine⟨_,⟨l,rfl⟩,?_,by simp [Value.oneCell'],rfl⟩;simp only [RdL,Rd];refine⟨_,_,rfl,⟨_,m,by rw [hl],by omega,hcm, .inr ⟨b,off,rfl,fun h=>h,?_,fun i hi=>hr i (by omega)⟩⟩,rfl⟩;obtain⟨cs',a,hR,h1,hla,h2⟩:=key 0 (by omega);have hlen:=hR.length;have h3:=h2 0 cs'[0] (Af (by omega));exact World.block_lt_of_cell? _ _ h3⟩
def catG:List (List AV->Prop)->List AV->Prop
 | [],L=>L=[]
 | G::r,L=>∃ A B,L=A ++ B/\G A/\catG r B
structure FieldE (enc:TypeId × Value->H) (w:World) where
 t:TypeId
 sz:Nat
 G:List AV->Prop
 ok:OpenE enc w t sz G
theorem Kp {n:Nat} {cs:List Value}:∀ (fs:List (FieldE enc w)) (off:Nat),off+(fs.map (·.sz)).sum=cs.length->
  (∀ i f,fs[i]? = some f->∃ x,DataW.trod enc Tryz.prog w 0 (fun _=>true) true n f.t ((cs.drop (off+((fs.take i).map (·.sz)).sum)).take f.sz)=some x)->
  ∃ L,catG (fs.map (·.G)) L/\RdL L (K3 w) (cs.drop off)/\(∀ u∈cs.drop off,u.oneCell'=true)/\L.length=(fs.map (·.sz)).sum
 | [],off,hl,_=>⟨[],rfl,by simp only [RdL];exact AH (by simp at hl;omega),by rw [AH (by simp at hl;omega)];simp,rfl⟩
 | f::r,off,hl,h=>by
  simp only [A4,List.sum_cons] at hl |-
  obtain⟨x,hx⟩:=h 0 f rfl;simp only [List.take_zero,Bz,List.sum_nil,CF] at hx;obtain⟨A,hA,hRA,h1A,hlA⟩:=f.ok.2 _ _ _ hx;obtain⟨B,hB,hRB,h1B,hlB⟩:=Kp (cs:=cs) r (off+f.sz) (by omega) (fun i g hg=>by
   obtain⟨y,hy⟩:=h (i+1) g (by simpa using hg);refine⟨y,?_⟩;simp only [CS,A4,List.sum_cons] at hy;rw [Dz];exact hy)
  have e:cs.drop off=(cs.drop off).take f.sz ++ cs.drop (off+f.sz):=by rw [<-Be,Ck]
  refine⟨A ++ B,⟨A,B,rfl,hA,hB⟩,?_,?_,by simp [hlA,hlB]⟩
  ·rw [e];exact hRA.append hRB
  ·intro u hu;rw [e,A2] at hu;exact hu.elim (h1A u) (h1B u)
theorem Ue {t:Nat} (fs:List (FieldE enc w)) {F:Array Field} (ht:Tryz.prog.underlying t=some (.struct F)) (hc:Tryz.prog.cellsOf t=(fs.map (·.sz)).sum)
  (hF:F.toList.map (fun f=>(f.type,f.offset))=fs.zipIdx.map fun p=>(p.1.t,((fs.take p.2).map (·.sz)).sum)):OpenE enc w t (fs.map (·.sz)).sum (catG (fs.map (·.G))):=⟨hc,fun n cs x h=>by
 obtain⟨xs,n',_,rfl,hl,hlen,hf⟩:=DataW.trod_struct ht h;have hsz:F.size=fs.length:=by have:=congrArg List.length hF;simpa using this
 obtain⟨L,h1,h2,h3,h4⟩:=Kp (n:=n') (cs:=cs) fs 0 (by rw [hl,hc];omega) (fun i f hi=>by
  have hi':i<fs.length:=(As.1 hi).1;have hFi:F[i]? = some F[i]:=CW (by omega);have hx:=hf i F[i] hFi;have he:(F[i].type,F[i].offset)=(f.t,((fs.take i).map (·.sz)).sum):=by
   have:=congrArg (fun l=>l[i]?) hF;simp only [AS,List.getElem?_zipIdx,hi,Array.getElem?_toList,hFi,Dr,A3,Option.some.injEq] at this;exact this
  injection he with e1 e2
  rw [e1,e2,f.ok.1] at hx;rw [Af (by omega)] at hx;rw [A3];exact⟨_,hx⟩)
 exact⟨L,h1,by simpa using h2,by simpa using h3,h4⟩⟩
end
section
variable {H:Type} {enc:TypeId × Value->H} {w:World}
theorem oI:OpenE enc w 3 1 af:=ZU Tryz.underlying3 (by kernel_rfl)
def fI:FieldE enc w:=⟨_,_,_,oI⟩
theorem oGeo:OpenE enc w 23 5 fun L=>∃ x,L=AU x:=
 (Ue [fI,fI,fI,fI,fI] Tryz.underlying23 (by kernel_rfl) (by kernel_rfl)).mono fun L h=>by
  obtain⟨_,_,rfl,⟨a,rfl,_⟩,_,_,rfl,⟨b,rfl,_⟩,_,_,rfl,⟨c,rfl,_⟩,_,_,rfl,⟨d,rfl,_⟩,_,_,rfl,⟨e,rfl,_⟩,rfl⟩:=h;exact⟨⟨a,b,c,d,e⟩,rfl⟩
def bn (l:List Int):List AV:=l.map fun k=> iv k
theorem cat_ints:∀ (n:Nat) {L:List AV},catG (List.replicate n af) L->∃ l:List Int,l.length=n/\L=bn l/\∀ k∈l, -9223372036854775808<=k/\k<=9223372036854775807
 | 0,L,h=>⟨[],rfl,h,by simp⟩
 | n+1,L,h=>by
  obtain⟨A,B,rfl,⟨k,rfl,hk⟩,hB⟩:=h;obtain⟨l,h1,rfl,h2⟩:=cat_ints n hB;refine⟨k::l,by simp [h1],rfl,fun x hx=>?_⟩;rcases AK.1 hx with rfl | hx
  ·exact hk
  ·exact h2 x hx
theorem W7 {t n:Nat} (ht:Tryz.prog.underlying t=some (.array n 3)) (hc:Tryz.prog.cellsOf t=n):OpenE enc w t n fun L=>∃ l:List Int,l.length=n/\L=bn l/\∀ k∈l, -9223372036854775808<=k/\k<=9223372036854775807:=⟨hc,fun m cs x h=>by
 obtain⟨xs,m',_,rfl,hl,hlen,hel⟩:=DataW.trod_array ht h;have hs:((List.replicate n (fI:FieldE enc w)).map (·.sz)).sum=n:=by
  rw [DD,List.sum_replicate_nat];exact DT n
 obtain⟨L,h1,h2,h3,h4⟩:=Kp (n:=m') (cs:=cs) (List.replicate n (fI:FieldE enc w)) 0 (by rw [hl,hc,hs];omega) (fun i f hi=>by
  have hin:i<n:=by simpa using (As.1 hi).1
  rw [C7 hin] at hi;have hi:=(Option.some.inj hi).symm;subst hi;have:=hel i hin;rw [(oI (enc:=enc) (w:=w)).1,Af (by omega)] at this;refine⟨_,Eq.trans ?_ this⟩;have e:((List.take i (List.replicate n (fI:FieldE enc w))).map (·.sz)).sum=i*1:=by
   rw [List.take_replicate,DD,List.sum_replicate_nat,Ds (by omega)];try rfl
  rw [e,A3];try rfl)
 rw [DD] at h1;obtain⟨l,q1,q2,q3⟩:=cat_ints n h1;exact⟨L,⟨l,q1,q2,q3⟩,by simpa using h2,by simpa using h3,by rw [h4,hs]⟩⟩

theorem Tc {t:Nat} {G:List AV->Prop} {v:Value} {d:DataW H} {ps:List MemPlace} (ho:OpenE enc w t 1 G) (hv:v.cells.toList=[v]) (h:DataW.Trod enc Tryz.prog w 0 (fun _=>true) true t v d ps):∃ L,G L/\RdL L (K3 w) [v]:=by
 obtain⟨n,hn⟩:=h;obtain⟨L,h1,h2,_⟩:=ho.2 n _ _ hn;rw [hv] at h2;exact⟨L,h1,h2⟩
theorem Zc {t sz:Nat} {G:List AV->Prop} {cs:Array Value} {d:DataW H} {ps:List MemPlace} (ho:OpenE enc w t sz G) (h:DataW.Trod enc Tryz.prog w 0 (fun _=>true) true t (.agg cs) d ps):∃ L,G L/\Rd (.ag L) (K3 w) (.agg cs):=by
 obtain⟨n,hn⟩:=h;obtain⟨L,h1,h2,_⟩:=ho.2 n _ _ hn;refine⟨L,h1,?_⟩;simp only [Rd];exact⟨cs.toList,rfl,h2⟩
theorem SA {a:AV} {c:Ctx} {v:Value} (h:RdL [a] c [v]):Rd a c v:=by
 simp only [RdL] at h;obtain⟨y,ys,e,h1,_⟩:=h;injection e with e _
 subst e;exact h1
end
end
section
open Go.RowKit
theorem Re {g:Geo} {x:Gt} {copy slot:Int} (h:(Bm g&&IU g copy slot)=false):FA g x copy slot=none:=by
 unfold FA;rw [h];try rfl
theorem VH {g:Geo} {x:Gt} {copy slot:Int} {r:Rc} (h:FA g x copy slot=some r):Fz g r=true/\IU g copy slot=true/\r.img.bytes.length<=59:=by
 unfold FA at h;split at h
 ·rename_i hc;simp only [Ad] at hc;split at h
  ·rename_i r' hr;split at h
   ·injection h with h
    subst h;obtain⟨h1,h2⟩:=Rs hr;have h3:=Es h1;have h4:=LY h1;refine⟨h1,hc.1.1.1.2,?_⟩;by_cases hk:r'.kind=1
    ·rw [if_pos hk] at h4;omega
    ·have:r'.img.bytes.length=0:=by
      unfold Fz Gf at h1;simp only [Ad] at h1;have h5:=h1.2;split at h5
      ·simp only [IW,Ad,beq_iff_eq] at h5;omega
      ·split at h5
       ·simp only [IW,Ad,beq_iff_eq] at h5;omega
       ·cases h5
     omega
   ·cases h
  ·cases h
 ·cases h
theorem Qa {p q:Option Rc} {b1 b2:Bool} {Q:Rc->Prop} (h1:b1=true->∃ r,p=some r/\Q r) (h2:b2=true->∃ r,q=some r/\Q r) :
  ((Hg p q b1 b2).2.2=1/\Q (Hg p q b1 b2).1/\(Hg p q b1 b2).2.1.length<=1/\∀ c∈(Hg p q b1 b2).2.1,c=0\/c=1)\/(((Hg p q b1 b2).2.2=2\/(Hg p q b1 b2).2.2=3)/\(Hg p q b1 b2).2.1=[]/\(Hg p q b1 b2).1=zeroC):=by
 unfold Hg;cases b1 <;> cases b2
 ·by_cases h:(p.isSome || q.isSome)=true
  ·simp [h]
  ·simp [h]
 ·obtain⟨r,rfl,hr⟩:=h2 rfl;exact .inl ⟨rfl,hr,by simp,by simp⟩
 ·obtain⟨r,rfl,hr⟩:=h1 rfl;exact .inl ⟨rfl,hr,by simp,by simp⟩
 ·obtain⟨r,rfl,hr⟩:=h1 rfl;exact .inl ⟨rfl,hr,by simp,by simp⟩
theorem PU {g:Geo} {a:An} {x:Gt} {c slot seq at_ of_ left:Int} (h:R9 (FA g x c slot) a seq at_ of_ left=true):∃ r,FA g x c slot=some r/\Fz g r=true/\r.img.bytes.length<=59/\GK r a seq at_ of_ left=true:=by
 cases hp:FA g x c slot with
 | none=>rw [hp] at h;cases h
 | some r=>
  rw [hp] at h;obtain⟨e1, -,e3⟩:=VH hp;exact⟨r,rfl,e1,e3,h⟩
theorem Qb {g:Geo} {a:An} {x y:Gt} {slot seq at_ of_ left:Int} (hs:0<=slot/\slot<g.sl) :
  ((Ip g a x y slot seq at_ of_ left).2.2=1/\(Fz g (Ip g a x y slot seq at_ of_ left).1=true/\(Ip g a x y slot seq at_ of_ left).1.img.bytes.length<=59/\GK (Ip g a x y slot seq at_ of_ left).1 a seq at_ of_ left=true)/\(Ip g a x y slot seq at_ of_ left).2.1.length<=1/\∀ c∈(Ip g a x y slot seq at_ of_ left).2.1,IU g c slot=true)\/
  (((Ip g a x y slot seq at_ of_ left).2.2=2\/(Ip g a x y slot seq at_ of_ left).2.2=3)/\(Ip g a x y slot seq at_ of_ left).2.1=[]/\(Ip g a x y slot seq at_ of_ left).1=zeroC):=by
 have hi:CQ slot 0 (g.sl - 1)=true:=AF.2 (by omega);have o0:IU g 0 slot=true:=by rw [IU,hi];try rfl
 have o1:IU g 1 slot=true:=by rw [IU,hi];try rfl
 refine(Qa (Q:=fun r=>Fz g r=true/\r.img.bytes.length<=59/\GK r a seq at_ of_ left=true) PU PU).imp (fun h=>⟨h.1,h.2.1,h.2.2.1,fun c hc=>?_⟩) id;rcases h.2.2.2 c hc with rfl | rfl
 ·exact o0
 ·exact o1
def gz:Gt:=⟨0, []⟩
def Dd (g:Geo) (pos at_:Int):Int:=(IntKind.i64.wrap (pos+at_)).tmod g.sl
def EF (g:Geo) (a:An) (x y:List Gt) (pos seq left at_ of_:Int):Rc × Int × List Wr:=
 let s:=Dd g pos at_;let q:=Ip g a (x.getD s.toNat gz) (y.getD s.toNat gz) s seq at_ of_ left
 (q.1,q.2.2,q.2.1.map fun c=>⟨Bh g c s,BG g q.1 c s⟩)
def Eu (look:Int->Rc × Int × List Wr):Nat->Int->Rc->List Img->List Wr->Int × List Img × List Wr
 | 0,_,r,im,w=>(1,if r.kind=1 then im ++ [r.img] else im,w)
 | f+1,at_,r,im,w=>
  let q:=look at_
  if q.2.1≠1 then (q.2.1, [], []) else Eu look f (at_+1) q.1 (if r.kind=1 then im ++ [r.img] else im) (w ++ q.2.2)
def IJ (g:Geo) (a:An) (x y:List Gt) (pos seq left:Int):Int × Int × List Img × List Wr:=
 let q:=EF g a x y pos seq left 0 0
 if q.2.1≠1 then (q.2.1,0, [], []) else
  let t:=Eu (fun k=>EF g a x y pos seq left k q.1.of_) (q.1.of_ - 1).toNat 1 q.1 [] q.2.2
  if t.1≠1 then (t.1,0, [], []) else (1,q.1.of_,t.2.1,t.2.2)
def If (g:Geo) (a:An) (x y:List Gt):Nat->Int->Int->Int->List Tx->List Wr->Option (List Tx × List Wr × Int)
 | 0,_,seq,_,l,w=>some (l,w,seq)
 | f+1,pos,seq,left,l,w=>
  if 0<left/\seq<=4294967295 then
   let t:=IJ g a x y pos seq left
   if t.1=3 then none else if t.1≠1 then some (l,w,seq)
   else If g a x y f ((pos+t.2.1).tmod g.sl) (seq+1) (left - t.2.1) (l ++ [⟨seq,pos,t.2.1,t.2.2.1⟩]) (w ++ t.2.2.2)
  else some (l,w,seq)
def damaged:Int:=12
def Xh (a:An):Option (List Tx × List Wr × Int)->List Tx × List Wr × Int
 | none=>([], [],damaged)
 | some (l,w,seq)=>if seq - 1<a.last then ([], [],damaged) else (l,w,0)
theorem Xg {a:An} {l:List Tx} {w:List Wr} {seq:Int} (h:seq - 1<a.last):Xh a (some (l,w,seq))=([], [],damaged):=if_pos h
theorem MK {a:An} {l:List Tx} {w:List Wr} {seq:Int} (h:¬seq - 1<a.last):Xh a (some (l,w,seq))=(l,w,0):=if_neg h
def Gj (g:Geo) (a:An) (x y:List Gt):List Tx × List Wr × Int:=Xh a (If g a x y g.sl.toNat a.pos a.seq g.sl [] [])
theorem Id {g:Geo} {pos at_:Int} (hg:Bm g=true) (hp:0<=pos/\pos<g.sl) (hat:0<=at_/\at_<=1000):0<=Dd g pos at_/\Dd g pos at_<g.sl:=by
 obtain⟨h1,h2,h3,h4,h5⟩:=Ar.1 hg;have hw:IntKind.i64.wrap (pos+at_)=pos+at_:=by rw [IntKind.wrap_i64];omega
 exact⟨Bx _ (by rw [hw];omega),Bb _ (by omega)⟩
theorem H6 {g:Geo} {a:An} {x y:List Gt} {pos seq left at_ of_:Int} (hg:Bm g=true) (hp:0<=pos/\pos<g.sl) (hat:0<=at_/\at_<=1000) :
  ((EF g a x y pos seq left at_ of_).2.1=1/\(Fz g (EF g a x y pos seq left at_ of_).1=true/\(EF g a x y pos seq left at_ of_).1.img.bytes.length<=59/\GK (EF g a x y pos seq left at_ of_).1 a seq at_ of_ left=true)/\(EF g a x y pos seq left at_ of_).2.2.length<=1)\/
  (((EF g a x y pos seq left at_ of_).2.1=2\/(EF g a x y pos seq left at_ of_).2.1=3)/\(EF g a x y pos seq left at_ of_).2.2=[]/\(EF g a x y pos seq left at_ of_).1=zeroC):=by
 refine(Qb (a:=a) (x:=x.getD (Dd g pos at_).toNat gz) (y:=y.getD (Dd g pos at_).toNat gz) (seq:=seq) (at_:=at_) (of_:=of_) (left:=left) (Id hg hp hat)).imp (fun h=>⟨h.1,h.2.1,?_⟩) (fun h=>⟨h.1,?_,h.2.2⟩)
 ·simp only [EF,Ac];exact h.2.2.1
 ·simp only [EF,h.2.1,Bz]
theorem R8 {r:Rc} {g:Geo} {a:An} {seq at_ of_ left:Int} (hk:Fz g r=true) (h:GK r a seq at_ of_ left=true):2<=r.of_/\r.of_<=30/\r.at_=at_/\r.at_<=r.of_ - 1/\(of_=0->r.of_<=left)/\(of_≠0->r.of_=of_):=by
 have h:=of_decide_eq_true h;unfold Fz Gf at hk;simp only [Ad] at hk;have h2:=hk.2;rw [if_neg h.1] at h2;split at h2
 ·simp only [IV,Ad,AF] at h2;refine⟨by omega,by omega,h.2.2.1,by omega,h.2.2.2.1,h.2.2.2.2.1⟩
 ·split at h2
  ·simp only [IV,Ad,AF,beq_iff_eq] at h2;refine⟨by omega,by omega,h.2.2.1,by omega,h.2.2.2.1,h.2.2.2.2.1⟩
  ·cases h2
@[reducible] def co (g:Geo) (a:An) (x y:List Gt) (pos seq left:Int) (w:AV):List AV:=
 [iv g.z,iv g.d,iv g.sp,iv g.sl,iv g.an,iv a.gen,iv a.epoch,iv a.pos,iv a.seq,iv a.last, .v (.string a.label),Jr a.homes,Iv x,Iv y,iv pos,iv seq,iv left,w]
theorem Mr (seq epoch of_:Int) {k:Nat} {l:List Img} (hk:k<l.length):(IQ seq epoch of_ (k+1) l).map Kd=(IQ seq epoch of_ k l).map Kd ++ [Kd ⟨1,seq,epoch,(k:Nat),of_,l.getD k ⟨0,0, []⟩⟩]:=by
 rw [Ut seq epoch of_ hk,A8,Aa,Af hk];try rfl

def WI (seq epoch n:Int):List AV:= [iv 2,iv seq,iv epoch,iv n,iv (n+1),iv 0,iv 0, .v (.slice none 0 0)]
theorem PH (seq epoch:Int) (l:List Img) (i:Nat) (hi:i<l.length+1) :
  SubL ((List.map Kd (IQ seq epoch (l.length+1) l.length l) ++ [WI seq epoch l.length]).getD i [])
   (Kd ((CP seq epoch l).getD i ⟨0,0,0,0,0,⟨0,0, []⟩⟩)):=by
 have hlk:(IQ seq epoch (l.length+1) l.length l).length=l.length:=by rw [It];omega
 rcases B_ i l.length with h | h
 ·have e1:(List.map Kd (IQ seq epoch (l.length+1) l.length l) ++ [WI seq epoch l.length]).getD i []=Kd ((CP seq epoch l).getD i ⟨0,0,0,0,0,⟨0,0, []⟩⟩):=by
   unfold CP;rw [JQ (by rw [Ac,hlk];exact h),JQ (by rw [hlk];exact h)];exact Bd (by rw [hlk];exact h)
  rw [e1];exact SubL.refl _
 ·obtain rfl:i=l.length:=by omega
  unfold CP;rw [IC (by rw [Ac,hlk];omega),IC (by rw [hlk];omega),Ac,hlk,CE];simp only [List.getD_cons_zero,Kd,noImg,WI];exact⟨fun _ _ h=>h,fun _ _ h=>h,fun _ _ h=>h,fun _ _ h=>h,fun _ _ h=>h,fun _ _ h=>h,fun _ _ h=>h,Bo _ _,tv⟩
theorem H5 (seq epoch:Int) (l:List Img):(CP seq epoch l).length=l.length+1:=by
 unfold CP;rw [Ai,It];simp
theorem Rr (seq epoch:Int) (l:List Img) (hl:l.length<=1000000) (hb:∀ x∈l,x.bytes.length<=1000000000):Fn Tryz.prog 87 [iv seq,iv epoch,Ec l] fun r=>r=LX (CP seq epoch l):=by
 refine zR Tryz.func87 rfl ?_;conv=>whnf
 refine zM Nat (fun k=>([(0,iv seq),(1,iv epoch),(2,Ec l),(7, .ow 0 k),(8,iv k)], [.row 168 8 ((IQ seq epoch (l.length+1) k l).map Kd)])) (fun k=>k<=l.length) (fun k=>l.length - k) 0 (Aj _) ⟨[(7,168,8)],tA,tA,tA,rfl,rfl,rfl⟩ ?_;rintro k hk;have hlk:=It seq epoch (l.length+1) k l;conv=>whnf
 refine Ao (fun h2=>?_) (fun h2=>?_) <;> simp at h2 <;> conv=>whnf
 ·refine zH tys_ok mixed (by kernel_rfl) ?_;conv=>whnf
  refine⟨by first | omega | (refine⟨rfl,?_,?_⟩ <;> first | omega | (simp only [Ac];done) | (simp only [Ac];omega)) | (simp only [Ac];omega),?_⟩;conv=>whnf
  refine⟨by first | omega | (refine⟨rfl,?_,?_⟩ <;> first | omega | (simp only [Ac];done) | (simp only [Ac];omega)) | (simp only [Ac];omega),?_⟩;conv=>whnf
  refine⟨by first | omega | (refine⟨rfl,?_,?_⟩ <;> first | omega | (simp only [Ac];done) | (simp only [Ac];omega)) | (simp only [Ac];omega),?_⟩;conv=>whnf
  refine zI (Eo (l.getD k ⟨0,0, []⟩).bytes (hb _ (A5 h2))) rfl ?_;rintro _ rfl;refine⟨rfl,?_⟩;conv=>whnf
  refine⟨⟨by rw [Ac,hlk];omega,by omega⟩,?_⟩;refine⟨k+1,by omega,by omega, [],tv,⟨rfl,rfl,rfl,rfl,AI (by omega),tv⟩,⟨Zh ?_,tv⟩,rfl,rfl,rfl⟩;rw [Mr _ _ _ h2,wi (by omega)];try rfl
 ·obtain rfl:k=l.length:=by omega
  rw [wi (by omega)];refine⟨rfl,?_⟩;conv=>whnf
  refine⟨⟨by rw [Ac,hlk];omega,by omega⟩,?_⟩;conv=>whnf
  refine⟨by rw [Ai,Ac,hlk];simp,?_⟩;exact⟨LX (CP seq epoch l),fun c v h=>Rd.sub (H5 seq epoch l).symm (PH seq epoch l) h,rfl⟩

theorem XK {g:Geo} {a:An} (h:Bn g a=true):(0<=a.seq/\a.seq<=4294967296)/\0<=a.pos/\a.pos<g.sl:=by
 simp only [Bn,A_,Ad,AF] at h;omega
theorem KW {look:Int->Rc × Int × List Wr}:∀ (f:Nat) (k:Int) (r:Rc) (im:List Img) (w:List Wr),(∀ i,k<=i->i<k+f->(look i).2.2.length<=1)->(Eu look f k r im w).2.2.length<=w.length+f
 | 0,_,_,_,_,_=>by simp [Eu]
 | f+1,k,r,im,w,h=>by
  have h1:=h k (by omega) (by omega);unfold Eu;simp only;split
  ·simp
  ·have:=KW f (k+1) (look k).1 (if r.kind=1 then im ++ [r.img] else im) (w ++ (look k).2.2) fun i h2 h3=>h i (by omega) (by omega)
   rw [Ai] at this;omega
theorem KX {look:Int->Rc × Int × List Wr}:∀ (f:Nat) (k:Int) (r:Rc) (im:List Img) (w:List Wr),(∀ i,k<=i->i<k+f->(look i).2.1=1\/(look i).2.1=2\/(look i).2.1=3)->(Eu look f k r im w).1=1\/(Eu look f k r im w).1=2\/(Eu look f k r im w).1=3
 | 0,_,_,_,_,_=> .inl rfl
 | f+1,k,r,im,w,h=>by
  have h1:=h k (by omega) (by omega);unfold Eu;simp only;split
  ·exact h1
  ·exact KX f (k+1) (look k).1 (if r.kind=1 then im ++ [r.img] else im) (w ++ (look k).2.2) fun i h2 h3=>h i (by omega) (by omega)
theorem QR {g:Geo} {a:An} {x y:List Gt} {pos seq left:Int} (hg:Bm g=true) (hp:0<=pos/\pos<g.sl) :
  ((IJ g a x y pos seq left).1=1/\(2<=(IJ g a x y pos seq left).2.1/\(IJ g a x y pos seq left).2.1<=left/\(IJ g a x y pos seq left).2.1<=30)/\(IJ g a x y pos seq left).2.2.2.length<=30)\/((IJ g a x y pos seq left).1=2\/(IJ g a x y pos seq left).1=3):=by
 have r0:=H6 (a:=a) (x:=x) (y:=y) (seq:=seq) (left:=left) (of_:=0) (at_:=0) hg hp (by omega);unfold IJ;simp only;rcases r0 with ⟨e1,⟨e2, -,e3⟩,e4⟩ | ⟨e1, -, -⟩
 ·rw [if_neg (by omega)];have hN:=R8 e2 e3;have hA:=fun(i:Int) (h1:1<=i) (h2:i<1+((EF g a x y pos seq left 0 0).1.of_ - 1).toNat)=>H6 (a:=a) (x:=x) (y:=y) (seq:=seq) (left:=left) (of_:=(EF g a x y pos seq left 0 0).1.of_) (at_:=i) hg hp (by omega)
  have hH:=KX (look:=fun k=>EF g a x y pos seq left k (EF g a x y pos seq left 0 0).1.of_) ((EF g a x y pos seq left 0 0).1.of_ - 1).toNat 1 (EF g a x y pos seq left 0 0).1 [] (EF g a x y pos seq left 0 0).2.2 fun i h1 h2=>(hA i h1 h2).imp (fun h=>h.1) fun h=>h.1
  split
  ·exact .inr (hH.resolve_left ‹_›)
  ·refine .inl ⟨rfl,⟨hN.1,hN.2.2.2.2.1 rfl,hN.2.1⟩,?_⟩;have:=KW (look:=fun k=>EF g a x y pos seq left k (EF g a x y pos seq left 0 0).1.of_) ((EF g a x y pos seq left 0 0).1.of_ - 1).toNat 1 (EF g a x y pos seq left 0 0).1 [] (EF g a x y pos seq left 0 0).2.2 fun i h1 h2=>by
    rcases hA i h1 h2 with ⟨_,_,h⟩ | ⟨_,h,_⟩
    ·exact h
    ·rw [h];simp
   exact Br this (by omega)
 ·rw [if_pos (by omega)];exact .inr e1
def aO (g:Geo) (t:Tx) (s:Int):Int:=(IntKind.i64.wrap (IntKind.i64.wrap (s - t.pos)+g.sl)).tmod g.sl
def aN (g:Geo) (t:Tx) (s:Int):Bool:=CQ t.pos 0 (g.sl - 1)&&CQ t.n 0 g.sl&&decide (aO g t s<t.n)
def Z2 (g:Geo) (s:Int):List Tx->Nat->Option (Nat × Int)
 | [],_=>none
 | t::r,i=>if aN g t s then some (i,aO g t s) else Z2 g s r (i+1)
end
end Go.Proofs.YtepdhdfoipephaaGreatDoor.A
namespace Go.Proofs.YtepdhdfoipephaaGreatDoor
section

def rc0:Rc:=⟨0,0,0,0,0,⟨0,0, []⟩⟩
theorem I6 (seq epoch:Int) (l:List Img) {k:Nat} (hk:k<l.length+1):(CP seq epoch l).getD k rc0=if k<l.length then ⟨1,seq,epoch,(k:Nat),l.length+1,l.getD k ⟨0,0, []⟩⟩ else ⟨2,seq,epoch,(k:Nat),l.length+1,noImg⟩:=by
 have hlen:(IQ seq epoch (l.length+1) l.length l).length=l.length:=by rw [It];omega
 unfold CP;rw [Aa];by_cases h:k<l.length
 ·rw [if_pos h,AC (by omega)];have h2:(IQ seq epoch (l.length+1) l.length l)[k]? = some ⟨1,seq,epoch,(k:Nat),l.length+1,l[k]⟩:=by
   unfold IQ;rw [Aw,AS,List.getElem?_zipIdx,Af h];simp
  rw [h2,Aa,Af h];try rfl
 ·have e:k=l.length:=by omega
  subst e;rw [if_neg h,A9 (by omega),hlen];simp
structure RecAt (g:Geo) (seq epoch:Int) (l:List Img) (k:Nat) (r:Rc):Prop where
 ok:Fz g r=true
 seq:r.seq=seq
 epoch:r.epoch=epoch
 at_:r.at_=(k:Nat)
 of_:r.of_=l.length+1
 kind:r.kind≠0
 img:(r.kind=1↔k<l.length)/\(k<l.length->r.img=l.getD k ⟨0,0, []⟩)
end
end Go.Proofs.YtepdhdfoipephaaGreatDoor
namespace Go.Proofs.YtepdhdfoipephaaGreatDoor.A
section
open Go.RowKit
def tz:Tx:=⟨0,0,0, []⟩
def Wj (g:Geo) (l:List Tx) (epoch s:Int):Rc:=match Z2 g s l 0 with
 | none=>zeroC
 | some (i,k)=>(CP (l.getD i tz).seq epoch (l.getD i tz).images).getD k.toNat zeroC
def GY (g:Geo) (l:List Tx) (epoch copy:Int) (n:Nat):List Gt:=(List.range n).map fun s=>⟨0,BG g (Wj g l epoch (s:Nat)) copy (s:Nat)⟩
structure LogOk (g:Geo) (l:List Tx) (epoch:Int):Prop where
 len:l.length<=1000
 img:∀ t∈l,t.images.length<=1000/\∀ x∈t.images,x.bytes.length<=1000000
 who:∀ s i k,0<=s/\s<g.sl->Z2 g s l 0=some (i,k)->i<l.length/\0<=k/\k.toNat<(l.getD i tz).images.length+1
 ok:∀ s,0<=s/\s<g.sl->Fz g (Wj g l epoch s)=true
def SubLL:List (List AV)->List (List AV)->Prop
 | [], []=>True
 | a::r,b::s=>SubL a b/\SubLL r s
 | _,_=>False
theorem SubLL.get:∀ {es fs:List (List AV)} {i:Nat},SubLL es fs->i<es.length->SubL (es.getD i []) (fs.getD i [])
 | [],_,_,_,h=>by simp at h
 | a::r,b::s,0,h,_=>by simpa using h.1
 | a::r,b::s,i+1,h,hi=>by
  have:=SubLL.get (i:=i) h.2 (by simpa using hi);simpa using this
 | _::_, [],_,h,_=>h.elim
theorem Ol {g:Geo} {l:List Tx} {epoch:Int} (hg:Bm g=true) (h:LogOk g l epoch) {copy:Int} (hc:copy=0\/copy=1) {s:Nat} (hs:(s:Int)<g.sl):FA g ((GY g l epoch copy g.sl.toNat).getD s gz) copy (s:Nat)=some (Wj g l epoch (s:Nat)):=by
 have hin:(0:Int)<=(s:Nat)/\((s:Nat):Int)<g.sl:=by omega
 have e:(GY g l epoch copy g.sl.toNat).getD s gz=⟨0,BG g (Wj g l epoch (s:Nat)) copy (s:Nat)⟩:=by
  unfold GY;rw [Bd (d:=0) (by rw [BQ];omega)];rw [Aa,Bl (by omega)];try rfl
 rw [e];refine T4 hg (h.ok s hin) ?_;rw [IU,AF.2 (show 0<=((s:Nat):Int)/\((s:Nat):Int)<=g.sl - 1 by omega)];rcases hc with rfl | rfl <;> rfl
theorem T5 {g:Geo} {x:Gt} {copy s:Int} (h:¬(0<=s/\s<g.sl)):FA g x copy s=none:=by
 refine Re ?_;have:CQ s 0 (g.sl - 1)=false:=by
  rw [<-BP];intro e;have:=AF.1 e;omega
 rw [IU,this];simp
def aW (a:An) (p q:Int->Option Rc) (slot seq at_ of_ left:Int):Rc × List Int × Int:=
 Hg (p slot) (q slot) (R9 (p slot) a seq at_ of_ left) (R9 (q slot) a seq at_ of_ left)
def ZO (g:Geo) (a:An) (p q:Int->Option Rc) (pos seq left at_ of_:Int):Rc × Int × List Wr:=
 let s:=Dd g pos at_;let z:=aW a p q s seq at_ of_ left
 (z.1,z.2.2,z.2.1.map fun c=>⟨Bh g c s,BG g z.1 c s⟩)
def XX (g:Geo) (a:An) (p q:Int->Option Rc) (pos seq left:Int):Int × Int × List Img × List Wr:=
 let z:=ZO g a p q pos seq left 0 0
 if z.2.1≠1 then (z.2.1,0, [], []) else
  let t:=Eu (fun k=>ZO g a p q pos seq left k z.1.of_) (z.1.of_ - 1).toNat 1 z.1 [] z.2.2
  if t.1≠1 then (t.1,0, [], []) else (1,z.1.of_,t.2.1,t.2.2)
def LR (g:Geo) (a:An) (p q:Int->Option Rc):Nat->Int->Int->Int->List Tx->List Wr->Option (List Tx × List Wr × Int)
 | 0,_,seq,_,l,w=>some (l,w,seq)
 | f+1,pos,seq,left,l,w=>
  if 0<left/\seq<=4294967295 then
   let t:=XX g a p q pos seq left
   if t.1=3 then none else if t.1≠1 then some (l,w,seq)
   else LR g a p q f ((pos+t.2.1).tmod g.sl) (seq+1) (left - t.2.1) (l ++ [⟨seq,pos,t.2.1,t.2.2.1⟩]) (w ++ t.2.2.2)
  else some (l,w,seq)
def VG (g:Geo) (a:An) (p q:Int->Option Rc):List Tx × List Wr × Int:=Xh a (LR g a p q g.sl.toNat a.pos a.seq g.sl [] [])
def KL (g:Geo) (x:List Gt) (copy:Int):Int->Option Rc:=fun s=>FA g (x.getD s.toNat gz) copy s
theorem S0 (g:Geo) (a:An) (x y:List Gt):∀ (f:Nat) (pos seq left:Int) (l:List Tx) (w:List Wr),If g a x y f pos seq left l w=LR g a (KL g x 0) (KL g y 1) f pos seq left l w
 | 0,_,_,_,_,_=>rfl
 | f+1,pos,seq,left,l,w=>by
  unfold If LR;have e:IJ g a x y pos seq left=XX g a (KL g x 0) (KL g y 1) pos seq left:=rfl;rw [e];simp only [S0 g a x y f]
theorem Yk (g:Geo) (a:An) (x y:List Gt):Gj g a x y=VG g a (KL g x 0) (KL g y 1):=by
 unfold Gj VG;rw [S0]
def HR (g:Geo) (l:List Tx) (epoch:Int) (bad:Int->Bool):Int->Option Rc:=fun s=>if 0<=s/\s<g.sl then (if bad s then none else some (Wj g l epoch s)) else none
theorem S1 {g:Geo} {l:List Tx} {epoch:Int} (hg:Bm g=true) (h:LogOk g l epoch) {copy:Int} (hc:copy=0\/copy=1):KL g (GY g l epoch copy g.sl.toNat) copy=HR g l epoch fun _=>false:=by
 funext s;unfold KL HR;by_cases hs:0<=s/\s<g.sl
 ·rw [if_pos hs,if_neg (Bool.false_ne_true)];obtain⟨k,rfl⟩:=Int.eq_ofNat_of_zero_le hs.1;rw [Ab];exact Ol hg h hc hs.2
 ·rw [if_neg hs];exact T5 hs
theorem RdL.split {c:Ctx}:∀ {l m:List AV} {xs:List Value},RdL (l ++ m) c xs->∃ a b,xs=a ++ b/\RdL l c a/\RdL m c b
 | [],m,xs,h=>⟨[],xs,rfl,by simp only [RdL],h⟩
 | x::l,m,xs,h=>by
  simp only [Bv,RdL] at h;obtain⟨y,ys,rfl,h1,h2⟩:=h;obtain⟨a,b,rfl,h3,h4⟩:=RdL.split h2;exact⟨y::a,b,rfl,by simp only [RdL];exact⟨y,a,rfl,h1,h3⟩,h4⟩
theorem SubLL.len:∀ {es fs:List (List AV)},SubLL es fs->es.length=fs.length
 | [], [],_=>rfl
 | _::_,_::_,h=>by simp [SubLL.len h.2]
 | [],_::_,h=>h.elim
 | _::_, [],h=>h.elim
theorem SubLL.flat:∀ {es fs:List (List AV)} {c:Ctx} {xs:List Value},SubLL es fs->RdL es.flatten c xs->RdL fs.flatten c xs
 | [], [],_,_,_,h=>h
 | a::r,b::s,c,xs,h,hr=>by
  rw [AL] at hr |-
  obtain⟨x1,x2,rfl,h1,h2⟩:=RdL.split hr;exact RdL.append (h.1.rdl h1) (SubLL.flat h.2 h2)
 | [],_::_,_,_,h,_=>h.elim
 | _::_, [],_,_,h,_=>h.elim
theorem SubLL.sz:∀ {es fs:List (List AV)} {sz:Nat},SubLL es fs->(∀ e∈es,e.length=sz)->∀ e∈fs,e.length=sz
 | [], [],_,_,_=>by simp
 | a::r,b::s,sz,h,hs=>by
  intro e he;rcases AK.1 he with rfl | he
  ·rw [<-h.1.len];exact hs a (by simp)
  ·exact SubLL.sz h.2 (fun e he=>hs e (AM _ he)) e he
 | [],_::_,_,h,_=>h.elim
 | _::_, [],_,h,_=>h.elim
def ABSub:AB->AB->Prop
 | .row t sz es, .row t' sz' es'=>t=t'/\sz=sz'/\SubLL es es'
 | x,y=>x=y
def HSub:List AB->List AB->Prop
 | [], []=>True
 | x::r,y::s=>ABSub x y/\HSub r s
 | _,_=>False
theorem HSub.len:∀ {H H':List AB},HSub H H'->H.length=H'.length
 | [], [],_=>rfl
 | _::_,_::_,h=>by simp [HSub.len h.2]
 | [],_::_,h=>h.elim
 | _::_, [],h=>h.elim
theorem HSub.get:∀ {H H':List AB} {k:Nat} {y:AB},HSub H H'->H'[k]? = some y->∃ x,H[k]? = some x/\ABSub x y
 | [], [],k,y,_,h=>by simp at h
 | x::r,y::s,0,z,h,hz=>by
  simp at hz;subst hz;exact⟨x,by simp,h.1⟩
 | x::r,y::s,k+1,z,h,hz=>by
  obtain⟨w,h1,h2⟩:=HSub.get (k:=k) h.2 (by simpa using hz);exact⟨w,by simpa using h1,h2⟩
 | [],_::_,_,_,h,_=>h.elim
 | _::_, [],_,_,_,hz=>by simp at hz
theorem ABSub.live:∀ {x y:AB},ABSub x y->x.live=y.live:=by
 intro x y h;cases x <;> cases y <;> simp only [ABSub] at h <;> first | rfl | cases h
theorem ABSub.blk {c:Ctx} {k:Nat}:∀ {x y:AB},ABSub x y->BlkOk c k x->BlkOk c k y
 | .row t sz es, .row t' sz' es',h,hb=>by
  obtain⟨rfl,rfl,h⟩:=h;obtain⟨h1,h2,h3,xs,h4,h5,h6⟩:=hb;refine⟨h1.trans h.len,h2,h.sz h3,xs,?_,h.flat h5,h6⟩;rw [<-h.len];exact h4
 | .row _ _ _, .box _ _,h,_=>by cases h
 | .row _ _ _, .iter _ _,h,_=>by cases h
 | .row _ _ _, .dead,h,_=>by cases h
 | .row _ _ _, .rowo _ _ _ _,h,_=>by cases h
 | .rowo t sz es m,y,h,hb=>by
  have h:AB.rowo t sz es m=y:=h;subst h;exact hb
 | .box t cs,y,h,hb=>by
  have h:AB.box t cs=y:=h;subst h;exact hb
 | .iter a b,y,h,hb=>by
  have h:AB.iter a b=y:=h;subst h;exact hb
 | .dead,y,h,hb=>by
  have h:AB.dead=y:=h;subst h;exact hb
theorem HS.hsub {w0:Fl} {M0:Ms} {c:Ctx} {H H':List AB} (hs:HS w0 M0 c H) (h:HSub H H'):HS w0 M0 c H':=by
 refine⟨hs.low,hs.base,hs.dom.trans h.len,hs.foreign,hs.lt,fun k y hy=>?_,fun k y g hy hl ho=>?_,fun j k y z g hj hk hy hz ho ho'=>?_⟩
 ·obtain⟨x,h1,h2⟩:=h.get hy;exact h2.blk (hs.blk k x h1)
 ·obtain⟨x,h1,h2⟩:=h.get hy;exact hs.own k x g h1 (h2.live.trans hl) ho
 ·obtain⟨x1,h1,h2⟩:=h.get hj;obtain⟨x2,h3,h4⟩:=h.get hk;exact hs.dis j k x1 x2 g h1 h3 (h2.live.trans hy) (h4.live.trans hz) ho ho'
theorem ACalls.hsub {P:Program} {q:Bool} {f:FuncId} {args:List AV} {H:List AB} {k:AV->List AB->Prop} (H':List AB) (hs:HSub H H') (h:ACalls P q f args H' k):ACalls P q f args H k:=
 ⟨h.go,fun w0 M0 c us hs0 hr=>h.calls w0 M0 c us (hs0.hsub hs) hr⟩
theorem SubLL.refl:∀ l,SubLL l l
 | []=>trivial
 | _::l=>⟨SubL.refl _,SubLL.refl l⟩
theorem SubLL.set {a b:List AV} (h:SubL a b):∀ {l m:List (List AV)} (k:Nat),SubLL l m->SubLL (l.set k a) (m.set k b)
 | [], [],_,h=>h
 | _::_,_::_,0,h2=>⟨h,h2.2⟩
 | _::_,_::_,k+1,h2=>⟨h2.1,SubLL.set h k h2.2⟩
 | [],_::_,_,h=>h.elim
 | _::_, [],_,h=>h.elim
def Z_ (g:Geo) (fill:UInt8) (i k:Nat):Img:=
 if (i+k) % 4=3 then ⟨((i+k:Nat):Int).tmod g.z,255,Da (Fd g)⟩ else ⟨((i+k:Nat):Int).tmod g.z,((i+2*k:Nat):Int).tmod (g.d+1) - 1, [fill,UInt8.ofNat i,UInt8.ofNat k,1,2,3,4,5]⟩
def aX (g:Geo) (a:An) (fill:UInt8) (i:Nat) (pos:Int) (n:Nat):Tx:=⟨a.seq+i,pos,n+1,(List.range n).map fun k=>Z_ g fill i k⟩
theorem SubLL.app {e f:List AV} (h:SubL e f):∀ {a b:List (List AV)},SubLL a b->SubLL (a ++ [e]) (b ++ [f])
 | [], [],_=>⟨h,tv⟩
 | _::_,_::_,h2=>⟨h2.1,SubLL.app h h2.2⟩
 | [],_::_,h=>h.elim
 | _::_, [],h=>h.elim
end
end Go.Proofs.YtepdhdfoipephaaGreatDoor.A
namespace Go.Proofs.YtepdhdfoipephaaGreatDoor
section

def Hn (b:List UInt8) (k:Nat):List UInt8:=b.modify (k / 8) fun x=>x ^^^ UInt8.ofNat (2 ^ (k % 8))
theorem Pa (b:List UInt8) (k:Nat):(Hn b k).length=b.length:=List.length_modify _ _ _
def EN (p:Nat->Bool) (a:Nat) (b:List UInt8):Nat->List UInt8
 | 0=>b
 | i+1=>if p i&&decide (a+i<8*b.length) then Hn (EN p a b i) (a+i) else EN p a b i
theorem Gu (p:Nat->Bool) (a:Nat) (b:List UInt8) (i:Nat):(EN p a b i).length=b.length:=by
 induction i with
 | zero=>rfl
 | succ i ih=>unfold EN;split;rw [Pa,ih];exact ih
def fX (bs:Int):Nat:=if (bs % 4294967296).toNat % 2=0 then (bs % 4294967296).toNat+1 else (bs % 4294967296).toNat
theorem Zo (bs:Int):fX bs<4294967296:=by unfold fX;split <;> omega
theorem ah (bs:Int):fX bs % 2=1:=by unfold fX;split <;> omega
def GO (b:List UInt8) (bit bs:Int):List UInt8:=EN (fun i=>decide (fX bs / 2 ^ i % 2=1)) (bit % (8*(b.length:Int))).toNat b 32
theorem EK (b:List UInt8) (bit bs:Int):(GO b bit bs).length=b.length:=Gu _ _ _ _
theorem U4 (bit bs:Int):GO [] bit bs=[]:=Bg (EK _ _ _)

theorem stepsC_zero:∀ k,stepsC k 0=0
 | 0=>rfl
 | k+1=>by rw [stepsC,stepsC_zero k];decide
theorem V7 {r:Nat} (h:r<4294967296) (h0:r≠0):FW r≠0:=by
 unfold FW;intro e;rcases Cs r with h1 | h1
 ·rw [if_neg (by omega),Nat.xor_zero] at e;omega
 ·rw [if_pos h1] at e;have:r / 2=polyN:=by
   have h3:(r / 2 ^^^ polyN) ^^^ polyN=r / 2:=by rw [Cu,Nat.xor_self,Nat.xor_zero]
   rw [e,Nat.zero_xor] at h3;exact h3.symm
  simp only [polyN] at this;omega
theorem stepsC_ne:∀ (k:Nat) {r:Nat},r<4294967296->r≠0->stepsC k r≠0
 | 0,_,_,h0=>h0
 | k+1,_,h,h0=>V7 (stepsC_lt k h) (stepsC_ne k h h0)
theorem stepsC_add:∀ (j k r:Nat),stepsC (j+k) r=stepsC j (stepsC k r)
 | 0,k,r=>by rw [A3];rfl
 | j+1,k,r=>by rw [show j+1+k=(j+k)+1 by omega,stepsC,stepsC,stepsC_add j k r]
theorem stepsC_two:∀ (k x:Nat),stepsC k (2 ^ k*x)=x
 | 0,x=>by simp [stepsC]
 | k+1,x=>by
  rw [stepsC_succ,show 2 ^ (k+1)*x=2*(2 ^ k*x) by rw [Nat.pow_succ];rw [Nat.mul_comm (2 ^ k) 2,Nat.mul_assoc],Dx,stepsC_two k x]
theorem Vp (x p q:Nat):(x ^^^ p) ^^^ q=(x ^^^ q) ^^^ p:=by rw [Cu,Nat.xor_comm p q,<-Cu]
theorem foldC_start:∀ (b:List UInt8) (r s:Nat),CL (r ^^^ s) b=CL r b ^^^ stepsC (8*b.length) s
 | [],r,s=>rfl
 | c::b,r,s=>by
  have e:CL (r ^^^ s) (c::b)=CL (D8 (r ^^^ s ^^^ c.toNat)) b:=rfl;have e2:CL r (c::b)=CL (D8 (r ^^^ c.toNat)) b:=rfl;rw [e,e2,Vp,show D8 (r ^^^ c.toNat ^^^ s)=D8 (r ^^^ c.toNat) ^^^ stepsC 8 s from stepsC_xor 8 _ _,foldC_start b,<-stepsC_add,Am,Nat.mul_add]
theorem foldC_flipB:∀ (b:List UInt8) (r k:Nat),k<8*b.length->CL r (Hn b k)=CL r b ^^^ stepsC (8*b.length - k) 1
 | [],_,_,h=>by simp at h
 | c::b,r,k,h=>by
  have e2:CL r (c::b)=CL (D8 (r ^^^ c.toNat)) b:=rfl;by_cases hk:k<8
  ·have e:Hn (c::b) k=(c ^^^ UInt8.ofNat (2 ^ (k % 8)))::b:=by
    unfold Hn;rw [show k / 8=0 by omega];try rfl
   have hp:(2:Nat) ^ k<256:=by
    have:=Nat.pow_lt_pow_right (a:=2) (by omega) hk;omega
   rw [e,show CL r ((c ^^^ UInt8.ofNat (2 ^ (k % 8)))::b)=CL (D8 (r ^^^ (c ^^^ UInt8.ofNat (2 ^ (k % 8))).toNat)) b from rfl,UInt8.toNat_xor,D2 hk,BA hp,<-Cu,
    show D8 (r ^^^ c.toNat ^^^ 2 ^ k)=D8 (r ^^^ c.toNat) ^^^ stepsC 8 (2 ^ k) from stepsC_xor 8 _ _,foldC_start b,e2,<-stepsC_add,Am]
   congr 1;have:=stepsC_two k 1;rw [DT] at this;rw [show 8*b.length+8=(8*(b.length+1) - k)+k by omega,stepsC_add,this]
  ·have e:Hn (c::b) k=c::Hn b (k - 8):=by
    unfold Hn;rw [show k / 8=(k - 8) / 8+1 by omega,List.modify_succ_cons,show k % 8=(k - 8) % 8 by omega]
   simp only [Am] at h;rw [e,show CL r (c::Hn b (k - 8))=CL (D8 (r ^^^ c.toNat)) (Hn b (k - 8)) from rfl,foldC_flipB b _ _ (by omega),e2,Am];congr 2;omega
def H_ (p:Nat->Bool) (d:Nat):Nat->Nat
 | 0=>0
 | i+1=>if p i&&decide (i<d) then H_ p d i ^^^ 2 ^ i else H_ p d i
theorem Ps (p:Nat->Bool) (d:Nat):∀ i,H_ p d i<2 ^ i
 | 0=>by show 0<1;decide
 | i+1=>by
  have:=Ps p d i;unfold H_;have h2:(2:Nat) ^ i<2 ^ (i+1):=Nat.pow_lt_pow_right (by omega) (by omega);split
  ·exact Nat.xor_lt_two_pow (by omega) h2
  ·omega
theorem Nj (p:Nat->Bool) (d:Nat) (hp:p 0=true) (hd:0<d):∀ i,0<i->(H_ p d i) % 2=1
 | 1,_=>by simp [H_,hp,hd]
 | i+2,_=>by
  have ih:=Nj p d hp hd (i+1) (by omega);unfold H_;split
  ·rw [Sm,Nat.pow_succ];omega
  ·exact ih
theorem KY (p:Nat->Bool) (a:Nat) (b:List UInt8) (r:Nat) (ha:a<8*b.length):∀ i,CL r (EN p a b i)=CL r b ^^^ stepsC (8*b.length - a) (H_ p (8*b.length - a) i)
 | 0=>by simp [EN,H_,stepsC_zero]
 | i+1=>by
  have ih:=KY p a b r ha i;unfold EN H_;have hc:(p i&&decide (a+i<8*b.length))=(p i&&decide (i<8*b.length - a)):=by
   congr 1;exact decide_eq_decide.2 (by omega)
  rw [hc];split
  ·rename_i h;simp only [Ad,decide_eq_true_eq] at h;rw [foldC_flipB _ _ _ (by rw [Gu];omega),ih,Gu,stepsC_xor,Cu];congr 2;have:=stepsC_two i 1;rw [DT] at this;rw [show 8*b.length - a=(8*b.length - (a+i))+i by omega,stepsC_add,this]
  ·exact ih
theorem foldC_word:∀ (t:List UInt8) (s:Nat),CL s t=stepsC (8*t.length) (s ^^^ leN t)
 | [],s=>by simp [CL,leN,stepsC]
 | c::t,s=>by
  have e2:CL s (c::t)=CL (D8 (s ^^^ c.toNat)) t:=rfl;have h1:leN (c::t)=c.toNat ^^^ 256*leN t:=by
   have hc:c.toNat<2 ^ 8:=c.toNat_lt;have h:=Nat.two_pow_add_eq_or_of_lt hc (leN t);have h2:2 ^ 8*leN t ||| c.toNat=c.toNat ^^^ 2 ^ 8*leN t:=by
    apply Nat.eq_of_testBit_eq;intro i;rw [Nat.testBit_or,Nat.testBit_xor];by_cases hi:i<8
    ·rw [Nat.testBit_two_pow_mul];simp [show ¬8<=i by omega]
    ·have:c.toNat.testBit i=false:=Nat.testBit_lt_two_pow (At hc (DS (by omega) (by omega)));rw [this];simp
   rw [<-h2,<-h];simp only [leN];omega
  rw [e2,foldC_word t,h1,Am,Nat.mul_add,stepsC_add];congr 1;rw [<-Cu,stepsC_xor];congr 1;exact(KZ _).symm
theorem W0 {x:Nat} (h:x<4294967296):4294967295 - x=4294967295 ^^^ x:=(SJ x h).symm
theorem KH {b:List UInt8} (h4:4<=b.length) (h:leN (b.drop (b.length - 4))=Cz (b.take (b.length - 4))):CL 4294967295 b=stepsC 32 4294967295:=by
 have e:b=b.take (b.length - 4) ++ b.drop (b.length - 4):=(Ck _ _).symm;have hl:(b.drop (b.length - 4)).length=4:=by rw [Al];omega
 have hlt:CL 4294967295 (b.take (b.length - 4))<4294967296:=foldC_lt _ (by decide);have hap:∀ x y:List UInt8,CL 4294967295 (x ++ y)=CL (CL 4294967295 x) y:=fun x y=>by simp [CL]
 conv=>lhs;rw [e]
 rw [hap,foldC_word,hl,h,Cz,W0 hlt];congr 1;rw [Nat.xor_comm 4294967295,<-Cu,Nat.xor_self,Nat.zero_xor]
theorem RM {b:List UInt8} (h4:4<=b.length) (h:leN (b.drop (b.length - 4))=Cz (b.take (b.length - 4))) (bit bs:Int) :
  leN ((GO b bit bs).drop ((GO b bit bs).length - 4))≠Cz ((GO b bit bs).take ((GO b bit bs).length - 4)):=by
 intro h';have h1:=KH h4 h;have h2:=KH (b:=GO b bit bs) (by rw [EK];exact h4) h';have ha:(bit % (8*(b.length:Int))).toNat<8*b.length:=by
  have:=Int.emod_lt_of_pos bit (show (0:Int)<8*(b.length:Int) by omega);have:=Int.emod_nonneg bit (show (8*(b.length:Int))≠0 by omega);omega
 unfold GO at h2;rw [KY _ _ _ _ ha,h1] at h2;have h3:stepsC (8*b.length - (bit % (8*(b.length:Int))).toNat) (H_ (fun i=>decide (fX bs / 2 ^ i % 2=1)) (8*b.length - (bit % (8*(b.length:Int))).toNat) 32)≠0:=by
  refine stepsC_ne _ (At (Ps _ _ _) (by decide)) ?_;have:=Nj (fun i=>decide (fX bs / 2 ^ i % 2=1)) (8*b.length - (bit % (8*(b.length:Int))).toNat) (by simp [ah]) (by omega) 32 (by decide);omega
 apply h3;have h5:=congrArg (fun x=>stepsC 32 4294967295 ^^^ x) h2;simp only [<-Cu,Nat.xor_self,Nat.zero_xor] at h5;exact h5
theorem R7 {b:List UInt8} (h:Cn b=0) (bit bs:Int):Cn (GO b bit bs)=5:=by
 unfold Cn at h;split at h
 ·cases h
 ·rename_i hl;split at h
  ·cases h
  ·rename_i hs;have:=RM (b:=b) (by omega) (Decidable.not_not.1 hs) bit bs;unfold Cn;rw [if_neg (by rw [EK];exact hl),if_pos this]
end
end Go.Proofs.YtepdhdfoipephaaGreatDoor
namespace Go.Proofs.YtepdhdfoipephaaGreatDoor.A
section
open Go.RowKit
theorem Tu {a n:Int} (hn:0<n):(if a.tmod n<0 then a.tmod n+n else a.tmod n)=a % n:=by
 have b1:=Bb a hn;have b2:=Int.lt_tmod_of_pos a hn;split
 ·have e1:(a.tmod n+n) % n=a % n:=by
   rw [Int.add_emod_right,Int.tmod_eq_emod];split
   ·rw [show ((0:Nat):Int)=0 from rfl,Int.sub_zero,Int.emod_emod_of_dvd _ (Int.dvd_refl n)]
   ·rw [Int.sub_emod,Int.emod_emod_of_dvd _ (Int.dvd_refl n),show (n.natAbs:Int)=n by omega,Int.emod_self,Int.sub_zero,Int.emod_emod_of_dvd _ (Int.dvd_refl n)]
  rw [<-e1,Int.emod_eq_of_lt (by omega) (by omega)]
 ·rename_i hr;have e1:=Int.tmod_eq_emod (a:=a) (b:=n);rw [Int.tmod_eq_emod];split
  ·omega
  ·rename_i hc;rw [if_neg hc] at e1;have:=Int.emod_lt_of_pos a hn;omega
theorem WC (a n:Int) (hn:0<n) (hn2:n<=4611686018427387904):Fn Tryz.prog 219 [iv a,iv n] fun r=>r = iv (a % n):=by
 have b1:=Bb a hn;have b2:=Int.lt_tmod_of_pos a hn;have he:=Tu (a:=a) hn;refine zR Tryz.func219 rfl ?_;refine⟨by omega,?_⟩;conv=>whnf
 repeat' (first | (refine z_ ?_;conv=>whnf) | (refine A7 (fun _=>?_) (fun _=>?_) <;> conv=>whnf) | (refine Ae (by first | omega | exact of_decide_eq_true rfl) ?_;conv=>whnf) | fail)
 all_goals refine⟨_,fun _ _ h=>h,?_⟩
 ·rw [if_pos (by assumption)] at he;rw [wi (by omega),he]
 ·rw [if_neg (by omega)] at he;rw [he]
def bR (b:List UInt8):List (List AV):=b.map fun x=> [.v (.int .u8 x.toNat)]
theorem XH {b:List UInt8} {i:Nat} (h:i<b.length):(bR b).getD i []=[.v (.int .u8 (b.getD i 0).toNat)]:=Bd (d:=0) h
theorem a8 (b:List UInt8) (i:Nat) (y:UInt8):(bR b).set i [.v (.int .u8 y.toNat)]=bR (b.set i y):=by simp [bR,BM]
theorem XF (b:List UInt8) (c:Ctx) (u:Value) (h:Rd (.sl 1 b.length fun i=>(bR b).getD i []) c u):Rd (bA b) c u:=
 zD rfl (fun _ hi=>Bd (d:=0) hi) h
theorem Tb {b:List UInt8} {n:Nat} (hn:n=b.length) (c:Ctx) (u:Value) (h:Rd (.sl 1 n fun i=>(bR b).getD i []) c u):Rd (bA b) c u:=by
 subst hn;exact XF b c u h
theorem XG (b:List UInt8):(List.range b.length).map (fun i=> [AV.v (.int .u8 (b.getD i 0).toNat)])=bR b:=by
 apply List.ext_getElem
 ·simp [bR]
 ·intro i h1 h2;simp only [Ac,BQ] at h1;simp [bR,Aa,Af h1]
theorem V3 (b:List UInt8) (hb:b.length<=1000000000):FnO Tryz.prog 62 [bA b] fun r R=>r = .ow 0 b.length/\R=[.row 5 1 (bR b)]:=by
 refine FnO.of tys_ok Tryz.func62 rfl rfl (Ag rfl) ?_;refine⟨hb,?_⟩;exact⟨rfl,by rw [XG]⟩
theorem QP (x:UInt8) (z:Nat) (hz:z<256):IntKind.u8.wrap (BitVec.ofInt IntKind.u8.bits (x.toNat:Int) ^^^ BitVec.ofInt IntKind.u8.bits (z:Int)).toNat=((x ^^^ UInt8.ofNat z).toNat:Int):=by
 show IntKind.u8.wrap (BitVec.ofInt 8 (x.toNat:Int) ^^^ BitVec.ofInt 8 (z:Int)).toNat=((x ^^^ UInt8.ofNat z).toNat:Int);have hx:=x.toNat_lt;have h1:(BitVec.ofInt 8 (x.toNat:Int))=BitVec.ofNat 8 x.toNat:=BitVec.ofInt_natCast _ _;have h2:(BitVec.ofInt 8 (z:Int))=BitVec.ofNat 8 z:=BitVec.ofInt_natCast _ _;have h3:x.toNat ^^^ z<256:=Nat.xor_lt_two_pow (n:=8) hx hz;rw [h1,h2,BitVec.toNat_xor,BitVec.toNat_ofNat,BitVec.toNat_ofNat,D2 hx,D2 hz,UInt8.toNat_xor,BA hz,IntKind.wrap_u8];omega
theorem U5 (b:List UInt8) (k:Nat) (h:k / 8<b.length):Hn b k=b.set (k / 8) (b.getD (k / 8) 0 ^^^ UInt8.ofNat (2 ^ (k % 8))):=by
 rw [Aa,Af h];unfold Hn;apply List.ext_getElem?;intro i;rw [List.getElem?_modify,DX];split
 ·subst_vars;simp [h]
 ·simp
theorem RN (p:Nat->Bool) (a:Nat) (b:List UInt8) (k:Nat) (h:∀ j,k<=j->p j=false\/8*b.length<=a+j):∀ n,k<=n->EN p a b n=EN p a b k:=by
 intro n hn;induction n with
 | zero=>
  obtain rfl:k=0:=by omega
  rfl
 | succ n ih=>
  by_cases hk:k=n+1
  ·rw [hk]
  ·rw [EN,if_neg,ih (by omega)];rcases h n (by omega) with h | h
   ·simp [h]
   ·simp;omega
theorem Wh (b:List UInt8) (bit bs:Int) (hb:b.length<=1000000):Fn Tryz.prog 168 [bA b,iv bit,iv bs] fun r=>r=bA (GO b bit bs):=by
 refine zR Tryz.func168 rfl ?_;conv=>whnf
 refine FnO.call (V3 b (by omega)) rfl ?_;rintro _ _ ⟨rfl,rfl⟩;conv=>whnf
 refine A7 (fun h0=>?_) (fun h0=>?_) <;> (repeat rw [Ab] at h0) <;> conv=>whnf
 ·refine⟨by simp [bR],?_⟩;conv=>whnf
  have e:b=[]:=Bg (by omega);subst e;exact⟨_,fun c u h=>XF [] c u h,by rw [U4]⟩
 have hn:b.length≠0:=by omega
 have w8:IntKind.i64.wrap (8*(b.length:Int))=8*b.length:=wi (by omega);rw [w8];refine zZ (WC bit (8*b.length) (by omega) (by omega)) ?_;conv=>whnf
 refine zZ (WC bs 4294967296 (by omega) (by omega)) ?_;conv=>whnf
 have a1:=Int.emod_lt_of_pos bit (show (0:Int)<8*b.length by omega);have a2:=Int.emod_nonneg bit (show (8*(b.length:Int))≠0 by omega);have b1:=Int.emod_lt_of_pos bs (show (0:Int)<4294967296 by omega);have b2:=Int.emod_nonneg bs (show (4294967296:Int)≠0 by omega);have hX:IntKind.i64.wrap ((fX bs:Nat):Int)=(fX bs:Nat):=wi (by have:=Zo bs;omega);refine aSeq.cut Unit (fun _=>([(7, .ow 0 b.length),(8,iv (bit % (8*b.length))),(9,iv (fX bs:Nat))], [.row 5 1 (bR b)])) (fun _=>True) ?_ ?_
 ·refine⟨by decide,?_⟩;conv=>whnf
  refine A7 (fun hx=>?_) (fun hx=>?_) <;> (repeat rw [Ab] at hx) <;> conv=>whnf
  ·rw [Bq b2] at hx;have ex:IntKind.i64.wrap (bs % 4294967296+1)=(fX bs:Nat):=by
    rw [wi (by omega)];unfold fX;rw [if_pos (by omega)];omega
   exact⟨(),tv,(zl (by repeat' first | exact trivial | exact rfl | refine Ae ?_ ?_ | exact AI (by omega) | exact congrArg (fun n=>AV.v (.int .i64 n)) ex) (by repeat' first | exact trivial | exact rfl | refine Ae ?_ ?_ | exact AI (by omega) | exact congrArg (fun n=>AV.v (.int .i64 n)) ex) rfl rfl rfl)⟩
  ·rw [Bq b2] at hx;have ex:bs % 4294967296=(fX bs:Nat):=by
    unfold fX;rw [if_neg (by omega)];omega
   exact⟨(),tv,(zl (by repeat' first | exact trivial | exact rfl | refine Ae ?_ ?_ | exact AI (by omega) | exact congrArg (fun n=>AV.v (.int .i64 n)) ex) (by repeat' first | exact trivial | exact rfl | refine Ae ?_ ?_ | exact AI (by omega) | exact congrArg (fun n=>AV.v (.int .i64 n)) ex) rfl rfl rfl)⟩
 rintro - -
 conv=>whnf
 have hXl:=Zo bs;have hR:EN (fun i=>decide (fX bs / 2 ^ i % 2=1)) (bit % (8*(b.length:Int))).toNat b 32=GO b bit bs:=rfl;obtain⟨X,eX⟩:∃ X,X=fX bs:=⟨_,rfl⟩;obtain⟨A,eA⟩:∃ A:Nat,(A:Int)=bit % (8*b.length):=⟨(bit % (8*(b.length:Int))).toNat,by omega⟩;rw [<-eX,<-eA,Ab] at hR;rw [<-eX] at hXl;rw [<-eX,<-eA];refine zM Nat (fun k=>([(7, .ow 0 b.length),(9,iv (X / 2 ^ k:Nat)),(10,iv ((A+k:Nat):Int))], [.row 5 1 (bR (EN (fun i=>decide (X / 2 ^ i % 2=1)) A b k))])) (fun k=>k<=32) (fun k=>32 - k) 0 (Aj _) (zl (by repeat' first | exact trivial | exact rfl | refine Ae ?_ ?_ | exact AI (by omega) | exact congrArg (fun n=>AV.v (.int .i64 n)) (by rw [Nat.pow_zero,Nat.div_one])) (by repeat' first | exact trivial | exact rfl | refine Ae ?_ ?_ | exact AI (by omega) | exact congrArg (fun n=>AV.v (.int .i64 n)) (by rw [Nat.pow_zero,Nat.div_one])) rfl rfl rfl) ?_;intro k hk;have hfl:=Gu (fun i=>decide (X / 2 ^ i % 2=1)) A b k;have hnx:X / 2 ^ (k+1)=X / 2 ^ k / 2:=by rw [Nat.pow_succ,Nat.div_div_eq_div_mul]
 have hA:A<8*b.length:=by omega
 conv=>whnf
 have stop:X / 2 ^ k=0\/8*b.length<=A+k->EN (fun i=>decide (X / 2 ^ i % 2=1)) A b k=GO b bit bs:=fun h=>by
  rw [<-hR];refine(RN _ _ _ _ (fun j hj=>?_) 32 hk).symm;rcases h with h | h
  ·refine .inl ?_;have:X / 2 ^ j=0:=by
    obtain⟨d,rfl⟩:=Nat.exists_eq_add_of_le hj;rw [Nat.pow_add,<-Nat.div_div_eq_div_mul,h,Nat.zero_div]
   simp [this]
  ·exact .inr (by omega)
 refine A7 (fun h1=>?_) (fun h1=>?_) <;> (repeat rw [Ab] at h1) <;> conv=>whnf
 ·rw [w8];refine A7 (fun h2=>?_) (fun h2=>?_) <;> (repeat rw [Ab] at h2) <;> conv=>whnf
  ·have hk32:k<32:=by
    rcases B_ k 32 with h | h
    ·exact h
    ·have:X / 2 ^ k=0:=Nat.div_eq_of_lt (At hXl (DS (n:=2) (by omega) h));omega
   have e1:IntKind.i64.wrap (((X / 2 ^ k:Nat):Int).tdiv 2)=((X / 2 ^ (k+1):Nat):Int):=by
    rw [AX (by omega),hnx];have:=Nat.div_le_self X (2 ^ k);rw [wi (by omega)];omega
   have e2:IntKind.i64.wrap (((A+k:Nat):Int)+1)=((A+(k+1):Nat):Int):=by
    rw [wi (by omega)];omega
   refine z_ ?_;conv=>whnf
   refine aSeq.cut Unit (fun _=>([(7, .ow 0 b.length),(9,iv (X / 2 ^ k:Nat)),(10,iv ((A+k:Nat):Int))], [.row 5 1 (bR (EN (fun i=>decide (X / 2 ^ i % 2=1)) A b (k+1)))])) (fun _=>True) ?_ ?_
   ·refine⟨by decide,?_⟩;conv=>whnf
    have hq:(A+k) / 8<b.length:=by omega
    have hz:(2:Nat) ^ ((A+k) % 8)<256:=by
     have:=Nat.pow_lt_pow_right (a:=2) (by omega) (show (A+k) % 8<8 by omega);omega
    refine A7 (fun h3=>?_) (fun h3=>?_) <;> (repeat rw [Ab] at h3) <;> conv=>whnf
    ·rw [Bq (by omega)] at h3;have hE:EN (fun i=>decide (X / 2 ^ i % 2=1)) A b (k+1)=Hn (EN (fun i=>decide (X / 2 ^ i % 2=1)) A b k) (A+k):=by
      rw [EN,if_pos];simp only [Ad,decide_eq_true_eq];omega
     have eq:IntKind.i64.wrap (((A+k:Nat):Int).tdiv 8)=(((A+k) / 8:Nat):Int):=by
      rw [AX (by omega),wi (by omega)];omega
     have er:IntKind.u64.wrap (((A+k:Nat):Int).tmod 8)=(((A+k) % 8:Nat):Int):=by
      rw [Bq (by omega),IntKind.wrap_u64];omega
     have es:IntKind.u8.wrap (1*2 ^ min ((((A+k) % 8:Nat):Int).toNat) IntKind.u8.bits)=((2 ^ ((A+k) % 8):Nat):Int):=by
      rw [Ab,show min ((A+k) % 8) IntKind.u8.bits=(A+k) % 8 from Ds (by show _<=8;omega),Int.one_mul,IntKind.wrap_u8];have:((2 ^ ((A+k) % 8):Nat):Int)=(2:Int) ^ ((A+k) % 8):=by simp
      rw [<-this];generalize 2 ^ ((A+k) % 8)=z at hz |-
      omega
     refine⟨by decide,?_⟩;refine⟨by decide,?_⟩;conv=>whnf
     rw [eq];refine⟨⟨by omega,by omega⟩,?_⟩;refine⟨⟨rfl,by simp [bR,hfl],by omega⟩,?_⟩;conv=>whnf
     rw [Ab,XH (by rw [hfl];omega)];refine⟨by decide,?_⟩;conv=>whnf
     rw [er];refine⟨by omega,?_⟩;refine⟨⟨by omega,by omega⟩,?_⟩;conv=>whnf
     rw [es];refine⟨⟨rfl,by simp [bR,hfl],by omega⟩,?_⟩;conv=>whnf
     rw [Ab,XH (by rw [hfl];omega)];conv=>whnf
     have ex:=QP ((EN (fun i=>decide (X / 2 ^ i % 2=1)) A b k).getD ((A+k) / 8) 0) (2 ^ ((A+k) % 8)) hz;rw [ex,a8,<-U5 _ _ (by rw [hfl];omega),<-hE];exact⟨(),tv,(zl (by repeat' first | exact trivial | exact rfl | refine Ae ?_ ?_ | exact AI (by omega)) (by repeat' first | exact trivial | exact rfl | refine Ae ?_ ?_ | exact AI (by omega)) rfl rfl rfl)⟩
    ·rw [Bq (by omega)] at h3;have hE:EN (fun i=>decide (X / 2 ^ i % 2=1)) A b (k+1)=EN (fun i=>decide (X / 2 ^ i % 2=1)) A b k:=by
      rw [EN,if_neg];simp only [Ad,decide_eq_true_eq];intro hh;apply h3;have:=hh.1;omega
     exact⟨(),tv,(zl (by repeat' first | exact trivial | exact rfl | refine Ae ?_ ?_ | exact AI (by omega) | exact congrArg (fun l=>AB.row _ _ (bR l)) hE) (by repeat' first | exact trivial | exact rfl | refine Ae ?_ ?_ | exact AI (by omega) | exact congrArg (fun l=>AB.row _ _ (bR l)) hE) rfl rfl rfl)⟩
   ·rintro - -
    refine⟨by decide,?_⟩;exact⟨k+1,by omega,by omega,(zl (by repeat' first | exact trivial | exact rfl | refine Ae ?_ ?_ | exact AI (by omega) | exact congrArg (fun n=>AV.v (.int .i64 n)) e1 | exact congrArg (fun n=>AV.v (.int .i64 n)) e2) (by repeat' first | exact trivial | exact rfl | refine Ae ?_ ?_ | exact AI (by omega) | exact congrArg (fun n=>AV.v (.int .i64 n)) e1 | exact congrArg (fun n=>AV.v (.int .i64 n)) e2) rfl rfl rfl)⟩
  ·refine⟨by simp [bR,hfl],?_⟩;conv=>whnf
   rw [stop (.inr (by omega))];exact⟨_,fun c u h=>Tb (by rw [EK]) c u h,rfl⟩
 ·refine⟨by simp [bR,hfl],?_⟩;conv=>whnf
  rw [stop (.inl (Nat.eq_zero_of_le_zero (Int.ofNat_le.1 h1)))];exact⟨_,fun c u h=>Tb (by rw [EK]) c u h,rfl⟩

structure TxIn (g:Geo) (a:An) (fill:UInt8) (i0:Nat) (l:List Tx):Prop where
 at_:∀ j,j<l.length->∃ pos n,l.getD j tz=aX g a fill (i0+j) pos n/\1<=n/\n<=5/\0<=pos/\pos<g.sl


def HK (g:Geo):List Tx->Int->Int->Prop
 | [],_,_=>True
 | t::r,seq,pos=>(t.seq=seq/\t.pos=pos/\t.n=t.images.length+1/\2<=t.n)/\HK g r (seq+1) ((pos+t.n).tmod g.sl)
def usedM:List Tx->Int
 | []=>0
 | t::r=>t.n+usedM r
def Ua (g:Geo):List Tx->Int->Int
 | [],pos=>pos
 | t::r,pos=>Ua g r ((pos+t.n).tmod g.sl)
theorem Ob (g:Geo):∀ (l:List Tx) (seq pos:Int) (t:Tx),HK g l seq pos->(t.seq=seq+l.length/\t.pos=Ua g l pos/\t.n=t.images.length+1/\2<=t.n)->HK g (l ++ [t]) seq pos
 | [],seq,pos,t,_,h=>⟨⟨by have:=h.1;simpa using this,h.2.1,h.2.2.1,h.2.2.2⟩,tv⟩
 | x::r,seq,pos,t,h,ht=>by
  refine⟨h.1,Ob g r (seq+1) _ t h.2 ⟨?_,ht.2⟩⟩;rw [ht.1];simp only [Am];omega
theorem used_app:∀ (l:List Tx) (t:Tx),usedM (l ++ [t])=usedM l+t.n
 | [],t=>by simp [usedM]
 | x::r,t=>by simp only [Bv,usedM,used_app r t];omega
theorem SC (g:Geo):∀ (l:List Tx) (pos:Int) (t:Tx),Ua g (l ++ [t]) pos=((Ua g l pos)+t.n).tmod g.sl
 | [],pos,t=>rfl
 | x::r,pos,t=>by simp only [Bv,Ua];exact SC g r _ t
theorem KV {g:Geo} {a:An} {seq left n:Int} {look:Int->Rc × Int × List Wr} (hlook:∀ i,1<=i->i<n->(look i).2.1=1->Fz g (look i).1=true/\GK (look i).1 a seq i n left=true):∀ (f:Nat) (k:Int) (r:Rc) (im:List Img) (w:List Wr),1<=k->k+f=n->Fz g r=true->r.at_=k - 1->r.of_=n->r.kind≠0->(im.length:Int)=k - 1->(Eu look f k r im w).1=1->((Eu look f k r im w).2.1.length:Int)+1=n
 | 0,k,r,im,w,hk,hn,hr,ha,ho,h0,hi,_=>by
  have hk1:r.kind≠1:=by
   intro e;unfold Fz Gf at hr;simp only [Ad] at hr;have h2:=hr.2;rw [if_neg h0,if_pos e] at h2;simp only [Ad,AF] at h2;omega
  unfold Eu;simp only [if_neg hk1];omega
 | f+1,k,r,im,w,hk,hn,hr,ha,ho,h0,hi,hG=>by
  have hk1:r.kind=1:=by
   unfold Fz Gf at hr;simp only [Ad] at hr;have h2:=hr.2;rw [if_neg h0] at h2;split at h2
   ·assumption
   ·split at h2
    ·simp only [Ad,beq_iff_eq] at h2;omega
    ·cases h2
  unfold Eu at hG |-
  simp only [if_pos hk1] at hG |-
  by_cases hq:(look k).2.1≠1
  ·rw [if_pos hq] at hG;exact absurd hG hq
  ·rw [if_neg hq] at hG |-
   have hl:=hlook k hk (by omega) (by omega);have h1:=R8 hl.1 hl.2;have h2:=(of_decide_eq_true hl.2).1;refine KV hlook f (k+1) (look k).1 _ _ (by omega) (by omega) hl.1 (by omega) ?_ h2 ?_ hG
   ·exact h1.2.2.2.2.2 (by omega)
   ·rw [Ai];simp only [Am,Bf];omega
theorem Tp {g:Geo} {a:An} {x y:List Gt} {pos seq left:Int} (hg:Bm g=true) (hp:0<=pos/\pos<g.sl) (h:(IJ g a x y pos seq left).1=1):((IJ g a x y pos seq left).2.2.1.length:Int)+1=(IJ g a x y pos seq left).2.1:=by
 have r0:=H6 (a:=a) (x:=x) (y:=y) (seq:=seq) (left:=left) (of_:=0) (at_:=0) hg hp (by omega);unfold IJ at h |-
 simp only at h |-
 rcases r0 with ⟨e1,⟨e2, -,e3⟩,e4⟩ | ⟨e1, -, -⟩
 ·rw [if_neg (by omega)] at h |-
  have hN:=R8 e2 e3;have h0:=(of_decide_eq_true e3).1;by_cases hq:(Eu (fun k=>EF g a x y pos seq left k (EF g a x y pos seq left 0 0).1.of_) ((EF g a x y pos seq left 0 0).1.of_ - 1).toNat 1 (EF g a x y pos seq left 0 0).1 [] (EF g a x y pos seq left 0 0).2.2).1≠1
  ·rw [if_pos hq] at h;exact absurd h hq
  ·rw [if_neg hq];refine KV (g:=g) (a:=a) (seq:=seq) (left:=left) (n:=(EF g a x y pos seq left 0 0).1.of_) (look:=fun k=>EF g a x y pos seq left k (EF g a x y pos seq left 0 0).1.of_) (fun i h1 h2 h3=>?_) _ 1 _ [] _ (by omega) (by omega) e2 (by omega) rfl h0 (by simp) (by omega);rcases H6 (a:=a) (x:=x) (y:=y) (seq:=seq) (left:=left) (of_:=(EF g a x y pos seq left 0 0).1.of_) (at_:=i) hg hp (by omega) with ⟨_,⟨q1,_,q2⟩,_⟩ | ⟨q,_⟩
   ·exact⟨q1,q2⟩
   ·omega
 ·rw [if_pos (by omega)] at h;simp only at h;omega
theorem KJ {g:Geo} {a:An} {x y:List Gt} (hg:Bm g=true):∀ (f:Nat) (pos seq left:Int) (l:List Tx) (w:List Wr) {l':List Tx} {w':List Wr} {seq':Int},HK g l a.seq a.pos->pos=Ua g l a.pos->seq=a.seq+l.length->usedM l+left=g.sl->0<=left->(0<=pos/\pos<g.sl)->If g a x y f pos seq left l w=some (l',w',seq')->
  HK g l' a.seq a.pos/\seq'=a.seq+l'.length/\usedM l'<=g.sl
 | 0,pos,seq,left,l,w,l',w',seq',h1,h2,h3,h4,h5,h6,h=>by
  unfold If at h;injection h with h
  injection h with e1 h
  injection h with e2 e3
  subst e1;subst e3;exact⟨h1,h3,by omega⟩
 | f+1,pos,seq,left,l,w,l',w',seq',h1,h2,h3,h4,h5,h6,h=>by
  unfold If at h;have fin:some (l,w,seq)=some (l',w',seq')->HK g l' a.seq a.pos/\seq'=a.seq+l'.length/\usedM l'<=g.sl:=fun h=>by
   injection h with h
   injection h with e1 h
   injection h with e2 e3
   subst e1;subst e3;exact⟨h1,h3,by omega⟩
  by_cases hc:0<left/\seq<=4294967295
  ·rw [if_pos hc] at h;simp only at h;have tf:=QR (a:=a) (x:=x) (y:=y) (seq:=seq) (left:=left) hg h6;have ti:=fun e=>Tp (a:=a) (x:=x) (y:=y) (seq:=seq) (left:=left) hg h6 e
   generalize IJ g a x y pos seq left=q at tf ti h;obtain⟨how,n,im,ws⟩:=q;simp only at tf ti h;rcases tf with ⟨rfl,t1,t2⟩ | tf
   ·rw [if_neg (by decide),if_neg (by decide)] at h;have hi:=ti rfl;obtain⟨g1,g2,g3,g4,g5⟩:=Ar.1 hg;have hm:=Bb (pos+n) (show 0<g.sl by omega);have hm0:=Bx g.sl (show 0<=pos+n by omega);refine KJ hg f _ _ _ _ _ (Ob g l a.seq a.pos ⟨seq,pos,n,im⟩ h1 ⟨h3,h2,by simp only;omega,t1.1⟩) ?_ ?_ ?_ (by omega) ⟨hm0,hm⟩ h
    ·rw [SC,<-h2]
    ·rw [Ai];simp only [Am,Bf];omega
    ·rw [used_app];simp only;omega
   ·by_cases h3':how=3
    ·rw [if_pos h3'] at h;cases h
    ·rw [if_neg h3',if_pos (by omega)] at h;exact fin h
  ·rw [if_neg hc] at h;exact fin h






section
variable {g:Geo} {a:An} {fill:UInt8} {sizes:List Int}
end
section
variable {g:Geo} {a:An} {fill:UInt8} {sizes:List Int}
end
section
variable {g:Geo} {a:An} {fill:UInt8} {sizes:List Int}
end
theorem Im {g:Geo} {c s:Int} (hc:c=0\/c=1) (hs:0<=s/\s<g.sl):IU g c s=true:=by
 rw [IU,AF.2 (show 0<=s/\s<=g.sl - 1 by omega)];rcases hc with rfl | rfl <;> rfl
theorem CD {g:Geo} {r:Rc} (h:Fz g r=true) (copy slot:Int):(BG g r copy slot).length<=200:=by
 have:=Es h;rw [BG,FE];omega
section
variable {g:Geo} {a:An} {p q:Int->Option Rc} {p0:Int}
end
theorem GG (l:List Int) (hl:l.length<=1000000):Fn Tryz.prog 65 [iA l] fun r=>r=iA l:=by
 refine zR Tryz.func65 rfl ?_;refine⟨by omega,?_⟩;refine⟨by simp,?_⟩;exact⟨iA l,fun c v h=>zD rfl (fun i hi=>Fj hi) h,rfl⟩
theorem MX (a:An) (hh:a.homes.length<=1000) (hp:∀ h∈a.homes,h.places.length<=1000000):Fn Tryz.prog 63 [.ag (Ft a)] fun r=>r = .ag (Ft a):=by
 refine zR Tryz.func63 rfl ?_;conv=>whnf
 refine zM Nat (fun k=>([(1, .bp 0 0),(2, .bp 1 0),(3,Jr a.homes),(4,iv k)], [.box 33 [iv a.gen,iv a.epoch,iv a.pos,iv a.seq,iv a.last, .v (.string a.label), .ow 2 k], .box 33 [iv 0,iv 0,iv 0,iv 0,iv 0, .v (.string ⟨#[]⟩), .v (.slice none 0 0)], .row 177 3 ((a.homes.take k).map ES)])) (fun k=>k<=a.homes.length) (fun k=>a.homes.length - k) 0 (Aj _) ⟨[(1000006,177,3)],tA,tA,tA,rfl,rfl,rfl⟩ ?_;intro k hk;conv=>whnf
 refine A7 (fun c1=>?_) (fun c1=>?_) <;> (repeat rw [Ab] at c1) <;> conv=>whnf
 ·have ti:=GG (a.homes.getD k ⟨[],0,0⟩).places (hp _ (A5 c1));refine zC tys_ok mixed [0,1,2,3,4,5,6,8,9,10,11,12,13,14,15,16,17,7,18,19,20,21,22] (by kernel_rfl) ?_;conv=>whnf
  repeat' (first | (refine z_ ?_;conv=>whnf) | (refine A7 (fun _=>?_) (fun _=>?_) <;> conv=>whnf) | (refine zZ ti ?_;conv=>whnf) | (refine Ae (by first | omega | exact of_decide_eq_true rfl) ?_;conv=>whnf) | fail)
  refine Ae ⟨by rw [Ac,Au];omega,by omega⟩ ?_;exact⟨k+1,by omega,by omega, [],tv,⟨rfl,rfl,rfl,AI (by omega),tv⟩,⟨rfl,rfl,congrArg (AB.row _ _) (GT c1),tv⟩,rfl,rfl,rfl⟩
 ·refine Ae (by rw [Ac,Au];omega) ?_;conv=>whnf
  have ek:k=a.homes.length:=by omega
  subst ek;refine⟨.ag (Ft a),Bk ⟨ri,ri,ri,ri,ri,ri,?_,tv⟩,rfl⟩;rw [Aw];exact Bc a.homes rfl rfl
theorem GB {g:Geo} {a:An} (h:Bn g a=true):(0<=a.gen/\a.gen<=4294967295)/\(0<=a.epoch/\a.epoch<=4294967295)/\(1<=a.seq/\a.seq<=4294967295)/\(0<=a.last/\a.last<=4294967295/\a.seq - 1<=a.last)/\(0<=a.pos/\a.pos<g.sl)/\(a.homes.length:Int)=g.z/\∀ x∈a.homes,En g x=true:=by
 simp only [Bn,A_,BC,Ad,AF,decide_eq_true_eq,Av] at h;obtain⟨⟨q1,q2,q3,q4, -⟩,q5,q6,q7,q8,q9,q10⟩:=h;exact⟨q1,q2,⟨q5,q3.2⟩,⟨q4.1,q4.2,q6⟩,⟨q7.1,by omega⟩,q9,q10⟩
theorem Le {g:Geo} {a:An} (hg:Bm g=true) (h:Bn g a=true):∀ x∈a.homes,x.places.length<=1000000:=by
 obtain⟨h1,h2,h3,h4,h5⟩:=Ar.1 hg;intro x hx;have:=(GB h).2.2.2.2.2.2 x hx;simp only [En,Ad,decide_eq_true_eq] at this;omega

theorem Nu {g:Geo} {a:An} {x y:List Gt}:∀ (f:Nat) (pos seq left:Int) (l:List Tx) (w:List Wr) {l':List Tx} {w':List Wr} {seq':Int},seq<=4294967296->If g a x y f pos seq left l w=some (l',w',seq')->seq'<=4294967296
 | 0,pos,seq,left,l,w,l',w',seq',h1,h=>by
  unfold If at h;injection h with h
  injection h with e1 h
  injection h with e2 e3
  omega
 | f+1,pos,seq,left,l,w,l',w',seq',h1,h=>by
  unfold If at h;have fin:some (l,w,seq)=some (l',w',seq')->seq'<=4294967296:=fun h=>by
   injection h with h
   injection h with e1 h
   injection h with e2 e3
   omega
  by_cases hc:0<left/\seq<=4294967295
  ·rw [if_pos hc] at h;simp only at h;generalize IJ g a x y pos seq left=q at h;split at h
   ·cases h
   ·split at h
    ·exact fin h
    ·exact Nu f _ _ _ _ _ (by omega) h
  ·rw [if_neg hc] at h;exact fin h
theorem Rb {g:Geo} {a:An} {x y:List Gt} (hg:Bm g=true) (ha:Bn g a=true) (h:(Gj g a x y).2.2=0):a.last<=a.seq+(Gj g a x y).1.length - 1/\a.seq+(Gj g a x y).1.length - 1<=4294967295:=by
 obtain⟨g1,g2,g3,g4,g5⟩:=Ar.1 hg;have hq:=XK ha;have hp:=GB ha;unfold Gj at h |-
 cases hR:If g a x y g.sl.toNat a.pos a.seq g.sl [] [] with
 | none=>rw [hR] at h;simp [Xh,damaged] at h
 | some q=>
  obtain⟨l,w,seq⟩:=q;rw [hR] at h;obtain⟨c1,c2,c3⟩:=KJ hg _ _ _ _ _ _ (l':=l) (w':=w) (seq':=seq) (show HK g [] a.seq a.pos from trivial) rfl (by simp) (by simp [usedM]) (by omega) hq.2 hR;have hm:=Nu _ _ _ _ _ _ (by omega) hR;by_cases hl:seq - 1<a.last
  ·rw [Xg hl] at h;simp [damaged] at h
  ·rw [MK hl];simp only;omega
def De (a:An) (n:Nat):An:={ a with gen:=a.gen+1,epoch:=a.epoch+1,last:=a.seq+n - 1 }
theorem PY {g:Geo} {a:An} {n:Nat} (ha:Bn g a=true) (h1:a.gen≠4294967295) (h2:a.epoch≠4294967295) (h3:a.seq+n - 1<=4294967295):Bn g (De a n)=true:=by
 have hp:=GB ha;simp only [Bn,A_,BC,Ad,AF,decide_eq_true_eq] at ha;simp only [Bn,A_,BC,Ad,AF,decide_eq_true_eq];obtain⟨⟨q1,q2,q3,q4,q11⟩,q5,q6,q7,q8,q9,q10⟩:=ha;refine⟨⟨?_,?_,q3,?_,q11⟩,q5,?_,q7,q8,q9,q10⟩
 ·show 0<=a.gen+1/\a.gen+1<=4294967295;omega
 ·show 0<=a.epoch+1/\a.epoch+1<=4294967295;omega
 ·show 0<=a.seq+n - 1/\a.seq+n - 1<=4294967295;omega
 ·show a.seq - 1<=a.seq+n - 1;omega
def AJ (a:An) (t:List Tx):Stt:=⟨a,t,false,0,0,0,0, []⟩
def OS (g:Geo) (a:An) (t:List Tx) (d:Dk):Dk × Int × Stt:=
 if a.gen=4294967295\/a.epoch=4294967295 then (d,14,st0) else
 let q:=d.putAll (Ba g (De a t.length))
 if q.2.2 then (q.1,8,st0) else if q.2.1=0 then (q.1,14,st0) else (q.1,0,AJ (De a t.length) t)
def OT (g:Geo) (a:An) (q:List Tx × List Wr × Int) (d:Dk):Dk × Int × Stt:=
 if q.2.2≠0 then (d,q.2.2,st0) else
 if (d.mend q.2.1).2 then ((d.mend q.2.1).1,8,st0) else OS g a q.1 (d.mend q.2.1).1
def Kq (g:Geo) (a:An) (d:Dk):Dk × Int × Stt:=
 if d.live (2*g.sl.toNat) then OT g a (Gj g a (BB d (BS g 0)) (BB d (BS g 1))) (d.adv (2*g.sl.toNat)) else (d.adv (2*g.sl.toNat),8,st0)
def D_ (g:Geo) (d:Dk):Dk × Int × Stt:=
 if d.live g.an.toNat then
  match HT g (BB d (Ek g)) with
  | none=>(d.adv g.an.toNat,11,st0)
  | some (a,_)=>Kq g a (d.adv g.an.toNat)
 else (d.adv g.an.toNat,8,st0)
theorem VI {g:Geo} {x:Gt} {i:Int} {a:An} (hg:Bm g=true) (h:Fo g x i=some a):Bn g a=true:=by
 unfold Fo at h;split at h
 ·cases hR:FC g (Cc x.bytes) with
  | none=>rw [hR] at h;cases h
  | some b=>
   rw [hR] at h;simp only at h;split at h
   ·cases h;exact(Ru hg hR).1
   ·cases h
 ·cases h
theorem Lz {g:Geo} {l:List Gt} (hg:Bm g=true):∀ (k:Nat) {a:An} {j:Nat},FD g l k=some (a,j)->Bn g a=true
 | 0,a,j,h=>by cases h
 | k+1,a,j,h=>by
  rw [Jg,PN] at h;cases hS:Fo g (l.getD k ⟨0, []⟩) (k:Nat) with
  | none=>rw [hS] at h;exact Lz hg k h
  | some b=>
   have hb:=VI hg hS;rw [hS] at h;cases hP:FD g l k with
   | none=>rw [hP] at h;cases h;exact hb
   | some q=>
    obtain⟨c,i⟩:=q;rw [hP] at h;simp only at h;split at h
    ·cases h;exact hb
    ·cases h;exact Lz hg k hP
theorem Qk {d:Dk} (h:DkOk d) (l:List Int):∀ x∈BB d l,x.bytes.length<=100000:=by
 intro x hx;simp only [BB,AQ] at hx;obtain⟨a,_,rfl⟩:=hx;have:=Uz h a;show (d.got a).1.length<=_;omega
theorem ZZ {m:Nat} {i:Nat} (hi:Nat.blt i m=true) (h:Nat.ble 3 m=true):∀ z∈ [0,1,2,i],z<m:=fun z hz=>by
 have:=Ag h;have:=Ag hi;simp at hz;omega
theorem ACalls.pre {P:Program} {q:Bool} {f:FuncId} {args:List AV} {H H':List AB} {K:AV->List AB->Prop} (h:ConvH H H') (k:ACalls P q f args H' K):ACalls P q f args H K:=by
 refine⟨k.go,fun w0 M0 c us hs hr=>?_⟩;obtain⟨c1,e1,s1,x1⟩:=h w0 M0 c hs;have:=k.calls w0 M0 c1 us s1 (RdL.ext _ x1 hr);rw [e1] at this;refine this.mono ?_;rintro e w' ⟨v,c',r,H2,rfl,rfl,q1,q2,q3,q4,q5⟩;exact⟨v,c',r,H2,rfl,rfl,q1,q2,x1.trans q3,q4,q5⟩
def zd:=@ACalls.pre
theorem LO {es:List (List AV)} {i m:Nat} {e:List AV} (h:∀ x∈es,AV.ltL x 0=true) (he:AV.ltL e m=true):AV.ltL (es.set i e).flatten m=true:=by
 rw [DF];intro x hx;obtain⟨y,hy,hx'⟩:=List.mem_flatten.1 hx;rcases C3 hy with hy | rfl
 ·exact AV.lt_mono x (Aj _) (DF.1 (h y hy) x hx')
 ·exact DF.1 he x hx'
theorem I3 {es:List (List AV)} {i:Nat} {e:List AV} {f:Nat->Nat} (h:∀ x∈es,AV.ltL x 0=true) (he:AV.renL f e=e):(es.set i e).map (AV.renL f)=es.set i e:=by
 rw [BM,he];congr 1;conv=>rhs;rw [<-List.map_id es]
 refine C4 fun x hx=>?_
 exact AV.renL_id x (h x hx)
theorem V1 (l:List Tx):∀ x∈l.map CV,AV.ltL x 0=true:=by
 intro x hx;obtain⟨t,_,rfl⟩:=AQ.1 hx;rfl
def Vj (t:Tx) (k:Nat):List AV:= [iv t.seq,iv t.pos,iv t.n, .ow k t.images.length]
theorem Yg {k n:Nat} {s:AV} (l:List Tx):(l.map CV).map (List.map (AV.slIn k n s))=l.map CV:=by
 rw [List.map_map];exact C4 fun t _=>rfl
theorem VD (l:List Tx) (k:Nat) (t:Tx) (s:AV):((l.map CV).set k (Vj t 1)).map (List.map (AV.slIn 1 (t.images.map Eh).length s))=(l.map CV).set k [iv t.seq,iv t.pos,iv t.n,s]:=by
 rw [BM,Yg];congr 1;simp [Vj,AV.slIn]
theorem N6 {l:List Tx} {k:Nat} {t:Tx} (hk:k<l.length) (ht:t=l.getD k ⟨0,0,0, []⟩):ConvH [.rowo 112 4 ((l.map CV).set k (Vj t 1)) 2, .row 166 3 (t.images.map Eh)] [.row 112 4 (l.map CV), .dead]:=by
 refine(ConvH.sealIn (H:= [.rowo 112 4 ((l.map CV).set k (Vj t 1)) 2, .row 166 3 (t.images.map Eh)]) 0 1 rfl rfl (VD l k t _)).trans ?_;refine(ConvH.row (k:=0) rfl (LO (V1 l) rfl)).trans ?_;refine zA (k:=0) (es':=l.map CV) rfl (by simp) fun i=>?_
 refine Ha (f:=CV) (d:=(⟨0,0,0, []⟩:Tx)) hk ?_ i;rw [<-ht];exact⟨fun _ _ h=>h,fun _ _ h=>h,fun _ _ h=>h,Bc (f:=Eh) t.images (Ac _) rfl,tv⟩
theorem Yy (l:List Tx) (hl:l.length<=1000000) (hi:∀ t∈l,t.images.length<=1000000/\∀ x∈t.images,x.bytes.length<=1000000000):Fn Tryz.prog 117 [DH l] fun r=>r=DH l:=by
 have hc:=Nl l (by omega);refine zR Tryz.func117 rfl ?_;conv=>whnf
 refine zV hc rfl ?_;rintro _ _ ⟨rfl,rfl⟩;conv=>whnf
 refine zU Nat (fun k=>([(0, .ow 0 l.length),(9,iv l.length),(10,iv k)], [.row 112 4 (l.map CV)])) (fun k=>k<=l.length) (fun k=>l.length - k) 0 (Aj _)
  (zS (s:= [0]) tA) ?_
 intro k hk;conv=>whnf
 refine A7 (fun h6=>?_) (fun h6=>?_) <;> (repeat rw [Ab] at h6) <;> conv=>whnf
 ·have hk':k<l.length:=by omega
  have hm:=hi _ (A5 (d:=(⟨0,0,0, []⟩:Tx)) hk');have hE:(l.map CV).getD (k:Int).toNat []=CV (l.getD k ⟨0,0,0, []⟩):=by rw [Ab];exact Bd hk'
  have ho:=NM (l.getD k ⟨0,0,0, []⟩).images (by omega);repeat' (refine z_ ?_;conv=>whnf)
  refine⟨⟨by omega,by omega⟩,?_⟩;conv=>whnf
  refine Ae ⟨rfl,(Ac _).symm,by rw [Ab];exact hk'⟩ ?_;conv=>whnf
  rw [hE];conv=>whnf
  refine zd (ConvH.rowo (k:=0) rfl) ?_;refine zV ho rfl ?_;rintro _ _ ⟨rfl,rfl⟩;refine⟨⟨by omega,by omega⟩,?_⟩;conv=>whnf
  refine Ae ⟨rfl,(Ac _).symm,by rw [Ab];exact hk'⟩ ?_;conv=>whnf
  rw [hE];refine⟨⟨by omega,by omega⟩,?_⟩;conv=>whnf
  refine Ae ⟨rfl,by rw [AO,Ac],by rw [Ab];exact hk'⟩ ?_;conv=>whnf
  rw [BN (by rw [Ab,Ac];exact hk')];conv=>whnf
  obtain⟨t,ht⟩:∃ t,t=l.getD k ⟨0,0,0, []⟩:=⟨_,rfl⟩;rw [<-ht] at hm hE |-
  have hS:∀ x∈l.map CV,AV.ltL x 0=true:=V1 l;have hro:AV.ltL ((l.map CV).set k (Vj t 1)).flatten 2=true:=LO hS rfl;refine zU Nat (fun j=>([(0, .ow 0 l.length),(3,iv k),(9,iv l.length),(10,iv k),(27, .ow 1 t.images.length),(28,iv t.images.length),(29,iv j)], [.rowo 112 4 ((l.map CV).set k (Vj t 1)) 2, .row 166 3 (t.images.map Eh)])) (fun j=>j<=t.images.length) (fun j=>t.images.length - j) 0 (Aj _)
   (zS (s:= [0,1]) ⟨tA,⟨⟨hro,_,by rw [I3 hS rfl];try rfl⟩,rfl,tv⟩,rfl,rfl,rfl,rfl,rfl⟩) ?_
  intro j hj;conv=>whnf
  refine A7 (fun h7=>?_) (fun h7=>?_) <;> (repeat rw [Ab] at h7) <;> conv=>whnf
  ·have hj':j<t.images.length:=by omega
   have hF:(t.images.map Eh).getD (j:Int).toNat []=Eh (t.images.getD j ⟨0,0, []⟩):=by rw [Ab];exact Bd hj'
   have hG:((l.map CV).set k (Vj t 1)).getD (k:Int).toNat []=Vj t 1:=by rw [Ab];exact BN (by rw [Ac];exact hk')
   have b1:=Cx (t.images.getD j ⟨0,0, []⟩).bytes (hm.2 _ (A5 hj'));refine⟨⟨by omega,by omega⟩,?_⟩;conv=>whnf
   refine Ae ⟨rfl,(Ac _).symm,by rw [Ab];exact hj'⟩ ?_;conv=>whnf
   rw [hF];conv=>whnf
   apply zW (0) tys_ok mixed (.o [0,1,2,3,4,5,6,7,8,9,10,11] .fin) (by kernel_rfl);conv=>whnf
   try (refine tI ?_;conv=>whnf)
   try (first | (refine Ae ⟨rfl,by rw [AO,Ac],by rw [Ab];exact hk'⟩ ?_;(conv=>whnf);rw [hG]) | skip;conv=>whnf)
   try (first | (refine Ae ⟨rfl,by rw [AO,Ac],by rw [Ab];exact hk'⟩ ?_;(conv=>whnf);rw [hG]) | skip;conv=>whnf)
   refine zZ b1 ?_;conv=>whnf
   try (refine tI ?_;conv=>whnf)
   try (refine tS ?_;conv=>whnf)
   (first | rw [hF] | skip)
   conv=>whnf
   all_goals refine⟨j+1,hj',by omega,zG (zJ (zA (k:=1) rfl (es':=t.images.map Eh) (by simp) ?_)) (s:= [0,1]) ⟨⟨rfl,rfl,rfl,rfl,rfl,rfl,AI (by omega),tv⟩,⟨⟨hro,_,by rw [I3 hS rfl];try rfl⟩,rfl,tv⟩,rfl,rfl,rfl,rfl,rfl⟩⟩
   all_goals
    intro i;rw [Ab];refine Ha (f:=Eh) (d:=(⟨0,0, []⟩:Img)) hj' ?_ i;exact⟨fun _ _ h=>h,fun _ _ h=>h,fun _ _ h=>h,tv⟩
  ·exact⟨k+1,hk',by omega,zG (zJ (N6 hk' ht)) (s:= [0]) ⟨⟨rfl,rfl,AI (by omega),tv⟩,tA,rfl,rfl,rfl,rfl,rfl⟩⟩
 ·refine Ae (Ac _).symm ?_;exact⟨DH l,Bc (f:=CV) l rfl rfl,rfl⟩
structure StSm (s:Stt):Prop where
 h:s.a.homes.length<=4/\∀ h∈s.a.homes,h.places.length<=1000000
 l:s.a.label.size<=24
 t:s.txns.length<=30/\∀ t∈s.txns,t.images.length<=30/\∀ i∈t.images,i.bytes.length<=59
 o:s.lost.length<=1000000
theorem st0_sm:StSm st0:=⟨⟨by simp [st0,an0],by simp [st0,an0]⟩,by show (0:Nat)<=24;omega,⟨by simp [st0],by simp [st0]⟩,by simp [st0]⟩
theorem Q9 (s:Stt) (h:StSm s):Fn Tryz.prog 47 [.ag (Fe s)] fun r=>r = .ag (Fe s):=by
 have c1:=QE s.a (by have:=h.h.1;omega) h.h.2;have c2:=Yy s.txns (by have:=h.t.1;omega) (fun t ht=>⟨by have:=(h.t.2 t ht).1;omega,fun x hx=>by have:=(h.t.2 t ht).2 x hx;omega⟩);have c3:=Mu s.lost (by have:=h.o;omega);refine zR Tryz.func47 rfl ?_;conv=>whnf
 apply zW (0) tys_ok mixed (.o [0,1,3,4,6,7,8,2,10,5,9,11,12,13,14,15,16] .fin) (by kernel_rfl);conv=>whnf
 refine zZ c1 ?_;conv=>whnf
 refine zZ c2 ?_;conv=>whnf
 (refine zV c3 rfl ?_;rintro _ _ ⟨rfl,rfl⟩)
 conv=>whnf
 try (refine tS ?_;conv=>whnf)
 try (refine tS ?_;conv=>whnf)
 try (refine tS ?_;conv=>whnf)
 refine Ae (Ac _).symm ?_;exact⟨.ag (Fe s),Bk ⟨ri,ri,ri,ri,ri,ri,ri,ri,ri,ri,ri,ri,ri,SM rfl rfl,tv⟩,rfl⟩
@[reducible] def bwD (g:Geo) (s:Stt) (d:Dk):List AB:= [.box 116 (ax g (.bp 1 0) s), .box 185 (GX (.ow 2 d.cells.length) (.ow 4 d.cache.length) d.reqs d.left), .dead, .dead, .dead]
theorem QC (g:Geo) (s:Stt) (d:Dk) (h:DkOk d):ACalls Tryz.prog false 44 [.bp 0 0] (bwG g s d) fun r H=>r = .ag (EP d)/\H=bwD g s d:=by
 have ht:=Qu d (by have:=h.n;omega) (by have:=h.m;omega) (fun c hc=>by have:=(h.c c hc).2;omega) (fun w hw=>by have:=(h.w w hw).2;omega);refine zT tys_ok Tryz.func44 rfl rfl (Ag rfl) ?_;conv=>whnf
 refine zN ht.go ?_;refine Ae (Ac _).symm ?_;refine Ae (Ac _).symm ?_;conv=>whnf
 refine zX [.ag (EP d)] ⟨Bk ⟨Bc (f:=B7) d.cells rfl rfl,Bc (f:=EE) d.cache rfl rfl,ri,ri,tv⟩,tv⟩ ?_;refine zZ ht ?_;exact⟨_, .ag (EP d),bwD g s d,fun _ _ h=>h,zS (s:= [0,1,2,3,4]) tA,rfl,rfl⟩
theorem VE (g:Geo) (d:Dk) (hg:Bm g=true) (h1:d.cells.length<=1000000) (h2:d.cache.length<=1000000):Fn Tryz.prog 52 [.ag (AU g), .ag (EP d)] fun r=>r = .v (.bool (MZ d&&decide ((d.cells.length:Int)=Aq g))):=by
 have c1:=U0 g hg;have c2:=UI d h1 h2;refine zR Tryz.func52 rfl ?_;conv=>whnf
 refine zZ c1 ?_;conv=>whnf
 refine zZ c2 ?_;conv=>whnf
 cases hk:MZ d with
 | false=>
  exact⟨_,ri,rfl⟩
 | true=>
  exact⟨_,ri,rfl⟩
def dk0:Dk:=⟨[], [],0,0⟩
def ze (n:Int):AV:= iv n
def nilV:AV:= .v (.slice none 0 0)
theorem st0_sub:SubL [ze 0,ze 0,ze 0,ze 0,ze 0, .v (.string ⟨#[]⟩),nilV,nilV, .v (.bool false),ze 0,ze 0,ze 0,ze 0,nilV] (Fe st0):=
 ⟨fun _ _ h=>h,fun _ _ h=>h,fun _ _ h=>h,fun _ _ h=>h,fun _ _ h=>h,fun _ _ h=>h,Bo 3 _,Bo 4 _,fun _ _ h=>h,fun _ _ h=>h,fun _ _ h=>h,fun _ _ h=>h,fun _ _ h=>h,Bo 1 _,tv⟩
theorem RB {g:Geo} {d:Dk} (h:(D_ g d).2.1≠0):(D_ g d).2.2=st0:=by
 unfold D_ at h |-
 split
 ·rename_i hl;rw [if_pos hl] at h;split
  ·rfl
  ·rename_i a j hp;rw [hp] at h;simp only at h;unfold Kq at h |-
   split
   ·rename_i hl2;rw [if_pos hl2] at h;unfold OT at h |-
    split
    ·rfl
    ·rename_i h3;rw [if_neg h3] at h;split
     ·rfl
     ·rename_i h4;rw [if_neg h4] at h;unfold OS at h |-
      split
      ·rfl
      ·rename_i h5;rw [if_neg h5] at h;simp only at h |-
       split
       ·rfl
       ·rename_i h6;rw [if_neg h6] at h;split
        ·rfl
        ·rename_i h7;rw [if_neg h7] at h;exact absurd rfl h
   ·rfl
 ·rfl
theorem ConvF.cap {fr:Fr} {H H':List AB} (i k:Nat) {y:AV} (hx:fget fr i = .bp k 0) (h:capK [.bp k 0] H fun l H2=>l=[y]/\H2=H'):ConvF fr H ((i,y)::fr) H':=fun _ _ c _ a hs hf=>by
 have hr:RdL [.bp k 0] c [a.tmps.getD i undef]:=by
  simp only [RdL];exact⟨_,_,rfl,hx ▸ hf.get i,rfl⟩
 obtain⟨l',H1,c1,⟨rfl,rfl⟩,e1,s1,x1,r⟩:=capK_sound hs hr h;simp only [RdL] at r;obtain⟨u,us,e,r1,rfl⟩:=r;injection e with e _
 subst e;exact⟨c1,e1,s1,(hf.ext x1).cons i _ r1,x1⟩
def Cw (g:Geo):List Tx->Int->Int->Int->Bool
 | [],_,_,_=>true
 | t::r,seq,pos,left=>(decide (t.seq=seq)&&(decide (t.seq<=4294967295)&&(decide (t.pos=pos)&&(decide (2<=t.n)&&(decide (t.n<=left)&&(decide (t.n=t.images.length+1)&&t.images.all (B3 g)))))))&&Cw g r (seq+1) ((pos+t.n).tmod g.sl) (left - t.n)
theorem Wc (g:Geo) (x:Img) (hx:x.bytes.length<=100000):Fn Tryz.prog 124 [.ag (Eh x), .rp (AU g)] fun r=>r = .v (.bool (!B3 g x)):=by
 have h:=Kx g x hx;refine zR Tryz.func124 rfl ?_;conv=>whnf
 refine zZ h ?_;conv=>whnf
 cases B3 g x with
 | true=>exact⟨_,ri,rfl⟩
 | false=>exact⟨_,ri,rfl⟩
theorem ZM (l:List Img) (g:Geo) (hb:∀ x∈l,x.bytes.length<=100000) (hl:l.length<=1000000):Fn Tryz.prog 199 [Ec l, .fn 124 [.rp (AU g)]] fun r=>r = iv (Vm (fun x=>!B3 g x) l):=by
 refine zR Tryz.func199 rfl ?_;conv=>whnf
 refine zM Nat (fun k=>([(0,Ec l),(1, .fn 124 [.rp (AU g)]),(7,iv l.length),(8,iv k)], [])) (fun k=>k<=l.length/\(l.take k).any (fun x=>!B3 g x)=false) (fun k=>l.length - k) 0 ⟨Aj _,by simp⟩ ⟨[],tv,tA,tv,rfl,rfl,rfl⟩ ?_;rintro k ⟨hk,hI⟩;conv=>whnf
 refine Ao (fun h2=>?_) (fun h2=>?_) <;> simp at h2 <;> conv=>whnf
 ·refine⟨by first | omega | (refine⟨rfl,?_,?_⟩ <;> first | omega | (simp only [Ac];done) | (simp only [Ac];omega)) | (simp only [Ac];omega),?_⟩;conv=>whnf
  refine zI (Wc g (l.getD k ⟨0,0, []⟩) (hb _ (A5 h2))) rfl ?_;rintro _ rfl;conv=>whnf
  refine Ao (fun h3=>?_) (fun h3=>?_) <;> conv=>whnf
  ·exact⟨_,ri,by rw [IA (d:=⟨0,0, []⟩) h2 hI (by first | exact h3 | (rw [Ab] at h3;exact h3) | simpa using h3)]⟩
  ·refine⟨k+1,⟨by omega,Ez (d:=⟨0,0, []⟩) h2 hI (by first | exact h3 | (rw [Ab] at h3;exact h3) | simpa using h3)⟩,by omega, [],tv,⟨rfl,rfl,rfl,AI (by omega),tv⟩,tv,rfl,rfl,rfl⟩
 ·exact⟨_,ri,by rw [Az h2] at hI;rw [Hi hI]⟩
theorem ZN (l:List Img) (g:Geo) (hb:∀ x∈l,x.bytes.length<=100000) (hl:l.length<=1000000):Fn Tryz.prog 126 [Ec l, .fn 124 [.rp (AU g)]] fun r=>r = .v (.bool (l.any (fun x=>!B3 g x))):=by
 refine zR Tryz.func126 rfl ?_;conv=>whnf
 refine zZ (ZM l g hb hl) ?_;exact⟨_,ri,by rw [Kw]⟩

theorem JF (g:Geo) (a:An) (l:List Tx) (hl:a.label.size<=1000000) (hh:a.homes.length<=1000000) (hn:l.length<=1000000) (hi:∀ t∈l,t.images.length<=1000000/\∀ x∈t.images,x.bytes.length<=100000):Fn Tryz.prog 53 [.ag (AU g), .ag (Ft a),DH l] fun r=>r = .v (Ge ((Bm g&&Bn g a)&&Cw g l a.seq a.pos g.sl)):=by
 have hA:=Oj g a hl hh;cases hga:Bm g&&Bn g a with
 | false=>
  rw [hga] at hA;rw [DE];refine zR Tryz.func53 rfl ?_;conv=>whnf
  refine zZ hA ?_;exact⟨_,ri,rfl⟩
 | true=>
  rw [hga] at hA;rw [BV];obtain⟨hg,ha⟩:=Bool.and_eq_true_iff.1 hga;obtain⟨g1,g2,g3,g4,g5⟩:=Ar.1 hg;have hp:=GB ha;refine zR Tryz.func53 rfl ?_;conv=>whnf
  refine zZ hA ?_;conv=>whnf
  refine zH tys_ok mixed (by kernel_rfl) ?_;conv=>whnf
  refine zU (Nat × Int × Int × Int) (fun x=>([(2,DH l),(3, .rp (AU g)),(8,iv x.2.1),(9,iv x.2.2.1),(10,iv x.2.2.2),(26,DH l),(27,iv l.length),(28,iv x.1)], []))
   (fun x=>x.1<=l.length/\(0<=x.2.1/\x.2.1<g.sl)/\(0<=x.2.2.1/\x.2.2.1<=4294967296)/\(0<=x.2.2.2/\x.2.2.2<=30)/\Cw g l a.seq a.pos g.sl=Cw g (l.drop x.1) x.2.2.1 x.2.1 x.2.2.2) (fun x=>l.length - x.1) (0,a.pos,a.seq,g.sl) ⟨Aj _,by show 0<=a.pos/\a.pos<g.sl;omega,by show 0<=a.seq/\a.seq<=4294967296;omega,by show 0<=g.sl/\g.sl<=30;omega,rfl⟩
   ?_ ?_
  ·exact zG (ConvF.cap 3 0 (y:= .rp (AU g)) rfl (by (conv=>whnf);exact tA)) (s:= []) tA
  rintro⟨k,pos,seq,left⟩ ⟨hk,b1,b2,b3,hI⟩;simp only at hk b1 b2 b3 hI |-
  conv=>whnf
  refine A7 (fun h6=>?_) (fun h6=>?_) <;> (repeat rw [Ab] at h6) <;> conv=>whnf
  ·have hk':k<l.length:=by omega
   have hm:=hi _ (A5 (d:=(⟨0,0,0, []⟩:Tx)) hk');have hdr:l.drop k=l.getD k ⟨0,0,0, []⟩::l.drop (k+1):=by
    rw [Aa,Af hk'];exact Bu hk'
   rw [hdr,Cw] at hI;repeat' (refine z_ ?_;conv=>whnf)
   refine⟨⟨by omega,by omega⟩,?_⟩;conv=>whnf
   rw [Ab];generalize l.getD k ⟨0,0,0, []⟩=t at hm hI |-
   have hcf:=ZN t.images g hm.2 hm.1;rw [show (t.images.any fun x=>!B3 g x) = !t.images.all (B3 g) by rw [Cp,Bool.not_not]] at hcf;have wn:IntKind.i64.wrap ((t.images.length:Int)+1)=t.images.length+1:=wi (by omega);generalize hAll:t.images.all (B3 g)=Q at hcf hI;generalize hC:(decide (t.seq=seq)&&(decide (t.seq<=4294967295)&&(decide (t.pos=pos)&&(decide (2<=t.n)&&(decide (t.n<=left)&&(decide (t.n=t.images.length+1)&&Q))))))=C at hI;clear hAll hm hi hdr hA;conv=>whnf
   repeat' (refine z_ ?_;conv=>whnf)
   repeat' (first | (refine Ao (fun h=>?_) (fun h=>?_) <;> (try simp at h) <;> conv=>whnf) | (refine z_ ?_;conv=>whnf) | (refine zZ hcf ?_;conv=>whnf))
   all_goals try (exact⟨_,ri,by rw [hI,show C=false by (rw [<-hC,<-BP];clear hI hC hcf;simp [*] <;> omega)];try rfl⟩)
   have hC1:C=true:=by rw [<-hC];clear hI hC hcf;simp [*] <;> omega
   rw [hC1,BV] at hI;have wn':t.n=t.images.length+1:=by omega
   have w1:IntKind.i64.wrap (pos+t.n)=pos+t.n:=wi (by omega);have w2:IntKind.i64.wrap (seq+1)=seq+1:=wi (by omega);have w3:IntKind.i64.wrap (left - t.n)=left - t.n:=wi (by omega);apply zW (0) tys_ok mixed (.o [0,1,2,3,4,5,6,7,8,9,10,11,12,13,14,15] .fin) (by kernel_rfl);conv=>whnf
   try (refine tI ?_;conv=>whnf)
   rw [w1,w2,w3];have hq1:=Bx g.sl (show 0<=pos+t.n by omega);have hq2:=Bb (pos+t.n) (show 0<g.sl by omega);exact⟨(k+1,(pos+t.n).tmod g.sl,seq+1,left - t.n),⟨hk',⟨hq1,hq2⟩,(show 0<=seq+1/\seq+1<=4294967296 by omega),(show 0<=left - t.n/\left - t.n<=30 by omega),hI⟩,(show l.length - (k+1)<l.length - k by omega),zS (s:= []) ⟨⟨rfl,rfl,rfl,rfl,rfl,rfl,rfl,AI (by omega),tv⟩,tv,rfl,rfl,rfl,rfl,rfl⟩⟩
  ·have ek:k=l.length:=by omega
   subst ek;exact⟨_,ri,by rw [hI,List.drop_length];try rfl⟩
def iz:Img:=⟨0,0, []⟩
def Cv (l:List Img) (z w:Int):Nat->Option Img
 | 0=>none
 | k+1=>if (l.getD k iz).zone=z/\(l.getD k iz).what=w then some (l.getD k iz) else Cv l z w k
def EO (l:List Tx) (z w:Int):Nat->Option (Img × Int)
 | 0=>none
 | k+1=>match Cv (l.getD k tz).images z w (l.getD k tz).images.length with
  | some x=>some (x,(l.getD k tz).seq)
  | none=>EO l z w k
def Cr (l:List Tx) (z w:Int):Option (Img × Int):=EO l z w l.length
theorem Hp {l:List Img} {z w:Int}:∀ {k:Nat} {x:Img},k<=l.length->Cv l z w k=some x->x∈l/\x.zone=z/\x.what=w
 | k+1,x,hk,h=>by
  rw [Cv] at h;split at h
  ·rename_i hc;obtain rfl:=Option.some.inj h;exact⟨A5 (by omega),hc⟩
  ·exact Hp (by omega) h
theorem Ho {l:List Tx} {z w:Int}:∀ {k:Nat} {x:Img} {s:Int},k<=l.length->EO l z w k=some (x,s)->∃ t∈l,t.seq=s/\x∈t.images/\x.zone=z/\x.what=w
 | k+1,x,s,hk,h=>by
  rw [EO] at h;split at h
  ·rename_i y hy;obtain⟨rfl,rfl⟩:=Prod.mk.inj (Option.some.inj h);exact⟨l.getD k tz,A5 (by omega),rfl,Hp (Ah _) hy⟩
  ·exact Ho (by omega) h
def Cm (a:An) (l:List Tx) (z:Int):Int:=match Cr l z 255 with
 | some p=>p.2
 | none=>(a.homes.getD z.toNat ⟨[],0,0⟩).root
def GF (n:Int):Int:=if 0<=n/\n<=30 then n else 0
def Gy (l:List Tx):Nat->Int
 | 0=>0
 | k+1=>Gy l k+GF (l.getD k tz).n
def C6 (l:List Tx):Int:=Gy l l.length
theorem LC (n:Int):0<=GF n/\GF n<=30:=by
 unfold GF;split <;> omega
theorem ET (l:List Tx):∀ k:Nat,0<=Gy l k/\Gy l k<=30*k
 | 0=>by simp [Gy]
 | k+1=>by
  have:=ET l k;have:=LC (l.getD k tz).n;rw [Gy];omega
def Ev (g:Geo) (w:Int):Int:=if w = -1 then g.d else w
def B4 (g:Geo) (a:An) (z w:Int):Int:=Co g z ((a.homes.getD z.toNat ⟨[],0,0⟩).places.getD (Ev g w).toNat 0)
def BH (g:Geo) (x:Gt) (addr root:Int):Option (List Ent):=match BF x addr with
 | some s=>if s.stamp=root then BW g s.pay else none
 | none=>none
def CY (x:Gt) (addr:Int) (e:Ent):Option (List UInt8):=match BF x addr with
 | some s=>if s.stamp=e.stamp/\s.pay.length=8/\((Cz s.pay:Nat):Int)=e.sum then some s.pay else none
 | none=>none
def Do (a b:List UInt8):List UInt8:=List.zipWith (fun x y=>x ^^^ y) a b
def ez:Ent:=⟨0,0,false⟩
def Dl (t:List Ent) (had:List (List UInt8)) (at_:Nat):Nat->Option (List UInt8)
 | 0=>some zero8
 | k+1=>match Dl t had at_ k with
  | none=>none
  | some b=>if k=at_\/(t.getD k ez).lost=true then some b else if (had.getD k []).length=0 then none else some (Do b (had.getD k []))
def BK (g:Geo) (t:List Ent) (had:List (List UInt8)) (at_:Nat):List UInt8:=
 if (t.getD at_ ez).lost then []
 else if 0<(had.getD at_ []).length then had.getD at_ []
 else match Dl t had at_ (g.d.toNat+1) with
  | none=> []
  | some b=>if ((Cz b:Nat):Int)=(t.getD at_ ez).sum then b else []
def flatX:AV->Bool
 | .v _=>true
 | _=>false
def flatO:AV->Bool
 | .v _=>true
 | .ow _ _=>true
 | .tp l=>l.all fun x=>match x with | .v _=>true | .ow _ _=>true | _=>false
 | _=>false
def flatR:List AB->Bool
 | []=>true
 | .row _ _ es::r=>es.flatten.all flatX&&flatR r
 | _::_=>false
theorem Qp {c c':Ctx}:∀ {l:List AV} {us:List Value},l.all flatX=true->RdL l c us->RdL l c' us
 | [],us,_,h=>by simpa only [RdL] using h
 | x::l,us,hf,h=>by
  rw [A_,Ad] at hf;simp only [RdL] at h |-
  obtain⟨u,vs,rfl,h1,h2⟩:=h;refine⟨u,vs,rfl,?_,Qp hf.2 h2⟩;cases x <;> simp [flatX] at hf;simpa only [Rd] using h1
theorem Pb {c c':Ctx} (hr:c'.rho=c.rho) (hl:c'.len=c.len) (hd:c'.dom=c.dom) {x:AV} (hx:(match x with | .v _=>true | .ow _ _=>true | _=>false)=true) {u:Value} (h:Rd x c u):Rd x c' u:=by
 cases x <;> simp at hx
 ·simpa only [Rd] using h
 ·simp only [Rd] at h |-
  rw [hr,hl,hd];exact h
theorem Xe {c c':Ctx} (hr:c'.rho=c.rho) (hl:c'.len=c.len) (hd:c'.dom=c.dom) {x:AV} (hx:flatO x=true) {u:Value} (h:Rd x c u):Rd x c' u:=by
 cases x with
 | v y=>exact Pb hr hl hd rfl h
 | ow k n=>exact Pb hr hl hd rfl h
 | tp l=>
  simp only [Rd] at h |-
  obtain⟨xs,rfl,hxs⟩:=h;refine⟨xs,rfl,?_⟩;simp only [flatO] at hx;induction l generalizing xs with
  | nil=>simpa only [RdL] using hxs
  | cons y l ih=>
   rw [A_,Ad] at hx;simp only [RdL] at hxs |-
   obtain⟨u,us,rfl,h1,h2⟩:=hxs;exact⟨u,us,rfl,Pb hr hl hd hx.1 h1,ih hx.2 us h2⟩
 | _=>simp [flatO] at hx
theorem flatR_mem:∀ {R:List AB} {y:AB},flatR R=true->y∈R->∃ t sz es,y = .row t sz es/\es.flatten.all flatX=true
 | .row t sz es::r,y,h,hy=>by
  rw [flatR,Ad] at h;rcases AK.1 hy with rfl | hy
  ·exact⟨t,sz,es,rfl,h.1⟩
  ·exact flatR_mem h.2 hy
theorem FnO.lend {P:Program} {f:FuncId} {args args':List AV} {H:List AB} {K:AV->List AB->Prop} {q:Bool} {k:AV->List AB->Prop} (h:FnO P f args' K) (hs:sealA args H fun a _=>a=args') (hk:∀ r R,K r R->(flatO r=true/\flatR R=true)/\appK H R 0 fun d H=>DK (r.shift d) fun r=>k r H):ACalls P q f args H k:=by
 refine⟨h.go,fun w0 M0 c us hs0 hr=>?_⟩;obtain⟨l',H',c',rfl,h2,h3,h4,h5,_⟩:=sealA_sound hs0 hr hs;have hglob:globOk c'.closed.w:=h3.glob;have hc:=h.calls c'.closed us hglob rfl h3.lt h5;have ew:c'.closed.w=c.w:=h2
 suffices hh:Calls P f us.toArray c'.closed.w fun e w'=>∃ v c1 r H1,e = .returned v/\c1.w=w'/\k r H1/\HS w0 M0 c1 H1/\Ext c c1/\Rd r c1 v/\(q=true->Old c.w w') by
  rw [ew] at hh;exact hh
 refine hc.mono ?_;rintro e w' ⟨v,r,c2,R,rfl,q1,rfl,q2,q3,q4⟩;obtain⟨⟨f1,f2⟩,hkk⟩:=hk r R q1
 -- the same memory;what the caller holds is not read
 obtain⟨c3,e3⟩:∃ c3:Ctx,c3={ c2 with M:=fun b=>c2.M b\/c.M b }:=⟨_,rfl⟩;have hsub:∀ b,b<c.w.heap.size->c'.M b->c.M b:=fun b hb hm=>by
  by_cases hx:c.M b
  ·exact hx
  ·exact absurd hm (h4.keep b hb hx).1
 have hlow:=q2.low;have q2':HS (Fl.all c.w hs0.glob) c.M c3 R:=by
  subst e3;refine⟨⟨?_,?_,?_,?_,?_⟩,q2.base,q2.dom,fun b hb=>?_,fun b hb=>?_,fun i y hi=>?_,fun i y g hi hl ho=>?_,q2.dis⟩
  ·have:=hlow.os;rw [show (Fl.all c'.closed.w hglob).w=c.w from ew] at this;exact this
  ·have:=hlow.tape;rw [show (Fl.all c'.closed.w hglob).w=c.w from ew] at this;exact this
  ·have:=hlow.output;rw [show (Fl.all c'.closed.w hglob).w=c.w from ew] at this;exact this
  ·have:=hlow.size;rw [show (Fl.all c'.closed.w hglob).w=c.w from ew] at this;exact this
  ·intro b hb;have:=hlow.block b (by show b<c'.closed.w.heap.size;rw [ew];exact hb);rw [show (Fl.all c'.closed.w hglob).w=c.w from ew] at this;exact this
  ·have hb':b<c.w.heap.size:=hb;have:=q2.foreign b (by show b<c'.closed.w.heap.size;rw [ew];exact hb');exact⟨fun hx=>hx.elim (fun hx=>hsub b hb' (this.1 hx)) (fun hx=>hx),fun hx=> .inr hx⟩
  ·have hsz:c.w.heap.size<=c2.w.heap.size:=by
    have:=hlow.size;rw [show (Fl.all c'.closed.w hglob).w=c.w from ew] at this;exact this
   rcases hb with hb | hb
   ·exact q2.lt b hb
   ·exact At (hs0.lt b hb) hsz
  ·obtain⟨t,sz,es,rfl,hfl⟩:=flatR_mem f2 (DW hi);obtain⟨a1,a2,a3,xs,a4,a5,a6⟩:=q2.blk i _ hi;exact⟨a1,a2,a3,xs,a4,Qp hfl a5,a6⟩
  ·have:=q2.own i y g hi hl ho;refine⟨.inl this.1,fun hx=>this.2 ?_⟩;show g<c'.closed.w.heap.size;rw [ew];exact hx
 have q3':Rd r c3 v:=Xe (by rw [e3]) (by rw [e3]) (by rw [e3]) f1 q3;have q5:c3.w=c2.w:=by rw [e3]
 obtain⟨p1,p2⟩:=hs0.beside (c':=c3) q2' q4;have h1:=BT (appK_iff hkk);rw [A3,<-hs0.dom] at h1;exact⟨v,c.beside c3,_,_,rfl,by show c3.w=_;exact q5,h1,p1,p2,Rd.shift r q3',fun _=>by have:=q2'.low.below.old;rw [q5] at this;exact this⟩
theorem P8 (l:List Tx) (hl:l.length<=1000000):Fn Tryz.prog 83 [DH l] fun r=>r = iv (C6 l):=by
 refine zR Tryz.func83 rfl ?_;conv=>whnf
 refine zU Nat (fun k=>([(0,DH l),(3,iv (Gy l k)),(4,iv k)], [])) (fun k=>k<=l.length) (fun k=>l.length - k) 0 (Aj _)
  (zS (s:= []) tA) ?_
 intro k hk;conv=>whnf
 refine A7 (fun h6=>?_) (fun h6=>?_) <;> (repeat rw [Ab] at h6) <;> conv=>whnf
 ·have hk':k<l.length:=by omega
  have hb:=ET l k;have hi:=Wd (l.getD (k:Int).toNat ⟨0,0,0, []⟩).n 0 30;have hs:Gy l (k+1)=Gy l k+GF (l.getD (k:Int).toNat ⟨0,0,0, []⟩).n:=rfl;have hn:=LC (l.getD (k:Int).toNat ⟨0,0,0, []⟩).n;repeat' (refine z_ ?_;conv=>whnf)
  refine⟨⟨by omega,by omega⟩,?_⟩;conv=>whnf
  cases hc:CQ (l.getD (k:Int).toNat ⟨0,0,0, []⟩).n 0 30 with
  | false=>
   rw [hc] at hi;have h0:GF (l.getD (k:Int).toNat ⟨0,0,0, []⟩).n=0:=by
    unfold GF;rw [if_neg];intro h;rw [AF.2 h] at hc;cases hc
   refine zZ hi ?_;exact⟨k+1,hk',by omega,zS (s:= []) ⟨⟨rfl,congrArg (fun n:Int=>AV.v (.int .i64 n)) (by rw [hs,h0,Int.add_zero]),AI (by omega),tv⟩,tv,rfl,rfl,rfl,rfl,rfl⟩⟩
  | true=>
   rw [hc] at hi;have h0:GF (l.getD (k:Int).toNat ⟨0,0,0, []⟩).n=(l.getD (k:Int).toNat ⟨0,0,0, []⟩).n:=by
    unfold GF;rw [if_pos (AF.1 hc)]
   refine zZ hi ?_;refine⟨⟨by omega,by omega⟩,?_⟩;conv=>whnf
   exact⟨k+1,hk',by omega,zS (s:= []) ⟨⟨rfl,congrArg (fun n:Int=>AV.v (.int .i64 n)) (by rw [hs,h0,wi (by rw [<-h0];omega)]),AI (by omega),tv⟩,tv,rfl,rfl,rfl,rfl,rfl⟩⟩
 ·have ek:k=l.length:=by omega
  subst ek;exact⟨_,ri,rfl⟩
theorem VX (g:Geo) (a:An) (l:List Tx) (hg:Bm g=true) (ha:Bn g a=true) (hl:l.length<=1000000):Fn Tryz.prog 84 [.ag (AU g), .ag (Ft a),DH l] fun r=>r = .tp [iv ((a.pos+C6 l).tmod g.sl),iv (a.seq+l.length)]:=by
 obtain⟨g1,g2,g3,g4,g5⟩:=Ar.1 hg;have hu:=P8 l hl;have hb:=ET l l.length;have hp:(1<=a.seq/\a.seq<=4294967295)/\(0<=a.pos/\a.pos<g.sl):=by
  simp only [Bn,A_,BC,B5,Ad,decide_eq_true_eq,AF] at ha;omega
 refine zR Tryz.func84 rfl ?_;conv=>whnf
 apply zO tys_ok mixed (.o [0,1,2,5,6,8,9,10,11,12,3,4,7,13,14] .fin) [6,7,8,9,10,11,12,13,14,15,16,17,18,19,20] (by kernel_rfl)
 ·conv=>whnf
  refine zZ hu ?_;conv=>whnf
  try (refine Ae (by first | omega | exact ixA | exact ixB | (simp;done)) ?_;conv=>whnf)
  exact tA
 conv=>whnf
 exact⟨_,ri,by rw [wi (n:=a.pos+C6 l) (by unfold C6;omega),wi (by omega)]⟩
def aZ (o:Option (Img × Int)) (r:AV) (R:List AB):Prop:=match o with
 | some p=>r = .tp [.ow 0 p.1.bytes.length,iv p.2, .v (.bool true)]/\R=[.row 5 1 (p.1.bytes.map E6)]
 | none=>r = .tp [.v (.slice none 0 0),iv 0, .v (.bool false)]/\R=[]
theorem Kl (l:List Tx) (z w:Int) (hl:l.length<=1000000) (hi:∀ t∈l,t.images.length<=1000000/\∀ x∈t.images,x.bytes.length<=1000000000):FnO Tryz.prog 74 [DH l,iv z,iv w] (aZ (Cr l z w)):=by
 refine FnO.of tys_ok Tryz.func74 rfl rfl (Ag rfl) ?_;conv=>whnf
 rw [wi (n:=(l.length:Int) - 1) (by omega)];refine zU Nat (fun k=>([(0,DH l),(1,iv z),(2,iv w),(9,iv ((k:Int) - 1))], [])) (fun k=>k<=l.length/\Cr l z w=EO l z w k) (fun k=>k) l.length ⟨Ah _,rfl⟩
  (zS (s:= []) tA) ?_
 rintro k ⟨hk,hI⟩;conv=>whnf
 refine A7 (fun h6=>?_) (fun h6=>?_) <;> (repeat rw [Ab] at h6) <;> conv=>whnf
 ·obtain⟨j,rfl⟩:∃ j,k=j+1:=⟨k - 1,by omega⟩;have e1:((j+1:Nat):Int) - 1=(j:Nat):=by omega
  have hm:=hi _ (A5 (d:=(⟨0,0,0, []⟩:Tx)) (show j<l.length by omega));rw [e1];refine⟨⟨by omega,by omega⟩,?_⟩;conv=>whnf
  rw [Ab,wi (n:=((l.getD j ⟨0,0,0, []⟩).images.length:Int) - 1) (by omega)];have hF:EO l z w (j+1)=match Cv (l.getD j ⟨0,0,0, []⟩).images z w (l.getD j ⟨0,0,0, []⟩).images.length with | some x=>some (x,(l.getD j ⟨0,0,0, []⟩).seq) | none=>EO l z w j:=rfl
  generalize hT:l.getD j ⟨0,0,0, []⟩=T at hm hF;refine zU Nat (fun m=>([(0,DH l),(1,iv z),(2,iv w),(9,iv (j:Nat)),(10,iv ((m:Int) - 1))], [])) (fun m=>m<=T.images.length/\EO l z w (j+1)=match Cv T.images z w m with | some x=>some (x,T.seq) | none=>EO l z w j) (fun m=>m) T.images.length ⟨Ah _,hF⟩
   (zS (s:= []) tA) ?_
  rintro m ⟨hmn,hJ⟩;conv=>whnf
  refine A7 (fun h7=>?_) (fun h7=>?_) <;> (repeat rw [Ab] at h7) <;> conv=>whnf
  ·obtain⟨i,rfl⟩:∃ i,m=i+1:=⟨m - 1,by omega⟩;have e2:((i+1:Nat):Int) - 1=(i:Nat):=by omega
   rw [e2];refine⟨⟨by omega,by omega⟩,?_⟩;conv=>whnf
   rw [Ab,hT];refine⟨⟨by omega,by omega⟩,?_⟩;conv=>whnf
   rw [Ab];have hK:Cv T.images z w (i+1)=if (T.images.getD i ⟨0,0, []⟩).zone=z/\(T.images.getD i ⟨0,0, []⟩).what=w then some (T.images.getD i ⟨0,0, []⟩) else Cv T.images z w i:=rfl
   have hbl:=hm.2 _ (A5 (d:=(⟨0,0, []⟩:Img)) (show i<T.images.length by omega));generalize T.images.getD i ⟨0,0, []⟩=y at hK hbl;have hgo:¬(y.zone=z/\y.what=w)->EO l z w (j+1)=match Cv T.images z w i with | some x=>some (x,T.seq) | none=>EO l z w j:=fun h=>by rw [hJ,hK,if_neg h]
   by_cases hz:y.zone=z
   ·rw [show (y.zone == z)=true by simpa using hz];conv=>whnf
    by_cases hw:y.what=w
    ·rw [show (y.what == w)=true by simpa using hw];conv=>whnf
     have htw:=Nm y.bytes (by omega);apply z8 (0) tys_ok mixed (.o [0,1,3,4,5,6,7,2,8,9,10] .fin) [6,7,8,48,49,50,51,52,53,54,55] (by kernel_rfl)
     ·conv=>whnf
      try (refine tI ?_;conv=>whnf)
      (refine zV htw rfl ?_;rintro _ _ ⟨rfl,rfl⟩)
      exact tA
     conv=>whnf
     rw [hI,hJ,hK,if_pos ⟨hz,hw⟩,Ab,hT];exact tA
    ·rw [show (y.what == w)=false by simpa using hw];exact⟨i,⟨by omega,hgo fun h=>hw h.2⟩,by omega,zS (s:= []) ⟨⟨rfl,rfl,rfl,rfl,congrArg (fun n:Int=>AV.v (.int .i64 n)) (wi (by omega)),tv⟩,tv,rfl,rfl,rfl,rfl,rfl⟩⟩
   ·rw [show (y.zone == z)=false by simpa using hz];exact⟨i,⟨by omega,hgo fun h=>hz h.1⟩,by omega,zS (s:= []) ⟨⟨rfl,rfl,rfl,rfl,congrArg (fun n:Int=>AV.v (.int .i64 n)) (wi (by omega)),tv⟩,tv,rfl,rfl,rfl,rfl,rfl⟩⟩
  ·have em:m=0:=by omega
   subst em;exact⟨j,⟨by omega,by rw [hI,hJ];try rfl⟩,by omega,zS (s:= []) ⟨⟨rfl,rfl,rfl,congrArg (fun n:Int=>AV.v (.int .i64 n)) (wi (by omega)),tv⟩,tv,rfl,rfl,rfl,rfl,rfl⟩⟩
 ·have ek:k=0:=by omega
  subst ek;rw [hI];exact tA
theorem FnO.subA {P:Program} {f:FuncId} {args args':List AV} {K:AV->List AB->Prop} (h:FnO P f args' K) (hs:SubL args args'):FnO P f args K:=
 ⟨h.go,fun c0 us hg h1 h2 h3=>h.calls c0 us hg h1 h2 (hs.rdl h3)⟩
theorem VQ (g:Geo) (a:An) (l:List Tx) (z:Int) (ha:(a.homes.length:Int)=g.z) (hz:0<=z/\z<g.z) (hl:l.length<=1000000) (hi:∀ t∈l,t.images.length<=1000000/\∀ x∈t.images,x.bytes.length<=1000000000):Fn Tryz.prog 76 [.ag (Ft a),DH l,iv z] fun r=>r = iv (Cm a l z):=by
 have hf:=Kl l z 255 hl hi;unfold Cm;cases hL:Cr l z 255 with
 | some p=>
  obtain⟨x,q⟩:=p;rw [hL] at hf;refine zR Tryz.func76 rfl ?_;conv=>whnf
  refine FnO.call hf rfl ?_;rintro _ _ ⟨rfl,rfl⟩;exact⟨_,ri,rfl⟩
 | none=>
  rw [hL] at hf;refine zR Tryz.func76 rfl ?_;conv=>whnf
  refine FnO.call hf rfl ?_;rintro _ _ ⟨rfl,rfl⟩;refine⟨⟨by omega,by omega⟩,?_⟩;exact⟨_,ri,rfl⟩
theorem O2 (n:Int):Fn Tryz.prog 91 [iA [],iv n] fun r=>r=iA []:=by
 refine zR Tryz.func91 rfl ?_;conv=>whnf
 refine zU Nat (fun k=>([(0,iA []),(5, .v (.slice none 0 0)),(6,iv k)], [])) (fun k=>k=0) (fun k=>k) 0 rfl
  (zS (s:= []) tA) ?_
 rintro k rfl;exact⟨iA [],Bo 1 _,rfl⟩
theorem VZ (g:Geo) (lba:Int) (hg:Bm g=true) (h:0<=lba/\lba<g.z*g.d):Fn Tryz.prog 82 [.ag (AU g),iA [lba]] fun r=>r = iv 4:=by
 obtain⟨g1,g2,g3,g4,g5⟩:=Ar.1 hg;have hq:lba.tdiv g.d=lba / g.d:=AX h.1;have hq0:0<=lba / g.d:=CT h.1 (by omega);have hq1:lba / g.d<g.z:=CB (by omega) h.2;refine zR Tryz.func82 rfl ?_;refine⟨⟨rfl,by omega,by omega⟩,?_⟩;conv=>whnf
 refine zU Nat (fun k=>([(1,iA [lba]),(2, .bp 0 0),(5, .ow 1 g.z.toNat),(6,iv (3*(k:Int))),(7,iv k)], [.box 23 (AU g), .row 4 1 (if k=0 then List.replicate g.z.toNat [AV.v (.bool false)] else (List.replicate g.z.toNat [AV.v (.bool false)]).set (lba / g.d).toNat [AV.v (.bool true)])])) (fun k=>k<=1) (fun k=>1 - k) 0 (by decide)
  (zS (s:= [0,1]) tA) ?_
 intro k hk;conv=>whnf
 refine A7 (fun h6=>?_) (fun h6=>?_)
 ·have ek:k=0:=by simp only [Am,Bf] at h6;omega
  subst ek;rw [if_pos rfl];conv=>whnf
  repeat' (refine z_ ?_;conv=>whnf)
  refine zC tys_ok mixed [0,1,2,3,4,5,6,7] (by kernel_rfl) ?_;conv=>whnf
  refine Ae ⟨by decide,by show ((0:Nat):Int)<((1:Nat):Int);decide⟩ ?_;refine⟨by omega,?_⟩;conv=>whnf
  rw [show IntKind.i64.wrap (([lba].getD (Int.toNat ((0:Nat):Int)) 0).tdiv g.d)=lba / g.d by rw [show [lba].getD (Int.toNat ((0:Nat):Int)) 0=lba from rfl,hq,wi (by omega)]];refine⟨⟨hq0,by omega⟩,?_⟩;refine⟨⟨rfl,by simp,by omega⟩,?_⟩;rw [show (List.replicate g.z.toNat [AV.v (.bool false)]).getD (lba / g.d).toNat []=[AV.v (.bool false)] by rw [Aa,CO,if_pos (by omega)];try rfl];refine⟨⟨hq0,by omega⟩,?_⟩;refine⟨⟨rfl,by simp,by omega⟩,?_⟩;rw [show (List.replicate g.z.toNat [AV.v (.bool false)]).getD (lba / g.d).toNat []=[AV.v (.bool false)] by rw [Aa,CO,if_pos (by omega)];try rfl];exact⟨1,by omega,by omega,zS (s:= [0,1]) tA⟩
 ·have ek:k=1:=by simp only [Am,Bf] at h6;omega
  subst ek;conv=>whnf
  repeat' (refine z_ ?_;conv=>whnf)
  exact⟨_,ri,rfl⟩
theorem N1 (l:List Tx) (hl:l.length<=1000000):Fn Tryz.prog 176 [DH l] fun r=>r = iv (C6 l):=by
 refine zR Tryz.func176 rfl ?_;conv=>whnf
 refine zU Nat (fun k=>([(0,DH l),(3,iv (Gy l k)),(6,DH l),(7,iv (l.length:Nat)),(8,iv k)], [])) (fun k=>k<=l.length) (fun k=>l.length - k) 0 (Aj _)
  (zS (s:= []) tA) ?_
 intro k hk;conv=>whnf
 refine A7 (fun h6=>?_) (fun h6=>?_) <;> (repeat rw [Ab] at h6) <;> conv=>whnf
 ·have hk':k<l.length:=by omega
  have hb:=ET l k;have hs:Gy l (k+1)=Gy l k+GF (l.getD (k:Int).toNat ⟨0,0,0, []⟩).n:=rfl;have hn:=LC (l.getD (k:Int).toNat ⟨0,0,0, []⟩).n;repeat' (refine z_ ?_;conv=>whnf)
  refine⟨⟨by omega,by omega⟩,?_⟩;conv=>whnf
  by_cases h0:(l.getD (k:Int).toNat ⟨0,0,0, []⟩).n>=0
  ·rw [show decide ((l.getD (k:Int).toNat ⟨0,0,0, []⟩).n>=0)=true from decide_eq_true h0];conv=>whnf
   by_cases h1:(l.getD (k:Int).toNat ⟨0,0,0, []⟩).n<=30
   ·rw [show decide ((l.getD (k:Int).toNat ⟨0,0,0, []⟩).n<=30)=true from decide_eq_true h1];have hu:GF (l.getD (k:Int).toNat ⟨0,0,0, []⟩).n=(l.getD (k:Int).toNat ⟨0,0,0, []⟩).n:=if_pos ⟨h0,h1⟩;conv=>whnf
    exact⟨k+1,hk',by omega,zS (s:= []) ⟨⟨rfl,congrArg (fun n:Int=>AV.v (.int .i64 n)) (by rw [hs,hu,wi (by rw [<-hu];omega)]),rfl,rfl,AI (by omega),tv⟩,tv,rfl,rfl,rfl,rfl,rfl⟩⟩
   ·rw [show decide ((l.getD (k:Int).toNat ⟨0,0,0, []⟩).n<=30)=false from decide_eq_false h1];have hu:GF (l.getD (k:Int).toNat ⟨0,0,0, []⟩).n=0:=if_neg fun h=>h1 h.2
    exact⟨k+1,hk',by omega,zS (s:= []) ⟨⟨rfl,congrArg (fun n:Int=>AV.v (.int .i64 n)) (by rw [hs,hu,Int.add_zero]),rfl,rfl,AI (by omega),tv⟩,tv,rfl,rfl,rfl,rfl,rfl⟩⟩
  ·rw [show decide ((l.getD (k:Int).toNat ⟨0,0,0, []⟩).n>=0)=false from decide_eq_false h0];have hu:GF (l.getD (k:Int).toNat ⟨0,0,0, []⟩).n=0:=if_neg fun h=>h0 h.1
   exact⟨k+1,hk',by omega,zS (s:= []) ⟨⟨rfl,congrArg (fun n:Int=>AV.v (.int .i64 n)) (by rw [hs,hu,Int.add_zero]),rfl,rfl,AI (by omega),tv⟩,tv,rfl,rfl,rfl,rfl,rfl⟩⟩
 ·have ek:k=l.length:=by omega
  subst ek;exact⟨_,ri,rfl⟩
theorem TJ (g:Geo) (a:An) (l:List Tx) (hg:Bm g=true) (ha:Bn g a=true) (hr:Cw g l a.seq a.pos g.sl=true) (hl:l.length<=1000000) (hi:∀ t∈l,t.images.length<=1000000/\∀ x∈t.images,x.bytes.length<=100000) (hla:a.label.size<=1000000) (hh:a.homes.length<=1000000) (hs:a.seq+(l.length:Int)<=4294967295):Fn Tryz.prog 108 [.ag (AU g), .ag (Ft a),DH l] fun r=>r = .tp [iv ((a.pos+C6 l).tmod g.sl),iv (a.seq+l.length),iv 0]:=by
 obtain⟨g1,g2,g3,g4,g5⟩:=Ar.1 hg;have hu:=N1 l hl;have hb:=ET l l.length;have hc:=JF g a l hla hh hl hi;rw [hg,ha,hr] at hc;have hp:(1<=a.seq/\a.seq<=4294967295)/\(0<=a.pos/\a.pos<g.sl):=by
  simp only [Bn,A_,BC,B5,Ad,decide_eq_true_eq,AF] at ha;omega
 have hw:IntKind.i64.wrap (a.seq+(l.length:Int))=a.seq+l.length:=wi (by omega);have ixA:g.sl≠0:=by omega
 refine zR Tryz.func108 rfl ?_;conv=>whnf
 refine zZ hc ?_;conv=>whnf
 apply zO tys_ok mixed (.o [0,1,2,5,6,8,9,10,11,12,3,4,7,13,14] .fin) [6,7,16,17,18,19,20,21,22,23,24,25,26,27,28] (by kernel_rfl)
 ·conv=>whnf
  refine zZ hu ?_;conv=>whnf
  try (refine Ae (by first | omega | exact ixA | exact ixB | (simp;done)) ?_;conv=>whnf)
  exact tA
 conv=>whnf
 rw [hw];rw [show decide (a.seq+(l.length:Int) > 4294967295)=false from decide_eq_false (by omega)];conv=>whnf
 exact⟨_,ri,by rw [wi (n:=a.pos+C6 l) (by unfold C6;omega)]⟩
def GS (g:Geo):Int:=1+g.sl+g.z*(2+g.d)
theorem LE {g:Geo} (hg:Bm g=true):18<=GS g/\GS g<=55/\(3<=g.z*(2+g.d)/\g.z*(2+g.d)<=24):=by
 obtain⟨g1,g2,g3,g4,g5⟩:=Ar.1 hg;have h1:g.z*(2+g.d)<=4*6:=Int.mul_le_mul (by omega) (by omega) (by omega) (by omega);have h2:1*3<=g.z*(2+g.d):=Int.mul_le_mul (by omega) (by omega) (by omega) (by omega);unfold GS;omega
theorem Vy (g:Geo) (hg:Bm g=true):Fn Tryz.prog 54 [.ag (AU g)] fun r=>r = iv (GS g):=by
 obtain⟨g1,g2,g3,g4,g5⟩:=Ar.1 hg;have hu:=LE hg;have w:IntKind.i64.wrap (IntKind.i64.wrap (1+g.sl)+IntKind.i64.wrap (g.z*IntKind.i64.wrap (2+g.d)))=GS g:=by
  rw [wi (n:=2+g.d) (by omega),wi (n:=g.z*(2+g.d)) (by omega),wi (n:=1+g.sl) (by omega)];exact wi (by unfold GS at hu;omega)
 refine zR Tryz.func54 rfl ?_;exact⟨_,ri,by rw [w]⟩
def Mo (n:Int) (l:List Int) (i:Nat):Bool:=decide (0<=l.getD i 0)&&(decide (l.getD i 0<n)&&(decide (i=0) || decide (l.getD (i - 1) 0<l.getD i 0)))
def Mp (n:Int) (l:List Int):Bool:=(List.range l.length).all (Mo n l)
theorem Uh {n:Int} {l:List Int} {k:Nat} (h:(List.range k).all (Mo n l)=true) (e:Mo n l k=true):(List.range (k+1)).all (Mo n l)=true:=by
 rw [Bj,Dt,h,BV,A_,e];try rfl
theorem YA {n:Int} {l:List Int} {k:Nat} (hk:k<l.length) (e:Mo n l k=false):Mp n l=false:=by
 rw [Mp,<-BP,Av];intro h;rw [h k (AR.2 hk)] at e;cases e
def EB (g:Geo) (s:Stt):Bool:=Mp (g.z*g.d) s.lost&&(decide (0<=s.found)&&(decide (0<=s.fixed)&&decide (0<=s.moved)))
def bY (s:Stt):List AV:= [iv s.found,iv s.fixed,iv s.moved,iA s.lost]
theorem Se (g:Geo) (s:Stt) (hg:Bm g=true) (hl:s.lost.length<=1000000):Fn Tryz.prog 55 [.ag (AU g), .ag (bY s)] fun r=>r = .v (.bool (EB g s)):=by
 obtain⟨g1,g2,g3,g4,g5⟩:=Ar.1 hg;have hm1:g.z*g.d<=4*4:=Int.mul_le_mul (by omega) (by omega) (by omega) (by omega);have hm0:0<=g.z*g.d:=Df (by omega) (by omega);have wm:IntKind.i64.wrap (g.z*g.d)=g.z*g.d:=wi (by omega);refine zR Tryz.func55 rfl ?_;conv=>whnf
 refine zU Nat (fun k=>([(2, .bp 0 0),(3, .bp 1 0),(8,iA s.lost),(9,iv s.lost.length),(10,iv k)], [.box 23 (AU g), .box 37 (bY s)])) (fun k=>k<=s.lost.length/\(List.range k).all (Mo (g.z*g.d) s.lost)=true) (fun k=>s.lost.length - k) 0 ⟨Aj _,rfl⟩
  (zS (s:= [0,1]) tA) ?_
 rintro k ⟨hk,hI⟩;conv=>whnf
 refine A7 (fun h6=>?_) (fun h6=>?_) <;> (repeat rw [Ab] at h6) <;> conv=>whnf
 ·have hk':k<s.lost.length:=by omega
  have hno:=YA (n:=g.z*g.d) hk';have hyes:=Uh hI (n:=g.z*g.d) (l:=s.lost);unfold Mo at hno hyes;repeat' (refine z_ ?_;conv=>whnf)
  refine⟨⟨by omega,by omega⟩,?_⟩;conv=>whnf
  repeat' (refine z_ ?_;conv=>whnf)
  rw [Ab];refine A7 (fun q1=>?_) (fun q1=>?_)
  ·conv=>whnf
   exact⟨_,ri,by rw [EB,hno (by rw [<-BP];simp only [Ad,CU,decide_eq_true_eq];omega),DE]⟩
  ·conv=>whnf
   rw [wm];refine A7 (fun q2=>?_) (fun q2=>?_)
   ·conv=>whnf
    exact⟨_,ri,by rw [EB,hno (by rw [<-BP];simp only [Ad,CU,decide_eq_true_eq];omega),DE]⟩
   ·conv=>whnf
    have wk:IntKind.i64.wrap ((k:Int) - 1)=(k:Int) - 1:=wi (by omega);refine A7 (fun q3=>?_) (fun q3=>?_)
    ·conv=>whnf
     rw [wk];refine⟨⟨by omega,by omega⟩,?_⟩;conv=>whnf
     rw [show ((k:Int) - 1).toNat=k - 1 by omega];refine A7 (fun q4=>?_) (fun q4=>?_)
     ·conv=>whnf
      exact⟨_,ri,by rw [EB,hno (by rw [<-BP];simp only [Ad,CU,decide_eq_true_eq];omega),DE]⟩
     ·conv=>whnf
      exact⟨k+1,⟨hk',hyes (by simp only [Ad,CU,decide_eq_true_eq];omega)⟩,by omega,zS (s:= [0,1]) ⟨⟨rfl,rfl,rfl,rfl,AI (by omega),tv⟩,tA,rfl,rfl,rfl,rfl,rfl⟩⟩
    ·conv=>whnf
     exact⟨k+1,⟨hk',hyes (by simp only [Ad,CU,decide_eq_true_eq];omega)⟩,by omega,zS (s:= [0,1]) ⟨⟨rfl,rfl,rfl,rfl,AI (by omega),tv⟩,tA,rfl,rfl,rfl,rfl,rfl⟩⟩
 ·have ek:k=s.lost.length:=by omega
  have hlo:Mp (g.z*g.d) s.lost=true:=by rw [Mp,<-ek];exact hI
  refine⟨_,fun _ _ h=>h,?_⟩;rw [EB,hlo,BV];refine congrArg (fun b=>AV.v (.bool b)) ?_;rw [Bool.eq_iff_iff];simp only [Ad,decide_eq_true_eq];repeat' split
  all_goals omega
def Ox (g:Geo) (d:Dk) (s:Stt):Bool:=Bm g&&((MZ d&&decide ((d.cells.length:Int)=Aq g))&&(((Bm g&&Bn g s.a)&&Cw g s.txns s.a.seq s.a.pos g.sl)&&(decide (0<=s.cursor)&&(decide (s.cursor<GS g)&&EB g s))))
structure StBig (s:Stt):Prop where
 l:s.a.label.size<=1000000
 h:s.a.homes.length<=1000000
 t:s.txns.length<=1000000/\∀ t∈s.txns,t.images.length<=1000000/\∀ x∈t.images,x.bytes.length<=100000
 o:s.lost.length<=1000000
theorem Ve (g:Geo) (d:Dk) (s:Stt) (h1:d.cells.length<=1000000) (h2:d.cache.length<=1000000) (hs:StBig s):Fn Tryz.prog 18 [.ag (AU g), .ag (EP d), .ag (Fe s)] fun r=>r = .v (Ge (Ox g d s)):=by
 have hG:Fn Tryz.prog 51 [.ag (AU g)] fun r=>r = .v (Ge (Bm g)):=Ei g.z g.d g.sp g.sl g.an
 unfold Ox;cases hg:Bm g with
 | false=>
  rw [hg] at hG;refine zR Tryz.func18 rfl ?_;conv=>whnf
  refine zZ hG ?_;exact⟨_,ri,rfl⟩
 | true=>
  rw [hg] at hG;have hz:=VE g d hg h1 h2;have hr:=JF g s.a s.txns hs.l hs.h hs.t.1 hs.t.2;rw [hg] at hr;have hu:=Vy g hg;have hh:=Se g s hg hs.o;generalize (MZ d&&decide ((d.cells.length:Int)=Aq g))=Z at hz |-
  generalize ((true&&Bn g s.a)&&Cw g s.txns s.a.seq s.a.pos g.sl)=R at hr |-
  generalize EB g s=Q at hh |-
  generalize GS g=U at hu |-
  cases Z with
  | false=>
   refine zR Tryz.func18 rfl ?_;conv=>whnf
   refine zZ hG ?_;conv=>whnf
   refine zZ hz ?_;exact⟨_,ri,rfl⟩
  | true=>
   cases R with
   | false=>
    refine zR Tryz.func18 rfl ?_;conv=>whnf
    refine zZ hG ?_;conv=>whnf
    refine zZ hz ?_;conv=>whnf
    refine zZ hr ?_;exact⟨_,ri,rfl⟩
   | true=>
    refine zR Tryz.func18 rfl ?_;conv=>whnf
    refine zZ hG ?_;conv=>whnf
    refine zZ hz ?_;conv=>whnf
    refine zZ hr ?_;conv=>whnf
    refine zH tys_ok mixed (by kernel_rfl) ?_;conv=>whnf
    refine A7 (fun q1=>?_) (fun q1=>?_)
    ·conv=>whnf
     exact⟨_,ri,by rw [decide_eq_false (by omega)];try rfl⟩
    ·conv=>whnf
     refine zZ hu ?_;conv=>whnf
     refine A7 (fun q2=>?_) (fun q2=>?_)
     ·conv=>whnf
      exact⟨_,ri,by rw [decide_eq_true (p:=0<=s.cursor) (by omega),decide_eq_false (p:=s.cursor<U) (by omega)];try rfl⟩
     ·conv=>whnf
      refine zZ hh ?_;conv=>whnf
      rw [decide_eq_true (p:=0<=s.cursor) (by omega),decide_eq_true (p:=s.cursor<U) (by omega)];cases Q with
      | false=>exact⟨_,ri,rfl⟩
      | true=>exact⟨_,ri,rfl⟩



def sumT:List Tx->Int
 | []=>0
 | t::r=>t.n+sumT r
theorem sumT_app:∀ l m:List Tx,sumT (l ++ m)=sumT l+sumT m
 | [],m=>by simp [sumT]
 | t::r,m=>by
  show t.n+sumT (r ++ m)=_;rw [sumT_app r m,sumT];omega
theorem Nk {l:List Tx} (h:∀ t∈l,0<=t.n/\t.n<=30):∀ k:Nat,k<=l.length->Gy l k=sumT (l.take k)
 | 0,_=>by simp [Gy,sumT]
 | k+1,hk=>by
  have e:l.take (k+1)=l.take k ++ [l.getD k tz]:=by
   rw [AZ,Af (by omega),Aa,Af (by omega)];try rfl
  have hm:=h _ (A5 (d:=tz) (show k<l.length by omega));rw [Gy,Nk h k (by omega),e,sumT_app,GF,if_pos hm];simp [sumT]
theorem Tl {l:List Tx} (h:∀ t∈l,0<=t.n/\t.n<=30):C6 l=sumT l:=by
 have:=Nk h l.length (Ah _);rwa [Aw] at this
theorem Tt {p n s q:Int} (hs:0<s) (hp:0<=p) (hn:0<=n) (hq:0<=q):((p+n).tmod s+q).tmod s=(p+(n+q)).tmod s:=by
 have h1:0<=(p+n).tmod s:=Bx _ (by omega);rw [Bq (a:=p+n) (by omega)] at h1 |-
 rw [Bq (by omega),Bq (by omega),Int.emod_add_emod,Int.add_assoc]
theorem Yc {l:List Tx} (h:∀ t∈l,0<=t.n/\t.n<=30):0<=sumT l:=by
 induction l with
 | nil=>simp [sumT]
 | cons t r ih=>
  have:=h t (by simp);have:=ih fun x hx=>h x (AM _ hx)
  rw [sumT];omega
theorem Hb {g:Geo} (hg:Bm g=true):∀ {l:List Tx} {seq pos left:Int},left<=g.sl->Cw g l seq pos left=true->(∀ t∈l,0<=t.n/\t.n<=30)/\sumT l<=max left 0
 | [],_,_,left,_,_=>⟨by simp,by simp [sumT];omega⟩
 | t::r,seq,pos,left,hl,h=>by
  obtain⟨g1,g2,g3,g4,g5⟩:=Ar.1 hg;simp only [Cw,Ad,decide_eq_true_eq] at h;obtain⟨⟨h1,h2,h3,h4,h5,h6,h7⟩,h8⟩:=h;have ih:=Hb hg (by omega) h8;refine⟨fun x hx=>?_,?_⟩
  ·rcases AK.1 hx with rfl | hx
   ·omega
   ·exact ih.1 x hx
  ·rw [sumT];have:=ih.2;omega
theorem KM {g:Geo} (hg:Bm g=true) {x:Tx}:∀ {l:List Tx} {seq pos left:Int},0<=pos->pos<g.sl->left<=g.sl->Cw g l seq pos left=true->x.seq=seq+l.length->x.seq<=4294967295->x.pos=(pos+sumT l).tmod g.sl->2<=x.n->x.n<=left - sumT l->x.n=x.images.length+1->x.images.all (B3 g)=true->Cw g (l ++ [x]) seq pos left=true
 | [],seq,pos,left,h0,h1,_,_,e1,e2,e3,e4,e5,e6,e7=>by
  have e3':x.pos=pos:=by
   rw [e3,show sumT []=0 from rfl,Int.add_zero,Bq h0,Int.emod_eq_of_lt h0 h1]
  simp only [Bf] at e1;have e1':x.seq=seq:=by omega
  have e5':x.n<=left:=by have:sumT []=0:=rfl;omega
  show (decide (x.seq=seq)&&(decide (x.seq<=4294967295)&&(decide (x.pos=pos)&&(decide (2<=x.n)&&(decide (x.n<=left)&&(decide (x.n=x.images.length+1)&&x.images.all (B3 g)))))))&&true=true;rw [decide_eq_true e1',decide_eq_true e2,decide_eq_true e3',decide_eq_true e4,decide_eq_true e5',decide_eq_true e6,e7];try rfl
 | t::r,seq,pos,left,h0,h1,hl,h,e1,e2,e3,e4,e5,e6,e7=>by
  obtain⟨g1,g2,g3,g4,g5⟩:=Ar.1 hg;have hh:=h;simp only [Cw,Ad,decide_eq_true_eq] at hh;obtain⟨⟨q1,q2,q3,q4,q5,q6,q7⟩,q8⟩:=hh;have hin:=(Hb hg (by omega) q8).1;have hnn:=Yc hin;have hp0:0<=(pos+t.n).tmod g.sl:=Bx _ (by omega);have hp1:(pos+t.n).tmod g.sl<g.sl:=Bb _ (by omega);rw [sumT] at e3 e5;have ih:=KM hg (x:=x) hp0 hp1 (by omega) q8 (by rw [e1];simp only [Am];omega) e2 (by rw [e3,Tt (by omega) h0 (by omega) hnn]) e4 (by omega) e6 e7;show (_&&Cw g (r ++ [x]) (seq+1) ((pos+t.n).tmod g.sl) (left - t.n))=true;rw [ih,B5];simp only [Cw,Ad] at h;simpa using h.1
def Ex (ats:List Int) (bs:List (List UInt8)) (i:Nat):Nat->Option (List UInt8)
 | 0=>none
 | k+1=>if ats.getD k 0=(i:Int) then some (bs.getD k []) else Ex ats bs i k
def F_ (g:Geo) (t:List Ent) (had:List (List UInt8)) (ats:List Int) (bs:List (List UInt8)) (i:Nat):List UInt8:=match Ex ats bs i ats.length with
 | some b=>b
 | none=>BK g t had i
def IN (g:Geo) (t:List Ent) (had:List (List UInt8)) (ats:List Int) (bs:List (List UInt8)) (stamp:Int) (i:Nat):Ent:=
 let e:Ent:=match Ex ats bs i ats.length with
  | some b=>⟨stamp,(Cz b:Nat),false⟩
  | none=>t.getD i ez
 if (F_ g t had ats bs i).length=0 then { e with lost:=true } else e
def DM (g:Geo) (t:List Ent) (had:List (List UInt8)) (ats:List Int) (bs:List (List UInt8)):Nat->List UInt8
 | 0=>zero8
 | k+1=>if (F_ g t had ats bs k).length=0 then DM g t had ats bs k else Do (DM g t had ats bs k) (F_ g t had ats bs k)
def By (g:Geo) (t:List Ent) (had:List (List UInt8)) (ats:List Int) (bs:List (List UInt8)) (stamp:Int):List Ent:=(List.range g.d.toNat).map (IN g t had ats bs stamp) ++ [⟨stamp,(Cz (DM g t had ats bs g.d.toNat):Nat),false⟩]
def Ch (z:Int) (t:List Ent) (par:List UInt8) (ats:List Int) (bs:List (List UInt8)):List Img:=((List.range ats.length).map fun i=>⟨z,ats.getD i 0,bs.getD i []⟩) ++ [⟨z, -1,par⟩,⟨z,255,Da t⟩]
theorem I2 (b:List UInt8):Cz b<=4294967295:=by unfold Cz;omega
theorem Gv (a b:List UInt8):(Do a b).length=min a.length b.length:=by simp [Do]
theorem Il {t:List Ent} {had:List (List UInt8)} {at_:Nat} (hh:∀ b∈had,b.length=0\/b.length=8):∀ (k:Nat) (b:List UInt8),Dl t had at_ k=some b->b.length=8
 | 0,b,h=>by
  obtain rfl:=Option.some.inj h;rfl
 | k+1,b,h=>by
  rw [Dl] at h;cases hk:Dl t had at_ k with
  | none=>rw [hk] at h;cases h
  | some c=>
   rw [hk] at h;have ih:=Il hh k c hk;simp only at h;split at h
   ·obtain rfl:=Option.some.inj h;exact ih
   ·split at h
    ·cases h
    ·rename_i h0;obtain rfl:=Option.some.inj h;have hm:(had.getD k []).length=8:=by
      by_cases hk':k<had.length
      ·rcases hh _ (A5 (d:= []) hk') with q | q
       ·exact absurd q h0
       ·exact q
      ·rw [Aa,AG (by omega)] at h0;exact absurd rfl h0
     rw [Gv,ih,hm];try rfl
theorem RE {g:Geo} {t:List Ent} {had:List (List UInt8)} (hh:∀ b∈had,b.length=0\/b.length=8) (i:Nat):(BK g t had i).length=0\/(BK g t had i).length=8:=by
 unfold BK;split
 ·exact .inl rfl
 ·split
  ·rename_i h0;by_cases hk':i<had.length
   ·exact hh _ (A5 (d:= []) hk')
   ·rw [Aa,AG (by omega)] at h0;exact absurd h0 (by simp)
  ·cases ho:Dl t had i (g.d.toNat+1) with
   | none=>exact .inl rfl
   | some b=>
    simp only;split
    ·exact .inr (Il hh _ _ ho)
    ·exact .inl rfl
section
variable {g:Geo} {t:List Ent} {had:List (List UInt8)} {ats:List Int} {bs:List (List UInt8)}
theorem Ko (hb:∀ b∈bs,b.length=8) (hl:ats.length<=bs.length) {i:Nat}:∀ (k:Nat) (b:List UInt8),k<=ats.length->Ex ats bs i k=some b->b.length=8
 | k+1,b,hk,h=>by
  rw [Ex] at h;split at h
  ·obtain rfl:=Option.some.inj h;exact hb _ (A5 (d:= []) (by omega))
  ·exact Ko hb hl k b (by omega) h
theorem Ml (hh:∀ b∈had,b.length=0\/b.length=8) (hb:∀ b∈bs,b.length=8) (hl:ats.length<=bs.length) (i:Nat):(F_ g t had ats bs i).length=0\/(F_ g t had ats bs i).length=8:=by
 unfold F_;cases hp:Ex ats bs i ats.length with
 | none=>exact RE hh i
 | some b=>exact .inr (Ko hb hl _ b (Ah _) hp)
theorem E_ (hh:∀ b∈had,b.length=0\/b.length=8) (hb:∀ b∈bs,b.length=8) (hl:ats.length<=bs.length):∀ k:Nat,(DM g t had ats bs k).length=8
 | 0=>rfl
 | k+1=>by
  have ih:=E_ hh hb hl k;rw [DM];split
  ·exact ih
  ·rename_i h0;rcases Ml (g:=g) (t:=t) hh hb hl k with q | q
   ·exact absurd q h0
   ·rw [Gv,ih,q];try rfl
theorem Fk (hg:Bm g=true) (ht:Gi g t=true) {stamp:Int} (hs:0<=stamp/\stamp<=4294967295):Gi g (By g t had ats bs stamp)=true:=by
 obtain⟨g1,g2,g3,g4,g5⟩:=Ar.1 hg;have hsum:∀ b:List UInt8,HU ((Cz b:Nat):Int)=true:=fun b=>AF.2 (by have:=I2 b;omega)
 have hst:HU stamp=true:=AF.2 hs;have hl:(By g t had ats bs stamp).length=g.d.toNat+1:=by simp [By]
 rw [Gi,hg] at ht;simp only [BV,Ad,decide_eq_true_eq,Bt] at ht;obtain⟨⟨t1,t2⟩,t3⟩:=ht;rw [Gi,hg,decide_eq_true (by rw [hl];omega)];have hall:(By g t had ats bs stamp).all Ed=true:=by
  rw [Av];intro x hx;simp only [By,A2,AQ,AR,Ay] at hx;rcases hx with ⟨i,hi,rfl⟩ | rfl
  ·have he:∀ e:Ent,Ed e=true->Ed { e with lost:=true }=true:=fun e h=>h
   have h0:Ed (match Ex ats bs i ats.length with | some b=>(⟨stamp,(Cz b:Nat),false⟩:Ent) | none=>t.getD i ez)=true:=by
    cases Ex ats bs i ats.length with
    | some b=>simp only [Ed,hst,hsum,Bool.and_self]
    | none=>exact Av.1 t2 _ (A5 (d:=ez) (by omega))
   unfold IN;simp only;split
   ·exact he _ h0
   ·exact h0
  ·simp only [Ed,hst,hsum,Bool.and_self]
 rw [hall];have hla:GW (By g t had ats bs stamp) g.d.toNat=false:=by
  unfold GW By;rw [A9 (by simp)];simp
 rw [hla];try rfl
end
theorem RP {x:Ent} (h:Ed x=true) (r:List UInt8):IZ (Jy x ++ r)=x:=by
 obtain⟨a,s,l⟩:=x;simp only [Ed,HU,Ad,AF] at h;have hn:nums [4,4,1] (rowB [a,s,Dm l] [4,4,1] ++ r)=[a,s,Dm l]:=nums_rowB [a,s,Dm l] [4,4,1] r rfl (fun k h1 _=>by
  match k,h1 with
  | 0,_=>exact⟨.inr (.inr rfl),h.1.1,by show a<4294967296;omega⟩
  | 1,_=>exact⟨.inr (.inr rfl),h.2.1,by show s<4294967296;omega⟩
  | 2,_=>exact⟨.inl rfl,by show 0<=Dm l;unfold Dm;split <;> decide,by show Dm l<256;unfold Dm;split <;> decide⟩)
 unfold IZ Jy;rw [hn];cases l <;> rfl
theorem entsOf_tblB:∀ (t:List Ent),(∀ e∈t,Ed e=true)->entsOf t.length (Da t)=t
 | [],_=>rfl
 | e::t,h=>by
  have e1:Da (e::t)=Jy e ++ Da t:=by simp [Da]
  have e2:(Jy e ++ Da t).drop 9=Da t:=by
   rw [List.drop_append_of_le_length (by rw [JV];exact Ah _),AH (by rw [JV];exact Ah _)];try rfl
  show IZ (Da (e::t))::entsOf t.length ((Da (e::t)).drop 9)=e::t;rw [e1,e2,RP (h e (by simp)),entsOf_tblB t fun x hx=>h x (AM _ hx)]
theorem Jf {g:Geo} {t:List Ent} (ht:Gi g t=true):BW g (Da t)=some t:=by
 have hh:=ht;simp only [Gi,Ad,decide_eq_true_eq,Av] at hh;obtain⟨⟨⟨_,t1⟩,t2⟩,_⟩:=hh;have e:(g.d+1).toNat=t.length:=by omega
 unfold BW;rw [e,entsOf_tblB t t2,if_pos ⟨ht,rfl⟩]
def OneTab (l:List Img):Prop:=l.Pairwise fun x y=>x.what=255->y.what=255->x.zone≠y.zone
theorem EA (z:Int) (t:List Ent) (par:List UInt8) (ats:List Int) (bs:List (List UInt8)):(Ch z t par ats bs).length=ats.length+2:=by simp [Ch]
theorem Jq {g:Geo} (hg:Bm g=true) {z:Int} (hz:0<=z/\z<g.z) {t:List Ent} (ht:Gi g t=true) {par:List UInt8} (hp:par.length=8) {ats:List Int} (ha:∀ a∈ats,0<=a/\a<g.d) {bs:List (List UInt8)} (hb:∀ b∈bs,b.length=8) (hl:ats.length<=bs.length):∀ x∈Ch z t par ats bs,B3 g x=true/\x.zone=z:=by
 obtain⟨g1,g2,g3,g4,g5⟩:=Ar.1 hg;have hz':CQ z 0 (g.z - 1)=true:=AF.2 (by omega);intro x hx;simp only [Ch,A2,AQ,AR,AK,D3,or_false] at hx;rcases hx with ⟨i,hi,rfl⟩ | rfl | rfl
 ·have h1:=ha _ (A5 (d:=0) hi);have h2:=hb _ (A5 (d:= []) (show i<bs.length by omega));refine⟨?_,rfl⟩;simp only [B3,hg,hz',BV];rw [if_neg (by omega),AF.2 (show -1<=ats.getD i 0/\ats.getD i 0<=g.d - 1 by omega),decide_eq_true h2];try rfl
 ·refine⟨?_,rfl⟩;simp only [B3,hg,hz',BV];rw [if_neg (by decide),AF.2 (show (-1:Int)<= -1/\(-1:Int)<=g.d - 1 by omega),decide_eq_true hp];try rfl
 ·refine⟨?_,rfl⟩;simp only [B3,hg,hz',BV];rw [if_pos trivial,Jf ht];try rfl
theorem Iu {g:Geo} (hg:Bm g=true) {l:List Img} {z:Int} (hl:OneTab l) (hz:∀ x∈l,x.zone<z) {t:List Ent} {par:List UInt8} {ats:List Int} (ha:∀ a∈ats,0<=a/\a<g.d) {bs:List (List UInt8)}:OneTab (l ++ Ch z t par ats bs):=by
 obtain⟨g1,g2,g3,g4,g5⟩:=Ar.1 hg;have hw:∀ x∈(List.range ats.length).map (fun i=>(⟨z,ats.getD i 0,bs.getD i []⟩:Img)),x.what≠255:=by
  intro x hx;obtain⟨i,hi,rfl⟩:=AQ.1 hx;have:=ha _ (A5 (d:=0) (AR.1 hi));show ats.getD i 0≠255;omega
 refine List.pairwise_append.2 ⟨hl,List.pairwise_append.2 ⟨List.Pairwise.imp_of_mem (R:=fun _ _=>True) (fun hx _ _ h=>absurd h (hw _ hx)) (List.pairwise_of_forall (fun _ _=>trivial)),?_,fun x hx y _ h=>absurd h (hw _ hx)⟩,fun x hx y hy _ _=>?_⟩
 ·refine CZ.2 ⟨fun y _ h=>absurd (show (-1:Int)=255 from h) (by decide),List.pairwise_singleton _ _⟩
 ·have h1:=hz x hx;have h2:y.zone=z:=by
   simp only [Ch,A2,AQ,AR,AK,D3,or_false] at hy;rcases hy with ⟨i,_,rfl⟩ | rfl | rfl <;> rfl
  omega
@[reducible] def ZG (g:Geo) (x:AV) (s:Stt) (e:Int):List AV:= [iv g.z,iv g.d,iv g.sp,iv g.sl,iv g.an,x,iv s.a.gen,iv s.a.epoch,iv s.a.pos,iv s.a.seq,iv s.a.last, .v (.string s.a.label),Jr s.a.homes,DH s.txns, .v (.bool s.only),iv s.cursor,iv s.found,iv s.fixed,iv s.moved,iA s.lost,iv e]
@[reducible] def JC (g:Geo) (s:Stt) (e:Int) (d:Dk):List AB:= [.box 83 (ZG g (.bp 1 0) s e), .box 85 (GX (.ow 2 d.cells.length) (.ow 3 d.cache.length) d.reqs d.left), .row 128 3 (d.cells.map B7), .row 134 2 (d.cache.map EE)]
@[reducible] def Nw (g:Geo) (s:Stt) (e:Int) (d:Dk):List AB:= [.box 83 (ZG g (.bp 1 0) s e), .box 85 (GX (.ow 2 d.cells.length) (.ow 4 d.cache.length) d.reqs d.left), .row 128 3 (d.cells.map B7), .dead, .row 134 2 (d.cache.map EE)]
@[reducible] def br (g:Geo) (s:Stt) (e:Int) (d:Dk) (l:List AB):List AB:= .box 83 (ZG g (.bp 1 0) s e):: .box 85 (GX (.ow 2 d.cells.length) (.ow 3 d.cache.length) d.reqs d.left):: .row 128 3 (d.cells.map B7):: .row 134 2 (d.cache.map EE)::l
theorem ZF (g:Geo) (s:Stt) (e:Int) (d:Dk):ConvH (JC g s e d) (Nw g s e d):=zt (H:=JC g s e d) 1 3 (by decide) rfl rfl
theorem YL (e:Int):∀ (c:Ctx) (v:Value),Rd (.ag [iv e, .v (.slice none 0 0)]) c v->Rd (.ag (D7 ⟨e, []⟩)) c v:=Bk ⟨ri,Bo 1 _,tv⟩
theorem ZI (g:Geo) (s:Stt) (e:Int) (d:Dk) (a:Int) (he:e≠0) :
  ACalls Tryz.prog false 79 [.bp 0 0,iv a] (JC g s e d) fun r H=>r = .ag (D7 ⟨8, []⟩)/\H=JC g s e d:=by
 have hb:(e != 0)=true:=bne_iff_ne.2 he;refine zT tys_ok Tryz.func79 rfl rfl (Ag rfl) ?_;conv=>whnf
 rw [hb];exact⟨_, .ag (D7 ⟨8, []⟩),JC g s e d,YL 8,zS (s:= [0,1,2,3]) tA,rfl,rfl⟩
theorem ZH (g:Geo) (s:Stt) (d:Dk) (a:Int) (h:DkOk d) (ha:0<=a/\a<d.cells.length) :
  ACalls Tryz.prog false 79 [.bp 0 0,iv a] (JC g s 0 d) fun r H=>r = .ag (D7 ⟨(d.read a).2.2,(d.read a).2.1⟩)/\H=JC g s (if d.left=0 then 8 else 0) (d.read a).1:=by
 have hr:=PC d a h.l ha h.m (fun c hc=>by have:=(h.c c hc).2.1;omega) (fun w hw=>by have:=(h.w w hw).2;omega);have he:(d.left=0/\(d.read a).2.2=8)\/(¬d.left=0/\(d.read a).2.2≠8):=by
  unfold Dk.read;by_cases h0:d.left=0
  ·rw [if_pos h0];exact .inl ⟨h0,rfl⟩
  ·rw [if_neg h0];exact .inr ⟨h0,show (d.got a).2≠8 by have:=SP d a;omega⟩
 generalize d.read a=q at hr he |-
 obtain⟨D,b,e⟩:=q;simp only at hr he |-
 refine zT tys_ok Tryz.func79 rfl rfl (Ag rfl) ?_;conv=>whnf
 refine ze9 [1,2,3] hr ?_;rintro _ _ ⟨rfl,rfl⟩;rcases he with ⟨h0,rfl⟩ | ⟨h0,he⟩
 ·rw [if_pos h0];conv=>whnf
  repeat' (refine z_ ?_;conv=>whnf)
  exact⟨_, .ag (D7 ⟨8,b⟩),JC g s 8 D,fun _ _ h=>h,zS (s:= [0,1,2,3]) tA,rfl,rfl⟩
 ·rw [if_neg h0];conv=>whnf
  repeat' (refine z_ ?_;conv=>whnf)
  refine Ao (fun h8=>absurd (by simpa using h8) he) (fun _=>?_);conv=>whnf
  repeat' (refine z_ ?_;conv=>whnf)
  exact⟨_, .ag (D7 ⟨e,b⟩),JC g s 0 D,fun _ _ h=>h,zS (s:= [0,1,2,3]) tA,rfl,rfl⟩
theorem VK (g:Geo) (s:Stt) (e:Int) (d:Dk) (a:Int) (b:List UInt8) (he:e≠0) :
  ACalls Tryz.prog false 88 [.bp 0 0,iv a,bA b] (JC g s e d) fun r H=>r = .v (.bool false)/\H=JC g s e d:=by
 have hb:(e != 0)=true:=bne_iff_ne.2 he;refine zT tys_ok Tryz.func88 rfl rfl (Ag rfl) ?_;conv=>whnf
 rw [hb];exact⟨_, .v (.bool false),JC g s e d,fun _ _ h=>h,zS (s:= [0,1,2,3]) tA,rfl,rfl⟩
theorem VJ (g:Geo) (s:Stt) (d:Dk) (a:Int) (b:List UInt8) (h:DkOk d) (ha:0<=a/\a<d.cells.length) (hb:b.length<=200) :
  ACalls Tryz.prog false 88 [.bp 0 0,iv a,bA b] (JC g s 0 d) fun r H=>r = .v (.bool (decide ((d.write a b).2=0)))/\H=JC g s (if (d.write a b).2=8 then 8 else 0) (d.write a b).1:=by
 have hr:=Nv d a b h.l ha h.m (by omega);have he:=Kf d a b;generalize d.write a b=q at hr he |-
 obtain⟨D,e⟩:=q;simp only at hr he |-
 refine zT tys_ok Tryz.func88 rfl rfl (Ag rfl) ?_;conv=>whnf
 refine ze9 [1,2,3] hr ?_;rintro _ _ ⟨rfl,rfl⟩;rcases he with rfl | rfl | rfl
 all_goals
  conv=>whnf
  repeat' (refine z_ ?_;conv=>whnf)
 ·exact⟨_, .v (.bool false),JC g s 8 D,fun _ _ h=>h,zS (s:= [0,1,2,3]) tA,rfl,rfl⟩
 ·exact⟨_, .v (.bool false),JC g s 0 D,fun _ _ h=>h,zS (s:= [0,1,2,3]) tA,rfl,rfl⟩
 ·exact⟨_, .v (.bool true),JC g s 0 D,fun _ _ h=>h,zS (s:= [0,1,2,3]) tA,rfl,rfl⟩
theorem Wi (g:Geo) (s:Stt) (e:Int) (d:Dk) (h:DkOk d) :
  ACalls Tryz.prog false 90 [.bp 0 0] (JC g s e d) fun r H=>r = .tp []/\H=Nw g s (if e=0 then if d.left=0 then 8 else 0 else e) (if e=0 then if d.left=0 then d else d.flush else d):=by
 have hf:=N2 d h.l h.m (fun w hw=>(h.w w hw).1) (fun w hw=>by have:=(h.w w hw).2;omega);by_cases he:e=0
 ·subst he;rw [if_pos rfl,if_pos rfl];refine zT tys_ok Tryz.func90 rfl rfl (Ag rfl) ?_;conv=>whnf
  refine ze9 [1,2,3] hf ?_;rintro _ _ ⟨rfl,rfl⟩;by_cases h0:d.left=0;all_goals
   simp only [h0,if_true,if_false];exact⟨_, .tp [],Nw g s _ _,fun _ _ h=>h,zS (s:= [0,1,2,3,4]) tA,rfl,rfl⟩
 ·rw [if_neg he,if_neg he];have hb:(e == 0)=false:=beq_eq_false_iff_ne.2 he;refine zT tys_ok Tryz.func90 rfl rfl (Ag rfl) ?_;conv=>whnf
  rw [hb];exact⟨_, .tp [],Nw g s e d,fun _ _ h=>h,zG (zJ (ZF g s e d)) (s:= [0,1,2,3,4]) tA,rfl,rfl⟩
theorem K9 {d:Dk} {l:List Wr} {k:Nat} (hk:k<l.length) (h:(d.writes (l.take k)).2.2=true):d.writes (l.take (k+1))=d.writes (l.take k):=by
 rw [GE d hk,Pq _ h]
def UD (b:Bool):Int:=if b then 8 else 0
theorem KP (g:Geo) (s:Stt) (d:Dk) (a:An) (hg:Bm g=true) (ha:Bn g a=true) (h:DkOk d) (hl:∀ w∈Ba g a,QI d.cells.length w) :
  ACalls Tryz.prog false 100 [.bp 0 0, .ag (Ft a)] (JC g s 0 d) fun r H=>r = iv ((d.writes (Ba g a)).2.1:Nat)/\H=Nw g s (UD (d.putAll (Ba g a)).2.2) (d.putAll (Ba g a)).1:=by
 obtain⟨g1,g2,g3,g4,g5⟩:=Ar.1 hg;have hlen:=ED g a;refine zT tys_ok Tryz.func100 rfl rfl (Ag rfl) ?_;conv=>whnf
 refine zU Nat (fun k=>([(0, .bp 0 0),(3, .bp 4 0),(5, .v (.int .i64 (d.writes ((Ba g a).take k)).2.1)),(6,iv k)],br g s (UD (d.writes ((Ba g a).take k)).2.2) (d.writes ((Ba g a).take k)).1 [.box 33 (Ft a)])) (fun k=>k<=(Ba g a).length/\(d.writes ((Ba g a).take k)).2.1<=k) (fun k=>(Ba g a).length - k) 0 ⟨Aj _,Ah _⟩
  (zS (s:= [0,1,2,3,4]) tA) ?_
 rintro k ⟨hk,hnk⟩;have hd:=I1 h hl k;conv=>whnf
 refine A7 (fun h6=>?_) (fun h6=>?_) <;> (repeat rw [Ab] at h6) <;> conv=>whnf
 ·have hk':k<(Ba g a).length:=by omega
  have hm:=hl _ (A5 (d:=(⟨0, []⟩:Wr)) hk');have hrc:=Ma g a k hg ha (by omega);have hlive:=fun hlv=>Lo (d:=d) hk' hlv
  have hstay:=fun hlv=>K9 (d:=d) hk' hlv
  rw [Lg (by omega)] at hlive hm;generalize hX:d.writes ((Ba g a).take k)=Q at hd hlive hstay hnk |-
  obtain⟨X,N,dead⟩:=Q;simp only at hd hlive hstay hnk;repeat' (refine z_ ?_;conv=>whnf)
  refine zZ hrc ?_;conv=>whnf
  cases dead with
  | true=>
   have hx:=hstay rfl;have hc:=VK g s 8 X k (Dq a k) (by decide);refine ze9 [0,1,2,3] hc ?_;rintro _ _ ⟨rfl,rfl⟩;conv=>whnf
   repeat' (refine z_ ?_;conv=>whnf)
   refine⟨k+1,⟨hk',by rw [hx];simp only;omega⟩,by omega,?_⟩;rw [hx];exact zS (s:= [0,1,2,3,4]) ⟨⟨rfl,rfl,rfl,AI (by omega),tv⟩,tA,rfl,rfl,rfl,rfl,rfl⟩
  | false=>
   have hx:=hlive rfl;have hc:=VJ g s X k (Dq a k) hd.1 (by rw [hd.2];exact hm.1) hm.2;have hE:=Kf X k (Dq a k);generalize hQ:X.write k (Dq a k)=Q at hc hx hE;obtain⟨D,e⟩:=Q;simp only at hx hE hc;refine ze9 [0,1,2,3] hc ?_;rintro _ _ ⟨rfl,rfl⟩;rcases hE with rfl | rfl | rfl
   ·have hx:d.writes ((Ba g a).take (k+1))=(D,N,true):=hx;conv=>whnf
    repeat' (refine z_ ?_;conv=>whnf)
    refine⟨k+1,⟨hk',by rw [hx];simp only;omega⟩,by omega,?_⟩;rw [hx];exact zS (s:= [0,1,2,3,4]) ⟨⟨rfl,rfl,rfl,AI (by omega),tv⟩,tA,rfl,rfl,rfl,rfl,rfl⟩
   ·have hx:d.writes ((Ba g a).take (k+1))=(D,N,false):=hx;conv=>whnf
    repeat' (refine z_ ?_;conv=>whnf)
    refine⟨k+1,⟨hk',by rw [hx];simp only;omega⟩,by omega,?_⟩;rw [hx];exact zS (s:= [0,1,2,3,4]) ⟨⟨rfl,rfl,rfl,AI (by omega),tv⟩,tA,rfl,rfl,rfl,rfl,rfl⟩
   ·have hx:d.writes ((Ba g a).take (k+1))=(D,N+1,false):=hx;conv=>whnf
    repeat' (refine z_ ?_;conv=>whnf)
    refine⟨k+1,⟨hk',by rw [hx];simp only;omega⟩,by omega,?_⟩;rw [hx];exact zS (s:= [0,1,2,3,4]) ⟨⟨rfl,rfl,(show _=AV.v (Value.int IntKind.i64 ((N+1:Nat):Int)) from AI (show N<1000000000000 by omega)),AI (by omega),tv⟩,tA,rfl,rfl,rfl,rfl,rfl⟩
 ·have ek:k=(Ba g a).length:=by omega
  subst ek;rw [Aw] at hd hnk;rw [Aw];have hpd:=FZ (d:=d) (l:=Ba g a);have hpl:=Fq (d:=d) (l:=Ba g a);generalize d.writes (Ba g a)=Q at hpd hpl hd |-
  obtain⟨X,N,dead⟩:=Q;simp only at hpd hpl hd;have hf:=Wi g s (UD dead) X hd.1;cases dead with
  | true=>
   rw [hpd rfl];refine ze9 [0,1,2,3] hf ?_;rintro _ _ ⟨rfl,rfl⟩;exact⟨_,iv (N:Nat),Nw g s 8 X,fun _ _ h=>h,zS (s:= [0,1,2,3,5]) tA,rfl,rfl⟩
  | false=>
   rw [hpl rfl];refine ze9 [0,1,2,3] hf ?_;rintro _ _ ⟨rfl,rfl⟩;by_cases hX0:X.left=0;all_goals
    simp only [hX0,UD,CI,if_true,if_false];exact⟨_,iv (N:Nat),Nw g s _ _,fun _ _ h=>h,zS (s:= [0,1,2,3,5]) tA,rfl,rfl⟩
theorem ACalls.lendBox {P:Program} {q:Bool} {f:FuncId} {x:AV} {H:List AB} {K:AV->List AB->Prop} (j k:Nat) {t t':TypeId} {sz':Nat} {cs cs2:List AV} {es':List (List AV)} (hj:H[j]? = some (.box t cs)) (hk:H[k]? = some (.row t' sz' es'))
  (he:cs.map (AV.slIn k es'.length (.sl sz' es'.length fun i=>es'.getD i []))=cs2) (hc:ACalls P q f [x, .ag cs2] ((H.set k .dead).set j (.box t cs2)) K):ACalls P q f [x, .ag cs] H K:=by
 refine⟨hc.go,fun w0 M0 c us hs hr=>?_⟩;subst he;have hjk:j≠k:=by rintro rfl;rw [hj] at hk;cases hk
 obtain⟨c1,e1,s1,x1,r1⟩:=hs.freeze hk;have hj1:(H.set k .dead)[j]? = some (.box t cs):=by rw [AA (Ne.symm hjk)];exact hj
 have h8:∀ (l:List AV) (us:List Value),RdL l c us->RdL (l.map (AV.slIn k es'.length (.sl sz' es'.length fun i=>es'.getD i []))) c1 us:=by
  intro l;induction l with
  | nil=>intro us h;simp only [RdL] at h;subst h;simp [RdL]
  | cons x l ih=>
   intro us h;simp only [RdL] at h;obtain⟨u,vs,rfl,a1,a2⟩:=h;simp only [A4,RdL];refine⟨u,vs,rfl,?_,ih vs a2⟩;unfold AV.slIn;split
   ·rename_i i n;split
    ·rename_i hik;subst hik;split
     ·rename_i hn;subst hn;exact r1 u a1
     ·simp [Rd]
    ·exact Rd.ext _ x1 a1
   ·exact Rd.ext _ x1 a1
 have s2:HS w0 M0 c1 ((H.set k .dead).set j (.box t (cs.map (AV.slIn k es'.length (.sl sz' es'.length fun i=>es'.getD i []))))):=by
  refine s1.recell hj1 rfl ?_;rintro⟨g,xs,h1,h2,_,h4⟩;obtain⟨g0,ys,q1,q2,q3,_⟩:=hs.blk j _ hj;have hg:=x1.box j _ (hs.klt hj) q1;rw [h1] at hg;injection hg with hg
  injection hg with hg
  injection hg with hg
  subst hg;rw [e1,q2] at h2;injection h2 with h2
  have hxy:ys.toArray=xs.toArray:=by injection h2
  have hxy:ys=xs:=by simpa using hxy
  subst hxy;exact⟨g,ys,h1,by rw [e1];exact q2,h8 _ _ q3,h4⟩
 have hr2:RdL [x, .ag (cs.map (AV.slIn k es'.length (.sl sz' es'.length fun i=>es'.getD i [])))] c1 us:=by
  simp only [RdL] at hr;obtain⟨u1,_,rfl,p1,u2,_,rfl,p2,rfl⟩:=hr;simp only [Rd] at p2;obtain⟨zs,rfl,p3⟩:=p2;simp only [RdL];exact⟨u1,_,rfl,Rd.ext _ x1 p1,_,_,rfl,by simp only [Rd];exact⟨zs,rfl,h8 _ _ p3⟩,rfl⟩
 have:=hc.calls w0 M0 c1 us s2 hr2;rw [e1] at this;refine this.mono ?_;rintro e w' ⟨v,c',r,H2,rfl,rfl,q1,q2,q3,q4,q5⟩;exact⟨v,c',r,H2,rfl,rfl,q1,q2,x1.trans q3,q4,q5⟩
theorem nums_ones:∀ (n:Nat) (r:List Int) (c:List UInt8),n<=c.length->nums (Gh n ++ r) c=((List.range n).map fun i=>((c.getD i 0).toNat:Int)) ++ nums r (c.drop n)
 | 0,r,c,_=>rfl
 | n+1,r, [],h=>by simp at h
 | n+1,r,x::c,h=>by
  have ih:=nums_ones n r c (by simpa using h);rw [show Gh (n+1) ++ r=1::(Gh n ++ r) from rfl,List.range_succ_eq_map,A4,List.map_map];show (leN ((x::c).take 1):Int)::nums (Gh n ++ r) ((x::c).drop 1)=_;rw [show (x::c).drop 1=c from rfl,ih];simp [leN]
theorem YH (n:Nat) (c:List UInt8) (h:n+5<=c.length):Ky n c=⟨(List.range n).map fun i=>((c.getD i 0).toNat:Int),((c.getD n 0).toNat:Int),(leN ((c.drop (n+1)).take 4):Nat)⟩:=by
 have e:=nums_ones (n+1) [4] c (by omega);rw [show Gh (n+1) ++ [4]=QU n from rfl] at e;unfold Ky;rw [e];have h1:List.take n ((List.range (n+1)).map (fun i=>((c.getD i 0).toNat:Int)) ++ nums [4] (c.drop (n+1)))=(List.range n).map fun i=>((c.getD i 0).toNat:Int):=by
  rw [Bj,A8,AE,List.take_left' (by simp)]
 have h2:((List.range (n+1)).map (fun i=>((c.getD i 0).toNat:Int)) ++ nums [4] (c.drop (n+1))).getD n 0=((c.getD n 0).toNat:Int):=by
  rw [Aa,AC (by simp),AS,Bl (by omega)];try rfl
 have h3:((List.range (n+1)).map (fun i=>((c.getD i 0).toNat:Int)) ++ nums [4] (c.drop (n+1))).getD (n+1) 0=(leN ((c.drop (n+1)).take 4):Nat):=by
  rw [Aa,A9 (by simp)];simp [nums]
 rw [h1,h2,h3]
theorem ZV (b:List UInt8) (h:17<=b.length):(nums szA b).getD 0 0=(leN (b.take 4):Nat)/\(nums szA b).getD 1 0=(leN ((b.drop 4).take 4):Nat)/\(nums szA b).getD 2 0=(leN ((b.drop 8).take 4):Nat)/\(nums szA b).getD 3 0=(leN ((b.drop 12).take 4):Nat)/\(nums szA b).getD 4 0=((b.getD 16 0).toNat:Int):=by
 refine⟨rfl,rfl,?_,?_,?_⟩
 ·show ((leN ((((b.drop 4).drop 4)).take 4):Nat):Int)=_;rw [Be]
 ·show ((leN (((((b.drop 4).drop 4).drop 4)).take 4):Nat):Int)=_;rw [Be,Be]
 ·show ((leN ((((((b.drop 4).drop 4).drop 4)).drop 4).take 1):Nat):Int)=_;rw [Be,Be,Be];have e:b.drop 16=b.getD 16 0::b.drop 17:=by
   rw [Aa,Af (by omega)];exact Bu (by omega)
  show ((leN ((b.drop 16).take 1):Nat):Int)=_;rw [e];exact congrArg (fun n:Nat=>(n:Int)) (show (b.getD 16 0).toNat+256*0=(b.getD 16 0).toNat by omega)
def Y_ (n:Nat) (c:List UInt8):List (List AV):=(List.range n).map fun i=> [iv ((c.getD i 0).toNat:Int)]
theorem X6 (n:Nat) (c:List UInt8):Y_ (n+1) c=Y_ n c ++ [[iv ((c.getD n 0).toNat:Int)]]:=by simp [Y_,Bj]
theorem SZ (n:Nat) (c:List UInt8):(Y_ n c).length=n:=by simp [Y_]
theorem wb (x:UInt8):IntKind.i64.wrap (x.toNat:Int)=(x.toNat:Int):=wi (by have:=x.toNat_lt;omega)
theorem TC (g:Geo) (b:List UInt8) (hg:Bm g=true) (hb:b.length<=100000):Fn Tryz.prog 271 [.ag (AU g),bA b] fun r=>r = .tp [.ag (Ft ((FC g b).getD an0)), .v (.bool (FC g b).isSome)]:=by
 obtain⟨g1,g2,g3,g4,g5⟩:=Ar.1 hg;have GQ:∀ (e:Value) (c:Ctx) (v:Value),Rd (.tp [.ag [iv 0,iv 0,iv 0,iv 0,iv 0, .v (.string ⟨#[]⟩), .v (.slice none 0 0)], .v e]) c v->Rd (.tp [.ag (Ft an0), .v e]) c v:=fun e=>Cf (m:= [.ag (Ft an0), .v e]) ⟨Bk an0_sub,ri,tv⟩
 by_cases h18:b.length<18
 ·have hN:FC g b=none:=by
   rw [FC];split
   ·rfl
   ·rw [show Jo (b.drop 17)=none by rw [Jo,if_pos (by rw [Al];omega)]]
  rw [hN];refine zR Tryz.func271 rfl ?_;conv=>whnf
  refine A7 (fun _=>?_) (fun hq=>absurd h18 (by omega));exact⟨_,GQ _,rfl⟩
 ·obtain⟨n0,n1,n2,n3,n4⟩:=ZV b (by omega);have q0:=FT b 4 (by omega) (by decide);have q1:=FT (b.drop 4) 4 (by rw [Al];omega) (by decide);have q2:=FT (b.drop 8) 4 (by rw [Al];omega) (by decide);have q3:=FT (b.drop 12) 4 (by rw [Al];omega) (by decide);rw [<-n0] at q0;rw [<-n1] at q1;rw [<-n2] at q2;rw [<-n3] at q3;have hr:=TB (b.drop 17) (by rw [Al];omega);have hdl:(b.drop 17).length=b.length - 17:=Al ..
  cases hL:Jo (b.drop 17) with
  | none=>
   have hN:FC g b=none:=by rw [FC,if_neg (by omega),hL]
   rw [hL] at hr;rw [hN];refine zR Tryz.func271 rfl ?_;conv=>whnf
   refine A7 (fun hq=>absurd hq (by omega)) (fun hq=>?_);conv=>whnf
   apply z8 (0) tys_ok mixed (.o [0,2,3,5,6,8,9,11,12,13,14] (.two 1 (.two 4 (.two 7 (.two 10 (.o [15,16,17] .fin) 16 (.o [10,15,17] .fin)) 16 (.o [7,10,15,17] .fin)) 16 (.o [4,7,10,15,17] .fin)) 16 (.o [1,4,7,10,15,17] .fin))) [6,17,18,19,20,21,22,23,24,25,26,27,28,29,30,31,32] (by kernel_rfl)
   ·conv=>whnf
    try (refine tI ?_;conv=>whnf)
    try (refine tI ?_;conv=>whnf)
    try (refine tI ?_;conv=>whnf)
    try (refine tI ?_;conv=>whnf)
    refine Ae ?_ ?_
    ·conv=>whnf
     refine zZ q0 ?_;refine Ae ?_ ?_
     ·conv=>whnf
      (refine zX [bA (b.drop 4),iv 4] ⟨AW (by omega),ri,tv⟩ ?_;refine zZ q1 ?_)
      refine Ae ?_ ?_
      ·conv=>whnf
       (refine zX [bA (b.drop 8),iv 4] ⟨AW (by omega),ri,tv⟩ ?_;refine zZ q2 ?_)
       refine Ae ?_ ?_
       ·conv=>whnf
        (refine zX [bA (b.drop 12),iv 4] ⟨AW (by omega),ri,tv⟩ ?_;refine zZ q3 ?_)
        conv=>whnf
        try (refine tS ?_;conv=>whnf)
        exact tA
       ·conv=>whnf
        (refine zX [bA (b.drop 12),iv 4] ⟨AW (by omega),ri,tv⟩ ?_;refine zZ q3 ?_)
        conv=>whnf
        try (refine tS ?_;conv=>whnf)
        exact tA
      ·conv=>whnf
       (refine zX [bA (b.drop 8),iv 4] ⟨AW (by omega),ri,tv⟩ ?_;refine zZ q2 ?_)
       conv=>whnf
       (refine zX [bA (b.drop 12),iv 4] ⟨AW (by omega),ri,tv⟩ ?_;refine zZ q3 ?_)
       conv=>whnf
       try (refine tS ?_;conv=>whnf)
       exact tA
     ·conv=>whnf
      (refine zX [bA (b.drop 4),iv 4] ⟨AW (by omega),ri,tv⟩ ?_;refine zZ q1 ?_)
      conv=>whnf
      (refine zX [bA (b.drop 8),iv 4] ⟨AW (by omega),ri,tv⟩ ?_;refine zZ q2 ?_)
      conv=>whnf
      (refine zX [bA (b.drop 12),iv 4] ⟨AW (by omega),ri,tv⟩ ?_;refine zZ q3 ?_)
      conv=>whnf
      try (refine tS ?_;conv=>whnf)
      exact tA
    ·conv=>whnf
     refine zZ q0 ?_;conv=>whnf
     (refine zX [bA (b.drop 4),iv 4] ⟨AW (by omega),ri,tv⟩ ?_;refine zZ q1 ?_)
     conv=>whnf
     (refine zX [bA (b.drop 8),iv 4] ⟨AW (by omega),ri,tv⟩ ?_;refine zZ q2 ?_)
     conv=>whnf
     (refine zX [bA (b.drop 12),iv 4] ⟨AW (by omega),ri,tv⟩ ?_;refine zZ q3 ?_)
     conv=>whnf
     try (refine tS ?_;conv=>whnf)
     exact tA
   conv=>whnf
   rw [wb,show b.getD (Int.toNat 16) 0=b.getD 16 0 from rfl,<-n4];refine⟨⟨by omega,by omega,by omega,by omega⟩,?_⟩;conv=>whnf
   refine zX [bA (b.drop 17)] ⟨AW (by omega),tv⟩ ?_;refine zZ hr ?_;conv=>whnf
   rw [show IntKind.i64.wrap (17+0)=17 from rfl];refine⟨⟨by omega,by omega,by omega,by omega⟩,?_⟩;exact⟨_,GQ _,rfl⟩
  | some q=>
   obtain⟨s,u⟩:=q;obtain⟨u1,u2,u3,u4⟩:=NH hL;rw [hL] at hr;simp only at hr;have hss:s.size=s.data.toList.length:=rfl;have hs24:=JP u4;have wu:IntKind.i64.wrap (17+(u:Int))=17+u:=wi (by omega);have hmb:g.z*(g.d+6)<=4*10:=Int.mul_le_mul (by omega) (by omega) (by omega) (by omega);have hm0:0<=g.z*(g.d+6):=Df (by omega) (by omega);have wm:IntKind.i64.wrap (g.z*IntKind.i64.wrap (g.d+6))=g.z*(g.d+6):=by rw [wi (n:=g.d+6) (by omega)];exact wi (by omega)
   have hmn:g.z*(g.d+6)=((g.z.toNat*(g.d.toNat+6):Nat):Int):=by rw [Int.natCast_mul,Int.natCast_add];congr 1 <;> omega
   have hu0:((u:Int) == 0)=false:=beq_eq_false_iff_ne.2 (by omega);have hdl2:(b.drop (17+u)).length=b.length - (17+u):=Al ..
   obtain⟨A,hA⟩:∃ A,A=MT (g.d.toNat+1) g.z.toNat b s u:=⟨_,rfl⟩;have hR0:FC g b=if b.length≠17+u+g.z.toNat*(g.d.toNat+6) then none else if Bn g A then some A else none:=by rw [FC,if_neg (by omega),hL,hA]
   by_cases hlen:b.length=17+u+g.z.toNat*(g.d.toNat+6)
   ·rw [if_neg (by omega)] at hR0;refine zR Tryz.func271 rfl ?_;conv=>whnf
    refine A7 (fun hq=>absurd hq (by omega)) (fun hq=>?_);conv=>whnf
    apply z8 (0) tys_ok mixed (.o [0,2,3,5,6,8,9,11,12,13,14] (.two 1 (.two 4 (.two 7 (.two 10 (.o [15,16,17] .fin) 16 (.o [10,15,17] .fin)) 16 (.o [7,10,15,17] .fin)) 16 (.o [4,7,10,15,17] .fin)) 16 (.o [1,4,7,10,15,17] .fin))) [6,17,18,19,20,21,22,23,24,25,26,27,28,29,30,31,32] (by kernel_rfl)
    ·conv=>whnf
     try (refine tI ?_;conv=>whnf)
     try (refine tI ?_;conv=>whnf)
     try (refine tI ?_;conv=>whnf)
     try (refine tI ?_;conv=>whnf)
     refine Ae ?_ ?_
     ·conv=>whnf
      refine zZ q0 ?_;refine Ae ?_ ?_
      ·conv=>whnf
       (refine zX [bA (b.drop 4),iv 4] ⟨AW (by omega),ri,tv⟩ ?_;refine zZ q1 ?_)
       refine Ae ?_ ?_
       ·conv=>whnf
        (refine zX [bA (b.drop 8),iv 4] ⟨AW (by omega),ri,tv⟩ ?_;refine zZ q2 ?_)
        refine Ae ?_ ?_
        ·conv=>whnf
         (refine zX [bA (b.drop 12),iv 4] ⟨AW (by omega),ri,tv⟩ ?_;refine zZ q3 ?_)
         conv=>whnf
         try (refine tS ?_;conv=>whnf)
         exact tA
        ·conv=>whnf
         (refine zX [bA (b.drop 12),iv 4] ⟨AW (by omega),ri,tv⟩ ?_;refine zZ q3 ?_)
         conv=>whnf
         try (refine tS ?_;conv=>whnf)
         exact tA
       ·conv=>whnf
        (refine zX [bA (b.drop 8),iv 4] ⟨AW (by omega),ri,tv⟩ ?_;refine zZ q2 ?_)
        conv=>whnf
        (refine zX [bA (b.drop 12),iv 4] ⟨AW (by omega),ri,tv⟩ ?_;refine zZ q3 ?_)
        conv=>whnf
        try (refine tS ?_;conv=>whnf)
        exact tA
      ·conv=>whnf
       (refine zX [bA (b.drop 4),iv 4] ⟨AW (by omega),ri,tv⟩ ?_;refine zZ q1 ?_)
       conv=>whnf
       (refine zX [bA (b.drop 8),iv 4] ⟨AW (by omega),ri,tv⟩ ?_;refine zZ q2 ?_)
       conv=>whnf
       (refine zX [bA (b.drop 12),iv 4] ⟨AW (by omega),ri,tv⟩ ?_;refine zZ q3 ?_)
       conv=>whnf
       try (refine tS ?_;conv=>whnf)
       exact tA
     ·conv=>whnf
      refine zZ q0 ?_;conv=>whnf
      (refine zX [bA (b.drop 4),iv 4] ⟨AW (by omega),ri,tv⟩ ?_;refine zZ q1 ?_)
      conv=>whnf
      (refine zX [bA (b.drop 8),iv 4] ⟨AW (by omega),ri,tv⟩ ?_;refine zZ q2 ?_)
      conv=>whnf
      (refine zX [bA (b.drop 12),iv 4] ⟨AW (by omega),ri,tv⟩ ?_;refine zZ q3 ?_)
      conv=>whnf
      try (refine tS ?_;conv=>whnf)
      exact tA
    conv=>whnf
    rw [wb,show b.getD (Int.toNat 16) 0=b.getD 16 0 from rfl,<-n4];refine⟨⟨by omega,by omega,by omega,by omega⟩,?_⟩;conv=>whnf
    refine zX [bA (b.drop 17)] ⟨AW (by omega),tv⟩ ?_;refine zZ hr ?_;conv=>whnf
    rw [wu];refine⟨⟨by omega,by omega,by omega,by omega⟩,?_⟩;conv=>whnf
    rw [hu0];conv=>whnf
    rw [wm];refine A7 (fun hq=>absurd hq (by simp only [bne_iff_ne,ne_eq] at *;omega)) (fun hq=>?_);conv=>whnf
    have hsub:∀ (c:Ctx) (v:Value),Rd (.sl 1 ((b.length:Int).toNat - ((17:Int)+u).toNat) fun i=> [AV.v (Value.int IntKind.u8 (b.getD (i+((17:Int)+u).toNat) 0).toNat)]) c v->Rd (bA (b.drop (17+u))) c v:=by
     rw [show ((17:Int)+u).toNat=17+u by omega];exact AW (by omega)
    have hcl:∀ k,k<g.z.toNat->(g.d.toNat+1)+5<=(b.drop (17+u+(g.d.toNat+6)*k)).length:=fun k hk=>by
     have h1:(g.d.toNat+6)*(k+1)<=(g.d.toNat+6)*g.z.toNat:=Nat.mul_le_mul_left _ (by omega);rw [Nat.mul_succ,Nat.mul_comm (g.d.toNat+6) g.z.toNat] at h1;rw [Al];omega
    refine zU Nat (fun k=>([(1,bA b),(2, .bp 0 0),(4, .bp 1 0),(6, .bp 2 0),(9,bA (b.drop (17+u+(g.d.toNat+6)*k))),(10,iv k)], [.box 23 (AU g), .box 33 [iv 0,iv 0,iv 0,iv 0,iv 0, .v (.string ⟨#[]⟩), .v (.slice none 0 0)], .box 33 [iv ((nums szA b).getD 0 0),iv ((nums szA b).getD 1 0),iv ((nums szA b).getD 4 0),iv ((nums szA b).getD 2 0),iv ((nums szA b).getD 3 0), .v (.string s), .ow 3 k], .row 177 3 ((Fa (g.d.toNat+1) k (b.drop (17+u))).map ES)])) (fun k=>k<=g.z.toNat) (fun k=>g.z.toNat - k) 0 (Aj _)
     ?_ ?_
    ·refine⟨_,_,zL 9 (y:=bA (b.drop (17+u))) rfl hsub, [(1002006,177,3)],tA, [0,1,2,3],tA⟩
    ·intro k hk;conv=>whnf
     refine A7 (fun h6=>?_) (fun h6=>?_) <;> (repeat rw [Ab] at h6) <;> conv=>whnf
     ·have hk':k<g.z.toNat:=by omega
      have hc5:=hcl k hk';have hE:=YH (g.d.toNat+1) (b.drop (17+u+(g.d.toNat+6)*k)) hc5;have hdd:(b.drop (17+u+(g.d.toNat+6)*k)).drop (g.d.toNat+6)=b.drop (17+u+(g.d.toNat+6)*(k+1)):=by rw [Be,Nat.mul_succ,Dz]
      have hmm:(b.drop (17+u)).drop ((g.d.toNat+6)*k)=b.drop (17+u+(g.d.toNat+6)*k):=by rw [Be]
      have hst:=RG (g.d.toNat+1) k (b.drop (17+u));rw [show (g.d.toNat+1+5)=g.d.toNat+6 from rfl,hmm] at hst;generalize b.drop (17+u+(g.d.toNat+6)*k)=c at hc5 hE hdd hst |-
      refine zU Nat (fun i=>([(1,bA b),(2, .bp 0 0),(4, .bp 1 0),(6, .bp 2 0),(9,bA c),(10,iv k),(11, .bp 4 0),(12,iv i)], [.box 23 (AU g), .box 33 [iv 0,iv 0,iv 0,iv 0,iv 0, .v (.string ⟨#[]⟩), .v (.slice none 0 0)], .box 33 [iv ((nums szA b).getD 0 0),iv ((nums szA b).getD 1 0),iv ((nums szA b).getD 4 0),iv ((nums szA b).getD 2 0),iv ((nums szA b).getD 3 0), .v (.string s), .ow 3 k], .row 177 3 ((Fa (g.d.toNat+1) k (b.drop (17+u))).map ES), .box 177 [.ow 5 i,iv 0,iv 0], .row 3 1 (Y_ i c)])) (fun i=>i<=g.d.toNat+1) (fun i=>g.d.toNat+1 - i) 0 (Aj _)
       ⟨_,_,zF _ _, [(1004000,3,1)],tA, [0,1,2,3,4,5],tA⟩ ?_
      intro i hi;conv=>whnf
      refine A7 (fun h7=>?_) (fun h7=>?_) <;> (repeat rw [Ab] at h7) <;> conv=>whnf
      ·have hl:i=(Y_ i c).length:=(SZ i c).symm;apply zW (0) tys_ok mixed (.o [0,1,2,3,4,5,6,7,8,9,10] .fin) (by kernel_rfl);conv=>whnf
       try (refine tI ?_;conv=>whnf)
       try (refine tJ ?_;conv=>whnf)
       try (refine tK ?_;conv=>whnf)
       try (refine tS ?_;conv=>whnf)
       rw [wb];exact⟨i+1,by omega,by omega,zS (s:= [0,1,2,3,4,5]) ⟨⟨rfl,rfl,rfl,rfl,rfl,rfl,rfl,AI (by omega),tv⟩,⟨rfl,rfl,rfl,rfl,rfl,congrArg (fun l=>some (AB.row _ _ l)) (X6 i c).symm,tv⟩,rfl,rfl,rfl,rfl,rfl⟩⟩
      ·have ei:i=g.d.toNat+1:=by omega
       subst ei;have w1:IntKind.i64.wrap (g.d+1)=g.d+1:=wi (by omega);have w2:IntKind.i64.wrap (g.d+2)=g.d+2:=wi (by omega);have w6:IntKind.i64.wrap (g.d+6)=g.d+6:=wi (by omega);have hgr:=FT (c.drop (g.d.toNat+1+1)) 4 (by rw [Al];omega) (by decide);apply zW (0) tys_ok mixed (.o [0,1,2,3,4,5,6,7,8,9,10,11,13,12,14,15,16] .fin) (by kernel_rfl);conv=>whnf
       try (refine tI ?_;conv=>whnf)
       try (refine tI ?_;conv=>whnf)
       (refine zX [bA (c.drop (g.d.toNat+1+1)),iv 4] ⟨(by rw [w2,show (g.d+2).toNat=g.d.toNat+1+1 by omega];exact AW (by omega)),ri,tv⟩ ?_;refine zZ hgr ?_)
       conv=>whnf
       try (refine tS ?_;conv=>whnf)
       try (refine tS ?_;conv=>whnf)
       rw [w1,wb,show (g.d+1).toNat=g.d.toNat+1 by omega];refine Ae (SZ _ _).symm ?_;refine⟨rfl,?_⟩;refine⟨⟨by rw [Ac,NO],by omega⟩,?_⟩;conv=>whnf
       rw [w6];refine⟨⟨by omega,by omega,by omega,by omega⟩,?_⟩;conv=>whnf
       have e':SubL [.sl 1 (g.d.toNat+1) fun i=>(Y_ (g.d.toNat+1) c).getD i [],iv ((c.getD (g.d.toNat+1) 0).toNat:Int),iv ((leN ((c.drop (g.d.toNat+1+1)).take 4):Nat):Int)] (ES (Ky (g.d.toNat+1) c)):=by
        rw [hE];refine⟨fun _ _ h=>zD (by simp) (fun i hi=>?_) h,fun _ _ h=>h,fun _ _ h=>h,tv⟩;have hi':i<g.d.toNat+1:=by simpa using hi
        rw [Y_,Fj hi',Fj hi']
       have hs2:∀ (c':Ctx) (v:Value),Rd (.sl 1 ((c.length:Int).toNat - (g.d+6).toNat) fun i=> [AV.v (Value.int IntKind.u8 (c.getD (i+(g.d+6).toNat) 0).toNat)]) c' v->Rd (bA (b.drop (17+u+(g.d.toNat+6)*(k+1)))) c' v:=by
        rw [<-hdd,show (g.d+6).toNat=g.d.toNat+6 by omega];exact AW (by omega)
       refine⟨k+1,by omega,by omega,zG (zQ (zJ (ConvH.last 3 rfl e')) (zL 9 (y:=bA (b.drop (17+u+(g.d.toNat+6)*(k+1)))) rfl hs2)) (s:= [0,1,2,3]) ⟨⟨rfl,rfl,rfl,rfl,rfl,AI (by omega),tv⟩,⟨rfl,rfl,rfl,congrArg (fun l=>some (AB.row _ _ l)) (by rw [hst,A8];try rfl),tv⟩,rfl,rfl,rfl,rfl,rfl⟩⟩
     ·have ek:k=g.z.toNat:=by omega
      subst ek;have hAl:A.label.size<=1000000:=by rw [hA];show s.size<=_;omega
      have hck:=R0 g A hg hAl;rw [hA] at hck;have hhl:(Fa (g.d.toNat+1) g.z.toNat (b.drop (17+u))).length=g.z.toNat:=NO _ _ _;refine ACalls.lendBox (cs2:= [iv ((nums szA b).getD 0 0),iv ((nums szA b).getD 1 0),iv ((nums szA b).getD 4 0),iv ((nums szA b).getD 2 0),iv ((nums szA b).getD 3 0), .v (.string s), .sl 3 ((Fa (g.d.toNat+1) g.z.toNat (b.drop (17+u))).map ES).length fun i=>((Fa (g.d.toNat+1) g.z.toNat (b.drop (17+u))).map ES).getD i []]) 2 3 rfl rfl ?_ ?_
      ·show [_,_,_,_,_,_,AV.slIn 3 _ _ (.ow 3 g.z.toNat)]=_;rw [AV.slIn,if_pos rfl,if_pos (by rw [Ac,hhl])];try rfl
      have hsa:SubL [iv ((nums szA b).getD 0 0),iv ((nums szA b).getD 1 0),iv ((nums szA b).getD 4 0),iv ((nums szA b).getD 2 0),iv ((nums szA b).getD 3 0), .v (.string s), .sl 3 ((Fa (g.d.toNat+1) g.z.toNat (b.drop (17+u))).map ES).length fun i=>((Fa (g.d.toNat+1) g.z.toNat (b.drop (17+u))).map ES).getD i []] (Ft (MT (g.d.toNat+1) g.z.toNat b s u)):=⟨ri,ri,ri,ri,ri,ri,Bc (f:=ES) (Fa (g.d.toNat+1) g.z.toNat (b.drop (17+u))) (by rw [Ac]) rfl,tv⟩;refine zX [.ag (AU g), .ag (Ft (MT (g.d.toNat+1) g.z.toNat b s u))] ⟨ri,Bk hsa,tv⟩ ?_;refine zZ hck ?_;conv=>whnf
      rw [<-hA];cases hok:Bn g A with
      | false=>
       rw [hR0,hok];exact⟨_,GQ _,rfl⟩
      | true=>
       rw [hR0,hok];conv=>whnf
       exact⟨.tp [.ag (Ft A), .v (.bool true)],Cf ⟨Bk (by rw [hA];exact hsa),ri,tv⟩,rfl⟩
   ·have hN:FC g b=none:=by rw [hR0,if_pos hlen]
    rw [hN];refine zR Tryz.func271 rfl ?_;conv=>whnf
    refine A7 (fun hq=>absurd hq (by omega)) (fun hq=>?_);conv=>whnf
    apply z8 (0) tys_ok mixed (.o [0,2,3,5,6,8,9,11,12,13,14] (.two 1 (.two 4 (.two 7 (.two 10 (.o [15,16,17] .fin) 16 (.o [10,15,17] .fin)) 16 (.o [7,10,15,17] .fin)) 16 (.o [4,7,10,15,17] .fin)) 16 (.o [1,4,7,10,15,17] .fin))) [6,17,18,19,20,21,22,23,24,25,26,27,28,29,30,31,32] (by kernel_rfl)
    ·conv=>whnf
     try (refine tI ?_;conv=>whnf)
     try (refine tI ?_;conv=>whnf)
     try (refine tI ?_;conv=>whnf)
     try (refine tI ?_;conv=>whnf)
     refine Ae ?_ ?_
     ·conv=>whnf
      refine zZ q0 ?_;refine Ae ?_ ?_
      ·conv=>whnf
       (refine zX [bA (b.drop 4),iv 4] ⟨AW (by omega),ri,tv⟩ ?_;refine zZ q1 ?_)
       refine Ae ?_ ?_
       ·conv=>whnf
        (refine zX [bA (b.drop 8),iv 4] ⟨AW (by omega),ri,tv⟩ ?_;refine zZ q2 ?_)
        refine Ae ?_ ?_
        ·conv=>whnf
         (refine zX [bA (b.drop 12),iv 4] ⟨AW (by omega),ri,tv⟩ ?_;refine zZ q3 ?_)
         conv=>whnf
         try (refine tS ?_;conv=>whnf)
         exact tA
        ·conv=>whnf
         (refine zX [bA (b.drop 12),iv 4] ⟨AW (by omega),ri,tv⟩ ?_;refine zZ q3 ?_)
         conv=>whnf
         try (refine tS ?_;conv=>whnf)
         exact tA
       ·conv=>whnf
        (refine zX [bA (b.drop 8),iv 4] ⟨AW (by omega),ri,tv⟩ ?_;refine zZ q2 ?_)
        conv=>whnf
        (refine zX [bA (b.drop 12),iv 4] ⟨AW (by omega),ri,tv⟩ ?_;refine zZ q3 ?_)
        conv=>whnf
        try (refine tS ?_;conv=>whnf)
        exact tA
      ·conv=>whnf
       (refine zX [bA (b.drop 4),iv 4] ⟨AW (by omega),ri,tv⟩ ?_;refine zZ q1 ?_)
       conv=>whnf
       (refine zX [bA (b.drop 8),iv 4] ⟨AW (by omega),ri,tv⟩ ?_;refine zZ q2 ?_)
       conv=>whnf
       (refine zX [bA (b.drop 12),iv 4] ⟨AW (by omega),ri,tv⟩ ?_;refine zZ q3 ?_)
       conv=>whnf
       try (refine tS ?_;conv=>whnf)
       exact tA
     ·conv=>whnf
      refine zZ q0 ?_;conv=>whnf
      (refine zX [bA (b.drop 4),iv 4] ⟨AW (by omega),ri,tv⟩ ?_;refine zZ q1 ?_)
      conv=>whnf
      (refine zX [bA (b.drop 8),iv 4] ⟨AW (by omega),ri,tv⟩ ?_;refine zZ q2 ?_)
      conv=>whnf
      (refine zX [bA (b.drop 12),iv 4] ⟨AW (by omega),ri,tv⟩ ?_;refine zZ q3 ?_)
      conv=>whnf
      try (refine tS ?_;conv=>whnf)
      exact tA
    conv=>whnf
    rw [wb,show b.getD (Int.toNat 16) 0=b.getD 16 0 from rfl,<-n4];refine⟨⟨by omega,by omega,by omega,by omega⟩,?_⟩;conv=>whnf
    refine zX [bA (b.drop 17)] ⟨AW (by omega),tv⟩ ?_;refine zZ hr ?_;conv=>whnf
    rw [wu];refine⟨⟨by omega,by omega,by omega,by omega⟩,?_⟩;conv=>whnf
    rw [hu0];conv=>whnf
    rw [wm];refine A7 (fun hq=>?_) (fun hq=>absurd hq (by omega));exact⟨_,GQ _,rfl⟩
theorem VP (g:Geo) (x:Gt) (addr:Int) (hg:Bm g=true) (hx:x.bytes.length<=100000):Fn Tryz.prog 247 [.ag (AU g), .ag (D7 x),iv addr] fun r=>r = .tp [.ag (Ft ((Fo g x addr).getD an0)), .v (.bool (Fo g x addr).isSome)]:=by
 have hs:=I4 x addr hx;by_cases h1:x.err=0/\Cn x.bytes=0/\BZ x.bytes=addr
 ·have hr:=TC g (Cc x.bytes) hg (by have:=Ra x.bytes;omega);have hS:Fo g x addr=match FC g (Cc x.bytes) with | some a=>if a.gen=Bi x.bytes then some a else none | none=>none:=by rw [Fo,if_pos h1];try rfl
  have hO:BF x addr=some ⟨BZ x.bytes,Bi x.bytes,Cc x.bytes⟩:=by
   unfold BF;simp [h1.1,h1.2.1,h1.2.2]
  rw [hO] at hs;cases hR:FC g (Cc x.bytes) with
  | none=>
   rw [hR] at hr hS;rw [hS];refine zR Tryz.func247 rfl ?_;conv=>whnf
   refine zZ hs ?_;conv=>whnf
   refine zZ hr ?_;exact⟨_,GQ _,rfl⟩
  | some a=>
   rw [hR] at hr hS;by_cases h4:a.gen=Bi x.bytes
   ·have hS:Fo g x addr=some a:=hS.trans (if_pos h4);rw [hS];refine zR Tryz.func247 rfl ?_;conv=>whnf
    refine zZ hs ?_;conv=>whnf
    refine zZ hr ?_;conv=>whnf
    refine A7 (fun hq=>absurd h4 hq) (fun _=>?_);exact⟨_,ri,rfl⟩
   ·have hS:Fo g x addr=none:=hS.trans (if_neg h4);rw [hS];refine zR Tryz.func247 rfl ?_;conv=>whnf
    refine zZ hs ?_;conv=>whnf
    refine zZ hr ?_;conv=>whnf
    refine A7 (fun _=>?_) (fun hq=>absurd hq h4);exact⟨_,GQ _,rfl⟩
 ·have hS:Fo g x addr=none:=by rw [Fo,if_neg h1]
  have hO:BF x addr=none:=by
   unfold BF;rw [if_neg h1]
  rw [hO] at hs;rw [hS];refine zR Tryz.func247 rfl ?_;conv=>whnf
  refine zZ hs ?_;exact⟨_,GQ _,rfl⟩
def bS (p:Option (An × Nat)):Int:=match p with | some (_,i)=>i | none=> -1
theorem Ri (g:Geo) (l:List Gt) (hg:Bm g=true) (hl:l.length<=1000000) (hb:∀ x∈l,x.bytes.length<=100000):Fn Tryz.prog 200 [.ag (AU g),Iv l] fun r=>r = .tp [.ag (Ft (bT (HT g l))),iv (bS (HT g l))]:=by
 refine zR Tryz.func200 rfl ?_;conv=>whnf
 refine zU Nat (fun k=>([(1,Iv l),(2, .bp 0 0),(4, .bp 1 0),(6, .bp 2 0),(7,iv (bS (FD g l k))),(8,iv k)], [.box 23 (AU g), .box 33 [iv 0,iv 0,iv 0,iv 0,iv 0, .v (.string ⟨#[]⟩), .v (.slice none 0 0)], .box 33 (Ft (bT (FD g l k)))])) (fun k=>k<=l.length) (fun k=>l.length - k) 0 (Aj _)
  (zG (zJ (zr 2 rfl an0_sub)) (s:= [0,1,2]) tA) ?_
 intro k hk;have hsucc:=Jg g l k;conv=>whnf
 refine A7 (fun h6=>?_) (fun h6=>?_) <;> (repeat rw [Ab] at h6) <;> conv=>whnf
 ·have hk':k<l.length:=by omega
  have hx:=hb _ (A5 (d:=(⟨0, []⟩:Gt)) hk');have h2:=VP g (l.getD k ⟨0, []⟩) k hg hx;rw [PN] at hsucc;repeat' (refine z_ ?_;conv=>whnf)
  apply z8 (0) tys_ok mixed (.o [0,1,2,3,4,5] (.two 6 (.o [7,8,9,10,11,12] .fin) 10 (.o [6,7,8,9,11,12] .fin))) [9,10,17,18,19,20,21,22,23,24,25,26] (by kernel_rfl)
  ·conv=>whnf
   try (refine tI ?_;conv=>whnf)
   refine Ae ?_ ?_
   ·conv=>whnf
    (rw [Ab];refine zZ h2 ?_)
    conv=>whnf
    try (refine tS ?_;conv=>whnf)
    exact tA
   ·conv=>whnf
    (rw [Ab];refine zZ h2 ?_)
    conv=>whnf
    try (refine tS ?_;conv=>whnf)
    exact tA
  conv=>whnf
  generalize Fo g (l.getD k ⟨0, []⟩) (k:Nat)=S at hsucc |-
  generalize FD g l k=P at hsucc |-
  cases S with
  | none=>
   conv=>whnf
   repeat' (refine z_ ?_;conv=>whnf)
   refine⟨k+1,hk',by omega,?_⟩;rw [show FD g l (k+1)=P from hsucc];exact zS (s:= [0,1,2]) ⟨⟨rfl,rfl,rfl,rfl,rfl,AI (by omega),tv⟩,tA,rfl,rfl,rfl,rfl,rfl⟩
  | some b=>
   cases P with
   | none=>
    conv=>whnf
    repeat' (refine z_ ?_;conv=>whnf)
    refine⟨k+1,hk',by omega,?_⟩;rw [show FD g l (k+1)=some (b,k) from hsucc];exact zS (s:= [0,1,2]) ⟨⟨rfl,rfl,rfl,rfl,rfl,AI (by omega),tv⟩,tA,rfl,rfl,rfl,rfl,rfl⟩
   | some q=>
    obtain⟨a,j⟩:=q;conv=>whnf
    by_cases h5:a.gen<b.gen
    ·have e:FD g l (k+1)=some (b,k):=hsucc.trans (if_pos h5);refine A7 (fun h7=>?_) (fun h7=>absurd h5 (Int.not_lt.2 (show b.gen<=a.gen from h7)));conv=>whnf
     repeat' (refine z_ ?_;conv=>whnf)
     refine⟨k+1,hk',by omega,?_⟩;rw [e];exact zS (s:= [0,1,2]) ⟨⟨rfl,rfl,rfl,rfl,rfl,AI (by omega),tv⟩,tA,rfl,rfl,rfl,rfl,rfl⟩
    ·have e:FD g l (k+1)=some (a,j):=hsucc.trans (if_neg h5);refine A7 (fun h7=>absurd (show a.gen<b.gen from h7) h5) (fun h7=>?_);conv=>whnf
     repeat' (refine z_ ?_;conv=>whnf)
     refine⟨k+1,hk',by omega,?_⟩;rw [e];exact zS (s:= [0,1,2]) ⟨⟨rfl,rfl,rfl,rfl,rfl,AI (by omega),tv⟩,tA,rfl,rfl,rfl,rfl,rfl⟩
 ·have ek:k=l.length:=by omega
  subst ek;exact⟨_,ri,rfl⟩
section
variable {g:Geo} {a:An} {x y:List Gt} {pos seq left:Int}
end

def eK (d:Dk) (k:Nat):Int:=if d.live k then 0 else 8
def gK (d:Dk) (k:Nat) (a:Int):Gt:=if d.live k then OW d a else ⟨8, []⟩
theorem Ks {d:Dk} {j k:Nat} (h:d.live k) (hj:j<=k):d.live j:=by unfold Dk.live at *;omega
theorem XP {d:Dk} (hl : -1<=d.left):∀ k,¬d.live k->(d.adv k).left=0
 | 0,h=>by exfalso;apply h;unfold Dk.live;omega
 | k+1,h=>by
  by_cases hk:d.live k
  ·have:=XQ k d h hk;rw [Kc k (k+1) d this (by omega)];exact this
  ·have:=XP hl k hk;rw [Kc k (k+1) d this (by omega)];exact this
theorem OD (g:Geo) (s:Stt) (d:Dk) (k:Nat) (a:Int) (h:DkOk d) (ha:0<=a/\a<d.cells.length) :
  ACalls Tryz.prog false 79 [.bp 0 0,iv a] (JC g s (eK d k) (d.adv k)) fun r H=>r = .ag (D7 (gK d (k+1) a))/\H=JC g s (eK d (k+1)) (d.adv (k+1)):=by
 have hd:=h.adv k;have hn:=(Hu k d).1;have hl:=h.l;unfold eK gK;by_cases hk:d.live k
 ·have hr:=ZH g s (d.adv k) a hd (by rw [hn];exact ha);rw [if_pos hk];by_cases h0:(d.adv k).left=0
  ·have hk1:=(QG k d hl.1 hk).1 h0;rw [if_pos h0,TO a h0] at hr;rw [if_neg hk1,if_neg hk1,Kc k (k+1) d h0 (by omega)];exact hr
  ·have hk1:d.live (k+1):=by
    by_cases e:d.live (k+1)
    ·exact e
    ·exact absurd ((QG k d hl.1 hk).2 e) h0
   rw [if_neg h0,TN a h0] at hr;rw [if_pos hk1,if_pos hk1];exact hr
 ·have hk1:¬d.live (k+1):=fun h=>hk (Ks h (by omega))
  have h0:=XP hl.1 k hk;rw [if_neg hk,if_neg hk1,if_neg hk1,Kc k (k+1) d h0 (by omega)];exact ZI g s 8 (d.adv k) a (by decide)
theorem XW (g:Geo) (s:Stt) (d:Dk) (l:List Wr) (k:Nat) (h:DkOk d) (hl:∀ w∈l,QI d.cells.length w) (hk:k<l.length) :
  ACalls Tryz.prog false 88 [.bp 0 0, .v (.int .i64 (l.getD k ⟨0, []⟩).addr),bA (l.getD k ⟨0, []⟩).bytes] (JC g s (UD (d.writes (l.take k)).2.2) (d.writes (l.take k)).1) fun r H=>(∃ b,r = .v (.bool b))/\H=JC g s (UD (d.writes (l.take (k+1))).2.2) (d.writes (l.take (k+1))).1:=by
 have hd:=I1 h hl k;have hm:=hl _ (A5 (d:=(⟨0, []⟩:Wr)) hk);have hlive:=fun hlv=>Lo (d:=d) hk hlv
 have hstay:=fun hlv=>K9 (d:=d) hk hlv
 generalize d.writes (l.take (k+1))=Q' at hlive hstay |-
 generalize d.writes (l.take k)=Q at hd hlive hstay |-
 obtain⟨X,N,dead⟩:=Q;simp only at hd hlive hstay |-
 cases dead with
 | true=>
  rw [hstay rfl];exact(VK g s 8 X _ _ (by decide)).mono fun r H h=>⟨⟨false,h.1⟩,h.2⟩
 | false=>
  rw [hlive rfl];have hc:=VJ g s X (l.getD k ⟨0, []⟩).addr (l.getD k ⟨0, []⟩).bytes hd.1 (by rw [hd.2];exact hm.1) hm.2;refine hc.mono fun r H h=>⟨⟨_,h.1⟩,?_⟩
  rw [h.2];show JC g s _ _=JC g s (if decide _=true then 8 else 0) _;congr 1;by_cases h8:(X.write (l.getD k ⟨0, []⟩).addr (l.getD k ⟨0, []⟩).bytes).2=8
  ·rw [if_pos h8,if_pos (decide_eq_true h8)]
  ·rw [if_neg h8,if_neg (by rw [decide_eq_false h8];decide)]
def Wb (d:Dk) (ats:List Int) (k:Nat):List Gt:=(List.range k).map fun j=>gK d (j+1) (ats.getD j 0)
theorem Wa (d:Dk) (ats:List Int) (k:Nat):(Wb d ats (k+1)).map D7=(Wb d ats k).map D7 ++ [D7 (gK d (k+1) (ats.getD k 0))]:=by simp [Wb,Bj]
theorem Yq (d:Dk) (ats:List Int) (k:Nat):(Wb d ats k).length=k:=by simp [Wb]
theorem Yr {d:Dk} {ats:List Int} (h:d.live ats.length):Wb d ats ats.length=BB d ats:=by
 apply List.ext_getElem
 ·simp [Wb,BB]
 ·intro i h1 h2;have hi:i<ats.length:=by simpa [Wb] using h1
  simp only [Wb,BB,List.getElem_map,List.getElem_range];rw [gK,if_pos (Ks h (by omega)),Aa,Af hi];try rfl
def Ys (d:Dk) (g:Geo) (c:Nat) (k:Nat):List Gt:=(List.range k).map fun j=>gK d (2*j+1+c) (Bh g (c:Nat) (j:Nat))
theorem PE (d:Dk) (g:Geo) (c:Nat) (k:Nat):(Ys d g c (k+1)).map D7=(Ys d g c k).map D7 ++ [D7 (gK d (2*k+1+c) (Bh g (c:Nat) (k:Nat)))]:=by simp [Ys,Bj]
theorem S6 (d:Dk) (g:Geo) (c:Nat) (k:Nat):(Ys d g c k).length=k:=by simp [Ys]
theorem S7 {d:Dk} {g:Geo} {c:Nat} (hc:c<=1) (h:d.live (2*g.sl.toNat)):Ys d g c g.sl.toNat=BB d (BS g (c:Nat)):=by
 unfold Ys BB BS;rw [List.map_map];refine C4 fun j hj=>?_
 have hj:=AR.1 hj;rw [gK,if_pos (Ks h (by omega))];try rfl
end
end Go.Proofs.YtepdhdfoipephaaGreatDoor.A
