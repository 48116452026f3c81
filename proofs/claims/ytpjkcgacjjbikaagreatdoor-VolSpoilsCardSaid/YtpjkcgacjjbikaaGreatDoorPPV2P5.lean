/-
Several texts in one.
-/
import Derived.Test.YtpjkcgacjjbikaaGreatDoorPPV2P3
import Derived.Test.YtpjkcgacjjbikaaGreatDoorPPV2P4
import Derived.Test.YtpjkcgacjjbikaaGreatDoorPPV2P2
import Derived.Test.YtpjkcgacjjbikaaGreatDoorPPV2P1
import Derived.Test.YtpjkcgacjjbikaaGreatDoorRows
import Derived.Below
import Derived.ChangeSame
import Derived.Carry
import Derived.Lib.LaidIn
import Derived.Lib.LaidU8T
import Derived.LaidHandle
import Derived.MakeChecks
import Derived.Handed
set_option maxRecDepth 100000
set_option maxHeartbeats 8000000
set_option linter.unusedSimpArgs false
set_option linter.unusedVariables false
set_option linter.deprecated false
namespace Go.Proofs.YtpjkcgacjjbikaaGreatDoor.A
section
open Go.RowKit
@[reducible] def bwN (g:Geo) (s:Stt) (d:Dk):List AB:= [.box 99 (XK g (.bp 1 0) (.v (.slice none 0 0)) (iA s.lost) s), .box 119 (II (.ow 2 d.cells.length) (.ow 4 d.cache.length) d.reqs d.left), .row 68 3 (d.cells.map BB), .dead, .row 152 2 (d.cache.map E9)]
theorem Zf (g:Geo) (d D:Dk) (s:Stt) (hg:Bq g=true) (h:DkOk d) (hn:(d.cells.length:Int)=A4 g) (hm:JJ g d=(D,0,s))
  (hsc:∀ a j,FW g (B6 d (Dl g))=some (a,j)->G_ g a (B6 (d.adv g.an.toNat) (BI g 0)) (B6 (d.adv g.an.toNat) (BI g 1))=([], [],0)/\Fn Tryz.prog 274 [.ag (Bl g), .ag (Fh a),F0 (B6 (d.adv g.an.toNat) (BI g 0)),F0 (B6 (d.adv g.an.toNat) (BI g 1))] fun r=>r = .tp [.v (.slice none 0 0), .v (.slice none 0 0),iv 0]) :
  ACalls Tryz.prog false 194 [.bp 0 0] (GB g st0 d) fun r H=>r = iv 0/\H=bwN g s D:=by
 obtain⟨g1,g2,g3,g4,g5⟩:=Az.1 hg;have hcg:=Eg hg;have ha:=Ry g st0 d hg h (by omega);unfold JJ at hm;by_cases hl:d.live g.an.toNat;rotate_left 1
 ·rw [if_neg hl] at hm;cases hm
 rw [if_pos hl] at hm;have hp:=WV g (B6 d (Dl g)) hg (by rw [DC,Es];omega) (PC h _);have hpo:=fun {a j}=>KI (g:=g) (l:=B6 d (Dl g)) hg (B6 d (Dl g)).length (a:=a) (j:=j)
 have hpo:∀ {a j},FW g (B6 d (Dl g))=some (a,j)->B4 g a=true:=hpo;have hgl:(B6 d (Dl g)).length=g.an.toNat:=by rw [DC,Es]
 generalize B6 d (Dl g)=L at ha hp hpo hgl hm hsc;have hd1:=h.adv g.an.toNat;have hs1:=(E_ g.an.toNat d).1;generalize d.adv g.an.toNat=d1 at ha hd1 hs1 hm hsc;cases hP:FW g L with
 | none=>rw [hP] at hm;cases hm
 | some q=>
  obtain⟨a,j⟩:=q;have hao:=hpo hP;obtain⟨hS,hsc⟩:=hsc a j hP;rw [hP] at hp hm;replace hp:Fn Tryz.prog 272 [.ag (Bl g),F0 L] (fun r=>r = .tp [.ag (Fh a),iv (j:Nat),iv 0]):=hp;have hlg:=XL g st0 d1 hg hd1 (by rw [hs1];exact hn);simp only at hm;unfold QR at hm;by_cases hl2:d1.live (2*g.sl.toNat);rotate_left 1
  ·rw [if_neg hl2] at hm;cases hm
  rw [if_pos hl2,hS] at hm;have hx1:(B6 d1 (BI g 0)).length=g.sl.toNat:=by rw [DC,D7]
  have hx2:(B6 d1 (BI g 1)).length=g.sl.toNat:=by rw [DC,D7]
  have hlast:=Q6 (x:=B6 d1 (BI g 0)) (y:=B6 d1 (BI g 1)) hg hao (by rw [hS]);rw [hS] at hlast;generalize B6 d1 (BI g 0)=X1 at hlg hx1 hsc;generalize B6 d1 (BI g 1)=X2 at hlg hx2 hsc;have hd2:=hd1.adv (2*g.sl.toNat);have hs2:=(E_ (2*g.sl.toNat) d1).1;generalize d1.adv (2*g.sl.toNat)=d2 at hlg hd2 hs2 hm;unfold QQ at hm;rw [if_neg (by simp)] at hm;have hmd:=UW g st0 d2 [] hd2 (fun w hw=>by cases hw) (Ak _);have hmd0:d2.mend []=(d2,false):=rfl;simp only at hm;rw [hmd0] at hm hmd;simp only [BU,if_false] at hm hmd;have hpa:=F5 hao;unfold QP at hm;by_cases hmx:a.gen=4294967295\/a.epoch=4294967295
  ·rw [if_pos hmx] at hm;cases hm
  rw [if_neg hmx] at hm;have hna:=Pt (n:=0) hao (fun e=>hmx (.inl e)) (fun e=>hmx (.inr e)) hlast.2;have hban:=Qe g st0 d2 (DV a 0) hg hna hd2 (Mk hg hna (by rw [hs2,hs1];exact hn));have b1:(a.gen == 4294967295)=false:=beq_eq_false_iff_ne.2 fun e=>hmx (.inl e)
  have b2:(a.epoch == 4294967295)=false:=beq_eq_false_iff_ne.2 fun e=>hmx (.inr e)
  have w1:IntKind.i64.wrap (a.gen+1)=a.gen+1:=wi (by omega);have w2:IntKind.i64.wrap (a.epoch+1)=a.epoch+1:=wi (by omega);have hlast2:a.last<=a.seq+(0:Nat) - 1/\a.seq+(0:Nat) - 1<=4294967295:=hlast;have w3:IntKind.i64.wrap (IntKind.i64.wrap (a.seq+((0:Nat):Int)) - 1)=a.seq+(0:Nat) - 1:=by
   rw [wi (n:=a.seq+((0:Nat):Int)) (by omega)];exact wi (by omega)
  simp only [AP] at hm;generalize hQ:d2.putAll (AT g (DV a 0))=Q at hban hm;obtain⟨d4,n,dead⟩:=Q;simp only at hm;cases dead with
  | true=>rw [if_pos rfl] at hm;cases hm
  | false=>
   rw [if_neg (by decide)] at hm;simp only [BU,if_false] at hban;by_cases hn0:n=0
   ·rw [if_pos hn0] at hm;cases hm
   rw [if_neg hn0] at hm;cases hm;have hnb:((n:Int) == 0)=false:=beq_eq_false_iff_ne.2 (by omega);refine zV tys_ok Tryz.func194 rfl rfl (Ae rfl) ?_;conv=>whnf
   refine ha.mono ?_;rintro _ _ ⟨h1, -⟩;obtain⟨rfl,rfl⟩:=h1 hl;conv=>whnf
   refine zR hp.go ?_;refine⟨(by rw [Aa,hgl]),?_⟩;conv=>whnf
   refine zU [.ag (Bl g),F0 L] ⟨ri,Ck (f:=DZ) L hgl.symm rfl,tv⟩ ?_;refine zZ hp ?_;conv=>whnf
   refine ze9 [0,1,2,3] hlg ?_;rintro _ _ ⟨h1, -⟩;obtain⟨rfl,rfl⟩:=h1 hl2;conv=>whnf
   apply zX (0) tys_ok mixed (.o [0,1,2,3,4,5,6,7,8,9,10,11,12,13,14] .fin) (by kernel_rfl);conv=>whnf
   (refine zR hsc.go ?_;(conv=>whnf);refine Ah (by rw [Aa,hx1]) ?_;(conv=>whnf);refine Ah (by rw [Aa,hx2]) ?_;(conv=>whnf);refine zU [.ag (Bl g), .ag (Fh a),F0 X1,F0 X2] ⟨ri,ri,Ck (f:=DZ) X1 hx1.symm rfl,Ck (f:=DZ) X2 hx2.symm rfl,tv⟩ ?_;refine zZ hsc ?_)
   conv=>whnf
   conv=>whnf
   refine zU [.bp 0 0,K5 []] ⟨ri,Bt 2 _,tv⟩ ?_;refine ze9 [0,1,2,3] hmd ?_;rintro _ _ ⟨rfl,rfl⟩;conv=>whnf
   rw [b1];conv=>whnf
   rw [b2];conv=>whnf
   rw [w1,w2,w3];refine zY [0,1,2,8] hban rfl rfl rfl rfl (by decide) (YF rfl rfl) tA ?_;rintro _ _ ⟨rfl,rfl⟩;conv=>whnf
   rw [hnb];refine⟨_,iv 0,bwN g (Bk (DV a 0) []) D,ri,zI (zO (zx (cs':=XK g (.bp 1 0) (.v (.slice none 0 0)) (iA []) (Bk (DV a 0) [])) 0 rfl ?_)) (s:= [0,1,2,3,9]) tA,rfl,rfl⟩;exact⟨fun _ _ h=>h,fun _ _ h=>h,fun _ _ h=>h,fun _ _ h=>h,fun _ _ h=>h,fun _ _ h=>h,fun _ _ h=>h,fun _ _ h=>h,fun _ _ h=>h,fun _ _ h=>h,fun _ _ h=>h,fun _ _ h=>h,fun _ _ h=>h,fun _ _ h=>h,fun _ _ h=>h,fun _ _ h=>h,fun _ _ h=>h,fun _ _ h=>h,fun _ _ h=>h,Bt 1 _,tv⟩
theorem LT (l:List Tx) (x:Tx) (z w:Int):∀ k,k<=l.length->F2 (l ++ [x]) z w k=F2 l z w k
 | 0,_=>rfl
 | k+1,hk=>by
  have e:(l ++ [x]).getD k tz=l.getD k tz:=by
   grind
  rw [F2,F2,e,LT l x z w k (by omega)]
theorem IB (l:List Tx) (x:Tx) (z w:Int):CG (l ++ [x]) z w=match Dx x.images z w x.images.length with
  | some i=>some (i,x.seq)
  | none=>CG l z w:=by
 unfold CG;rw [Ai,Ao,AP,Au,F2,LT l x z w _ (Ag _),show (l ++ [x]).getD l.length tz=x by simp];try rfl
theorem Ri (x:Tx) (r:List Tx) (z w:Int):∀ k,F2 (x::r) z w (k+1)=match F2 r z w k with
  | some p=>some p
  | none=>match Dx x.images z w x.images.length with
   | some i=>some (i,x.seq)
   | none=>none
 | 0=>rfl
 | k+1=>by
  rw [F2,Ri x r z w k,F2,show (x::r).getD (k+1) tz=r.getD k tz from rfl]
  grind
theorem OS {x:Gt} {a s:Int} {p:List UInt8} (he:x.err=0) (hx:x.bytes=CF a s p) (h:XX a s p):D5 x a=some ⟨a,s,p⟩:=by
 obtain⟨h1,h2,h3,h4⟩:=H8 h;unfold D5
 grind
theorem T_ {a s:Int} {p:List UInt8} {e:Ent} (h:XX a s p) (h8:p.length=8) (h1:e.stamp=s) (h2:((DD p:Nat):Int)=e.sum):DE ⟨0,CF a s p⟩ a e=some p:=by
 unfold DE;rw [OS rfl rfl h]
 grind
theorem SI {g:Geo} {a s:Int} {p:List UInt8} (h:XX a s p):Cy g ⟨0,CF a s p⟩ a s=CT g p:=by
 unfold Cy;rw [OS rfl rfl h]
 grind
def MU (v:Int->List UInt8):Nat->List UInt8
 | 0=>zero8
 | k+1=>GM (MU v k) (v (k:Nat))
structure ZoneV (g:Geo) (a:An) (l:List Tx) (F:Int->List UInt8) (z:Int) (t:List Ent) (v:Int->List UInt8):Prop where
 tab:Fj g (Bk a l) F z=some t
 len:∀ w, -1<=w->w<g.d->(v w).length=8
 ent:∀ w, -1<=w->w<g.d->(t.getD (Et g w).toNat ez).lost=false/\((DD (v w):Nat):Int)=(t.getD (Et g w).toNat ez).sum
 val:∀ w, -1<=w->w<g.d->match CG l z w with
  | some p=>p.1.bytes=v w/\(t.getD (Et g w).toNat ez).stamp=p.2
  | none=>DE ⟨0,F (D3 g a z w)⟩ (D3 g a z w) (t.getD (Et g w).toNat ez)=some (v w)
 par:v (-1)=MU v g.d.toNat
def VolV (g:Geo) (a:An) (l:List Tx) (F:Int->List UInt8) (V:Int->Int->List UInt8):Prop:=∀ z,0<=z->z<g.z->∃ t,ZoneV g a l F z t (V z)
theorem ZoneV.one {g:Geo} {a:An} {l:List Tx} {F:Int->List UInt8} {z:Int} {t:List Ent} {v:Int->List UInt8} (h:ZoneV g a l F z t v) {w:Int} (hw : -1<=w/\w<g.d):G1 g (Bk a l) F t z w=v w:=by
 have:=h.val w hw.1 hw.2;unfold G1;show (match CG l z w with | some p=>p.1.bytes | none=>_)=_;cases hf:CG l z w with
 | some p=>rw [hf] at this;exact this.1
 | none=>
  rw [hf] at this;simp only at this |-
  show (DE ⟨0,F (D3 g a z w)⟩ (D3 g a z w) (t.getD (Et g w).toNat ez)).getD []=_
  grind
theorem XH {n:Int} {F:Int->List UInt8} {q:Int} (h0:0<=q) (h1:q<n):Kz n F q=F q:=if_pos ⟨by omega,h1⟩
theorem fold_zero:∀ k,MU (fun _=>zero8) k=zero8
 | 0=>rfl
 | k+1=>by rw [MU,fold_zero k];rfl
theorem LU (l m:List Img) (z w:Int):∀ k,k<=l.length->Dx (l ++ m) z w k=Dx l z w k
 | 0,_=>rfl
 | k+1,hk=>by
  have e:(l ++ m).getD k iz=l.getD k iz:=by
   grind
  rw [Dx,Dx,e,LU l m z w k (by omega)]
theorem TF (l m:List Img) (z w:Int):∀ k,k<=m.length->Dx (l ++ m) z w (l.length+k)=match Dx m z w k with
  | some i=>some i
  | none=>Dx l z w l.length
 | 0,_=>LU l m z w _ (Ag _)
 | k+1,hk=>by
  have e:(l ++ m).getD (l.length+k) iz=m.getD k iz:=by
   grind
  rw [<-Nat.add_assoc,Dx,Dx,e];split
  ·rfl
  ·exact TF l m z w k (by omega)
theorem IC {l:List Img} {z w:Int} (h:∀ x∈l,x.zone≠z):∀ k,k<=l.length->Dx l z w k=none
 | 0,_=>rfl
 | k+1,hk=>by
  rw [Dx,if_neg (fun q=>h _ (A9 (by omega)) q.1),IC h k (by omega)]
def Vu (z:Int) (ats:List Int) (bs:List (List UInt8)) (w:Int):Option Img:=(E7 ats bs w.toNat ats.length).map fun b=>⟨z,w,b⟩
theorem Nb (z:Int) (ats:List Int) (bs:List (List UInt8)) (m:List Img) {w:Int} (hw:0<=w):∀ k,k<=ats.length->Dx (((List.range ats.length).map fun i=>(⟨z,ats.getD i 0,bs.getD i []⟩:Img)) ++ m) z w k=(E7 ats bs w.toNat k).map fun b=>⟨z,w,b⟩
 | 0,_=>rfl
 | k+1,hk=>by
  have e:(((List.range ats.length).map fun i=>(⟨z,ats.getD i 0,bs.getD i []⟩:Img)) ++ m).getD k iz=⟨z,ats.getD k 0,bs.getD k []⟩:=by
   grind
  rw [Dx,e,E7,Nb z ats bs m hw k (by omega)]
  grind
theorem Jn (z:Int) (t:List Ent) (par:List UInt8) (ats:List Int) (bs:List (List UInt8)) (ha:∀ a∈ats,0<=a/\a<255) (w:Int) (hw:w=255\/(-1<=w/\w<255)):Dx (C3 z t par ats bs) z w (C3 z t par ats bs).length=if w=255 then some ⟨z,255,Dg t⟩ else if w = -1 then some ⟨z, -1,par⟩ else Vu z ats bs w:=by
 have hl:=Hu z t par ats bs;have e1:(C3 z t par ats bs).getD (ats.length+1) iz=⟨z,255,Dg t⟩:=by
  unfold C3
  grind
 have e0:(C3 z t par ats bs).getD ats.length iz=⟨z, -1,par⟩:=by
  unfold C3
  grind
 rw [hl,Dx,Dx,e1,e0];by_cases h1:w=255
 ·grind
 ·rw [if_neg (fun q=>h1 q.2.symm),if_neg h1];by_cases h2:w = -1
  ·grind
  ·rw [if_neg (fun q=>h2 q.2.symm),if_neg h2];exact Nb z ats bs _ (by omega) _ (Ag _)
def S9 (V:Int->Int->List UInt8) (x:Tx) (z w:Int):List UInt8:=match Dx x.images z w x.images.length with
 | some i=>i.bytes
 | none=>V z w
def ZN (g:Geo) (a:An) (l:List Tx) (F:Int->List UInt8) (x:Tx) (z:Int):Prop:=
 (∀ w,Dx x.images z w x.images.length=none)
 \/∃ t ats bs,Fj g (Bk a l) F z=some t/\ats.length=bs.length/\(∀ b∈bs,b.length=8)/\∀ w,w=255\/(-1<=w/\w<g.d)->Dx x.images z w x.images.length=if w=255 then some ⟨z,255,Dg (BK g t (CY g (Bk a l) F t z) ats bs x.seq)⟩ else if w = -1 then some ⟨z, -1,ET g t (CY g (Bk a l) F t z) ats bs g.d.toNat⟩ else Vu z ats bs w
theorem YR {g:Geo} (hg:Bq g=true) {s:Stt} {F:Int->List UInt8} {t:List Ent} {z:Int} {i:Nat} (hi:(i:Int)<g.d):(CY g s F t z).getD i []=G1 g s F t z (i:Nat):=by
 unfold CY T4
 grind
theorem Wv {g:Geo} (hg:Bq g=true) {a:An} {l:List Tx} {x:Tx} (hseq:0<=x.seq/\x.seq<=4294967295) (hl:∀ t∈l,∀ y∈t.images,BV g y=true) {F:Int->List UInt8} {V:Int->Int->List UInt8} (h:VolV g a l F V) (hx:∀ z,0<=z->z<g.z->ZN g a l F x z):VolV g a (l ++ [x]) F (S9 V x):=by
 obtain⟨g1,g2,g3,g4,g5⟩:=Az.1 hg;intro z h0 h1;obtain⟨t,ht⟩:=h z h0 h1;rcases hx z h0 h1 with hn | ⟨t',ats,bs,e1,e2,e3,e4⟩
 ·have hv:∀ w,S9 V x z w=V z w:=fun w=>by unfold S9;rw [hn w]
  have hf:∀ w,CG (l ++ [x]) z w=CG l z w:=fun w=>by rw [IB,hn w]
  have hvz:S9 V x z=V z:=funext hv;refine⟨t,?_,fun w q1 q2=>by rw [hv];exact ht.len w q1 q2,fun w q1 q2=>by rw [hv];exact ht.ent w q1 q2,fun w q1 q2=>?_,by rw [hvz];exact ht.par⟩
  ·have:=ht.tab;unfold Fj Dv at this |-
   show (match CG (l ++ [x]) z 255 with | some p=>_ | none=>match Cy g _ _ (match CG (l ++ [x]) z 255 with | some p=>p.2 | none=>_) with | some t=>some t | none=>Cy g _ _ (match CG (l ++ [x]) z 255 with | some p=>p.2 | none=>_))=_;rw [hf 255];exact this
  ·rw [hf w,hv];exact ht.val w q1 q2
 ·have et:t'=t:=by
   have:=ht.tab
   grind
  subst et;have htok:=KE ht.tab;have htl:=Jb htok;have hhad:∀ i:Nat,(i:Int)<g.d->(CY g (Bk a l) F t' z).getD i []=V z (i:Nat):=fun i hi=>by
   rw [YR hg hi];exact ht.one ⟨by omega,hi⟩
  have hatN:∀ i:Nat,(i:Int)<g.d->(Et g (i:Nat)).toNat=i:=fun i hi=>by unfold Et;rw [if_neg (by omega)];omega
  have hkn:∀ i:Nat,(i:Int)<g.d->FL g t' (CY g (Bk a l) F t' z) i=V z (i:Nat):=fun i hi=>by
   have:=(ht.ent (i:Nat) (by omega) hi).1;rw [hatN i hi] at this;unfold FL;rw [this,if_neg (by decide),hhad i hi,if_pos (by rw [ht.len (i:Nat) (by omega) hi];decide)]
  have hup:∀ i:Nat,(i:Int)<g.d->S9 V x z (i:Nat)=G2 g t' (CY g (Bk a l) F t' z) ats bs i:=fun i hi=>by
   have e:=e4 (i:Nat) (.inr ⟨by omega,hi⟩);rw [if_neg (by omega),if_neg (by omega)] at e;unfold S9 G2;rw [e,Vu,Ab]
   grind
  have hbn:∀ i:Nat,(i:Int)<g.d->(G2 g t' (CY g (Bk a l) F t' z) ats bs i).length=8:=fun i hi=>by
   unfold G2;cases hp:E7 ats bs i ats.length with
   | some b=>exact JG e3 (by omega) _ b (Ag _) hp
   | none=>
    show (FL g t' _ i).length=8;rw [hkn i hi];exact ht.len (i:Nat) (by omega) hi
  have hpar:∀ k:Nat,(k:Int)<=g.d->ET g t' (CY g (Bk a l) F t' z) ats bs k=MU (S9 V x z) k:=by
   intro k;induction k with
   | zero=>intro _;rfl
   | succ k ih=>
    intro hk;rw [ET,if_neg (by rw [hbn k (by omega)];decide),ih (by omega),MU,hup k (by omega)]
  have hpv:S9 V x z (-1)=ET g t' (CY g (Bk a l) F t' z) ats bs g.d.toNat:=by
   have e:=e4 (-1) (.inr ⟨by omega,by omega⟩);rw [if_neg (by omega),if_pos rfl] at e;unfold S9;rw [e]
  have hhb:∀ b∈CY g (Bk a l) F t' z,b.length=0\/b.length=8:=fun b hb=>by
   unfold CY T4 at hb;rcases Ay.1 hb with q | q
   ·obtain⟨i,hi,rfl⟩:=AM.1 q;exact Ja (s:=Bk a l) hl (by have:=AK.1 hi;omega)
   ·rw [A8] at q;subst q;exact Ja (s:=Bk a l) (w:= -1) hl (by decide)
  have hpl:(ET g t' (CY g (Bk a l) F t' z) ats bs g.d.toNat).length=8:=Hn hhb e3 (by omega) _;have hwt:=GT (g:=g) (t:=t') (had:=CY g (Bk a l) F t' z) (ats:=ats) (bs:=bs) hg htok (stamp:=x.seq) hseq;have htab:Fj g (Bk a (l ++ [x])) F z=some (BK g t' (CY g (Bk a l) F t' z) ats bs x.seq):=by
   have e:=e4 255 (.inl rfl);rw [if_pos rfl] at e;unfold Fj;show (match CG (l ++ [x]) z 255 with | some p=>CT g p.1.bytes | none=>_)=_;rw [IB,e];exact Iv hwt
  have hent:∀ i:Nat,(i:Int)<g.d->(BK g t' (CY g (Bk a l) F t' z) ats bs x.seq).getD i ez=match E7 ats bs i ats.length with
    | some b=>⟨x.seq,(DD b:Nat),false⟩
    | none=>t'.getD i ez:=fun i hi=>by
   unfold BK;rw [Ac,AF (by simp;omega),Bc,BL (by omega)];show NZ g t' _ ats bs x.seq i=_;unfold NZ
   grind
  have hentp:(BK g t' (CY g (Bk a l) F t' z) ats bs x.seq).getD (Et g (-1)).toNat ez=⟨x.seq,(DD (S9 V x z (-1)):Nat),false⟩:=by
   rw [show (Et g (-1)).toNat=g.d.toNat by unfold Et;rw [if_pos rfl]];unfold BK
   grind
  refine⟨_,htab,fun w q1 q2=>?_,fun w q1 q2=>?_,fun w q1 q2=>?_,?_⟩
  ·by_cases hw:w = -1
   ·grind
   ·obtain⟨i,rfl⟩:∃ i:Nat,w=(i:Nat):=⟨w.toNat,by omega⟩
    grind
  ·by_cases hw:w = -1
   ·grind
   ·obtain⟨i,rfl⟩:∃ i:Nat,w=(i:Nat):=⟨w.toNat,by omega⟩;rw [hatN i q2,hent i q2,hup i q2];unfold G2;cases hp:E7 ats bs i ats.length with
    | some b=>exact tA
    | none=>
     have:=ht.ent (i:Nat) q1 q2
     grind
  ·rw [IB];have e:=e4 w (.inr ⟨q1,q2⟩);rw [if_neg (by omega)] at e;by_cases hw:w = -1
   ·grind
   ·obtain⟨i,rfl⟩:∃ i:Nat,w=(i:Nat):=⟨w.toNat,by omega⟩;rw [if_neg hw,Vu,Ab] at e;rw [e,hatN i q2,hent i q2,hup i q2];unfold G2;cases hp:E7 ats bs i ats.length with
    | some b=>exact tA
    | none=>
     have:=ht.val (i:Nat) q1 q2
     grind
  ·grind
theorem Zc {g:Geo} (hg:Bq g=true) {a:An} {l:List Tx} {F:Int->List UInt8} {lba:Int} {b:List UInt8} (hlba:0<=lba/\lba<g.z*g.d) (hb:b.length=8) (ht:(Fj g (Bk a l) F (lba.tdiv g.d)).isSome=true):∀ z,0<=z->z<g.z->ZN g a l F (FN g a l F lba b) z:=by
 obtain⟨g1,g2,g3,g4,g5⟩:=Az.1 hg;intro z h0 h1;obtain⟨t,ht⟩:=CA.1 ht;have hm:0<=lba.tmod g.d/\lba.tmod g.d<g.d:=⟨BE _ hlba.1,Bo _ (by omega)⟩;have ei:(FN g a l F lba b).images=C3 (lba.tdiv g.d) (BK g t (CY g (Bk a l) F t (lba.tdiv g.d)) [lba.tmod g.d] [b] (a.seq+(l.length:Int))) (ET g t (CY g (Bk a l) F t (lba.tdiv g.d)) [lba.tmod g.d] [b] g.d.toNat) [lba.tmod g.d] [b]:=by
  show Hs g (Bk a l) F _ lba b=_;unfold Hs;rw [ht]
 by_cases hz:z=lba.tdiv g.d
 ·refine .inr ⟨t, [lba.tmod g.d], [b],by rw [hz];exact ht,rfl,fun x hx=>by rw [A8] at hx;rw [hx];exact hb,fun w hw=>?_⟩;rw [ei,hz];exact Jn _ _ _ _ _ (fun x hx=>by rw [A8] at hx;omega) w (by omega)
 ·refine .inl fun w=>?_
  rw [ei];refine IC (fun y hy=>?_) _ (Ag _);have:y.zone=lba.tdiv g.d:=by
   unfold C3 at hy
   grind
  omega
theorem Zb {g:Geo} (hg:Bq g=true) {a:An} {l:List Tx} {F:Int->List UInt8} {lba:Int} {b:List UInt8} (hlba:0<=lba/\lba<g.z*g.d) (ht:(Fj g (Bk a l) F (lba.tdiv g.d)).isSome=true) (V:Int->Int->List UInt8) {z w:Int} (hw:0<=w/\w<g.d):S9 V (FN g a l F lba b) z w=if z=lba.tdiv g.d/\w=lba.tmod g.d then b else V z w:=by
 obtain⟨g1,g2,g3,g4,g5⟩:=Az.1 hg;obtain⟨t,ht⟩:=CA.1 ht;have hm:0<=lba.tmod g.d/\lba.tmod g.d<g.d:=⟨BE _ hlba.1,Bo _ (by omega)⟩;have ei:(FN g a l F lba b).images=C3 (lba.tdiv g.d) (BK g t (CY g (Bk a l) F t (lba.tdiv g.d)) [lba.tmod g.d] [b] (a.seq+(l.length:Int))) (ET g t (CY g (Bk a l) F t (lba.tdiv g.d)) [lba.tmod g.d] [b] g.d.toNat) [lba.tmod g.d] [b]:=by
  show Hs g (Bk a l) F _ lba b=_;unfold Hs;rw [ht]
 unfold S9;rw [ei];by_cases hz:z=lba.tdiv g.d
 ·rw [hz,Jn _ _ _ _ _ (fun x hx=>by rw [A8] at hx;omega) w (by omega),if_neg (by omega),if_neg (by omega)];have ep:Vu (lba.tdiv g.d) [lba.tmod g.d] [b] w=if lba.tmod g.d=((w.toNat:Nat):Int) then some ⟨lba.tdiv g.d,w,b⟩ else none:=by
   show ((if lba.tmod g.d=((w.toNat:Nat):Int) then some b else none:Option (List UInt8)).map fun b=>(⟨lba.tdiv g.d,w,b⟩:Img))=_
   grind
  grind
 ·rw [if_neg (fun q=>hz q.1),IC (fun y hy=>?_) _ (Ag _)];have:y.zone=lba.tdiv g.d:=by
   unfold C3 at hy
   grind
  omega
theorem RK {g:Geo} {b:List UInt8} {t:List Ent} (h:CT g b=some t):t.length=(g.d+1).toNat:=by
 unfold CT at h;split at h
 ·rw [<-Option.some.inj h,entsOf_len]
 ·cases h
theorem OJ {g:Geo} {x:Gt} {q r:Int} {t:List Ent} (h:Cy g x q r=some t):t.length=(g.d+1).toNat:=by
 rw [K_] at h;split at h
 ·exact RK h
 ·cases h
theorem Uv {g:Geo} (hg:Bq g=true) {s:Stt} {F:Int->List UInt8} {z:Int} {t:List Ent} (h:Fj g s F z=some t):(t.length:Int)=g.d+1:=by
 have g5:=Az.1 hg;have:t.length=(g.d+1).toNat:=by
  unfold Fj at h;split at h
  ·exact RK h
  ·split at h
   ·rename_i q;rw [<-Option.some.inj h];exact OJ q
   ·exact OJ h
 omega
theorem VS (g:Geo) (s:Stt) (d:Dk) (F:Int->List UInt8) (z w:Int) (t:List Ent) (hg:Bq g=true) (ha:B4 g s.a=true) (h:Gd (A4 g) d F) (hF:∀ a,(F a).length<=100000) (hz:0<=z/\z<g.z) (hw : -1<=w/\w<g.d) (ht:(t.length:Int)=g.d+1) :
  ACalls Tryz.prog false 91 [.bp 0 0,iv z,iv w, .ag [BW t]] (GB g s d) fun r H=>r = .tp [bA ((DE ⟨0,F (D3 g s.a z w)⟩ (D3 g s.a z w) (t.getD (Et g w).toNat ez)).getD []),iv 0]/\∃ d',Gd (A4 g) d' F/\H=GB g s d':=by
 have hadr:=Pl g s.a z w hg ha hz hw;obtain⟨sl,e1,e2⟩:=Mn hg ha hz (w:=w) hw;have hsl:=KF hg hz e2;have hat:0<=Et g w/\Et g w<=g.d:=by have:=Az.1 hg;unfold Et;split <;> omega
 have hci:=Nk g w;obtain⟨X,hX⟩:∃ X,X=D3 g s.a z w:=⟨_,rfl⟩;rw [<-hX] at hadr e1 |-
 have hcb:=Gh hg;have hrd:=Sd g s d F X h (by have:=Az.1 hg;omega);have heb:=Nh ⟨0,F X⟩ X (t.getD (Et g w).toNat ez) (hF _);have ixA:0<=Et g w/\Et g w<(t.length:Nat):=by omega
 refine zV tys_ok Tryz.func91 rfl rfl (Ae rfl) ?_;conv=>whnf
 apply zJ tys_ok mixed (.o [0,1,2,3,4,5,6,7,8,9,10,11,12,13,14,15,16] .fin) [10,11,15,16,17,18,19,20,21,22,23,24,25,26,27,28,29] (by kernel_rfl)
 ·conv=>whnf
  refine zZ hadr ?_;exact tA
 conv=>whnf
 refine ze9 [0,1,2,3] hrd ?_;rintro _ _ ⟨rfl,d2,hd2,rfl⟩;conv=>whnf
 repeat' (refine z_ ?_;conv=>whnf)
 apply zJ tys_ok mixed (.o [0,1,2,3,4,5,6,7,8,9,10,11,12,13,14,15,16,17] .fin) [13,14,36,37,38,39,40,41,42,43,44,45,46,47,48,49,50,51] (by kernel_rfl)
 ·conv=>whnf
  refine zZ hci ?_;conv=>whnf
  try (refine Ah (by first | omega | exact ixA | exact ixB | (simp;done)) ?_;conv=>whnf)
  refine zZ heb ?_;exact tA
 conv=>whnf
 obtain⟨B,hBe⟩:∃ B,B=(DE ⟨0,F X⟩ X (t.getD (Et g w).toNat ez)).getD []:=⟨_,rfl⟩;rw [<-hBe];exact⟨.tp [bA B,iv 0], .tp [bA B,iv 0],GB g s d2,fun _ _ h=>h,zQ (s:= [0,1,2,3]) tA,rfl,d2,hd2,rfl⟩
theorem P_ (g:Geo) (a:An) (l:List Tx) (d:Dk) (F:Int->List UInt8) (lba:Int) (t:List Ent) (v:Int->List UInt8) (hg:Bq g=true) (hl:LogB l) (ha:B4 g a=true) (h:Gd (A4 g) d F) (hF:∀ a,(F a).length<=100000) (hb:0<=lba/\lba<g.z*g.d) (hB:∀ p,CG l (lba.tdiv g.d) 255=some p->p.1.bytes.length<=100000) (hv:ZoneV g a l F (lba.tdiv g.d) t v) :
  ACalls Tryz.prog false 40 [.bp 0 0,iv lba] (GB g (Bk a l) d) fun r H=>r = .tp [bA (v (lba.tmod g.d)),iv 0]/\∃ d',Gd (A4 g) d' F/\H=GB g (Bk a l) d':=by
 have g5:=Az.1 hg;have h1:=JT g lba hg hb;have hz:0<=lba.tdiv g.d/\lba.tdiv g.d<g.z:=by
  rw [Bp hb.1];exact⟨Dh hb.1 (by omega),Df (by omega) hb.2⟩
 have hA:0<=lba.tmod g.d/\lba.tmod g.d<g.d:=⟨BE _ hb.1,Bo _ (by omega)⟩;obtain⟨Z,hZ⟩:∃ Z,Z=lba.tdiv g.d:=⟨_,rfl⟩;obtain⟨A,hAe⟩:∃ A,A=lba.tmod g.d:=⟨_,rfl⟩;rw [<-hZ] at h1 hz hB hv;rw [<-hAe] at h1 hA |-
 have ht:=Uv hg hv.tab;have h2:=XE g (Bk a l) d F Z hg hl ha h hF hz hB t hv.tab;have h3:=MM l Z A hl.n hl.i;have hat:Et g A=A:=by unfold Et;rw [if_neg (by omega)]
 have hE:=hv.ent A (by omega) hA.2;have hV:=hv.val A (by omega) hA.2;have hLn:=hv.len A (by omega) hA.2;rw [hat] at hE hV;have ixA:0<=A/\A<(t.length:Nat):=by omega
 cases hL:CG l Z A with
 | some p=>
  rw [hL] at h3 hV;simp only at h3 hV;rw [hV.1] at h3;refine zV tys_ok Tryz.func40 rfl rfl (Ae rfl) ?_;conv=>whnf
  refine zZ h1 ?_;conv=>whnf
  refine ze9 [0,1,2,3] h2 ?_;rintro _ _ ⟨rfl,d2,hd2,rfl⟩;conv=>whnf
  repeat' (refine z_ ?_;conv=>whnf)
  refine⟨ixA,?_⟩;conv=>whnf
  rw [show (t.getD A.toNat ⟨0,0,false⟩).lost=false from hE.1];conv=>whnf
  refine zZ h3 ?_;exact⟨.tp [bA (v A),iv 0], .tp [bA (v A),iv 0],GB g (Bk a l) d2,fun _ _ h=>h,zQ (s:= [0,1,2,3]) tA,rfl,d2,hd2,rfl⟩
 | none=>
  rw [hL] at h3 hV;simp only at h3 hV;refine zV tys_ok Tryz.func40 rfl rfl (Ae rfl) ?_;conv=>whnf
  refine zZ h1 ?_;conv=>whnf
  refine ze9 [0,1,2,3] h2 ?_;rintro _ _ ⟨rfl,d2,hd2,rfl⟩;have h4:=VS g (Bk a l) d2 F Z A t hg ha hd2 hF hz (by omega) ht;rw [hat] at h4;change ACalls Tryz.prog false 91 [.bp 0 0,iv Z,iv A, .ag [BW t]] (GB g (Bk a l) d2) (fun r H=>r = .tp [bA ((DE ⟨0,F (D3 g a Z A)⟩ (D3 g a Z A) (t.getD A.toNat ez)).getD []),iv 0]/\∃ d',Gd (A4 g) d' F/\H=GB g (Bk a l) d') at h4;rw [hV] at h4;replace h4:ACalls Tryz.prog false 91 [.bp 0 0,iv Z,iv A, .ag [BW t]] (GB g (Bk a l) d2) (fun r H=>r = .tp [bA (v A),iv 0]/\∃ d',Gd (A4 g) d' F/\H=GB g (Bk a l) d'):=h4;conv=>whnf
  repeat' (refine z_ ?_;conv=>whnf)
  refine⟨ixA,?_⟩;conv=>whnf
  rw [show (t.getD A.toNat ⟨0,0,false⟩).lost=false from hE.1];conv=>whnf
  refine zZ h3 ?_;conv=>whnf
  refine ze9 [0,1,2,3] h4 ?_;rintro _ _ ⟨rfl,d3,hd3,rfl⟩;conv=>whnf
  rw [show decide (((v A).length:Int) > 0)=true from decide_eq_true (by omega)];exact⟨.tp [bA (v A),iv 0], .tp [bA (v A),iv 0],GB g (Bk a l) d3,fun _ _ h=>h,zQ (s:= [0,1,2,3]) tA,rfl,d3,hd3,rfl⟩
def Ye (g:Geo) (i:Nat):Int:=if (i:Int)=g.d then -1 else (i:Nat)
def T8 (g:Geo) (s:Stt) (F:Int->List UInt8) (t:List Ent) (z:Int) (k:Nat):List (List UInt8):=(List.range k).map fun i=>G1 g s F t z (Ye g i)
theorem X8 {g:Geo} (hg:Bq g=true) (s:Stt) (F:Int->List UInt8) (t:List Ent) (z:Int):T8 g s F t z (g.d.toNat+1)=CY g s F t z:=by
 obtain⟨g1,g2,g3,g4,g5⟩:=Az.1 hg;unfold T8 CY T4;rw [BD,A2,A6,By,show Ye g g.d.toNat = -1 by unfold Ye;rw [if_pos (by omega)]];congr 1;refine Du fun i hi=>?_
 have:=AK.1 hi;unfold Ye;rw [if_neg (by omega)]
theorem X7 (g:Geo) (s:Stt) (d:Dk) (a:Int) (h:DkOk d) (ha:0<=a/\a<d.cells.length) :
  ACalls Tryz.prog false 162 [.bp 0 0,iv a] (GL g s d) fun r H=>r = .ag (DZ ⟨(d.read a).2.2,(d.read a).2.1⟩)/\H=GL g s (d.read a).1:=by
 have hr:=PR Bu d a h.l ha h.m (fun c hc=>by have:=(h.c c hc).2.1;omega) (fun w hw=>by have:=(h.w w hw).2;omega);refine zV tys_ok Tryz.func162 rfl rfl (Ae rfl) ?_;conv=>whnf
 refine ze9 [1,2,3] hr ?_;rintro _ _ ⟨rfl,rfl⟩;exact⟨_, .ag (DZ ⟨(d.read a).2.2,(d.read a).2.1⟩),GL g s (d.read a).1,fun _ _ h=>h,zQ (s:= [0,1,2,3,4]) tA,rfl,rfl⟩
theorem PZ (g:Geo) (s:Stt) (d:Dk) (a:Int) (b:List UInt8) (h:DkOk d) (ha:0<=a/\a<d.cells.length) (hb:b.length<=200) :
  ACalls Tryz.prog false 149 [.bp 0 0,iv a,bA b] (GL g s d) fun r H=>r = .tp [.v (.bool (decide ((d.write a b).2=0))),iv (if (d.write a b).2=8 then 8 else 0)]/\H=GL g s (d.write a b).1:=by
 have hr:=Ni Bu d a b h.l ha h.m (by omega);have he:(d.write a b).2=8\/(d.write a b).2=7\/(d.write a b).2=0:=by
  unfold Dk.write;split
  ·exact .inl rfl
  ·split
   ·exact .inr (.inl rfl)
   ·exact .inr (.inr rfl)
 generalize d.write a b=q at hr he |-
 obtain⟨d',e⟩:=q;simp only at hr he |-
 refine zV tys_ok Tryz.func149 rfl rfl (Ae rfl) ?_;conv=>whnf
 refine ze9 [1,2,3] hr ?_;rintro _ _ ⟨rfl,rfl⟩;rcases he with rfl | rfl | rfl
 all_goals
  exact⟨_,_,GL g s d',fun _ _ h=>h,zQ (s:= [0,1,2,3,4]) tA,rfl,rfl⟩
theorem PD (g:Geo) (s:Stt) (d:Dk) (F:Int->List UInt8) (a:Int) (h:Gd (A4 g) d F) (ha:0<=a/\a<A4 g) :
  ACalls Tryz.prog false 162 [.bp 0 0,iv a] (GL g s d) fun r H=>r = .ag (DZ ⟨0,F a⟩)/\∃ d',Gd (A4 g) d' F/\H=GL g s d':=by
 have hr:=X7 g s d a h.ok (by rw [h.len];exact ha);rw [h.read ha.1 ha.2] at hr;exact hr.mono fun r H hh=>⟨hh.1,d.req,h.req,hh.2⟩
theorem VR (g:Geo) (s:Stt) (d:Dk) (F:Int->List UInt8) (z:Int) (hg:Bq g=true) (hl:LogB s.txns) (ha:B4 g s.a=true) (h:Gd (A4 g) d F) (hF:∀ a,(F a).length<=100000) (hz:0<=z/\z<g.z) (hB:∀ p,CG s.txns z 255=some p->p.1.bytes.length<=100000) (t:List Ent) (ht:Fj g s F z=some t) :
    ACalls Tryz.prog false 89 [.bp 0 0,iv z] (GL g s d) fun r H=>r = .tp [.ag [BW t],iv 0]/\∃ d',Gd (A4 g) d' F/\H=GL g s d':=by
  have hf:=JI s.txns z 255 hl.n hl.i;unfold Fj at ht;cases hL:CG s.txns z 255 with
  | some p=>
    obtain⟨x,q⟩:=p;rw [hL] at hf ht;simp only at hf ht;have hr:=IN g x.bytes (hB _ hL);rw [hg,if_pos rfl,ht] at hr;refine zV tys_ok Tryz.func89 rfl rfl (Ae rfl) ?_;conv=>whnf
    refine ze9 [4] hf ?_;rintro _ _ ⟨rfl,rfl⟩;conv=>whnf
    refine zZ hr ?_;exact⟨.tp [.ag [BW t],iv 0], .tp [.ag [BW t],iv 0],GL g s d,fun _ _ h=>h,zQ (s:= [0,1,2,3,4]) tA,rfl,d,h,rfl⟩
  | none=>
    rw [hL] at hf ht;simp only at hf ht;have hR:=Po s.a s.txns z (by have:=(Sa ha hz).1;omega) hl.n (fun t ht=>(hl.i t ht).1);refine zV tys_ok Tryz.func89 rfl rfl (Ae rfl) ?_;conv=>whnf
    refine ze9 [4] hf ?_;rintro _ _ ⟨rfl,rfl⟩;conv=>whnf
    apply zJ tys_ok mixed (.o [0,1,2,3,4,5,6,7,8,9,10,11,12,13,14,15,16] .fin) [11,12,41,42,43,44,45,46,47,48,49,50,51,52,53,54,55] (by kernel_rfl)
    · conv=>whnf
      (refine zk (args':= [.ag (Fh s.a), .sl 4 s.txns.length fun i=>(s.txns.map Ii).getD i [],iv z]) (hR.subA ⟨fun _ _ h=>h,Ck (f:=Ii) s.txns rfl rfl,fun _ _ h=>h,tv⟩) ⟨(Aa _).symm,rfl⟩ ?_;rintro _ rfl;refine⟨rfl,?_⟩)
      exact tA
    conv=>whnf
    have htab:∀ k:Nat,k<2->g.an+2*g.sl<=Be g z (k:Nat)/\Be g z (k:Nat)<A4 g:=fun k hk=>by have:=Qx hg hz (k:=(k:Nat)) (by omega);omega
    refine zS (Nat × Dk) (fun x=>([(0, .bp 0 0),(1,iv z),(4, .bp 5 0),(11,iv (Dv s.a s.txns z)),(56,iv (x.1:Nat))],GL g s x.2 ++ ([.box 145 [.v (.slice none 0 0)]]:List AB))) (fun x=>x.1<=2/\Gd (A4 g) x.2 F/\∀ j:Nat,j<x.1->Cy g ⟨0,F (Be g z (j:Nat))⟩ (Be g z (j:Nat)) (Dv s.a s.txns z)=none) (fun x=>2 - x.1) (0,d) ⟨Ak _,h,fun j hj=>absurd hj (Ap j)⟩
      (zQ (s:= [0,1,2,3,4,5]) tA) ?_
    rintro⟨k,d1⟩ ⟨hk,hd1,hno⟩;simp only at hk hd1 hno;conv=>whnf
    refine AJ (fun h6=>?_) (fun h6=>?_) <;> (repeat rw [Ab] at h6) <;> conv=>whnf
    · have hk2:k<2:=by omega
      have hta:=JS g z (k:Nat) hg hz (by omega);obtain⟨q1,q2⟩:=htab k hk2;have hz2:=Az.1 hg;have hrd:=PD g s d1 F (Be g z (k:Nat)) hd1 (by omega);have hto:=Nf g ⟨0,F (Be g z (k:Nat))⟩ (Be g z (k:Nat)) (Dv s.a s.txns z) hg (hF _);repeat' (refine z_ ?_;conv=>whnf)
      refine zZ hta ?_;conv=>whnf
      repeat' (refine z_ ?_;conv=>whnf)
      refine ze9 [0,1,2,3,4] hrd ?_;rintro _ _ ⟨rfl,d2,hd2,rfl⟩;conv=>whnf
      repeat' (refine z_ ?_;conv=>whnf)
      have hGk:∀ u,Cy g ⟨0,F (Be g z (k:Nat))⟩ (Be g z (k:Nat)) (Dv s.a s.txns z)=some u->u=t:=fun u hu=>by
        match k,hk2 with
        | 0,_=>
          have hu:Cy g ⟨0,F (Be g z 0)⟩ (Be g z 0) (Dv s.a s.txns z)=some u:=hu;rw [hu] at ht;exact Option.some.inj ht
        | 1,_=>
          have h0:Cy g ⟨0,F (Be g z 0)⟩ (Be g z 0) (Dv s.a s.txns z)=none:=hno 0 (by decide);have hu:Cy g ⟨0,F (Be g z 1)⟩ (Be g z 1) (Dv s.a s.txns z)=some u:=hu;rw [h0] at ht;simp only at ht;exact Option.some.inj (hu.symm.trans ht)
      apply zX (0) tys_ok mixed (.o [0,1,2,3,4,5,6] (.two 7 (.o [8,9,10,11,12,13] .fin) 11 (.o [7,8,9,10,12,13] .fin))) (by kernel_rfl);refine Ah ?_ ?_;conv=>whnf
      refine zZ hto ?_;conv=>whnf
      try (refine tS ?_;conv=>whnf)
      rotate_left 1;conv=>whnf
      refine zZ hto ?_;conv=>whnf
      try (refine tS ?_;conv=>whnf)
      rotate_left 1;all_goals
        cases hT:Cy g ⟨0,F (Be g z (k:Nat))⟩ (Be g z (k:Nat)) (Dv s.a s.txns z)
      all_goals
        conv=>whnf
        first
        | exact⟨(k+1,d2),⟨by show k+1<=2;omega,hd2,fun j hj=>by by_cases e:j=k;exact e ▸ hT;exact hno j (by have:j<k+1:=hj;omega)⟩,by show 2 - (k+1)<2 - k;omega,zQ (s:= [0,1,2,3,4,5]) ⟨⟨rfl,rfl,rfl,rfl,AN (by omega),tv⟩,tA,rfl,rfl,rfl,rfl,rfl⟩⟩
        | (rename_i u
           have e:=hGk _ hT;subst e;exact⟨.tp [.ag [BW u],iv 0], .tp [.ag [BW u],iv 0],GL g s d2,fun _ _ h=>h,zQ (s:= [0,1,2,3,4]) tA,rfl,d2,hd2,rfl⟩)
    · have ek:k=2:=by omega
      subst ek;have h0:Cy g ⟨0,F (Be g z 0)⟩ (Be g z 0) (Dv s.a s.txns z)=none:=hno 0 (by decide);have h1:Cy g ⟨0,F (Be g z 1)⟩ (Be g z 1) (Dv s.a s.txns z)=none:=hno 1 (by decide);rw [h0] at ht;simp only at ht;rw [h1] at ht;cases ht
theorem Nl (g:Geo) (s:Stt) (d:Dk) (F:Int->List UInt8) (z w:Int) (t:List Ent) (hg:Bq g=true) (ha:B4 g s.a=true) (h:Gd (A4 g) d F) (hF:∀ a,(F a).length<=100000) (hz:0<=z/\z<g.z) (hw : -1<=w/\w<g.d) (ht:(t.length:Int)=g.d+1) :
  ACalls Tryz.prog false 91 [.bp 0 0,iv z,iv w, .ag [BW t]] (GL g s d) fun r H=>r = .tp [bA ((DE ⟨0,F (D3 g s.a z w)⟩ (D3 g s.a z w) (t.getD (Et g w).toNat ez)).getD []),iv 0]/\∃ d',Gd (A4 g) d' F/\H=GL g s d':=by
 have hadr:=Pl g s.a z w hg ha hz hw;obtain⟨sl,e1,e2⟩:=Mn hg ha hz (w:=w) hw;have hsl:=KF hg hz e2;have hat:0<=Et g w/\Et g w<=g.d:=by have:=Az.1 hg;unfold Et;split <;> omega
 have hci:=Nk g w;obtain⟨X,hX⟩:∃ X,X=D3 g s.a z w:=⟨_,rfl⟩;rw [<-hX] at hadr e1 |-
 have hcb:=Gh hg;have hrd:=PD g s d F X h (by have:=Az.1 hg;omega);have heb:=Nh ⟨0,F X⟩ X (t.getD (Et g w).toNat ez) (hF _);have ixA:0<=Et g w/\Et g w<(t.length:Nat):=by omega
 refine zV tys_ok Tryz.func91 rfl rfl (Ae rfl) ?_;conv=>whnf
 apply zJ tys_ok mixed (.o [0,1,2,3,4,5,6,7,8,9,10,11,12,13,14,15,16] .fin) [10,11,15,16,17,18,19,20,21,22,23,24,25,26,27,28,29] (by kernel_rfl)
 ·conv=>whnf
  refine zZ hadr ?_;exact tA
 conv=>whnf
 refine ze9 [0,1,2,3,4] hrd ?_;rintro _ _ ⟨rfl,d2,hd2,rfl⟩;conv=>whnf
 repeat' (refine z_ ?_;conv=>whnf)
 apply zJ tys_ok mixed (.o [0,1,2,3,4,5,6,7,8,9,10,11,12,13,14,15,16,17] .fin) [13,14,36,37,38,39,40,41,42,43,44,45,46,47,48,49,50,51] (by kernel_rfl)
 ·conv=>whnf
  refine zZ hci ?_;conv=>whnf
  try (refine Ah (by first | omega | exact ixA | exact ixB | (simp;done)) ?_;conv=>whnf)
  refine zZ heb ?_;exact tA
 conv=>whnf
 obtain⟨B,hBe⟩:∃ B,B=(DE ⟨0,F X⟩ X (t.getD (Et g w).toNat ez)).getD []:=⟨_,rfl⟩;rw [<-hBe];exact⟨.tp [bA B,iv 0], .tp [bA B,iv 0],GL g s d2,fun _ _ h=>h,zQ (s:= [0,1,2,3,4]) tA,rfl,d2,hd2,rfl⟩
theorem PX (g:Geo) (s:Stt) (d:Dk) (F:Int->List UInt8) (z:Int) (hg:Bq g=true) (hl:LogB s.txns) (ha:B4 g s.a=true) (h:Gd (A4 g) d F) (hF:∀ a,(F a).length<=100000) (hz:0<=z/\z<g.z) (hB:∀ p,CG s.txns z 255=some p->p.1.bytes.length<=100000) (t:List Ent) (ht:Fj g s F z=some t) :
  ACalls Tryz.prog false 92 [.bp 0 0,iv z] (GL g s d) fun r H=>r = .tp [.ag [BW t],GS (CY g s F t z),iv 0]/\∃ d',Gd (A4 g) d' F/\H=GL g s d':=by
 obtain⟨g1,g2,g3,g4,g5⟩:=Az.1 hg;have hT:=VR g s d F z hg hl ha h hF hz hB t ht;have htn:=Uv hg ht;have hd1:IntKind.i64.wrap (g.d+1)=g.d+1:=wi (by omega);refine zV tys_ok Tryz.func92 rfl rfl (Ae rfl) ?_;conv=>whnf
 refine ze9 [0,1,2,3,4] hT ?_;rintro _ _ ⟨rfl,d2,hd2,rfl⟩;conv=>whnf
 rw [hd1];refine zS (Nat × Dk) (fun x=>([(0, .bp 0 0),(1,iv z),(4, .bp 5 0),(5, .ow 6 x.1),(27,iv (g.d+1)),(28,iv (x.1:Nat))],GL g s x.2 ++ ([.box 145 [BW t], .row 22 1 ((T8 g s F t z x.1).map Mr)]:List AB))) (fun x=>(x.1:Int)<=g.d+1/\Gd (A4 g) x.2 F) (fun x=>g.d.toNat+1 - x.1) (0,d2) ⟨by show ((0:Nat):Int)<=g.d+1;omega,hd2⟩
  ⟨_,_,zq _ _, [(5,22,1)],tA, [0,1,2,3,4,5,6],tA,tA,rfl,rfl,rfl,rfl,rfl⟩ ?_
 rintro⟨k,d1⟩ ⟨hk,hd1⟩;simp only at hk hd1;by_cases hkn:(k:Int)<g.d+1;rotate_left 1
 ·have ek:k=g.d.toNat+1:=by omega
  conv=>whnf
  rw [show decide ((k:Int)<g.d+1)=false from decide_eq_false hkn];conv=>whnf
  repeat' (refine z_ ?_;conv=>whnf)
  have hlen:(CY g s F t z).length=g.d.toNat+1:=by simp [CY,T4]
  subst ek;exact⟨.tp [.ag [BW t], .ow 6 (CY g s F t z).length,iv 0], .tp [.ag [BW t],GS (CY g s F t z),iv 0],GL g s d1,Cc (m:= [.ag [BW t], .ow 6 (CY g s F t z).length,iv 0]) ⟨ri,by rw [hlen];exact fun _ _ h=>h,ri,tv⟩,zI (zN (ConvF.sealTp 0 6 (es:=(CY g s F t z).map Mr) (by rw [Aa];try rfl) (congrArg (fun L=>some (AB.row 22 1 (List.map Mr L))) (X8 hg s F t z))) (zA 0 rfl (Cc (m:= [.ag [BW t],GS (CY g s F t z),iv 0]) ⟨ri,FO (Aa _) rfl,ri,tv⟩))) (s:= [0,1,2,3,4]) tA,rfl,d1,hd1,rfl⟩
 ·conv=>whnf
  rw [show decide ((k:Int)<g.d+1)=true from decide_eq_true hkn];conv=>whnf
  repeat' (refine z_ ?_;conv=>whnf)
  by_cases hkd:(k:Int)=g.d
  ·rw [show (((k:Nat):Int) == g.d)=true by rw [hkd];simp];have e1:Ye g k=(-1):=by unfold Ye;first | rw [if_pos hkd] | rw [if_neg hkd]
   have e2:(T8 g s F t z k).map Mr ++ [Mr (G1 g s F t z (-1))]=(T8 g s F t z (k+1)).map Mr:=by rw [<-e1];simp [T8,BD]
   have hf:=JI s.txns z (-1) hl.n hl.i;have hlk:(T8 g s F t z k).length=k:=by simp [T8]
   cases hL:CG s.txns z (-1) with
   | some p=>
    rw [hL] at hf;simp only at hf;have e3:G1 g s F t z (-1)=p.1.bytes:=by unfold G1;rw [hL]
    rw [e3] at e2;conv=>whnf
    repeat' (refine z_ ?_;conv=>whnf)
    refine ze9 [4] hf ?_;rintro _ _ ⟨rfl,rfl⟩;conv=>whnf
    repeat' (refine z_ ?_;conv=>whnf)
    refine⟨rfl,?_⟩;refine⟨⟨by rw [Aa,hlk],by omega⟩,?_⟩;conv=>whnf
    exact⟨(k+1,d1),⟨by show ((k+1:Nat):Int)<=g.d+1;omega,hd1⟩,by show g.d.toNat+1 - (k+1)<g.d.toNat+1 - k;omega,zQ (s:= [0,1,2,3,4,5,6]) ⟨⟨rfl,rfl,rfl,rfl,rfl,AN (by omega),tv⟩,⟨rfl,rfl,rfl,rfl,rfl,rfl,congrArg (fun es=>some (AB.row 22 1 es)) e2,tv⟩,rfl,rfl,rfl,rfl,rfl⟩⟩
   | none=>
    rw [hL] at hf;simp only at hf;have e3:G1 g s F t z (-1)=(DE ⟨0,F (D3 g s.a z (-1))⟩ (D3 g s.a z (-1)) (t.getD (Et g (-1)).toNat ez)).getD []:=by unfold G1;rw [hL]
    have hh:=Nl g s d1 F z (-1) t hg ha hd1 hF hz (by omega) htn;rw [<-e3] at hh;conv=>whnf
    repeat' (refine z_ ?_;conv=>whnf)
    refine ze9 [4] hf ?_;rintro _ _ ⟨rfl,rfl⟩;conv=>whnf
    repeat' (refine z_ ?_;conv=>whnf)
    refine ze9 [0,1,2,3,4] hh ?_;rintro _ _ ⟨rfl,d3,hd3,rfl⟩;conv=>whnf
    repeat' (refine z_ ?_;conv=>whnf)
    refine⟨rfl,?_⟩;refine⟨⟨by rw [Aa,hlk],by omega⟩,?_⟩;conv=>whnf
    exact⟨(k+1,d3),⟨by show ((k+1:Nat):Int)<=g.d+1;omega,hd3⟩,by show g.d.toNat+1 - (k+1)<g.d.toNat+1 - k;omega,zQ (s:= [0,1,2,3,4,5,6]) ⟨⟨rfl,rfl,rfl,rfl,rfl,AN (by omega),tv⟩,⟨rfl,rfl,rfl,rfl,rfl,rfl,congrArg (fun es=>some (AB.row 22 1 es)) e2,tv⟩,rfl,rfl,rfl,rfl,rfl⟩⟩
  ·rw [show (((k:Nat):Int) == g.d)=false from beq_eq_false_iff_ne.2 hkd];have e1:Ye g k=((k:Nat):Int):=by unfold Ye;first | rw [if_pos hkd] | rw [if_neg hkd]
   have e2:(T8 g s F t z k).map Mr ++ [Mr (G1 g s F t z ((k:Nat):Int))]=(T8 g s F t z (k+1)).map Mr:=by rw [<-e1];simp [T8,BD]
   have hf:=JI s.txns z ((k:Nat):Int) hl.n hl.i;have hlk:(T8 g s F t z k).length=k:=by simp [T8]
   cases hL:CG s.txns z ((k:Nat):Int) with
   | some p=>
    rw [hL] at hf;simp only at hf;have e3:G1 g s F t z ((k:Nat):Int)=p.1.bytes:=by unfold G1;rw [hL]
    rw [e3] at e2;conv=>whnf
    repeat' (refine z_ ?_;conv=>whnf)
    refine ze9 [4] hf ?_;rintro _ _ ⟨rfl,rfl⟩;conv=>whnf
    repeat' (refine z_ ?_;conv=>whnf)
    refine⟨rfl,?_⟩;refine⟨⟨by rw [Aa,hlk],by omega⟩,?_⟩;conv=>whnf
    exact⟨(k+1,d1),⟨by show ((k+1:Nat):Int)<=g.d+1;omega,hd1⟩,by show g.d.toNat+1 - (k+1)<g.d.toNat+1 - k;omega,zQ (s:= [0,1,2,3,4,5,6]) ⟨⟨rfl,rfl,rfl,rfl,rfl,AN (by omega),tv⟩,⟨rfl,rfl,rfl,rfl,rfl,rfl,congrArg (fun es=>some (AB.row 22 1 es)) e2,tv⟩,rfl,rfl,rfl,rfl,rfl⟩⟩
   | none=>
    rw [hL] at hf;simp only at hf;have e3:G1 g s F t z ((k:Nat):Int)=(DE ⟨0,F (D3 g s.a z ((k:Nat):Int))⟩ (D3 g s.a z ((k:Nat):Int)) (t.getD (Et g ((k:Nat):Int)).toNat ez)).getD []:=by unfold G1;rw [hL]
    have hh:=Nl g s d1 F z ((k:Nat):Int) t hg ha hd1 hF hz (by omega) htn;rw [<-e3] at hh;conv=>whnf
    repeat' (refine z_ ?_;conv=>whnf)
    refine ze9 [4] hf ?_;rintro _ _ ⟨rfl,rfl⟩;conv=>whnf
    repeat' (refine z_ ?_;conv=>whnf)
    refine ze9 [0,1,2,3,4] hh ?_;rintro _ _ ⟨rfl,d3,hd3,rfl⟩;conv=>whnf
    repeat' (refine z_ ?_;conv=>whnf)
    refine⟨rfl,?_⟩;refine⟨⟨by rw [Aa,hlk],by omega⟩,?_⟩;conv=>whnf
    exact⟨(k+1,d3),⟨by show ((k+1:Nat):Int)<=g.d+1;omega,hd3⟩,by show g.d.toNat+1 - (k+1)<g.d.toNat+1 - k;omega,zQ (s:= [0,1,2,3,4,5,6]) ⟨⟨rfl,rfl,rfl,rfl,rfl,AN (by omega),tv⟩,⟨rfl,rfl,rfl,rfl,rfl,rfl,congrArg (fun es=>some (AB.row 22 1 es)) e2,tv⟩,rfl,rfl,rfl,rfl,rfl⟩⟩
theorem VV (g:Geo) (s:Stt) (d:Dk) (x:Rc) (Q:Int) (hg:Bq g=true) (hx:EE g x=true) (hxl:x.img.bytes.length<=100000) (hQ:0<=Q/\Q<g.sl) (h:DkOk d) (hn:(d.cells.length:Int)=A4 g) (h1:(d.write (A_ g 0 Q) (B3 g x 0 Q)).2≠8) (h2:((d.write (A_ g 0 Q) (B3 g x 0 Q)).1.write (A_ g 1 Q) (B3 g x 1 Q)).2≠8) :
  ACalls Tryz.prog false 76 [.bp 0 0, .ag (Hi x),iv Q] (GL g s d) fun r H=>r = .tp [.v (.bool (decide ((d.write (A_ g 0 Q) (B3 g x 0 Q)).2=0) || decide (((d.write (A_ g 0 Q) (B3 g x 0 Q)).1.write (A_ g 1 Q) (B3 g x 1 Q)).2=0))),iv 0]/\H=GL g s ((d.write (A_ g 0 Q) (B3 g x 0 Q)).1.write (A_ g 1 Q) (B3 g x 1 Q)).1:=by
 have q0:=Lq (g:=g) (.inl rfl) hQ (c:=0);have q1:=Lq (g:=g) (.inr rfl) hQ (c:=1);have l0:=Lz g 0 Q;have l1:=Lz g 1 Q;have r0:=Ll g x 0 Q hxl;have r1:=Ll g x 1 Q hxl;rw [hg,q0] at l0;rw [hg,q1] at l1;rw [hx,q0] at r0;rw [hx,q1] at r1;have b0:=Ez hg hn (.inl rfl) hQ (c:=0);have b1:=Ez hg hn (.inr rfl) hQ (c:=1);have c0:=PZ g s d (A_ g 0 Q) (B3 g x 0 Q) h (by omega) (Cd hx 0 Q);have hok:=h.write (a:=A_ g 0 Q) (b:=B3 g x 0 Q) (by omega) (Cd hx 0 Q);have hlen:(d.write (A_ g 0 Q) (B3 g x 0 Q)).1.cells.length=d.cells.length:=KB d _ _;have c1:=PZ g s (d.write (A_ g 0 Q) (B3 g x 0 Q)).1 (A_ g 1 Q) (B3 g x 1 Q) hok (by omega) (Cd hx 1 Q);rw [if_neg h1] at c0;rw [if_neg h2] at c1;generalize (d.write (A_ g 0 Q) (B3 g x 0 Q)).1.write (A_ g 1 Q) (B3 g x 1 Q)=W2 at c1 |-
 generalize d.write (A_ g 0 Q) (B3 g x 0 Q)=W1 at c0 c1 |-
 generalize decide (W1.2=0)=p1 at c0 |-
 generalize decide (W2.2=0)=p2 at c1 |-
 simp only [Bool.and_self,if_true,if_pos] at l0 l1 r0 r1;cases p1 with
 | true=>
  refine zV tys_ok Tryz.func76 rfl rfl (Ae rfl) ?_;conv=>whnf
  refine zC 3 ?_;conv=>whnf
  repeat' (refine z_ ?_;conv=>whnf)
  refine zZ l0 ?_;conv=>whnf
  repeat' (refine z_ ?_;conv=>whnf)
  apply zX (0) tys_ok mixed (.o [0,1,2,3,4,5,6,7,8,9,10,11,12] .fin) (by kernel_rfl);conv=>whnf
  refine zZ r0 ?_;conv=>whnf
  repeat' (refine z_ ?_;conv=>whnf)
  refine ze9 [0,1,2,3,4] c0 ?_;rintro _ _ ⟨rfl,rfl⟩;conv=>whnf
  repeat' (refine z_ ?_;conv=>whnf)
  refine zZ l1 ?_;conv=>whnf
  repeat' (refine z_ ?_;conv=>whnf)
  apply zX (0) tys_ok mixed (.o [0,1,2,3,4,5,6,7,8,9,10,11,12] .fin) (by kernel_rfl);conv=>whnf
  refine zZ r1 ?_;conv=>whnf
  repeat' (refine z_ ?_;conv=>whnf)
  refine ze9 [0,1,2,3,4] c1 ?_;rintro _ _ ⟨rfl,rfl⟩;conv=>whnf
  repeat' (refine z_ ?_;conv=>whnf)
  exact⟨_, .tp [.v (.bool true),iv 0],GL g s W2.1,fun _ _ h=>h,zQ (s:= [0,1,2,3,4]) tA,rfl,rfl⟩
 | false=>
  refine zV tys_ok Tryz.func76 rfl rfl (Ae rfl) ?_;conv=>whnf
  refine zC 3 ?_;conv=>whnf
  repeat' (refine z_ ?_;conv=>whnf)
  refine zZ l0 ?_;conv=>whnf
  repeat' (refine z_ ?_;conv=>whnf)
  apply zX (0) tys_ok mixed (.o [0,1,2,3,4,5,6,7,8,9,10,11,12] .fin) (by kernel_rfl);conv=>whnf
  refine zZ r0 ?_;conv=>whnf
  repeat' (refine z_ ?_;conv=>whnf)
  refine ze9 [0,1,2,3,4] c0 ?_;rintro _ _ ⟨rfl,rfl⟩;conv=>whnf
  repeat' (refine z_ ?_;conv=>whnf)
  refine zZ l1 ?_;conv=>whnf
  repeat' (refine z_ ?_;conv=>whnf)
  apply zX (0) tys_ok mixed (.o [0,1,2,3,4,5,6,7,8,9,10,11,12] .fin) (by kernel_rfl);conv=>whnf
  refine zZ r1 ?_;conv=>whnf
  repeat' (refine z_ ?_;conv=>whnf)
  refine ze9 [0,1,2,3,4] c1 ?_;rintro _ _ ⟨rfl,rfl⟩;conv=>whnf
  repeat' (refine z_ ?_;conv=>whnf)
  exact⟨_, .tp [.v (.bool p2),iv 0],GL g s W2.1,fun _ _ h=>h,zQ (s:= [0,1,2,3,4]) tA,rfl,rfl⟩
theorem XG (g:Geo) (s:Stt) (d:Dk) (lba:Int) (b:List UInt8) (hg:Bq g=true) (hl:s.txns.length<=1000) (hlba:0<=lba/\lba<g.z*g.d) (hb:b.length=8) :
  ACalls Tryz.prog false 72 [.bp 0 0,iA [lba],GS [b]] (GL g s d) fun r H=>r = iv (if s.only then 15 else if 4 > g.sl - Ea s.txns then 21 else 0)/\H=GL g s d:=by
 obtain⟨g1,g2,g3,g4,g5⟩:=Az.1 hg;have hun:=GV s.txns s.txns.length;have hn:=SR g lba hg hlba;have hu:=MG s.txns (by omega);have tsub:SubL [.sl 4 s.txns.length fun i=>(s.txns.map Ii).getD i []] [Ev s.txns]:=⟨Ck (f:=Ii) s.txns rfl rfl,tv⟩;refine zV tys_ok Tryz.func72 rfl rfl (Ae rfl) ?_;conv=>whnf
 refine zC 2 ?_;conv=>whnf
 repeat' (refine z_ ?_;conv=>whnf)
 refine⟨in01,?_⟩;conv=>whnf
 repeat' (refine z_ ?_;conv=>whnf)
 refine zz tys_ok mixed [0,1,2,3,4,5,6,7,8,9,10,11,12,13,14,15,16,17,18] (by kernel_rfl) ?_;conv=>whnf
 rw [show ((([b].getD (Int.toNat 0) []).length:Int) != 8)=false from bne_eq_false_iff_eq.2 (by show ((b.length:Nat):Int)=8;omega)];conv=>whnf
 repeat' (refine z_ ?_;conv=>whnf)
 refine zZ hn ?_;conv=>whnf
 cases ho:s.only with
 | true=>
  exact⟨_,iv 15,GL g s d,fun _ _ h=>h,zQ (s:= [0,1,2,3,4]) tA,rfl,rfl⟩
 | false=>
  conv=>whnf
  apply zJ tys_ok mixed (.o [0,1,2,3,4,5,6,7,8,9,10,11,12,13,14] .fin) [72,73,74,75,76,77,78,79,80,81,82,83,84,85,86] (by kernel_rfl)
  ·conv=>whnf
   (refine zk (args':= [.sl 4 s.txns.length fun i=>(s.txns.map Ii).getD i []]) (hu.subA tsub) ⟨(Aa _).symm,rfl⟩ ?_;rintro _ rfl;refine⟨rfl,?_⟩)
   exact tA
  conv=>whnf
  rw [wi (show -9223372036854775808<=g.sl - Ea s.txns/\g.sl - Ea s.txns<=9223372036854775807 by unfold Ea;omega)];by_cases hfull:(4:Int) > g.sl - Ea s.txns
  ·rw [decide_eq_true hfull,if_pos hfull];exact⟨_,iv 21,GL g s d,fun _ _ h=>h,zQ (s:= [0,1,2,3,4]) tA,rfl,rfl⟩
  ·rw [decide_eq_false hfull,if_neg hfull];exact⟨_,iv 0,GL g s d,fun _ _ h=>h,zQ (s:= [0,1,2,3,4]) tA,rfl,rfl⟩
theorem Rr (g:Geo) (s:Stt) (d:Dk) (F:Int->List UInt8) (lba S:Int) (b:List UInt8) (hg:Bq g=true) (hl:LogB s.txns) (ha:B4 g s.a=true) (h:Gd (A4 g) d F) (hF:∀ a,(F a).length<=100000) (hlba:0<=lba/\lba<g.z*g.d) (hb:b.length=8) (hS:0<=S/\S<=4294967295) (hB:∀ p,CG s.txns (lba.tdiv g.d) 255=some p->p.1.bytes.length<=100000) (t:List Ent) (ht:Fj g s F (lba.tdiv g.d)=some t) (h8:∀ x∈CY g s F t (lba.tdiv g.d),x.length=8) (hlo:∀ i,i<t.length->(t.getD i ez).lost=false) :
  ACalls Tryz.prog false 74 [.bp 0 0,iA [lba],GS [b],iv S] (GL g s d) fun r H=>r = .tp [EU (Hs g s F S lba b),iv 0]/\∃ d',Gd (A4 g) d' F/\H=GL g s d':=by
 obtain⟨g1,g2,g3,g4,g5⟩:=Az.1 hg;obtain⟨Z,hZ⟩:∃ Z,Z=lba.tdiv g.d:=⟨_,rfl⟩;obtain⟨A,hA⟩:∃ A,A=lba.tmod g.d:=⟨_,rfl⟩;have hZ2:0<=Z/\Z<g.z:=by
  rw [hZ,Bp hlba.1];exact⟨Dh hlba.1 (by omega),Df (by omega) hlba.2⟩
 have hA2:0<=A/\A<g.d:=by
  rw [hA];exact⟨BE _ hlba.1,Bo _ (by omega)⟩
 have hdiv:IntKind.i64.wrap (([lba].getD (Int.toNat 0) 0).tdiv g.d)=Z:=by
  rw [hZ];exact wi (by have:=hZ2;rw [hZ] at this;show -9223372036854775808<=lba.tdiv g.d/\lba.tdiv g.d<=9223372036854775807;omega)
 have hL:Hs g s F S lba b=C3 Z (BK g t (CY g s F t Z) [A] [b] S) (ET g t (CY g s F t Z) [A] [b] g.d.toNat) [A] [b]:=by
  rw [Hs,<-hZ,<-hA];rw [<-hZ] at ht;rw [ht]
 rw [hL];rw [<-hZ] at ht h8 hB;obtain⟨L,hL⟩:∃ L,L=C3 Z (BK g t (CY g s F t Z) [A] [b] S) (ET g t (CY g s F t Z) [A] [b] g.d.toNat) [A] [b]:=⟨_,rfl⟩;rw [<-hL];have hL3:L.length=3:=by rw [hL,Hu];try rfl
 have htok:=KE ht;have h01:∀ x∈ [b],x.length=8:=fun x hx=>by rw [A8] at hx;rw [hx];exact hb
 have hpl:(ET g t (CY g s F t Z) [A] [b] g.d.toNat).length=8:=Hn (fun x hx=> .inr (h8 x hx)) h01 (show [A].length<= [b].length from Ag 1) _;have hwr:=Qz g t (CY g s F t Z) A b S hg htok (by simp [CY,T4];omega) h8 hlo hA2 hb hS;have him:=OR g Z (BK g t (CY g s F t Z) [A] [b] S) (ET g t (CY g s F t Z) [A] [b] g.d.toNat) A b hg hZ2 (GT hg htok hS) hpl hA2 hb;rw [<-hL] at him;refine zV tys_ok Tryz.func74 rfl rfl (Ae rfl) ?_;conv=>whnf
 refine zS (Nat × Dk × Bool) (fun x=>([(0, .bp 0 0),(1,iA [lba]),(2,GS [b]),(3,iv S),(10,Z8 L x.2.2),(27,iv g.z),(28,iv (x.1:Nat))],GL g s x.2.1)) (fun x=>(x.1:Int)<=g.z/\Gd (A4 g) x.2.1 F/\(x.2.2=true↔Z<(x.1:Int))) (fun x=>g.z.toNat - x.1) (0,d,false) ⟨by show ((0:Nat):Int)<=g.z;omega,h,⟨fun q=>(by cases q),fun q=>absurd q (by show ¬Z<((0:Nat):Int);omega)⟩⟩
  (zQ (s:= [0,1,2,3,4]) tA) ?_
 rintro⟨k,d1,p⟩ ⟨hk,hd1,hpz⟩;simp only at hk hd1 hpz;by_cases hkz:(k:Int)<g.z;rotate_left 1
 ·obtain rfl:p=true:=hpz.2 (by omega);conv=>whnf
  rw [decide_eq_false hkz];conv=>whnf
  repeat' (refine z_ ?_;conv=>whnf)
  exact⟨_, .tp [EU L,iv 0],GL g s d1,fun _ _ h=>h,zQ (s:= [0,1,2,3,4]) tA,rfl,d1,hd1,rfl⟩
 by_cases he:(k:Int)=Z;rotate_left 1
 ·conv=>whnf
  rw [decide_eq_true hkz];conv=>whnf
  repeat' (refine z_ ?_;conv=>whnf)
  refine zC 2 ?_;conv=>whnf
  repeat' (refine z_ ?_;conv=>whnf)
  refine⟨in01,?_⟩;conv=>whnf
  repeat' (refine z_ ?_;conv=>whnf)
  refine⟨by omega,?_⟩;conv=>whnf
  rw [hdiv,show (Z == (k:Int))=false from beq_eq_false_iff_ne.2 fun q=>he q.symm];conv=>whnf
  repeat' (refine z_ ?_;conv=>whnf)
  cases p
  ·exact⟨(k+1,d1,false),⟨by show ((k+1:Nat):Int)<=g.z;omega,hd1,⟨fun q=>by have:=hpz.1 q;show Z<((k+1:Nat):Int);omega,fun q=>hpz.2 (by have:Z<((k+1:Nat):Int):=q;omega)⟩⟩,by show g.z.toNat - (k+1)<g.z.toNat - k;omega,zQ (s:= [0,1,2,3,4]) ⟨⟨rfl,rfl,rfl,rfl,rfl,rfl,AN (by omega),tv⟩,tA,rfl,rfl,rfl,rfl,rfl⟩⟩
  ·exact⟨(k+1,d1,true),⟨by show ((k+1:Nat):Int)<=g.z;omega,hd1,⟨fun q=>by have:=hpz.1 q;show Z<((k+1:Nat):Int);omega,fun q=>hpz.2 (by have:Z<((k+1:Nat):Int):=q;omega)⟩⟩,by show g.z.toNat - (k+1)<g.z.toNat - k;omega,zQ (s:= [0,1,2,3,4]) ⟨⟨rfl,rfl,rfl,rfl,rfl,rfl,AN (by omega),tv⟩,tA,rfl,rfl,rfl,rfl,rfl⟩⟩
 ·obtain rfl:p=false:=by
   cases p with
   | false=>rfl
   | true=>exact absurd (hpz.1 rfl) (by omega)
  have hgat:=PX g s d1 F Z hg hl ha hd1 hF hZ2 hB t ht;conv=>whnf
  rw [decide_eq_true hkz];conv=>whnf
  repeat' (refine z_ ?_;conv=>whnf)
  refine zS (Nat × Bool) (fun i=>([(0, .bp 0 0),(1,iA [lba]),(2,GS [b]),(3,iv S),(10, .v (.slice none 0 0)),(11,iv (k:Nat)),(12,ai A i.2),(13,aG b i.2),(27,iv g.z),(28,iv (k:Nat)),(31,iA [lba]),(32,iv 1),(33,iv (i.1:Nat))],GL g s d1)) (fun i=>i.1<=1/\(i.2=true↔i.1=1)) (fun i=>1 - i.1) (0,false) ⟨by show 0<=1;omega,by decide⟩
   (zQ (s:= [0,1,2,3,4]) tA) ?_
  rintro⟨i,q⟩ ⟨hi,hq⟩;simp only at hi hq;by_cases hi1:i=1;rotate_left 1
  ·obtain rfl:i=0:=by omega
   obtain rfl:q=false:=by
    cases q with
    | false=>rfl
    | true=>exact absurd (hq.1 rfl) (by decide)
   have ixA:(0:Int)<=0/\(0:Int)<(([b]:List (List UInt8)).length:Nat):=in01;conv=>whnf
   repeat' (refine z_ ?_;conv=>whnf)
   refine⟨in01,?_⟩;conv=>whnf
   repeat' (refine z_ ?_;conv=>whnf)
   refine⟨by omega,?_⟩;conv=>whnf
   rw [show IntKind.i64.wrap (([lba].getD (((0:Nat):Int)).toNat 0).tdiv g.d)=Z from hdiv,show (Z == (k:Int))=true from beq_iff_eq.2 he.symm];conv=>whnf
   repeat' (refine z_ ?_;conv=>whnf)
   apply zX (16384) tys_ok mixed (.o [0,1,2,3,4,5,6,7,10,11,12,13] (.two 8 (.two 9 (.o [14,15,16,17,18] .fin) 14 (.two 9 (.o [15,16,17,18] .fin) 15 (.o [9,16,17,18] .fin))) 14 (.two 8 (.two 9 (.o [15,16,17,18] .fin) 15 (.o [9,16,17,18] .fin)) 15 (.o [8,9,16,17,18] .fin)))) (by kernel_rfl);conv=>whnf
   try (refine tI ?_;conv=>whnf)
   try (refine tI ?_;conv=>whnf)
   refine Ah ?_ ?_;refine Ah ?_ ?_;conv=>whnf
   try (refine tJ ?_;conv=>whnf)
   try (refine tK ?_;conv=>whnf)
   try (refine tJ ?_;conv=>whnf)
   try (refine tK ?_;conv=>whnf)
   rotate_left 1;refine Ah ?_ ?_;conv=>whnf
   try (refine tJ ?_;conv=>whnf)
   try (refine tK ?_;conv=>whnf)
   try (refine tJ ?_;conv=>whnf)
   try (refine tK ?_;conv=>whnf)
   rotate_left 1;conv=>whnf
   try (refine tJ ?_;conv=>whnf)
   try (refine tK ?_;conv=>whnf)
   try (refine tJ ?_;conv=>whnf)
   try (refine tK ?_;conv=>whnf)
   rotate_left 1;refine Ah ?_ ?_;refine Ah ?_ ?_;conv=>whnf
   try (refine tJ ?_;conv=>whnf)
   try (refine tK ?_;conv=>whnf)
   try (refine tJ ?_;conv=>whnf)
   try (refine tK ?_;conv=>whnf)
   rotate_left 1;conv=>whnf
   try (refine tJ ?_;conv=>whnf)
   try (refine tK ?_;conv=>whnf)
   try (refine tJ ?_;conv=>whnf)
   try (refine tK ?_;conv=>whnf)
   rotate_left 1;conv=>whnf
   try (refine tJ ?_;conv=>whnf)
   try (refine tK ?_;conv=>whnf)
   try (refine tJ ?_;conv=>whnf)
   try (refine tK ?_;conv=>whnf)
   rotate_left 1;all_goals
    conv=>whnf
    first
    | exact⟨(1,true),⟨by show 1<=1;omega,by decide⟩,by show 1 - 1<1 - 0;omega,zI (zN (zG 12 6 rfl rfl) (zN (zA 12 rfl (Ga (L:= [A]) rfl (by rw [hA];rfl))) (zN (zG 13 7 rfl rfl) (zA 13 rfl (FO (L:= [b]) rfl rfl))))) (s:= [0,1,2,3,4]) tA⟩
    | exact⟨(1,true),⟨by show 1<=1;omega,by decide⟩,by show 1 - 1<1 - 0;omega,zI (zN (zG 12 6 rfl rfl) (zN (zA 12 rfl (Ga (L:= [A]) rfl (by rw [hA];rfl))) (zN (zG 13 8 rfl rfl) (zA 13 rfl (FO (L:= [b]) rfl rfl))))) (s:= [0,1,2,3,4]) tA⟩
    | exact⟨(1,true),⟨by show 1<=1;omega,by decide⟩,by show 1 - 1<1 - 0;omega,zI (zN (zG 12 7 rfl rfl) (zN (zA 12 rfl (Ga (L:= [A]) rfl (by rw [hA];rfl))) (zN (zG 13 6 rfl rfl) (zA 13 rfl (FO (L:= [b]) rfl rfl))))) (s:= [0,1,2,3,4]) tA⟩
    | exact⟨(1,true),⟨by show 1<=1;omega,by decide⟩,by show 1 - 1<1 - 0;omega,zI (zN (zG 12 7 rfl rfl) (zN (zA 12 rfl (Ga (L:= [A]) rfl (by rw [hA];rfl))) (zN (zG 13 8 rfl rfl) (zA 13 rfl (FO (L:= [b]) rfl rfl))))) (s:= [0,1,2,3,4]) tA⟩
    | exact⟨(1,true),⟨by show 1<=1;omega,by decide⟩,by show 1 - 1<1 - 0;omega,zI (zN (zG 12 8 rfl rfl) (zN (zA 12 rfl (Ga (L:= [A]) rfl (by rw [hA];rfl))) (zN (zG 13 6 rfl rfl) (zA 13 rfl (FO (L:= [b]) rfl rfl))))) (s:= [0,1,2,3,4]) tA⟩
    | exact⟨(1,true),⟨by show 1<=1;omega,by decide⟩,by show 1 - 1<1 - 0;omega,zI (zN (zG 12 8 rfl rfl) (zN (zA 12 rfl (Ga (L:= [A]) rfl (by rw [hA];rfl))) (zN (zG 13 7 rfl rfl) (zA 13 rfl (FO (L:= [b]) rfl rfl))))) (s:= [0,1,2,3,4]) tA⟩
    | fail
  subst hi1;obtain rfl:q=true:=hq.2 rfl;conv=>whnf
  repeat' (refine z_ ?_;conv=>whnf)
  rw [he];refine ze9 [0,1,2,3,4] hgat ?_;rintro _ _ ⟨rfl,d2,hd2,rfl⟩;conv=>whnf
  repeat' (refine z_ ?_;conv=>whnf)
  apply zX (0) tys_ok mixed (.o [0,1,2,3,4,5,6,7,8] (.two 9 (.o [10,11,12,13,14,15,16,17] .fin) 14 (.o [9,10,11,12,13,15,16,17] .fin))) (by kernel_rfl);refine Ah ?_ ?_;conv=>whnf
  refine zZ hwr ?_;conv=>whnf
  try (refine tS ?_;conv=>whnf)
  rotate_left 1;conv=>whnf
  refine zZ hwr ?_;conv=>whnf
  try (refine tS ?_;conv=>whnf)
  rotate_left 1;all_goals
   conv=>whnf
   repeat' (refine z_ ?_;conv=>whnf)
   apply zX (0) tys_ok mixed (.o [0,1,2,3,4,5,6,7,8,9,10,11,12,13,14] .fin) (by kernel_rfl);conv=>whnf
   refine zZ him ?_;conv=>whnf
   all_goals
    conv=>whnf
    repeat' (refine z_ ?_;conv=>whnf)
    refine⟨by omega,?_⟩;conv=>whnf
    exact⟨(k+1,d2,true),⟨by show ((k+1:Nat):Int)<=g.z;omega,hd2,⟨fun _=>by show Z<((k+1:Nat):Int);omega,fun _=>rfl⟩⟩,by show g.z.toNat - (k+1)<g.z.toNat - k;omega,zI (zN (zG 10 7 (congrArg (AV.ow 7) (by rw [Aa,C5])) rfl) (zA 10 rfl (WN rfl (by rw [Aa,C5])))) (s:= [0,1,2,3,4]) ⟨⟨rfl,rfl,rfl,rfl,rfl,rfl,by rw [<-he];exact AN (by omega),tv⟩,tA,rfl,rfl,rfl,rfl,rfl⟩⟩
theorem VolV.far {g:Geo} (hg:Bq g=true) {a:An} (ha:B4 g a=true) {l:List Tx} {F F':Int->List UInt8} {V:Int->Int->List UInt8} (h:VolV g a l F V) (e:∀ q,g.an+2*g.sl<=q->F' q=F q):VolV g a l F' V:=by
 obtain⟨g1,g2,g3,g4,g5⟩:=Az.1 hg;intro z h0 h1;obtain⟨t,hz⟩:=h z h0 h1;refine⟨t,⟨?_,hz.len,hz.ent,fun w hw hw2=>?_,hz.par⟩⟩
 ·have:=hz.tab;unfold Fj at this |-
  rw [e (Be g z 0) (by unfold Be;omega),e (Be g z 1) (by unfold Be;omega)];omega
 ·have:=hz.val w hw hw2;obtain⟨sl,e1,e2⟩:=Mn hg ha ⟨h0,h1⟩ (w:=w) ⟨hw,hw2⟩;have hsl:=KF hg ⟨h0,h1⟩ e2
  grind
theorem So {g:Geo} (hg:Bq g=true) {a:An} {l:List Tx} {F:Int->List UInt8} {lba:Int} {b:List UInt8} (himg:∀ t∈l,∀ x∈t.images,BV g x=true) (hs:0<=a.seq+(l.length:Int)/\a.seq+(l.length:Int)<=4294967295) (hlba:0<=lba/\lba<g.z*g.d) (hb:b.length=8) (ht:(Fj g (Bk a l) F (lba.tdiv g.d)).isSome=true):(FN g a l F lba b).images.length=3/\(∀ x∈(FN g a l F lba b).images,BV g x=true)/\OneTab (FN g a l F lba b).images:=by
 obtain⟨g1,g2,g3,g4,g5⟩:=Az.1 hg;obtain⟨t,ht⟩:=CA.1 ht;have ei:(FN g a l F lba b).images=C3 (lba.tdiv g.d) (BK g t (CY g (Bk a l) F t (lba.tdiv g.d)) [lba.tmod g.d] [b] (a.seq+(l.length:Int))) (ET g t (CY g (Bk a l) F t (lba.tdiv g.d)) [lba.tmod g.d] [b] g.d.toNat) [lba.tmod g.d] [b]:=by
  show Hs g (Bk a l) F _ lba b=_;unfold Hs;rw [ht]
 have htok:=KE ht;obtain⟨Z,hZ⟩:∃ Z,Z=lba.tdiv g.d:=⟨_,rfl⟩;obtain⟨A,hA⟩:∃ A,A=lba.tmod g.d:=⟨_,rfl⟩;have hZ2:0<=Z/\Z<g.z:=by
  rw [hZ,Bp hlba.1];exact⟨Dh hlba.1 (by omega),Df (by omega) hlba.2⟩
 have hA2:0<=A/\A<g.d:=by
  rw [hA];exact⟨BE _ hlba.1,Bo _ (by omega)⟩
 rw [<-hZ,<-hA] at ei;have hadlen:∀ x∈CY g (Bk a l) F t Z,x.length=0\/x.length=8:=fun x hx=>by
  have himg:∀ t∈(Bk a l).txns,∀ x∈t.images,BV g x=true:=himg;rcases Ay.1 hx with q | q
  ·obtain⟨i,hi,rfl⟩:=AM.1 q;exact Ja himg (by have:=AK.1 hi;omega)
  ·rw [A8] at q;rw [q];exact Ja himg (by decide)
 have h01:∀ x∈ [b],x.length=8:=fun x hx=>by rw [A8] at hx;rw [hx];exact hb
 have hA3:∀ x∈ [A],0<=x/\x<g.d:=fun x hx=>by rw [A8] at hx;rw [hx];exact hA2
 rw [ei];refine⟨by rw [Hu];try rfl,fun x hx=>?_,?_⟩
 ·exact(QX hg hZ2 (GT hg htok (by omega)) (Hn hadlen h01 (show [A].length<= [b].length from Ag 1) _) hA3 h01 (Ag 1) x hx).1
 ·exact P4 (l:= []) hg List.Pairwise.nil (fun x hx=>by cases hx) hA3
def ZU (g:Geo) (M:Md):Prop:=(M.m.length:Int)=g.z*g.d/\∃ V,VolV g M.a M.l M.F V/\∀ z w,0<=z->z<g.z->0<=w->w<g.d->M.m.getD (z*g.d+w).toNat []=V z w
theorem au {g:Geo} (hg:Bq g=true) {z w:Int} (h0:0<=z) (h1:z<g.z) (h2:0<=w) (h3:w<g.d):0<=z*g.d+w/\z*g.d+w<g.z*g.d:=by
 obtain⟨g1,g2,g3,g4,g5⟩:=Az.1 hg;have e1:0<=z*g.d:=Db h0 (by omega);have e2:(z+1)*g.d<=g.z*g.d:=Ce (by omega) (by omega)
 grind
theorem ZE {g:Geo} (hg:Bq g=true) {K:Int} (hK:K<=4294967294) {D:Dk} {M M':Md} {lba:Int} {b:List UInt8} (hlba:0<=lba/\lba<g.z*g.d) (hb:b.length=8) (hv:Vol g K D (Bk M.a M.l)) (h:ZU g M) (hc:aI g M lba b M'):ZU g M'/\Vol g (K+1) D (Bk M'.a M'.l):=by
 obtain⟨g1,g2,g3,g4,g5⟩:=Az.1 hg;rcases hc with ⟨hu,ht,W,hW,rfl⟩ | ⟨-,rfl⟩
 rotate_left 1
 ·exact⟨h,⟨hv.gd,hv.an,hv.ring,hv.rest,by have:=hv.gen;omega,by have:=hv.seq;omega,hv.one⟩⟩
 obtain⟨a,l,F,m⟩:=M;obtain⟨hm,V,hV,hr⟩:=h;simp only at hu ht hW hm hV hr;have ha:B4 g a=true:=hv.an;obtain⟨a1,a2,a3,a4⟩:=Jt ha;have hseq:a.seq+l.length<=K:=hv.seq;have himg:∀ t∈l,∀ x∈t.images,BV g x=true:=fun t ht=>Av.1 (Ft hv.ring t ht).1
 obtain⟨c1,c2,c3⟩:=So hg (F:=F) himg (by omega) hlba hb ht;refine⟨⟨?_,S9 V (FN g a l F lba b),?_,fun z w h0 h1 h2 h3=>?_⟩,?_⟩
 ·grind
 ·have q:=Wv hg (x:=FN g a l F lba b) (by show 0<=a.seq+(l.length:Int)/\a.seq+(l.length:Int)<=4294967295;omega) himg hV (Zc hg hlba hb ht);exact q.far hg ha fun p hp=>OF (by omega) _ _ rfl fun w hw e=>by have:=(hW w hw).1;omega
 ·rw [Zb hg hlba ht V ⟨h2,h3⟩];show (m.set lba.toNat b).getD (z*g.d+w).toNat []=_;have hz:=au hg h0 h1 h2 h3;have hdm:g.d*lba.tdiv g.d+lba.tmod g.d=lba:=Int.mul_tdiv_add_tmod lba g.d;rw [Ac,List.getElem?_set];by_cases e:z=lba.tdiv g.d/\w=lba.tmod g.d
  ·rw [if_pos e,if_pos (by rw [e.1,e.2,Int.mul_comm,hdm]),if_pos (by omega)];try rfl
  ·rw [if_neg e,if_neg fun q=>e ?_,<-Ac]
   ·grind
   ·have q2:lba=z*g.d+w:=by omega
    have e1:lba.tdiv g.d=lba / g.d:=Bp hlba.1;have e2:lba / g.d=z:=by
     rw [q2,Int.add_comm,Int.add_mul_ediv_right _ _ (by omega),Int.ediv_eq_zero_of_lt h2 h3,Int.zero_add]
    grind
 ·exact hv.add hg hK (d':=D) hv.gd (x:=FN g a l F lba b) rfl rfl (by show (2:Int)<=4;omega) (by show (4:Int)<=g.sl - Ea l;omega) (by show (4:Int)=_;rw [c1];try rfl) c2 c3
theorem PK {l:List Tx} {z w:Int} {p:Img × Int} (h:CG l z w=some p):∃ t∈l,p.1∈t.images:=by
 have e:CG l z w=_:=Jo l z w l.length;rw [e] at h;cases hA:FI l z w l.length with
 | none=>rw [hA] at h;cases h
 | some q=>
  obtain⟨k,i⟩:=q;obtain⟨h1,h2⟩:=Hw hA;rw [hA] at h;obtain rfl:=Option.some.inj h;exact⟨_,A9 h1,A9 h2⟩
theorem W9 (g:Geo) (seq epoch:Int) (l:List Img) (hl:l.length<=100000) (hb:∀ x∈l,x.bytes.length<=100000):Fn Tryz.prog 75 [.ag (Bl g),iv seq,iv epoch,EU l] fun r=>r = .tp [RJ (if K6 g seq epoch l=0 then Fb seq epoch l else []),iv (K6 g seq epoch l)]:=by
 have nilr:∀ c v n,n≠0->K6 g seq epoch l=n->Rd (.tp [.v (.slice none 0 0),iv n]) c v->Rd (.tp [RJ (if K6 g seq epoch l=0 then Fb seq epoch l else []),iv (K6 g seq epoch l)]) c v:=by
  intro c v n hn he h;rw [if_neg (by rw [he];exact hn),he];simp only [Rd,RdL] at h |-
  obtain⟨xs,rfl,a,_,rfl,h1,h2⟩:=h;exact⟨_,rfl,a,_,rfl,Bt _ _ _ _ (by simpa [Rd] using h1),h2⟩
 obtain⟨z,d,sp,sl,an⟩:=g;refine zT Tryz.func75 rfl ?_;conv=>whnf
 repeat' (first | (refine Aj (fun h=>?_) (fun h=>?_) <;> (try simp at h) <;> conv=>whnf) | (refine zZ (Cw z d sp sl an) ?_;conv=>whnf) | (refine zZ (Iu _ _ _) ?_;conv=>whnf))
 iterate 3 (exact⟨_,fun c v h=>nilr c v 1 (by decide) (by simp [K6, *]) h,rfl⟩)
 rename_i h1 h2;have ht0:(Bq ⟨z,d,sp,sl,an⟩&&(CH seq 0 4294967295&&CH epoch 0 4294967295))=true:=by simp [*]
 clear h h1 h2;refine zP Nat (fun k=>([(1,iv seq),(2,iv epoch),(3,EU l),(4, .bp 0 0),(29,EU l),(30,iv l.length),(31,iv k)], [.box 24 (Bl ⟨z,d,sp,sl,an⟩)])) (fun k=>k<=l.length/\∀ i,i<k->BV ⟨z,d,sp,sl,an⟩ (l.getD i ⟨0,0, []⟩)=true) (fun k=>l.length - k) 0 ⟨Ak _,by simp⟩ ⟨[],tv,tA,tA,rfl,rfl,rfl⟩ ?_;rintro k ⟨hk,hI⟩;conv=>whnf
 refine Aj (fun h2=>?_) (fun h2=>?_) <;> simp at h2 <;> conv=>whnf
 ·refine⟨by first | omega | (refine⟨rfl,?_,?_⟩ <;> first | omega | (simp only [Aa];done) | (simp only [Aa];omega)) | (simp only [Aa];omega),?_⟩;conv=>whnf
  refine zy (JP ⟨z,d,sp,sl,an⟩ (l.getD k ⟨0,0, []⟩) (hb _ (A9 h2))) rfl ?_;rintro _ rfl;conv=>whnf
  refine Aj (fun h3=>?_) (fun h3=>?_) <;> conv=>whnf
  ·refine⟨_,fun c v h=>nilr c v 1 (by decide) ?_ h,rfl⟩;have:l.all (BV ⟨z,d,sp,sl,an⟩)=false:=by
    rw [<-Cf];intro hh;have:=Av.1 hh _ (A9 (d:=⟨0,0, []⟩) h2);rw [this] at h3;simp at h3
   simp [K6,ht0,this]
  ·refine⟨k+1,⟨by omega,fun i hi=>?_⟩,by omega, [],tv,⟨rfl,rfl,rfl,rfl,rfl,rfl,AN (by omega),tv⟩,tA,rfl,rfl,rfl⟩;rcases BR i k with h | h
   ·exact hI i h
   ·obtain rfl:i=k:=by omega
    cases hq:BV ⟨z,d,sp,sl,an⟩ (l.getD i ⟨0,0, []⟩) with
    | true=>rfl
    | false=>rw [hq] at h3;simp at h3
 ·have ht1:l.all (BV ⟨z,d,sp,sl,an⟩)=true:=by
   rw [Av];intro x hx;obtain⟨i,hi,rfl⟩:=List.getElem_of_mem hx;have:=hI i (by omega);rwa [Ac,Af hi] at this
  clear hI;refine zZ (Iu _ _ _) ?_;conv=>whnf
  refine Aj (fun h3=>?_) (fun h3=>?_) <;> simp at h3 <;> conv=>whnf
  ·exact⟨_,fun c v h=>nilr c v 2 (by decide) (by simp [K6,ht0,ht1,h3]) h,rfl⟩
  have ht2:K6 ⟨z,d,sp,sl,an⟩ seq epoch l=0:=by simp [K6,ht0,ht1,h3]
  clear nilr;rw [wi (by omega)];refine zP Nat (fun k=>([(1,iv seq),(2,iv epoch),(13,iv (l.length+1)),(12, .ow 1 k),(47,EU l),(48,iv l.length),(49,iv k)], [.dead, .row 141 8 ((I6 seq epoch (l.length+1) k l).map Hi)])) (fun k=>k<=l.length) (fun k=>l.length - k) 0 (Ak _) ⟨[(12,141,8)],tA,tA,tA,rfl,rfl,rfl⟩ ?_;rintro k hk;have hlk:=Je seq epoch (l.length+1) k l;conv=>whnf
  refine Aj (fun h2=>?_) (fun h2=>?_) <;> simp at h2 <;> conv=>whnf
  ·refine⟨by first | omega | (refine⟨rfl,?_,?_⟩ <;> first | omega | (simp only [Aa];done) | (simp only [Aa];omega)) | (simp only [Aa];omega),?_⟩;conv=>whnf
   refine zy (Bu (l.getD k ⟨0,0, []⟩).bytes (by have:=hb _ (A9 (d:=⟨0,0, []⟩) h2);omega)) rfl ?_;rintro _ rfl;refine⟨rfl,?_⟩;conv=>whnf
   refine⟨⟨by rw [Aa,hlk];omega,by omega⟩,?_⟩;refine⟨k+1,by omega,by omega, [],tv,⟨rfl,rfl,rfl,rfl,rfl,rfl,AN (by omega),tv⟩,⟨Zw ?_,tv⟩,rfl,rfl,rfl⟩;rw [QV _ _ _ h2];try rfl
  ·obtain rfl:k=l.length:=by omega
   rw [wi (by omega),show (l.length:Int)+1 - 1=l.length by omega];refine⟨rfl,?_⟩;conv=>whnf
   refine⟨⟨by rw [Aa,hlk];omega,by omega⟩,?_⟩;conv=>whnf
   refine⟨by rw [Ai,Aa,hlk];simp,?_⟩;refine⟨_,fun c v h=>?_,rfl⟩;rw [ht2,if_pos rfl];simp only [Rd,RdL] at h |-
   obtain⟨xs,rfl,a,_,rfl,h1,h2⟩:=h;exact⟨_,rfl,a,_,rfl,Rd.sub (sz:=8) (Lk seq epoch l).symm (UC seq epoch l) (by simp only [Rd];exact h1),h2⟩
@[reducible] def delX (lba:Int):AV:= .fn 79 [.rp [iA [lba]]]
theorem Xv (lba:Int):Fn Tryz.prog 152 [iA [],delX lba] fun r=>r = iv (-1):=by
 refine zT Tryz.func152 rfl ?_;conv=>whnf
 refine zC 1 ?_;conv=>whnf
 repeat' (refine z_ ?_;conv=>whnf)
 exact⟨_,ri,rfl⟩
theorem VN (lba:Int):Fn Tryz.prog 78 [iA [],delX lba] fun r=>r=iA []:=by
 have h1:=Xv lba;refine zT Tryz.func78 rfl ?_;conv=>whnf
 refine zZ h1 ?_;exact⟨_,ri,rfl⟩
theorem Yv {g:Geo} {seq epoch:Int} {l:List Img} (hg:Bq g=true) (h1:CH seq 0 4294967295=true) (h2:CH epoch 0 4294967295=true) (h3:l.all (BV g)=true) (h4:CH l.length 1 29=true):K6 g seq epoch l=0:=by
 simp [K6,hg,h1,h2,h3,h4]
theorem TZ (g:Geo) (s:Stt) (d:Dk) (F:Int->List UInt8) (W:List Wr) (x:Rc) (Q:Int) (hg:Bq g=true) (hx:EE g x=true) (hxl:x.img.bytes.length<=100000) (hQ:0<=Q/\Q<g.sl) (h:Gw (A4 g) d F W) (hW:W.length<1900) :
  ACalls Tryz.prog false 76 [.bp 0 0, .ag (Hi x),iv Q] (GL g s d) fun r H=>r = .tp [.v (.bool true),iv 0]/\∃ d',Gw (A4 g) d' F ((W ++ [⟨A_ g 0 Q,B3 g x 0 Q⟩]) ++ [⟨A_ g 1 Q,B3 g x 1 Q⟩])/\H=GL g s d':=by
 have b0:=Ez hg h.len (.inl rfl) hQ (c:=0);have b1:=Ez hg h.len (.inr rfl) hQ (c:=1);have hl:=h.len;obtain⟨e0,w0⟩:=h.write (a:=A_ g 0 Q) (b:=B3 g x 0 Q) (by omega) b0.1 (by omega) (Cd hx 0 Q);obtain⟨e1,w1⟩:=w0.write (a:=A_ g 1 Q) (b:=B3 g x 1 Q) (by simp;omega) b1.1 (by omega) (Cd hx 1 Q);have hc:=VV g s d x Q hg hx hxl hQ h.ok h.len (by rw [e0];decide) (by rw [e1];decide);rw [e0] at hc;exact hc.mono fun r H ⟨h1,h2⟩=>⟨h1,_,w1,h2⟩
theorem Yw {H:List AB} {t:TypeId} {g:Geo} {s:Stt} {T:List Tx} {es:List (List AV)} {n:Nat} (hj:H[0]? = some (.box t (XK g (.bp 1 0) (.ow 4 n) (iA s.lost) s))) (hk:H[4]? = some (.row 170 4 es)) (hn:n=T.length) (he:es=T.map Ii):ConvH H ((H.set 4 .dead).set 0 (.box t (Ze g (.bp 1 0) { s with txns:=T }))):=by
 subst hn he;have h4:4<H.length:=(Aq.1 hk).1;have e:=zm (H:=H) 0 4 (cs2:=XK g (.bp 1 0) (.sl 4 (T.map Ii).length fun i=>(T.map Ii).getD i []) (iA s.lost) s) hj hk (by simp only [A6,By,NC (Aa _).symm];rfl);have q:=zx (H:=(H.set 4 .dead).set 0 (.box t (XK g (.bp 1 0) (.sl 4 (T.map Ii).length fun i=>(T.map Ii).getD i []) (iA s.lost) s))) 0 (t:=t) (cs':=Ze g (.bp 1 0) { s with txns:=T }) (A0 (by rw [AY];omega)) ⟨ri,ri,ri,ri,ri,ri,ri,ri,ri,ri,ri,ri,ri,Ck (f:=Ii) T (Aa _) rfl,ri,ri,ri,ri,ri,ri,tv⟩;rw [List.set_set] at q;exact e.trans q
@[reducible] def aA (g:Geo) (s:Stt) (d:Dk):List AB:= [.box 99 (Ze g (.bp 1 0) s), .box 119 (II (.ow 2 d.cells.length) (.ow 5 d.cache.length) d.reqs d.left), .row 68 3 (d.cells.map BB), .dead, .dead, .row 152 2 (d.cache.map E9)]
@[reducible] def conH (g:Geo) (s:Stt) (d:Dk) (lba:Int):List AB:=GL g s d ++ [.box 30 [iA [lba]]]
theorem Za (g:Geo) (a:An) (l:List Tx) (d:Dk) (F:Int->List UInt8) (K lba:Int) (b:List UInt8) (V:Int->Int->List UInt8) (hg:Bq g=true) (hv:Vol g K d (Bk a l)) (hK:K<=4294967294) (h:Gd (A4 g) d F) (hF:∀ a,(F a).length<=100000) (hV:VolV g a l F V) (hlba:0<=lba/\lba<g.z*g.d) (hb:b.length=8) (hroom:4<=g.sl - Ea l) :
  ACalls Tryz.prog false 36 [.bp 0 0,iA [lba],GS [b]] (GL g (Bk a l) d) fun r H=>r = iv 0/\∃ d' W,Gd (A4 g) d' (M9 F W)/\(∀ w∈W,(g.an<=w.addr/\w.addr<g.an+2*g.sl/\Ca w.bytes=w.addr)/\w.bytes.length<=200)/\Vol g (K+1) d' (Bk a (l ++ [FN g a l F lba b]))/\H=aA g (Bk a (l ++ [FN g a l F lba b])) d':=by
 obtain⟨g1,g2,g3,g4,g5⟩:=Az.1 hg;have hsm:=hv.sm hg;have ha:B4 g a=true:=hv.an;have hring:CL g l a.seq a.pos g.sl=true:=hv.ring;have hl30:l.length<=30:=hsm.t.1;have hlb:LogB (Bk a l).txns:=⟨by have:=hsm.t.1;omega,fun t ht=>⟨by have:=(hsm.t.2 t ht).1;omega,fun x hx=>by have:=(hsm.t.2 t ht).2 x hx;omega⟩⟩;have hun:=GV l l.length;obtain⟨a1,a2,a3,a4⟩:=Jt ha;have hseq:a.seq+l.length<=K:=hv.seq;have hZ2:0<=lba.tdiv g.d/\lba.tdiv g.d<g.z:=by
  rw [Bp hlba.1];exact⟨Dh hlba.1 (by omega),Df (by omega) hlba.2⟩
 obtain⟨t,hz⟩:=hV _ hZ2.1 hZ2.2;have htab:Fj g (Bk a l) F (lba.tdiv g.d)=some t:=hz.tab;have hB:∀ p,CG (Bk a l).txns (lba.tdiv g.d) 255=some p->p.1.bytes.length<=100000:=fun p hp=>by
  obtain⟨t,ht,hx⟩:=PK hp;have:=(hsm.t.2 t ht).2 _ hx;omega
 have h8:∀ x∈CY g (Bk a l) F t (lba.tdiv g.d),x.length=8:=fun x hx=>by
  rcases Ay.1 hx with q | q
  ·obtain⟨i,hi,rfl⟩:=AM.1 q;have:=AK.1 hi;rw [hz.one ⟨by omega,by omega⟩];exact hz.len _ (by omega) (by omega)
  ·rw [A8] at q;rw [q,hz.one ⟨by omega,by omega⟩];exact hz.len _ (by omega) (by omega)
 have htok:=KE htab;have htl:=Jb htok;have hlo:∀ i,i<t.length->(t.getD i ez).lost=false:=fun i hi=>by
  by_cases hd:(i:Int)<g.d
  ·have:=(hz.ent (i:Nat) (by omega) hd).1;rwa [show (Et g (i:Nat)).toNat=i by unfold Et;rw [if_neg (by omega)];omega] at this
  ·have:=(hz.ent (-1) (by omega) (by omega)).1;rwa [show (Et g (-1)).toNat=i by unfold Et;rw [if_pos rfl];omega] at this
 have tsub:SubL [.ag (Bl g), .ag (Fh a), .sl 4 l.length fun i=>(l.map Ii).getD i []] [.ag (Bl g), .ag (Fh a),Ev l]:=⟨ri,ri,Ck (f:=Ii) l rfl rfl,tv⟩;have hmay:=XG g (Bk a l) d lba b hg (by show l.length<=1000;omega) hlba hb;rw [show (Bk a l).only=false from rfl,if_neg (by decide),show (Bk a l).txns=l from rfl,if_neg (by omega)] at hmay;have hnext:=ST g a l hg ha hring (by omega) (fun t ht=>⟨by have:=(hsm.t.2 t ht).1;omega,fun x hx=>by have:=(hsm.t.2 t ht).2 x hx;omega⟩) (by have:=(Mj hg ha).1;omega) (by have:=(Mj hg ha).2.1;omega) (by omega);obtain⟨S,hS⟩:∃ S,S=a.seq+(l.length:Int):=⟨_,rfl⟩;obtain⟨P,hP⟩:∃ P,P=(a.pos+Ea l).tmod g.sl:=⟨_,rfl⟩;have himg:=Rr g (Bk a l) d F lba S b hg hlb ha h hF hlba hb (by omega) hB t htab h8 hlo;rw [<-hS,<-hP] at hnext;obtain⟨L,hL⟩:∃ L,L=Hs g (Bk a l) F S lba b:=⟨_,rfl⟩;rw [<-hL] at himg;have hcm:FN g a l F lba b=⟨S,P,4,L⟩:=by rw [hL,hS,hP];try rfl
 obtain⟨hL3,hLok,hL1⟩:=So hg (a:=a) (l:=l) (F:=F) (fun t ht=>Av.1 (Ft hring t ht).1) (by omega) hlba hb (by rw [htab];try rfl);rw [hcm] at hL3 hLok hL1 |-
 simp only at hL3 hLok hL1;have hep:0<=a.epoch/\a.epoch<=4294967295:=by
  have:=ha;simp only [B4,Bf,BT,BJ,Ad,decide_eq_true_eq,AH] at this;omega
 have hLb:∀ x∈L,x.bytes.length<=45:=fun x hx=>JO hg (hLok x hx)
 have hrec:=W9 g S a.epoch L (by omega) fun x hx=>by have:=hLb x hx;omega
 have hS1:CH S 0 4294967295=true:=AH.2 (by omega);rw [Yv hg hS1 (AH.2 hep) (Av.2 hLok) (by rw [hL3];decide),if_pos rfl] at hrec;obtain⟨R,hR⟩:∃ R,R=Fb S a.epoch L:=⟨_,rfl⟩;have hRl:R.length=4:=by rw [hR,Lk,hL3]
 have hRok:∀ k:Nat,k<4->EE g (R.getD k rc0)=true/\(R.getD k rc0).img.bytes.length<=100000:=fun k hk=>by
  rw [hR,SU _ _ _ (by omega)];split
  ·rename_i q;exact⟨WS hg hS1 (AH.2 hep) (hLok _ (A9 (d:=⟨0,0, []⟩) q)) q hL3,by have:=hLb _ (A9 (d:=(⟨0,0, []⟩:Img)) q);show (L.getD k _).bytes.length<=_;omega⟩
  ·rw [show k=L.length by omega];exact⟨WR hg hS1 (AH.2 hep) hL3,Ak _⟩
 rw [<-hR] at hrec;refine zV tys_ok Tryz.func36 rfl rfl (Ae rfl) ?_;conv=>whnf
 refine ze9 [0,1,2,3,4] hmay ?_;rintro _ _ ⟨rfl,rfl⟩;conv=>whnf
 apply zX (0) tys_ok mixed (.o [0,1,2,3,4,5,6,7,8,9,10,11,12,13,14,15,16,17,18,19,20,21] .fin) (by kernel_rfl);conv=>whnf
 (refine zk (args':= [.ag (Bl g), .ag (Fh a), .sl 4 l.length fun i=>(l.map Ii).getD i []]) (hnext.subA tsub) ⟨(Aa _).symm,rfl⟩ ?_;rintro _ rfl;refine⟨rfl,?_⟩)
 conv=>whnf
 refine ze9 [0,1,2,3,4] himg ?_;rintro _ _ ⟨rfl,d1,hd1,rfl⟩;conv=>whnf
 repeat' (refine z_ ?_;conv=>whnf)
 apply zX (0) tys_ok mixed (.o [0,1,2,3,4,5,6,7,8,9,10,11,12,13,14,15,16,17] .fin) (by kernel_rfl);conv=>whnf
 refine zZ hrec ?_;conv=>whnf
 refine zS (Nat × Dk × List Wr) (fun x=>([(0, .bp 0 0),(4, .bp 5 0),(8,iv P),(9,iv S),(10,EU L),(11,RJ R),(73,RJ R),(74,iv R.length),(75,iv (x.1:Nat))],conH g (Bk a l) x.2.1 lba)) (fun x=>x.1<=4/\Gw (A4 g) x.2.1 F x.2.2/\x.2.2.length=2*x.1/\∀ w∈x.2.2,(g.an<=w.addr/\w.addr<g.an+2*g.sl/\Ca w.bytes=w.addr)/\w.bytes.length<=200) (fun x=>4 - x.1) (0,d1, []) ⟨by show 0<=4;omega,hd1,rfl,fun w hw=>by cases hw⟩
  (zQ (s:= [0,1,2,3,4,5]) tA) ?_
 rintro⟨i,d2,W⟩ ⟨hi,hW,hWl,hWb⟩;simp only at hi hW hWl hWb;by_cases hi4:i<4
 ·obtain⟨Q,hQ⟩:∃ Q,Q=Ex g P (i:Nat):=⟨_,rfl⟩;have hQ2:=OP hg (pos:=P) (at_:=(i:Nat)) (by rw [hP];exact⟨BE _ (by unfold Ea;omega),Bo _ (by omega)⟩) (by omega);rw [<-hQ] at hQ2;obtain⟨X,hX⟩:∃ X,X=R.getD i rc0:=⟨_,rfl⟩;have hXok:=hRok i hi4;rw [<-hX] at hXok;subst hX;have c0:=Hq (g:=g) (.inl rfl) hQ2 (c:=0);have c1:=Hq (g:=g) (.inr rfl) hQ2 (c:=1);have hbo:=TZ g (Bk a l) d2 F W (R.getD i rc0) Q hg hXok.1 hXok.2 hQ2 hW (by omega);have hW2:∀ w∈(W ++ [⟨A_ g 0 Q,B3 g (R.getD i rc0) 0 Q⟩]) ++ [⟨A_ g 1 Q,B3 g (R.getD i rc0) 1 Q⟩],(g.an<=w.addr/\w.addr<g.an+2*g.sl/\Ca w.bytes=w.addr)/\w.bytes.length<=200:=fun w hw=>by
   rcases Ay.1 hw with q | q
   ·rcases Ay.1 q with q | q
    ·exact hWb w q
    ·rw [A8] at q;rw [q];exact⟨⟨c0.1,c0.2,PY hg hXok.1 (.inl rfl) hQ2⟩,Cd hXok.1 0 Q⟩
   ·rw [A8] at q;rw [q];exact⟨⟨c1.1,c1.2,PY hg hXok.1 (.inr rfl) hQ2⟩,Cd hXok.1 1 Q⟩
  conv=>whnf
  rw [show decide ((i:Int)<(R.length:Nat))=true from decide_eq_true (by omega)];conv=>whnf
  repeat' (refine z_ ?_;conv=>whnf)
  refine⟨⟨by omega,by omega⟩,?_⟩;conv=>whnf
  rw [Ab];repeat' (refine z_ ?_;conv=>whnf)
  apply zX (2 ^ 139) tys_ok mixed (.o [0,1,2,3,4,5,6,7,8,9,10,11,12,13,14,15,16] .fin) (by kernel_rfl);conv=>whnf
  try (refine tI ?_;conv=>whnf)
  (rw [show (IntKind.i64.wrap (P+(i:Nat))).tmod g.sl=Q from hQ.symm];refine ze9 [0,1,2,3,4] hbo ?_;rintro _ _ ⟨rfl,d3,hd3,rfl⟩)
  conv=>whnf
  conv=>whnf
  repeat' (refine z_ ?_;conv=>whnf)
  exact⟨(i+1,d3,(W ++ [⟨A_ g 0 Q,B3 g (R.getD i rc0) 0 Q⟩]) ++ [⟨A_ g 1 Q,B3 g (R.getD i rc0) 1 Q⟩]),⟨by show i+1<=4;omega,hd3,by show ((W ++ [_]) ++ [_]).length=2*(i+1);simp;omega,hW2⟩,by show 4 - (i+1)<4 - i;omega,zQ (s:= [0,1,2,3,4,5]) ⟨⟨rfl,rfl,rfl,rfl,rfl,rfl,rfl,rfl,AN (by omega),tv⟩,tA,rfl,rfl,rfl,rfl,rfl⟩⟩
 ·have ei:i=4:=by omega
  subst ei;have hok1:=hW.ok;have hfl:=ID d2 hok1.l hok1.m fun w hw=>(hok1.w w hw).1
  rw [if_neg (by rw [hW.left];decide),if_neg (by rw [hW.left];decide)] at hfl;have hdel:=VN lba;conv=>whnf
  rw [show decide (((4:Nat):Int)<(R.length:Nat))=false from decide_eq_false (by omega)];conv=>whnf
  repeat' (refine z_ ?_;conv=>whnf)
  refine ze9 [1,2,3] hfl ?_;rintro _ _ ⟨rfl,rfl⟩;conv=>whnf
  repeat' (refine z_ ?_;conv=>whnf)
  refine⟨rfl,?_⟩;conv=>whnf
  refine Ah ⟨by rw [Aa],by show l.length+1<=1000000000;omega⟩ ?_;conv=>whnf
  repeat' (refine z_ ?_;conv=>whnf)
  refine zZ hdel ?_;conv=>whnf
  have hv2:=hv.add hg hK (d':=d2.flush) ⟨_,hW.flush⟩ (x:=⟨S,P,4,L⟩) hS hP (by show (2:Int)<=4;omega) (by show (4:Int)<=g.sl - Ea l;omega) (by show (4:Int)=(L.length:Int)+1;omega) hLok hL1;have e4:((R.length:Nat):Int)=4:=by omega
  rw [e4];exact⟨_,iv 0,aA g (Bk a (l ++ [⟨S,P,4,L⟩])) d2.flush,fun _ _ h=>h,zI (zO (Yw (T:=l ++ [⟨S,P,4,L⟩]) rfl rfl (by rw [Ai];try rfl) (by rw [A2];try rfl))) (s:= [0,1,2,3,4,6]) tA,rfl,d2.flush,W,hW.flush,hWb,hv2,rfl⟩
theorem RT {c1:Ctx} {l:List AV} {us:List Value} {j k:Nat} (hx:RdL l c1 us) (hj:l[j]? = some (.v (.slice none 0 0))) (q:Rd (.ow k 0) c1 (.slice none 0 0)):RdL (l.set j (.ow k 0)) c1 us:=by
 obtain⟨v,h5,h6⟩:=hx.get hj;simp only [Rd] at h6;subst h6;have h7:=hx.set (i:=j) q;have e:us.set j (.slice none 0 0)=us:=by
  obtain⟨hlt,h8⟩:=Aq.1 h5;have:=@List.set_getElem_self _ us _ hlt;rw [h8] at this;exact this
 rwa [e] at h7
theorem ConvH.ghost {H:List AB} (k j:Nat) {bt t:TypeId} {sz:Nat} {cs:List AV} (hk:H[k]? = some (.box bt cs)) (hj:cs[j]? = some (.v (.slice none 0 0))) (hz:0<sz):ConvH H (H.set k (.box bt (cs.set j (.ow H.length 0))) ++ [.row t sz []]):=by
 intro w0 M0 c hs;obtain⟨q1,q2,q3⟩:=hs.newrow (Below.refl _ _) (t:=t) (es:= []) (v:= .slice none 0 0) (xs:= []) hz (by simp) (World.ownsRow_nil _ _ _ _) (by simp) (by simp [RdL]);have hkl:=(Aq.1 hk).1;have hk':(H ++ [AB.row t sz []])[k]? = some (.box bt cs):=by rw [AF hkl];exact hk
 have q1':=q1.rebox hk' (cs':=cs.set j (.ow H.length 0)) (fun xs hx=>RT hx hj q3);rw [List.set_append_left _ _ hkl] at q1';exact⟨c.new c.w (.slice none 0 0) 0,rfl,q1',q2⟩
theorem ACalls.ghost {P:Program} {q:Bool} {f:FuncId} {args:List AV} {H:List AB} {K:AV->List AB->Prop} (j:Nat) {t:TypeId} {sz:Nat} (hj:args[j]? = some (.v (.slice none 0 0))) (hz:0<sz) (h:ACalls P q f (args.set j (.ow H.length 0)) (H ++ [.row t sz []]) K):ACalls P q f args H K:=by
 refine⟨h.go,fun w0 M0 c us hs hr=>?_⟩;obtain⟨q1,q2,q3⟩:=hs.newrow (Below.refl _ _) (t:=t) (es:= []) (v:= .slice none 0 0) (xs:= []) hz (by simp) (World.ownsRow_nil _ _ _ _) (by simp) (by simp [RdL]);have:=h.calls w0 M0 _ us q1 (RT (RdL.ext _ q2 hr) hj q3);refine this.mono ?_;rintro e w' ⟨v,c',r,H2,rfl,rfl,p1,p2,p3,p4,p5⟩;exact⟨v,c',r,H2,rfl,rfl,p1,p2,q2.trans p3,p4,p5⟩
@[reducible] def txV:Bool->List Tx->AV
 | true,_=> .v (.slice none 0 0)
 | false,l=>Ev l
structure Sp where
 kind:Int
 h:Int
 lba:Int
 bytes:List UInt8
 addr:Int
 frm:Int
 bit:Int
 bits:Int
 cut:Int
 keep:Int
@[reducible] def N9 (x:Sp):List AV:= [iv x.kind,iv x.h,iv x.lba,bA x.bytes,iv x.addr,iv x.frm,iv x.bit,iv x.bits,iv x.cut,iv x.keep]
@[reducible] def Ys (g:Geo) (d:Dk) (on:Bool) (s:Stt) (tx lk hd:AV):List AV:= [iv g.z,iv g.d,iv g.sp,iv g.sl,iv g.an,K0 d.cells,K5 d.cache,iv d.reqs,iv d.left, .v (.bool on),iv s.a.gen,iv s.a.epoch,iv s.a.pos,iv s.a.seq,iv s.a.last, .v (.string s.a.label),GP s.a.homes,tx, .v (.bool s.only),iv s.cursor,iv s.found,iv s.fixed,iv s.moved,iA s.lost,lk,hd]
@[reducible] def KT (g:Geo) (d:Dk):List AV:= [iv g.z,iv g.d,iv g.sp,iv g.sl,iv g.an,K0 d.cells,K5 d.cache,iv d.reqs,iv d.left, .v (.bool false),iv 0,iv 0,iv 0,iv 0,iv 0, .v (.string ⟨#[]⟩), .v (.slice none 0 0), .v (.slice none 0 0), .v (.bool false),iv 0,iv 0,iv 0,iv 0, .v (.slice none 0 0), .v (.slice none 0 0), .v (.slice none 0 0)]
@[reducible] def ZW (vol:List AV) (g:Geo) (s:Stt) (tx:AV) (d:Dk) (x:Sp):List AB:= [.box 111 vol, .box 99 (XK g (.bp 2 0) tx (iA s.lost) s), .box 119 (II (.ow 3 d.cells.length) (.ow 4 d.cache.length) d.reqs d.left), .row 68 3 (d.cells.map BB), .row 152 2 (d.cache.map E9), .box 116 (.bp 0 0:: .bp 1 0::N9 x)]
@[reducible] def Um (vol:List AV) (g:Geo) (s:Stt) (tx:AV) (d:Dk) (x:Sp):List AB:= [.box 111 vol, .box 99 (XK g (.bp 2 0) tx (iA s.lost) s), .box 119 (II (.ow 3 d.cells.length) (.ow 6 d.cache.length) d.reqs d.left), .row 68 3 (d.cells.map BB), .dead, .box 116 (.bp 0 0:: .bp 1 0::N9 x), .row 152 2 (d.cache.map E9)]
@[reducible] def an7 (e n:Int) (b:List UInt8):List AV:= [iv e,iv n,bA b,iv 0,iv 0,iv 0,iA []]
theorem Dm (e n:Int):SubL [iv e,iv n, .v (.slice none 0 0),iv 0,iv 0,iv 0, .v (.slice none 0 0)] (an7 e n []):=⟨ri,ri,Bt 1 _,ri,ri,ri,Bt 1 _,tv⟩
theorem ZM (e n:Int) (b:List UInt8):SubL [iv e,iv n,bA b,iv 0,iv 0,iv 0, .v (.slice none 0 0)] (an7 e n b):=⟨ri,ri,ri,ri,ri,ri,Bt 1 _,tv⟩
theorem R7 (g:Geo) (lb:ByteArray) (hg:Bq g=true) (hs:Em lb.data.toList=0) (hl:lb.size<=1000000):ACalls Tryz.prog false 19 [.ag (Bl g), .v (.string lb)] [] fun r H=>r = .tp [.bp 0 0,iv 0]/\H=[.box 111 (KT g (DJ g lb))]:=by
 have hf:=TA g lb hg hs hl;refine zV tys_ok Tryz.func19 rfl rfl (Ae rfl) ?_;conv=>whnf
 refine zZ hf ?_;exact⟨_, .tp [.bp 0 0,iv 0], [.box 111 (KT g (DJ g lb))],fun _ _ h=>h,zQ (s:= [2]) tA,rfl,rfl⟩
theorem S5 (g:Geo) (hg:Bq g=true):Fn Tryz.prog 47 [.ag (Bl g)] fun r=>r = .tp [iv (4*g.sl+4*g.an+16*g.z*(g.d+g.sp+4)+8),iv 0]:=by
 have hG:Fn Tryz.prog 118 [.ag (Bl g)] fun r=>r = .v (Ee (Bq g)):=Cw g.z g.d g.sp g.sl g.an
 rw [hg] at hG;obtain⟨g1,g2,g3,g4,g5⟩:=Az.1 hg;have hb:0<=16*g.z*(g.d+g.sp+4)/\16*g.z*(g.d+g.sp+4)<=64*10:=⟨Db (by omega) (by omega),Int.mul_le_mul (by omega) (by omega) (by omega) (by omega)⟩;refine zT Tryz.func47 rfl ?_;conv=>whnf
 refine zZ hG ?_;exact⟨_,ri,by
  rw [wi (n:=4*g.sl) (by omega),wi (n:=4*g.an) (by omega),wi (n:=4*g.sl+4*g.an) (by omega),wi (n:=16*g.z) (by omega),wi (n:=g.d+g.sp) (by omega),wi (n:=g.d+g.sp+4) (by omega),wi (n:=16*g.z*(g.d+g.sp+4)) (by omega),wi (n:=4*g.sl+4*g.an+16*g.z*(g.d+g.sp+4)) (by omega),wi (n:=4*g.sl+4*g.an+16*g.z*(g.d+g.sp+4)+8) (by omega)]⟩
@[reducible] def Gk (g:Geo) (d0 d:Dk) (s0 s:Stt) (b:Bool) (L:List Lck) (l:List Hd) (x:Sp):List AB:=ZW (Ys g d0 true s0 (Ev s0.txns) (C6 L) (CX l)) g s (txV b s.txns) d x
@[reducible] def Fi (g:Geo) (d0 d:Dk) (s0 s:Stt) (b:Bool) (L:List Lck) (l:List Hd) (x:Sp):List AB:=Um (Ys g d0 true s0 (Ev s0.txns) (C6 L) (CX l)) g s (txV b s.txns) d x
section
variable (g:Geo) (d0 d:Dk) (s0 s:Stt) (b:Bool) (L:List Lck) (l:List Hd) (x:Sp)
theorem KV (hl:l.length<=1000) (hh:Gb l x.h=true):ACalls Tryz.prog false 204 [.bp 5 0] (Gk g d0 d s0 s b L l x) fun r H=>r = .tp [.ag (D_ (l.getD (E5 l x.h) ⟨0, [], []⟩)),iv 0]/\H=Gk g d0 d s0 s b L l x:=by
 have ha:=Oe l x.h (by omega);rw [hh,if_pos rfl] at ha;have hlt:=J_ hh;obtain⟨p,hp⟩:∃ p,p=E5 l x.h:=⟨_,rfl⟩;rw [<-hp] at ha hlt |-
 cases b with
 | true=>
  refine zV tys_ok Tryz.func204 rfl rfl (Ae rfl) ?_;conv=>whnf
  apply zX (0) tys_ok mixed (.o [0,1,2,3,4,5,6,7,8,9,10,11,12,13,14,15,16,17] .fin) (by kernel_rfl);conv=>whnf
  refine zZ ha ?_;refine⟨⟨by omega,by omega⟩,?_⟩;conv=>whnf
  rw [Ab];exact⟨_, .tp [.ag (D_ (l.getD p ⟨0, [], []⟩)),iv 0],Gk g d0 d s0 s true L l x,fun _ _ h=>h,zQ (s:= [0,1,2,3,4,5]) tA,rfl,rfl⟩
 | false=>
  refine zV tys_ok Tryz.func204 rfl rfl (Ae rfl) ?_;conv=>whnf
  apply zX (0) tys_ok mixed (.o [0,1,2,3,4,5,6,7,8,9,10,11,12,13,14,15,16,17] .fin) (by kernel_rfl);conv=>whnf
  refine zZ ha ?_;refine⟨⟨by omega,by omega⟩,?_⟩;conv=>whnf
  rw [Ab];exact⟨_, .tp [.ag (D_ (l.getD p ⟨0, [], []⟩)),iv 0],Gk g d0 d s0 s false L l x,fun _ _ h=>h,zQ (s:= [0,1,2,3,4,5]) tA,rfl,rfl⟩
theorem M7 (hg:Bq g=true) (hl:l.length<=1000) (hh:Gb l x.h=true) (hlba:0<=x.lba/\x.lba<g.z*g.d):ACalls Tryz.prog false 196 [.bp 5 0] (Gk g d0 d s0 s b L l x) fun r H=>r = .tp [.ag (D_ (l.getD (E5 l x.h) ⟨0, [], []⟩)),iv 0]/\H=Gk g d0 d s0 s b L l x:=by
 have c1:=KV g d0 d s0 s b L l x hl hh;have c2:=JT g x.lba hg hlba;cases b with
 | true=>
  refine zV tys_ok Tryz.func196 rfl rfl (Ae rfl) ?_;conv=>whnf
  refine ze9 [0,1,2,3,4,5] c1 ?_;rintro _ _ ⟨rfl,rfl⟩;conv=>whnf
  apply zX (0) tys_ok mixed (.o [0,1,2,3,4,5,6,7,8,9,10,11,12,13,14,15,16,17,18,19] .fin) (by kernel_rfl);conv=>whnf
  refine zZ c2 ?_;conv=>whnf
  repeat' (refine z_ ?_;conv=>whnf)
  exact⟨_, .tp [.ag (D_ (l.getD (E5 l x.h) ⟨0, [], []⟩)),iv 0],Gk g d0 d s0 s true L l x,fun _ _ h=>h,zQ (s:= [0,1,2,3,4,5]) tA,rfl,rfl⟩
 | false=>
  refine zV tys_ok Tryz.func196 rfl rfl (Ae rfl) ?_;conv=>whnf
  refine ze9 [0,1,2,3,4,5] c1 ?_;rintro _ _ ⟨rfl,rfl⟩;conv=>whnf
  apply zX (0) tys_ok mixed (.o [0,1,2,3,4,5,6,7,8,9,10,11,12,13,14,15,16,17,18,19] .fin) (by kernel_rfl);conv=>whnf
  refine zZ c2 ?_;conv=>whnf
  repeat' (refine z_ ?_;conv=>whnf)
  exact⟨_, .tp [.ag (D_ (l.getD (E5 l x.h) ⟨0, [], []⟩)),iv 0],Gk g d0 d s0 s false L l x,fun _ _ h=>h,zQ (s:= [0,1,2,3,4,5]) tA,rfl,rfl⟩
theorem KU (L':List Lck):ACalls Tryz.prog false 197 [.bp 5 0,C6 L',iv 0] (Gk g d0 d s0 s b L l x) fun r H=>r = iv 0/\H=Gk g d0 d s0 s b L' l x:=by
 cases b with
 | true=>
  refine zV tys_ok Tryz.func197 rfl rfl (Ae rfl) ?_;exact⟨_,iv 0,Gk g d0 d s0 s true L' l x,fun _ _ h=>h,zQ (s:= [0,1,2,3,4,5]) tA,rfl,rfl⟩
 | false=>
  refine zV tys_ok Tryz.func197 rfl rfl (Ae rfl) ?_;exact⟨_,iv 0,Gk g d0 d s0 s false L' l x,fun _ _ h=>h,zQ (s:= [0,1,2,3,4,5]) tA,rfl,rfl⟩
end
theorem Xp (n id:Int):Fn Tryz.prog 353 [iv n, .rp [iv id]] fun r=>r = .v (.bool (n == id)):=by
 refine zT Tryz.func353 rfl ?_;exact⟨_,ri,rfl⟩
theorem YM (l:List Int) (id:Int) (hl:l.length<=1000000):Fn Tryz.prog 152 [iA l, .fn 353 [.rp [iv id]]] fun r=>r = iv (Mo (fun n=>n == id) l):=by
 refine zT Tryz.func152 rfl ?_;conv=>whnf
 refine zP Nat (fun k=>([(0,iA l),(1, .fn 353 [.rp [iv id]]),(7,iv l.length),(8,iv k)], [])) (fun k=>k<=l.length/\(l.take k).any (fun n=>n == id)=false) (fun k=>l.length - k) 0 ⟨Ak _,by simp⟩ ⟨[],tv,tA,tv,rfl,rfl,rfl⟩ ?_;rintro k ⟨hk,hI⟩;conv=>whnf
 refine Aj (fun h2=>?_) (fun h2=>?_) <;> simp at h2 <;> conv=>whnf
 ·refine⟨by first | omega | (refine⟨rfl,?_,?_⟩ <;> first | omega | (simp only [Aa];done) | (simp only [Aa];omega)) | (simp only [Aa];omega),?_⟩;conv=>whnf
  refine zZ (Xp (l.getD k 0) id) ?_;conv=>whnf
  refine Aj (fun h3=>?_) (fun h3=>?_) <;> conv=>whnf
  ·exact⟨_,ri,by rw [DT (d:=0) h2 hI (by first | exact h3 | (rw [Ab] at h3;exact h3) | simpa using h3)]⟩
  ·refine⟨k+1,⟨by omega,BY (d:=0) h2 hI (by first | exact h3 | (rw [Ab] at h3;exact h3) | simpa using h3)⟩,by omega, [],tv,⟨rfl,rfl,rfl,AN (by omega),tv⟩,tv,rfl,rfl,rfl⟩
 ·exact⟨_,ri,by rw [Ar h2] at hI;rw [CW hI]⟩
theorem Xq (l:List Int) (id:Int) (hl:l.length<=1000000) (h:l.any (fun n=>n == id)=false):Fn Tryz.prog 78 [iA l, .fn 353 [.rp [iv id]]] fun r=>r=iA l:=by
 have h1:=YM l id hl;rw [CW h] at h1;refine zT Tryz.func78 rfl ?_;conv=>whnf
 refine zZ h1 ?_;exact⟨_,ri,rfl⟩
def DX (l:List Lck) (id:Int):List Lck:=(l.map fun x=>if x.writer=id then (⟨x.lba,x.reads, -1⟩:Lck) else x).filter fun x=>decide (0<x.reads.length) || (x.writer != -1)
theorem Rl {l:List Lck} {id:Int} {k:Nat} (hk:k<l.length):DX (l.take (k+1)) id=DX (l.take k) id ++ DX [l.getD k lz] id:=by
 unfold DX;rw [AO hk,A2,List.filter_append];congr 2;rw [Ac,Af hk];try rfl
theorem TN (l:List Lck) (id:Int):(DX l id).length<=l.length:=by
 unfold DX;exact AX (List.length_filter_le _ _) (by rw [Aa];exact Ag _)
theorem Ve (l:List Lck) (id:Int) (hok:L2 l=true) (hid:0<=id) (hn:∀ x∈l,x.reads.any (fun n=>n == id)=false):Fn Tryz.prog 287 [C6 l,iv id] fun r=>r = .tp [C6 (DX l id),iv 0]:=by
 have c1:=I3 l hok;have hok2:=hok;simp only [L2,Ad,decide_eq_true_eq] at hok2;have hlen:=hok2.1;have hrd:∀ x∈l,x.reads.length<=8:=fun x hx=>by
  have:=Av.1 hok2.2.2 x hx;simp only [JL,Ad,decide_eq_true_eq] at this;exact this.1
 have c2:=Lx l (by omega) fun x hx=>by have:=hrd x hx;omega
 refine zT Tryz.func287 rfl ?_;conv=>whnf
 refine zZ c1 ?_;conv=>whnf
 rw [decide_eq_false (show ¬id<0 by omega)];conv=>whnf
 refine zW c2 rfl ?_;rintro _ _ ⟨rfl,rfl⟩;conv=>whnf
 refine zS Nat (fun k=>([(3, .rp [iv id]),(6, .ow 1 (DX (l.take k) id).length),(17, .ow 0 l.length),(18,iv l.length),(19,iv k)], [.row 216 3 (l.map E4), .row 216 3 ((DX (l.take k) id).map E4)])) (fun k=>k<=l.length) (fun k=>l.length - k) 0 (Ak _)
  ⟨_,_,ConvF.cap 3 0 (y:= .rp [iv id]) (H':= [.dead, .row 216 3 (l.map E4)]) rfl (by (conv=>whnf);exact tA), [(6,216,3)],tA, [1,2],tA⟩ ?_
 rintro k hk;conv=>whnf
 refine AJ (fun h2=>?_) (fun h2=>?_) <;> (repeat rw [Ab] at h2) <;> conv=>whnf
 ·have hk':k<l.length:=by omega
  have hE:(l.map E4).getD (k:Int).toNat []=E4 (l.getD k lz):=by rw [Ab];exact AL hk'
  have hm:=A9 (d:=lz) hk';have hdl:=Xq (l.getD k lz).reads id (by have:=hrd _ hm;omega) (hn _ hm);have hds:=Rl (id:=id) hk';have hdn:=TN (l.take k) id;rw [As] at hdn;obtain⟨q,hq⟩:∃ q,q=l.getD k lz:=⟨_,rfl⟩;rw [<-hq] at hE hdl hds;obtain⟨qb,qr,qw⟩:=q;repeat' (refine z_ ?_;conv=>whnf)
  refine⟨⟨by omega,by omega⟩,?_⟩;conv=>whnf
  refine Ah ⟨rfl,(Aa _).symm,by rw [Ab];exact hk'⟩ ?_;conv=>whnf
  rw [hE];conv=>whnf
  refine zZ hdl ?_;conv=>whnf
  repeat' (refine z_ ?_;conv=>whnf)
  by_cases e1:qw=id
  ·rw [show ((⟨qb,qr,qw⟩:Lck).writer == id)=true from beq_iff_eq.2 e1];conv=>whnf
   by_cases e2:0<qr.length
   ·have o:DX [⟨qb,qr,qw⟩] id=[⟨qb,qr, -1⟩]:=by simp [DX,e1,e2]
    rw [show decide (((⟨qb,qr,qw⟩:Lck).reads.length:Int) > 0)=true from decide_eq_true (by show 0<(qr.length:Int);omega)];conv=>whnf
    repeat' (refine z_ ?_;conv=>whnf)
    refine⟨rfl,?_⟩;refine⟨⟨by rw [Aa],by omega⟩,?_⟩;conv=>whnf
    exact⟨k+1,hk',by omega,zQ (s:= [0,1]) ⟨⟨rfl,by rw [hds,o,Ai];try rfl,rfl,rfl,AN (by omega),tv⟩,⟨rfl,by rw [hds,o,A2];try rfl,tv⟩,rfl,rfl,rfl,rfl,rfl⟩⟩
   ·have o:DX [⟨qb,qr,qw⟩] id=[]:=by simp [DX,e1,e2]
    rw [show decide (((⟨qb,qr,qw⟩:Lck).reads.length:Int) > 0)=false from decide_eq_false (by show ¬0<(qr.length:Int);omega)];conv=>whnf
    repeat' (refine z_ ?_;conv=>whnf)
    exact⟨k+1,hk',by omega,zQ (s:= [0,1]) ⟨⟨rfl,by rw [hds,o,AD];try rfl,rfl,rfl,AN (by omega),tv⟩,⟨rfl,by rw [hds,o,AD];try rfl,tv⟩,rfl,rfl,rfl,rfl,rfl⟩⟩
  ·rw [show ((⟨qb,qr,qw⟩:Lck).writer == id)=false from beq_eq_false_iff_ne.2 e1];conv=>whnf
   by_cases e2:0<qr.length
   ·have o:DX [⟨qb,qr,qw⟩] id=[⟨qb,qr,qw⟩]:=by simp [DX,e1,e2]
    rw [show decide (((⟨qb,qr,qw⟩:Lck).reads.length:Int) > 0)=true from decide_eq_true (by show 0<(qr.length:Int);omega)];conv=>whnf
    repeat' (refine z_ ?_;conv=>whnf)
    refine⟨rfl,?_⟩;refine⟨⟨by rw [Aa],by omega⟩,?_⟩;conv=>whnf
    exact⟨k+1,hk',by omega,zQ (s:= [0,1]) ⟨⟨rfl,by rw [hds,o,Ai];try rfl,rfl,rfl,AN (by omega),tv⟩,⟨rfl,by rw [hds,o,A2];try rfl,tv⟩,rfl,rfl,rfl,rfl,rfl⟩⟩
   ·rw [show decide (((⟨qb,qr,qw⟩:Lck).reads.length:Int) > 0)=false from decide_eq_false (by show ¬0<(qr.length:Int);omega)];conv=>whnf
    by_cases e3:qw = -1
    ·have o:DX [⟨qb,qr,qw⟩] id=[]:=by simp [DX,e2,e3]
     rw [show ((⟨qb,qr,qw⟩:Lck).writer != -1)=false from bne_eq_false_iff_eq.2 e3];conv=>whnf
     repeat' (refine z_ ?_;conv=>whnf)
     exact⟨k+1,hk',by omega,zQ (s:= [0,1]) ⟨⟨rfl,by rw [hds,o,AD];try rfl,rfl,rfl,AN (by omega),tv⟩,⟨rfl,by rw [hds,o,AD];try rfl,tv⟩,rfl,rfl,rfl,rfl,rfl⟩⟩
    ·have o:DX [⟨qb,qr,qw⟩] id=[⟨qb,qr,qw⟩]:=by simp [DX,e1,e2,e3]
     rw [show ((⟨qb,qr,qw⟩:Lck).writer != -1)=true from bne_iff_ne.2 e3];conv=>whnf
     repeat' (refine z_ ?_;conv=>whnf)
     refine⟨rfl,?_⟩;refine⟨⟨by rw [Aa],by omega⟩,?_⟩;conv=>whnf
     exact⟨k+1,hk',by omega,zQ (s:= [0,1]) ⟨⟨rfl,by rw [hds,o,Ai];try rfl,rfl,rfl,AN (by omega),tv⟩,⟨rfl,by rw [hds,o,A2];try rfl,tv⟩,rfl,rfl,rfl,rfl,rfl⟩⟩
 ·have e:k=l.length:=by omega
  subst e;rw [A5];refine Ah (Aa _).symm ?_;exact⟨_,Cc (m:= [C6 (DX l id),iv 0]) ⟨Ck (f:=E4) (DX l id) rfl rfl,ri,tv⟩,rfl⟩
theorem Wm {l:List Hd} {id:Int} (h:Gb l id=true):(l.getD (E5 l id) ⟨0, [], []⟩).id=id:=by
 have h1:=J_ h;have h2:(l[E5 l id].id == id)=true:=List.findIdx_getElem (p:=fun h:Hd=>h.id == id) (xs:=l) (w:=h1);rw [Ac,Af h1];exact eq_of_beq h2
section
variable (g:Geo) (d0 d:Dk) (s0 s:Stt) (b:Bool) (L:List Lck) (l:List Hd) (x:Sp)
theorem S6 (hl:l.length<=1000) (hs:∀ h∈l,O0 h) (hend:freeId l 0=l.length) (ho:(Ec l).2.2=0):ACalls Tryz.prog false 111 [.bp 5 0] (Gk g d0 d s0 s b L l x) fun r H=>r = .ag (an7 0 (Ec l).2.1 [])/\H=Gk g d0 d s0 s b L (Ec l).1 x:=by
 have c1:=Vx l hl hs hend;rw [ho] at c1;obtain⟨n,hn⟩:∃ n,n=(Ec l).2.1:=⟨_,rfl⟩;obtain⟨m,hm⟩:∃ m,m=(Ec l).1:=⟨_,rfl⟩;rw [<-hn,<-hm] at c1 |-
 cases b with
 | true=>
  refine zV tys_ok Tryz.func111 rfl rfl (Ae rfl) ?_;conv=>whnf
  refine zZ c1 ?_;exact⟨_, .ag (an7 0 n []),Gk g d0 d s0 s true L m x,B5 (Dm 0 n),zQ (s:= [0,1,2,3,4,5]) tA,rfl,rfl⟩
 | false=>
  refine zV tys_ok Tryz.func111 rfl rfl (Ae rfl) ?_;conv=>whnf
  refine zZ c1 ?_;exact⟨_, .ag (an7 0 n []),Gk g d0 d s0 s false L m x,B5 (Dm 0 n),zQ (s:= [0,1,2,3,4,5]) tA,rfl,rfl⟩
theorem S4 (L':List Lck) (id:Int) (hl:l.length<=1000) (hs:∀ h∈l,O0 h) (hd:Fn Tryz.prog 287 [C6 L,iv id] fun r=>r = .tp [C6 L',iv 0]):ACalls Tryz.prog false 205 [.bp 0 0,iv id] (Gk g d0 d s0 s b L l x) fun r H=>r = .tp []/\H=Gk g d0 d s0 s b L' (EK l id).1 x:=by
 have c1:=T3 l id hl hs;generalize EK l id=q at c1 |-
 obtain⟨m,h,e⟩:=q;simp only at c1 |-
 cases b with
 | true=>
  refine zV tys_ok Tryz.func205 rfl rfl (Ae rfl) ?_;conv=>whnf
  refine zZ c1 ?_;conv=>whnf
  refine zZ hd ?_;exact⟨_, .tp [],Gk g d0 d s0 s true L' m x,fun _ _ h=>h,zQ (s:= [0,1,2,3,4,5]) tA,rfl,rfl⟩
 | false=>
  refine zV tys_ok Tryz.func205 rfl rfl (Ae rfl) ?_;conv=>whnf
  refine zZ c1 ?_;conv=>whnf
  refine zZ hd ?_;exact⟨_, .tp [],Gk g d0 d s0 s false L' m x,fun _ _ h=>h,zQ (s:= [0,1,2,3,4,5]) tA,rfl,rfl⟩
theorem Sz (L':List Lck) (hg:Bq g=true) (hok:Ed l=true) (hl:l.length<=1000) (hs:∀ h∈l,O0 h) (hh:Gb l x.h=true) (hlba:0<=x.lba/\x.lba<g.z*g.d) (h8:x.bytes.length=8) (hf:Sg (l.getD (E5 l x.h) ⟨0, [], []⟩) x.lba=false) (hend:FE (l.getD (E5 l x.h) ⟨0, [], []⟩).lbas x.lba=(l.getD (E5 l x.h) ⟨0, [], []⟩).lbas.length) (hw:Fn Tryz.prog 202 [C6 L,iv x.h,iv x.lba] fun r=>r = .tp [C6 L',iv 0]):ACalls Tryz.prog false 113 [.bp 5 0] (Gk g d0 d s0 s b L l x) fun r H=>r = iv 0/\H=Gk g d0 d s0 s b L' (l.set (E5 l x.h) (W6 (l.getD (E5 l x.h) ⟨0, [], []⟩) x.lba x.bytes)) x:=by
 have c1:=M7 g d0 d s0 s b L l x hg hl hh hlba;have hid:=Wm hh;have c2:=Sf (l.getD (E5 l x.h) ⟨0, [], []⟩) x.lba (by have:=(hs _ (A9 (d:=⟨0, [], []⟩) (J_ hh))).1;omega);rw [show (decide (4<=(l.getD (E5 l x.h) ⟨0, [], []⟩).lbas.length)&&!(l.getD (E5 l x.h) ⟨0, [], []⟩).lbas.any fun y=>x.lba == y)=false from hf] at c2;have c3:=KU g d0 d s0 s b L l x L';have c4:=Xy l x.h x.lba x.bytes hl hs hok hh (by omega) h8 hf hend;generalize l.set (E5 l x.h) (W6 (l.getD (E5 l x.h) ⟨0, [], []⟩) x.lba x.bytes)=m at c4 |-
 obtain⟨q,hq⟩:∃ q,q=l.getD (E5 l x.h) ⟨0, [], []⟩:=⟨_,rfl⟩;rw [<-hq] at c1 c2 hid;have hn8:((x.bytes.length:Int) != 8)=false:=bne_eq_false_iff_eq.2 (by omega);cases b with
 | true=>
  refine zV tys_ok Tryz.func113 rfl rfl (Ae rfl) ?_;conv=>whnf
  refine ze9 [0,1,2,3,4,5] c1 ?_;rintro _ _ ⟨rfl,rfl⟩;conv=>whnf
  rw [hn8];conv=>whnf
  apply zX (0) tys_ok mixed (.o [0,1,2,3,4,5,6,7] .fin) (by kernel_rfl);conv=>whnf
  refine zZ c2 ?_;conv=>whnf
  rw [hid];apply zX (2 ^ 146) tys_ok mixed (.o [0,1,2,3,4,5,6,7,8,9,10,11,12,13,14,15,16,17,18,19] .fin) (by kernel_rfl);conv=>whnf
  refine zZ hw ?_;conv=>whnf
  (refine ze9 [0,1,2,3,4,5] c3 ?_;rintro _ _ ⟨rfl,rfl⟩)
  conv=>whnf
  repeat' (refine z_ ?_;conv=>whnf)
  apply zX (0) tys_ok mixed (.o [0,1,2,3,4,5,6,7,8,9,10,11,12,13,14,15,16,17,18,19,20,21,22,23,24,25,26,27,28,29,30] .fin) (by kernel_rfl);conv=>whnf
  refine zZ c4 ?_;conv=>whnf
  try (refine tS ?_;conv=>whnf)
  exact⟨_,iv 0,Gk g d0 d s0 s true L' m x,fun _ _ h=>h,zQ (s:= [0,1,2,3,4,5]) tA,rfl,rfl⟩
 | false=>
  refine zV tys_ok Tryz.func113 rfl rfl (Ae rfl) ?_;conv=>whnf
  refine ze9 [0,1,2,3,4,5] c1 ?_;rintro _ _ ⟨rfl,rfl⟩;conv=>whnf
  rw [hn8];conv=>whnf
  apply zX (0) tys_ok mixed (.o [0,1,2,3,4,5,6,7] .fin) (by kernel_rfl);conv=>whnf
  refine zZ c2 ?_;conv=>whnf
  rw [hid];apply zX (2 ^ 146) tys_ok mixed (.o [0,1,2,3,4,5,6,7,8,9,10,11,12,13,14,15,16,17,18,19] .fin) (by kernel_rfl);conv=>whnf
  refine zZ hw ?_;conv=>whnf
  (refine ze9 [0,1,2,3,4,5] c3 ?_;rintro _ _ ⟨rfl,rfl⟩)
  conv=>whnf
  repeat' (refine z_ ?_;conv=>whnf)
  apply zX (0) tys_ok mixed (.o [0,1,2,3,4,5,6,7,8,9,10,11,12,13,14,15,16,17,18,19,20,21,22,23,24,25,26,27,28,29,30] .fin) (by kernel_rfl);conv=>whnf
  refine zZ c4 ?_;conv=>whnf
  try (refine tS ?_;conv=>whnf)
  exact⟨_,iv 0,Gk g d0 d s0 s false L' m x,fun _ _ h=>h,zQ (s:= [0,1,2,3,4,5]) tA,rfl,rfl⟩
end
def Lp (g:Geo) (lb:ByteArray) (c:An) (q:Int):List UInt8:=if q<0 then ((C7 (DJ g lb).cells (AT g c)).getD (-1 - q).toNat cz).old else if q<g.an then Dr c q else FM g lb q
theorem Xa {g:Geo} {lb:ByteArray} (hg:Bq g=true) (hs:Em lb.data.toList=0):∃ D,JJ g (DJ g lb)=(D,0,Bk (DV (BN g lb) 0) [])/\DkOk (DJ g lb)/\((DJ g lb).cells.length:Int)=A4 g/\Vol g 2 D (Bk (DV (BN g lb) 0) [])/\Gd (A4 g) D (Lp g lb (DV (BN g lb) 0)):=by
 obtain⟨g1,g2,g3,g4,g5⟩:=Az.1 hg;have hf:=Ia (g:=g) (s:=lb) hg;have hb:=JV (g:=g) (s:=lb) hg hs;have hdk:DkOk (DJ g lb):=X9 hg hb;have hcg:=Eg hg;have hsc:=OW hg (b:=BN g lb) rfl (by show ¬(1:Int) - 1<0;decide) hf;have hm:=N_ hg hdk hf.len hf.cache (by show (-1:Int)<0;decide) (US hg hb hf) hsc (by show (1:Int)≠_;decide) (by show (0:Int)≠_;decide) (fun w hw=>by cases hw) (Ak _);have hna:=EZ g (DV (BN g lb) ([]:List Tx).length);rw [V4 hf _ (fun w hw=>by
  simp only [AT,AM,AK] at hw;obtain⟨i,hi,rfl⟩:=hw;exact⟨by show (0:Int)<=(i:Nat);omega,by show ((i:Nat):Int)<_;omega⟩),if_neg (by omega),if_neg (by omega)] at hm
 have hn:=Pt (n:=0) hb (by show (1:Int)≠_;decide) (by show (0:Int)≠_;decide) (by show (1:Int)+0 - 1<=_;decide);have hfin:=T0 (r:=((DJ g lb).tick (Lu g [])).reqs) (l:=(DJ g lb).left) hg (c:=DV (BN g lb) ([]:List Tx).length) hf;have hD:DkOk ⟨C7 (C7 (DJ g lb).cells []) (AT g (DV (BN g lb) 0)), [],((DJ g lb).tick (Lu g [])).reqs,(DJ g lb).left⟩:=by
  have h1:=hdk.adv (Lu g []);rw [Jy _ (RU hdk (by show (-1:Int)<0;decide) _)] at h1;have h2:=h1.allFin (AT g (DV (BN g lb) 0)) fun w hw=>(Mk hg hn hf.len w hw).2
  rw [allFin_cells] at h2;exact h2
 have hgd:Gd (A4 g) _ (Lp g lb (DV (BN g lb) 0)):=⟨hD,rfl,hfin.len,hfin.cache,fun a h0 h1=>by
  unfold Lp;rw [if_neg (by omega)];exact hfin.cell a h0 h1,fun a h0 h1=>by
  unfold Lp;rw [if_pos (by omega),show -1 - (-1 - a)=a by omega];try rfl⟩
 exact⟨_,hm,hdk,hf.len,⟨⟨_,hgd⟩,hn,rfl,tA,(by show (1:Int)+1<=2;decide),(by show (1:Int)+(0:Nat)<=2;decide),fun t ht=>by cases ht⟩,hgd⟩
def Jz (g:Geo) (lb:ByteArray):Md:=⟨DV (BN g lb) 0, [],Kz (A4 g) (Lp g lb (DV (BN g lb) 0)),List.replicate (g.z*g.d).toNat zero8⟩
theorem UK {g:Geo} {lb:ByteArray} (hg:Bq g=true) (hs:Em lb.data.toList=0):∃ D,JJ g (DJ g lb)=(D,0,Bk (Jz g lb).a (Jz g lb).l)/\DkOk (DJ g lb)/\((DJ g lb).cells.length:Int)=A4 g/\Gd (A4 g) D (Jz g lb).F/\Vo g 2 (Jz g lb):=by
 obtain⟨D,h1,h2,h3,h4,h5⟩:=Xa hg hs;obtain⟨q1,q2⟩:=h5.clip;refine⟨D,h1,h2,h3,q1,Vo.of (d:=D) (M:=Jz g lb) ⟨⟨_,q1⟩,h4.an,h4.ring,h4.rest,h4.gen,h4.seq,h4.one⟩ q2 ?_⟩;obtain⟨g1,g2,g3,g4,g5⟩:=Az.1 hg;have:0<=g.z*g.d:=Db (by omega) (by omega);show (((List.replicate (g.z*g.d).toNat zero8).length:Nat):Int)=_;rw [Bm];omega
theorem UX {g:Geo} {lb:ByteArray} (hg:Bq g=true):VolV g (Jz g lb).a (Jz g lb).l (Jz g lb).F fun _ _=>zero8:=by
 obtain⟨g1,g2,g3,g4,g5⟩:=Az.1 hg;intro z h0 h1;obtain⟨k,rfl⟩:∃ k:Nat,z=(k:Nat):=⟨z.toNat,by omega⟩;have hcb:=Gh hg;have hpb:=Hk hg;have ht0:=RA hg;have hzh:((Jz g lb).a.homes.getD k ⟨[],0,0⟩)=⟨(List.range (g.d+1).toNat).map Int.ofNat,g.d+1,0⟩:=by
  show (List.replicate g.z.toNat _).getD k _=_;rw [Ac,List.getElem?_replicate,if_pos (by omega)];try rfl
 have hF:∀ q,g.an+2*g.sl<=q->q<A4 g->(Jz g lb).F q=FM g lb q:=fun q hq hq2=>by
  show Kz (A4 g) (Lp g lb _) q=_;rw [XH (by omega) hq2];unfold Lp;rw [if_neg (by omega)];exact if_neg (by omega)
 have hti:=Qx hg (z:=(k:Nat)) (k:=0) ⟨h0,h1⟩ (by omega);have htab:Fj g (Bk (Jz g lb).a (Jz g lb).l) (Jz g lb).F (k:Nat)=some (E3 g):=by
  have hroot:Dv (Jz g lb).a (Jz g lb).l (k:Nat)=0:=by
   show ((Jz g lb).a.homes.getD ((k:Nat):Int).toNat ⟨[],0,0⟩).root=0;rw [Ab,hzh]
  show (match Cy g ⟨0,(Jz g lb).F (Be g (k:Nat) 0)⟩ (Be g (k:Nat) 0) (Dv (Jz g lb).a (Jz g lb).l (k:Nat)) with | some t=>some t | none=>_)=_;have e:=PG (g:=g) (s:=lb) (z:=k) (k:=0) (by omega) h1 (by omega);rw [hroot,hF _ hti.1 hti.2.2,show Be g ((k:Nat):Int) (0:Int)=Be g (k:Nat) ((0:Nat):Int) from rfl,e,SI ⟨by show 0<=Be g (k:Nat) 0;omega,by show Be g (k:Nat) 0<=65535;omega,by omega,by omega,by rw [ER];unfold E3;rw [Bm];omega⟩,Iv ht0]
 have hent:∀ w, -1<=w->w<g.d->(E3 g).getD (Et g w).toNat ez=ent0:=fun w hw hw2=>by
  have hat:0<=Et g w/\Et g w<=g.d:=by unfold Et;split <;> omega
  unfold E3;rw [Ac,List.getElem?_replicate,if_pos (by omega)];try rfl
 refine⟨E3 g,htab,fun _ _ _=>rfl,fun w hw hw2=>?_,fun w hw hw2=>?_,(fold_zero _).symm⟩
 ·rw [hent w hw hw2];exact tA
 ·show DE ⟨0,(Jz g lb).F (D3 g (Jz g lb).a (k:Nat) w)⟩ (D3 g (Jz g lb).a (k:Nat) w) ((E3 g).getD (Et g w).toNat ez)=some zero8;have hat:0<=Et g w/\Et g w<=g.d:=by unfold Et;split <;> omega
  have hadr:D3 g (Jz g lb).a (k:Nat) w=Cz g (k:Nat) ((Et g w).toNat:Nat):=by
   unfold D3;rw [Ab,hzh];congr 1;rw [AL (d:=0) (by simp;omega),Ac,BL (by omega)];try rfl
  have hsl:=KF hg (z:=(k:Nat)) (s:=((Et g w).toNat:Nat)) ⟨h0,h1⟩ (by unfold CE;omega);rw [hadr,hF _ (by omega) hsl.2,MW (by omega) (by omega) (by omega),hent w hw hw2];exact T_ ⟨by omega,by omega,by omega,by omega,by decide⟩ rfl rfl rfl
theorem YD {g:Geo} {lb:ByteArray} (hg:Bq g=true):ZU g (Jz g lb):=by
 obtain⟨g1,g2,g3,g4,g5⟩:=Az.1 hg;have hn:0<=g.z*g.d:=Db (by omega) (by omega);refine⟨?_,_,UX hg,fun z w h0 h1 h2 h3=>?_⟩
 ·show (((List.replicate (g.z*g.d).toNat zero8).length:Nat):Int)=_;rw [Bm];omega
 ·have:=au hg h0 h1 h2 h3;show (List.replicate (g.z*g.d).toNat zero8).getD _ []=zero8;rw [Ac,List.getElem?_replicate,if_pos (by omega)];try rfl
theorem Vc {g:Geo} {a:An} {seq left:Int} (hg:Bq g=true):E8 g a ⟨0,B3 g zeroC 0 0⟩ ⟨0,B3 g zeroC 1 0⟩ 0 seq 0 0 left=(zeroC, [],2):=by
 obtain⟨g1,g2,g3,g4,g5⟩:=Az.1 hg;have h0:Ff zeroC a seq 0 0 left=false:=decide_eq_false fun h=>h.1 rfl
 unfold E8;rw [J9 hg (Eo hg) (Lq (.inl rfl) ⟨by omega,by omega⟩),J9 hg (Eo hg) (Lq (.inr rfl) ⟨by omega,by omega⟩)];show FD (some zeroC) (some zeroC) (Ff zeroC a seq 0 0 left) (Ff zeroC a seq 0 0 left)=_;rw [h0];try rfl
theorem UE (g:Geo) (a:An) (x y:List Gt) (pos seq left:Int) (hp:pos=0) (hg:Bq g=true) (ha:B4 g a=true) (hl:a.label.size<=1000000) (hh:a.homes.length<=1000000) (hx:x.length=g.sl) (hy:y.length=g.sl) (h0:x.getD 0 gz=⟨0,B3 g zeroC 0 0⟩) (h1:y.getD 0 gz=⟨0,B3 g zeroC 1 0⟩) :
  ACalls Tryz.prog false 376 [.bp 0 0,iv 0,iv 0] [.box 443 (Zm g a x y pos seq left (.v (.slice none 0 0)))]
   fun r H=>r = .tp [.ag (Hi zeroC),iv 2, .v (.slice none 0 0)]/\H=[.box 443 (Zm g a x y pos seq left (.v (.slice none 0 0)))]:=by
 subst hp;obtain⟨g1,g2,g3,g4,g5⟩:=Az.1 hg;have b0:(B3 g zeroC 0 0).length<=100000:=by have:=Cd (Eo hg) 0 0;omega
 have b1:(B3 g zeroC 1 0).length<=100000:=by have:=Cd (Eo hg) 1 0;omega
 have lk:=Xl (g:=g) (a:=a) (x:=⟨0,B3 g zeroC 0 0⟩) (y:=⟨0,B3 g zeroC 1 0⟩) (slot:=0) (seq:=seq) (at_:=0) (of_:=0) (left:=left) hl hh b0 b1 hg ha (AH.2 (by omega)) (Vc hg);have w0:(IntKind.i64.wrap (0+0)).tmod g.sl=0:=by rw [show IntKind.i64.wrap (0+0)=0 from rfl,Int.zero_tmod]
 rw [<-h0,<-h1] at lk;refine zV tys_ok Tryz.func376 rfl rfl (Ae rfl) ?_;conv=>whnf
 conv=>whnf
 refine zK tys_ok mixed (by kernel_rfl) ?_;refine⟨by omega,?_⟩;conv=>whnf
 rw [w0];apply zJ tys_ok mixed (.o [0,1,2,3,4,5,6,7,8,9,10,11,12,13,14,15,16,17,18,19,20,21,22,23,24,25,26,27,28,29,30,31,32] (.two 33 (.o [34,35,36,37,38,39,40,41,42,43] .fin) 39 (.o [33,34,35,36,37,38,40,41,42,43] .fin))) [10,11,12,13,33,34,35,36,37,38,39,40,41,42,43,44,45,46,47,48,49,50,51,52,53,54,55,56,57,58,59,60,61,62,63,64,65,66,67,68,69,70,71] (by kernel_rfl)
 ·conv=>whnf
  try (refine Ah (by first | omega | exact ixA | exact ixB | (simp;done)) ?_;conv=>whnf)
  try (refine Ah (by first | omega | exact ixA | exact ixB | (simp;done)) ?_;conv=>whnf)
  refine Ah ?_ ?_
  ·conv=>whnf
   refine zZ lk ?_;conv=>whnf
   try (refine tS ?_;conv=>whnf)
   exact tA
  ·conv=>whnf
   refine zZ lk ?_;conv=>whnf
   try (refine tS ?_;conv=>whnf)
   exact tA
 conv=>whnf
 refine zC 1 ?_;conv=>whnf
 repeat' (refine z_ ?_;conv=>whnf)
 exact⟨_, .tp [.ag (Hi zeroC),iv 2, .v (.slice none 0 0)], [.box 443 (Zm g a x y 0 seq left (.v (.slice none 0 0)))],fun _ _ h=>h,zQ (s:= [0]) tA,rfl,rfl⟩
theorem Uu (g:Geo) (a:An) (x y:List Gt) (pos seq left:Int) (hp:pos=0) (hg:Bq g=true) (ha:B4 g a=true) (hl:a.label.size<=1000000) (hh:a.homes.length<=1000000) (hx:x.length=g.sl) (hy:y.length=g.sl) (h0:x.getD 0 gz=⟨0,B3 g zeroC 0 0⟩) (h1:y.getD 0 gz=⟨0,B3 g zeroC 1 0⟩) :
  ACalls Tryz.prog false 331 [.bp 0 0] [.box 443 (Zm g a x y pos seq left (.v (.slice none 0 0)))]
   fun r H=>r = .tp [.ag [iv 0,iv 0,iv 0, .v (.slice none 0 0)],iv 2]/\H=[.box 443 (Zm g a x y pos seq left (.v (.slice none 0 0)))]:=by
 subst hp;have rc0:=UE g a x y 0 seq left rfl hg ha hl hh hx hy h0 h1;refine zV tys_ok Tryz.func331 rfl rfl (Ae rfl) ?_;conv=>whnf
 conv=>whnf
 refine ze9 [0] rc0 ?_;rintro _ _ ⟨rfl,rfl⟩;exact⟨_, .tp [.ag [iv 0,iv 0,iv 0, .v (.slice none 0 0)],iv 2], [.box 443 (Zm g a x y 0 seq left (.v (.slice none 0 0)))],fun _ _ h=>h,zQ (s:= [0]) tA,rfl,rfl⟩
theorem SN (g:Geo) (a:An) (x y:List Gt) (hg:Bq g=true) (ha:B4 g a=true) (hl:a.label.size<=1000000) (hh:a.homes.length<=1000000) (hp:a.pos=0) (hq:¬a.seq - 1<a.last) (hq1:1<=a.seq) (hq2:a.seq<=4294967295) (hx:(x.length:Int)=g.sl) (hy:(y.length:Int)=g.sl) (h0:x.getD 0 gz=⟨0,B3 g zeroC 0 0⟩) (h1:y.getD 0 gz=⟨0,B3 g zeroC 1 0⟩) :
  Fn Tryz.prog 274 [.ag (Bl g), .ag (Fh a),F0 x,F0 y] fun r=>r = .tp [.v (.slice none 0 0), .v (.slice none 0 0),iv 0]:=by
 obtain⟨g1,g2,g3,g4,g5⟩:=Az.1 hg;have s1:=Gj g a hl hh;rw [hg,ha] at s1;have tx:=Uu g a x y a.pos a.seq g.sl hp hg ha hl hh hx hy h0 h1;have w1:IntKind.i64.wrap (a.seq - 1)=a.seq - 1:=wi (by omega);refine zT Tryz.func274 rfl ?_;conv=>whnf
 refine zZ s1 ?_;conv=>whnf
 rw [show ((x.length:Int) != g.sl)=false from bne_eq_false_iff_eq.2 hx];conv=>whnf
 rw [show ((y.length:Int) != g.sl)=false from bne_eq_false_iff_eq.2 hy];conv=>whnf
 refine zC 1 ?_;conv=>whnf
 rw [show decide (g.sl > 0)=true from decide_eq_true (by omega)];conv=>whnf
 rw [show decide (a.seq<=4294967295)=true from decide_eq_true hq2];conv=>whnf
 refine ze9 [2] tx ?_;rintro _ _ ⟨rfl,rfl⟩;conv=>whnf
 repeat' (refine z_ ?_;conv=>whnf)
 refine zK tys_ok mixed (by kernel_rfl) ?_;conv=>whnf
 rw [w1,decide_eq_false hq];conv=>whnf
 refine zK tys_ok mixed (by kernel_rfl) ?_;exact⟨_,ri,rfl⟩
theorem O7 {g:Geo} (hg:Bq g=true) {lba:Int} (hlba:0<=lba/\lba<g.z*g.d):(0<=lba.tdiv g.d/\lba.tdiv g.d<g.z)/\0<=lba.tmod g.d/\lba.tmod g.d<g.d:=by
 obtain⟨g1,g2,g3,g4,g5⟩:=Az.1 hg;rw [Bp hlba.1];exact⟨⟨Dh hlba.1 (by omega),Df (by omega) hlba.2⟩,BE _ hlba.1,Bo _ (by omega)⟩
def Dk.z (d:Dk):Dk:={ d with reqs:=0 }
theorem DkOk.z {d:Dk} (h:DkOk d):DkOk d.z:=⟨h.n,h.m,⟨CB _,by show (0:Int)<=_;decide⟩,h.l,h.c,h.w⟩
theorem Gd.z {n:Int} {d:Dk} {F:Int->List UInt8} (h:Gd n d F):Gd n d.z F:=⟨h.ok.z,h.left,h.len,h.cache,h.cell,h.old⟩
theorem aD {g:Geo} {lb:ByteArray} (hg:Bq g=true) (hs:Em lb.data.toList=0):∀ a j,FW g (B6 (DJ g lb) (Dl g))=some (a,j)->G_ g a (B6 ((DJ g lb).adv g.an.toNat) (BI g 0)) (B6 ((DJ g lb).adv g.an.toNat) (BI g 1))=([], [],0)/\Fn Tryz.prog 274 [.ag (Bl g), .ag (Fh a),F0 (B6 ((DJ g lb).adv g.an.toNat) (BI g 0)),F0 (B6 ((DJ g lb).adv g.an.toNat) (BI g 1))] fun r=>r = .tp [.v (.slice none 0 0), .v (.slice none 0 0),iv 0]:=fun a j hp=>by
 obtain⟨g1,g2,g3,g4,g5⟩:=Az.1 hg;have hf:=Ia (g:=g) (s:=lb) hg;have hb:=JV (g:=g) (s:=lb) hg hs;rw [US hg hb hf] at hp;obtain⟨rfl, -⟩:=Prod.mk.inj (Option.some.inj hp);have hsm:=E_ g.an.toNat (DJ g lb);have h3:Holds ((DJ g lb).adv g.an.toNat) (A4 g) (FM g lb):=⟨by rw [hsm.1];exact hf.len,hsm.2.trans hf.cache,by rw [hsm.1];exact hf.cell⟩;have hl:∀ c,((B6 ((DJ g lb).adv g.an.toNat) (BI g c)).length:Int)=g.sl:=fun c=>by rw [DC,D7];omega
 have e:∀ c,c=0\/c=1->(B6 ((DJ g lb).adv g.an.toNat) (BI g c)).getD 0 gz=⟨0,B3 g zeroC c 0⟩:=fun c hc=>by
  rw [LE h3 _ (MQ hg hc)];unfold BI;rw [List.map_map,Ac,Bc,BL (by omega)];show (⟨0,FM g lb (A_ g c ((0:Nat):Int))⟩:Gt)=_;rw [Jl hc (by omega)];try rfl
 have hk:=DB hg hb 0 (Ak _);exact⟨OW hg rfl (by show ¬(1:Int) - 1<0;decide) h3,SN g _ _ _ hg hb (by have:=hk.2.2.2.1;omega) (by have:=hk.2.1;omega) rfl (by show ¬(1:Int) - 1<0;decide) (by show (1:Int)<=1;decide) (by show (1:Int)<=4294967295;decide) (hl 0) (hl 1) (e 0 (.inl rfl)) (e 1 (.inr rfl))⟩
structure Vm (g:Geo) (K:Int) (d:Dk) (M:Md):Prop where
 gd:Gd (A4 g) d M.F
 vo:Vo g K M
 rd:ZU g M
theorem Vm.z {g:Geo} {K:Int} {d:Dk} {M:Md} (h:Vm g K d M):Vm g K d.z M:=⟨h.gd.z,h.vo,h.rd⟩
theorem Vm.cm {g:Geo} {K:Int} {d d':Dk} {M:Md} {lba:Int} {b:List UInt8} {W:List Wr} (hg:Bq g=true) (hK:K<=4294967294) (hlba:0<=lba/\lba<g.z*g.d) (hb:b.length=8) (h:Vm g K d M) (hroom:Ea M.l+4<=g.sl) (hd:Gd (A4 g) d' (M9 M.F W)) (hW:∀ w∈W,(g.an<=w.addr/\w.addr<g.an+2*g.sl/\Ca w.bytes=w.addr)/\w.bytes.length<=200):Vm g (K+1) d' ⟨M.a,M.l ++ [FN g M.a M.l M.F lba b],M9 M.F W,M.m.set lba.toNat b⟩:=by
 have hz:0<=lba.tdiv g.d/\lba.tdiv g.d<g.z:=(O7 hg hlba).1;obtain⟨-,V,hV, -⟩:=h.rd;obtain⟨t,hz⟩:=hV _ hz.1 hz.2;obtain⟨c1,c2⟩:=ZE hg hK hlba hb (h.vo.vol h.gd) h.rd (.inl ⟨hroom,by rw [hz.tab];try rfl,W,hW,rfl⟩);exact⟨hd,Vo.of (d:=d') ⟨⟨_,hd⟩,c2.an,c2.ring,c2.rest,c2.gen,c2.seq,c2.one⟩ (Qr h.vo.fb fun w hw=>(hW w hw).2) (by show (((M.m.set lba.toNat b).length:Nat):Int)=_;rw [AY];exact h.vo.m),c1⟩
structure Vout where
 d:Dk
 s:Stt
 b:Bool
 L:List Lck
 l:List Hd
 e:Int
 n:Int
 bytes:List UInt8
@[reducible] def Mu (g:Geo) (d:Dk) (s:Stt) (b:Bool) (L:List Lck) (l:List Hd):List AB:= [.box 111 (Ys g d true s (txV b s.txns) (C6 L) (CX l))]
@[reducible] def voX (g:Geo) (c1 c2:AV) (rq lf:Int) (on:Bool) (s:Stt) (tx lk hd:AV):List AV:= [iv g.z,iv g.d,iv g.sp,iv g.sl,iv g.an,c1,c2,iv rq,iv lf, .v (.bool on),iv s.a.gen,iv s.a.epoch,iv s.a.pos,iv s.a.seq,iv s.a.last, .v (.string s.a.label),GP s.a.homes,tx, .v (.bool s.only),iv s.cursor,iv s.found,iv s.fixed,iv s.moved,iA s.lost,lk,hd]
theorem Ul {g:Geo} {c1 c2:AV} {rq lf:Int} {on:Bool} {s:Stt} {lk hd tx tx':AV} (h:∀ c v,Rd tx c v->Rd tx' c v):SubL (voX g c1 c2 rq lf on s tx lk hd) (voX g c1 c2 rq lf on s tx' lk hd):=⟨ri,ri,ri,ri,ri,ri,ri,ri,ri,ri,ri,ri,ri,ri,ri,ri,ri,h,ri,ri,ri,ri,ri,ri,ri,ri,tv⟩
@[reducible] def ZO (g:Geo) (d:Dk) (j:Nat) (on:Bool) (s:Stt) (tx lk hd:AV):List AV:=voX g (.sl 3 (d.cells.map BB).length fun k=>(d.cells.map BB).getD k []) (.ow j d.cache.length) d.reqs d.left on s tx lk hd
@[reducible] def ZX (g:Geo) (d:Dk) (on:Bool) (s:Stt) (tx lk hd:AV):List AV:=voX g (.sl 3 (d.cells.map BB).length fun k=>(d.cells.map BB).getD k []) (.sl 2 (d.cache.map E9).length fun k=>(d.cache.map E9).getD k []) d.reqs d.left on s tx lk hd
theorem Gl {H:List AB} {t:TypeId} {g:Geo} {d:Dk} {on b:Bool} {s:Stt} {L:List Lck} {l:List Hd} (i j:Nat) (hij:i≠j) (hj0:0≠j) (h0:H[0]? = some (.box t (voX g (.ow i d.cells.length) (.ow j d.cache.length) d.reqs d.left on s (txV b s.txns) (C6 L) (CX l)))) (hi:H[i]? = some (.row 68 3 (d.cells.map BB))) (hj:H[j]? = some (.row 152 2 (d.cache.map E9))) :
  ConvH H (((((H.set i .dead).set 0 (.box t (ZO g d j on s (txV b s.txns) (C6 L) (CX l)))).set j .dead).set 0 (.box t (ZX g d on s (txV b s.txns) (C6 L) (CX l)))).set 0 (.box t (Ys g d on s (txV b s.txns) (C6 L) (CX l)))):=by
 have hl0:0<H.length:=(Aq.1 h0).1;have c1:=zm (H:=H) 0 i (cs2:=ZO g d j on s (txV b s.txns) (C6 L) (CX l)) h0 hi (by
  simp only [A6,By,NC (Aa _).symm,HR (Ne.symm hij)];cases b <;> rfl)
 have c2:=zm (H:=(H.set i .dead).set 0 (.box t (ZO g d j on s (txV b s.txns) (C6 L) (CX l)))) 0 j (cs:=ZO g d j on s (txV b s.txns) (C6 L) (CX l)) (cs2:=ZX g d on s (txV b s.txns) (C6 L) (CX l)) (by rw [A0 (by simpa using hl0)]) (by rw [A3 hj0,A3 hij];exact hj) (by
  simp only [A6,By,NC (Aa _).symm];cases b <;> rfl)
 exact c1.trans (c2.trans (zx (cs:=ZX g d on s (txV b s.txns) (C6 L) (CX l)) (cs':=Ys g d on s (txV b s.txns) (C6 L) (CX l)) 0 (by rw [A0 (by simpa using hl0)]) ⟨ri,ri,ri,ri,ri,Ck (f:=BB) d.cells (Aa _) rfl,Ck (f:=E9) d.cache (Aa _) rfl,ri,ri,ri,ri,ri,ri,ri,ri,ri,ri,ri,ri,ri,ri,ri,ri,ri,ri,ri,tv⟩))
theorem N6 (g:Geo) (d:Dk) (s:Stt) (b:Bool) (L:List Lck) (l:List Hd) (x:Sp) (P:Vout->Prop) (hb:b=true->s.txns=[]) (hd:d.cells.length<=1000000000/\d.cache.length<=1000000000) (hk:2<=x.kind/\x.kind<=10) (hcut:x.cut<=0)
  (hdoes:ACalls Tryz.prog false 45 [.bp 5 0] (Gk g d.z d.z s s b L l x) fun r H=>∃ o,P o/\o.e≠8/\o.d.left = -1/\r = .ag (an7 o.e o.n o.bytes)/\H=Fi g d.z o.d s o.s o.b o.L o.l x) :
  ACalls Tryz.prog false 20 [.bp 0 0, .ag (N9 x)] (Mu g d s b L l) fun r H=>∃ o,P o/\r = .ag (an7 o.e (if o.e=0 then o.n else 0) (if o.e=0 then o.bytes else []))/\H=Mu g o.d o.s o.b o.L o.l:=by
 have c1:=Sn d.z hd.1 hd.2;have htx:∀ b,(b=true->s.txns=[])->∀ c v,Rd (txV b s.txns) c v->Rd (Ev s.txns) c v:=fun b hb c v h=>by
  cases b with
  | true=>rw [hb rfl];exact Bt 4 _ c v h
  | false=>exact h
 have k1:decide (x.kind>=11)=false:=decide_eq_false (by omega);have k2:(x.kind == 1)=false:=beq_eq_false_iff_ne.2 (by omega);have k3:decide (x.cut > 0)=false:=decide_eq_false (by omega);cases b with
 | true=>
  refine zV tys_ok Tryz.func20 rfl rfl (Ae rfl) ?_;conv=>whnf
  rw [k1];conv=>whnf
  repeat' (refine z_ ?_;conv=>whnf)
  apply zX (0) tys_ok mixed (.o [0,1,2,3,4,5,6,7,8] .fin) (by kernel_rfl);conv=>whnf
  rw [k2];conv=>whnf
  repeat' (refine z_ ?_;conv=>whnf)
  rw [k3];conv=>whnf
  repeat' (refine z_ ?_;conv=>whnf)
  apply zX (0) tys_ok mixed (.o [0,1,2,3,4,5,6,7,8,10,11,12,13,16,9,14,15,17,18,19] .fin) (by kernel_rfl);conv=>whnf
  (refine zW c1 rfl ?_;rintro _ _ ⟨rfl,rfl⟩)
  conv=>whnf
  repeat' (refine z_ ?_;conv=>whnf)
  refine zh (zx (cs':=Ys g d.z true s (Ev s.txns) (C6 L) (CX l)) 0 rfl (Ul (htx true hb))) ?_;refine ze9 [0,6,3,4,5,7] hdoes ?_;rintro _ _ ⟨o,ho,he8,hleft,rfl,rfl⟩;obtain⟨⟨cs,ca,rq,lf⟩,s1,b1,L1,l1,e,n,bs⟩:=o;obtain rfl:lf = -1:=hleft;simp only at he8;have k8:(e == 8)=false:=beq_eq_false_iff_ne.2 he8;cases b1 with
  | true=>
   conv=>whnf
   repeat' (refine z_ ?_;conv=>whnf)
   apply zX (0) tys_ok mixed (.o [0,1,2,3,4,5,6,7,8,9,10,11,12,13,14,15,16,17,18,19,20,21,22,23,24] .fin) (by kernel_rfl);conv=>whnf
   try (refine tS ?_;conv=>whnf)
   try (refine tS ?_;conv=>whnf)
   repeat' (refine z_ ?_;conv=>whnf)
   rw [k8];conv=>whnf
   repeat' (refine z_ ?_;conv=>whnf)
   by_cases he0:e=0
   ·subst he0;conv=>whnf
    repeat' (refine z_ ?_;conv=>whnf)
    exact⟨_, .ag (an7 0 n bs),Mu g ⟨cs,ca,rq, -1⟩ s1 true L1 l1,fun _ _ h=>h,zI (zO (Gl (d:=⟨cs,ca,rq, -1⟩) (b:=true) 4 8 (by decide) (by decide) rfl rfl rfl)) (s:= [0]) tA,⟨⟨cs,ca,rq, -1⟩,s1,true,L1,l1,0,n,bs⟩,ho,rfl,rfl⟩
   ·rw [show (e != 0)=true from bne_iff_ne.2 he0];conv=>whnf
    repeat' (refine z_ ?_;conv=>whnf)
    exact⟨_, .ag (an7 e 0 []),Mu g ⟨cs,ca,rq, -1⟩ s1 true L1 l1,B5 (Dm e 0),zI (zO (Gl (d:=⟨cs,ca,rq, -1⟩) (b:=true) 4 8 (by decide) (by decide) rfl rfl rfl)) (s:= [0]) tA,⟨⟨cs,ca,rq, -1⟩,s1,true,L1,l1,e,n,bs⟩,ho,by rw [if_neg he0,if_neg he0],rfl⟩
  | false=>
   conv=>whnf
   repeat' (refine z_ ?_;conv=>whnf)
   apply zX (0) tys_ok mixed (.o [0,1,2,3,4,5,6,7,8,9,10,11,12,13,14,15,16,17,18,19,20,21,22,23,24] .fin) (by kernel_rfl);conv=>whnf
   try (refine tS ?_;conv=>whnf)
   try (refine tS ?_;conv=>whnf)
   repeat' (refine z_ ?_;conv=>whnf)
   rw [k8];conv=>whnf
   repeat' (refine z_ ?_;conv=>whnf)
   by_cases he0:e=0
   ·subst he0;conv=>whnf
    repeat' (refine z_ ?_;conv=>whnf)
    exact⟨_, .ag (an7 0 n bs),Mu g ⟨cs,ca,rq, -1⟩ s1 false L1 l1,fun _ _ h=>h,zI (zO (Gl (d:=⟨cs,ca,rq, -1⟩) (b:=false) 4 8 (by decide) (by decide) rfl rfl rfl)) (s:= [0]) tA,⟨⟨cs,ca,rq, -1⟩,s1,false,L1,l1,0,n,bs⟩,ho,rfl,rfl⟩
   ·rw [show (e != 0)=true from bne_iff_ne.2 he0];conv=>whnf
    repeat' (refine z_ ?_;conv=>whnf)
    exact⟨_, .ag (an7 e 0 []),Mu g ⟨cs,ca,rq, -1⟩ s1 false L1 l1,B5 (Dm e 0),zI (zO (Gl (d:=⟨cs,ca,rq, -1⟩) (b:=false) 4 8 (by decide) (by decide) rfl rfl rfl)) (s:= [0]) tA,⟨⟨cs,ca,rq, -1⟩,s1,false,L1,l1,e,n,bs⟩,ho,by rw [if_neg he0,if_neg he0],rfl⟩
 | false=>
  refine zV tys_ok Tryz.func20 rfl rfl (Ae rfl) ?_;conv=>whnf
  rw [k1];conv=>whnf
  repeat' (refine z_ ?_;conv=>whnf)
  apply zX (0) tys_ok mixed (.o [0,1,2,3,4,5,6,7,8] .fin) (by kernel_rfl);conv=>whnf
  rw [k2];conv=>whnf
  repeat' (refine z_ ?_;conv=>whnf)
  rw [k3];conv=>whnf
  repeat' (refine z_ ?_;conv=>whnf)
  apply zX (0) tys_ok mixed (.o [0,1,2,3,4,5,6,7,8,10,11,12,13,16,9,14,15,17,18,19] .fin) (by kernel_rfl);conv=>whnf
  (refine zW c1 rfl ?_;rintro _ _ ⟨rfl,rfl⟩)
  conv=>whnf
  repeat' (refine z_ ?_;conv=>whnf)
  refine zh (zx (cs':=Ys g d.z true s (Ev s.txns) (C6 L) (CX l)) 0 rfl (Ul (htx false hb))) ?_;refine ze9 [0,6,3,4,5,7] hdoes ?_;rintro _ _ ⟨o,ho,he8,hleft,rfl,rfl⟩;obtain⟨⟨cs,ca,rq,lf⟩,s1,b1,L1,l1,e,n,bs⟩:=o;obtain rfl:lf = -1:=hleft;simp only at he8;have k8:(e == 8)=false:=beq_eq_false_iff_ne.2 he8;cases b1 with
  | true=>
   conv=>whnf
   repeat' (refine z_ ?_;conv=>whnf)
   apply zX (0) tys_ok mixed (.o [0,1,2,3,4,5,6,7,8,9,10,11,12,13,14,15,16,17,18,19,20,21,22,23,24] .fin) (by kernel_rfl);conv=>whnf
   try (refine tS ?_;conv=>whnf)
   try (refine tS ?_;conv=>whnf)
   repeat' (refine z_ ?_;conv=>whnf)
   rw [k8];conv=>whnf
   repeat' (refine z_ ?_;conv=>whnf)
   by_cases he0:e=0
   ·subst he0;conv=>whnf
    repeat' (refine z_ ?_;conv=>whnf)
    exact⟨_, .ag (an7 0 n bs),Mu g ⟨cs,ca,rq, -1⟩ s1 true L1 l1,fun _ _ h=>h,zI (zO (Gl (d:=⟨cs,ca,rq, -1⟩) (b:=true) 4 8 (by decide) (by decide) rfl rfl rfl)) (s:= [0]) tA,⟨⟨cs,ca,rq, -1⟩,s1,true,L1,l1,0,n,bs⟩,ho,rfl,rfl⟩
   ·rw [show (e != 0)=true from bne_iff_ne.2 he0];conv=>whnf
    repeat' (refine z_ ?_;conv=>whnf)
    exact⟨_, .ag (an7 e 0 []),Mu g ⟨cs,ca,rq, -1⟩ s1 true L1 l1,B5 (Dm e 0),zI (zO (Gl (d:=⟨cs,ca,rq, -1⟩) (b:=true) 4 8 (by decide) (by decide) rfl rfl rfl)) (s:= [0]) tA,⟨⟨cs,ca,rq, -1⟩,s1,true,L1,l1,e,n,bs⟩,ho,by rw [if_neg he0,if_neg he0],rfl⟩
  | false=>
   conv=>whnf
   repeat' (refine z_ ?_;conv=>whnf)
   apply zX (0) tys_ok mixed (.o [0,1,2,3,4,5,6,7,8,9,10,11,12,13,14,15,16,17,18,19,20,21,22,23,24] .fin) (by kernel_rfl);conv=>whnf
   try (refine tS ?_;conv=>whnf)
   try (refine tS ?_;conv=>whnf)
   repeat' (refine z_ ?_;conv=>whnf)
   rw [k8];conv=>whnf
   repeat' (refine z_ ?_;conv=>whnf)
   by_cases he0:e=0
   ·subst he0;conv=>whnf
    repeat' (refine z_ ?_;conv=>whnf)
    exact⟨_, .ag (an7 0 n bs),Mu g ⟨cs,ca,rq, -1⟩ s1 false L1 l1,fun _ _ h=>h,zI (zO (Gl (d:=⟨cs,ca,rq, -1⟩) (b:=false) 4 8 (by decide) (by decide) rfl rfl rfl)) (s:= [0]) tA,⟨⟨cs,ca,rq, -1⟩,s1,false,L1,l1,0,n,bs⟩,ho,rfl,rfl⟩
   ·rw [show (e != 0)=true from bne_iff_ne.2 he0];conv=>whnf
    repeat' (refine z_ ?_;conv=>whnf)
    exact⟨_, .ag (an7 e 0 []),Mu g ⟨cs,ca,rq, -1⟩ s1 false L1 l1,B5 (Dm e 0),zI (zO (Gl (d:=⟨cs,ca,rq, -1⟩) (b:=false) 4 8 (by decide) (by decide) rfl rfl rfl)) (s:= [0]) tA,⟨⟨cs,ca,rq, -1⟩,s1,false,L1,l1,e,n,bs⟩,ho,by rw [if_neg he0,if_neg he0],rfl⟩
section
variable (g:Geo) (d0 d:Dk) (s0 s:Stt) (b:Bool) (L:List Lck) (l:List Hd) (x:Sp) (P:Vout->Prop)
theorem OB (hk:x.kind=2) (h:ACalls Tryz.prog false 111 [.bp 5 0] (Gk g d0 d s0 s b L l x) fun r H=>∃ o:Vout,P o/\r = .ag (an7 o.e o.n o.bytes)/\H=Gk g d0 o.d s0 o.s o.b o.L o.l x):ACalls Tryz.prog false 45 [.bp 5 0] (Gk g d0 d s0 s b L l x) fun r H=>∃ o:Vout,P o/\r = .ag (an7 o.e o.n o.bytes)/\H=Fi g d0 o.d s0 o.s o.b o.L o.l x:=by
 obtain⟨k,h1,h2,h3,h4,h5,h6,h7,h8,h9⟩:=x;obtain rfl:k=2:=hk;cases b with
 | true=>
  refine zV tys_ok Tryz.func45 rfl rfl (Ae rfl) ?_;conv=>whnf
  repeat' (refine z_ ?_;conv=>whnf)
  refine ze9 [0,1,2,3,4,5] h ?_;rintro _ _ ⟨o,ho,rfl,rfl⟩;obtain⟨d1,s1,b1,L1,l1,e,n,bs⟩:=o;cases b1 with
  | true=>
   exact⟨_, .ag (an7 e n bs),Fi g d0 d1 s0 s1 true L1 l1 ⟨2,h1,h2,h3,h4,h5,h6,h7,h8,h9⟩,fun _ _ h=>h,zI (zO (zE 2 4 (by decide) rfl rfl)) (s:= [0,1,2,3,4,5,7]) tA,⟨d1,s1,true,L1,l1,e,n,bs⟩,ho,rfl,rfl⟩
  | false=>
   exact⟨_, .ag (an7 e n bs),Fi g d0 d1 s0 s1 false L1 l1 ⟨2,h1,h2,h3,h4,h5,h6,h7,h8,h9⟩,fun _ _ h=>h,zI (zO (zE 2 4 (by decide) rfl rfl)) (s:= [0,1,2,3,4,5,7]) tA,⟨d1,s1,false,L1,l1,e,n,bs⟩,ho,rfl,rfl⟩
 | false=>
  refine zV tys_ok Tryz.func45 rfl rfl (Ae rfl) ?_;conv=>whnf
  repeat' (refine z_ ?_;conv=>whnf)
  refine ze9 [0,1,2,3,4,5] h ?_;rintro _ _ ⟨o,ho,rfl,rfl⟩;obtain⟨d1,s1,b1,L1,l1,e,n,bs⟩:=o;cases b1 with
  | true=>
   exact⟨_, .ag (an7 e n bs),Fi g d0 d1 s0 s1 true L1 l1 ⟨2,h1,h2,h3,h4,h5,h6,h7,h8,h9⟩,fun _ _ h=>h,zI (zO (zE 2 4 (by decide) rfl rfl)) (s:= [0,1,2,3,4,5,7]) tA,⟨d1,s1,true,L1,l1,e,n,bs⟩,ho,rfl,rfl⟩
  | false=>
   exact⟨_, .ag (an7 e n bs),Fi g d0 d1 s0 s1 false L1 l1 ⟨2,h1,h2,h3,h4,h5,h6,h7,h8,h9⟩,fun _ _ h=>h,zI (zO (zE 2 4 (by decide) rfl rfl)) (s:= [0,1,2,3,4,5,7]) tA,⟨d1,s1,false,L1,l1,e,n,bs⟩,ho,rfl,rfl⟩
theorem Qp (hk:x.kind=3) (h:ACalls Tryz.prog false 112 [.bp 5 0] (Gk g d0 d s0 s b L l x) fun r H=>∃ o:Vout,P o/\r = .ag (an7 o.e o.n o.bytes)/\H=Gk g d0 o.d s0 o.s o.b o.L o.l x):ACalls Tryz.prog false 45 [.bp 5 0] (Gk g d0 d s0 s b L l x) fun r H=>∃ o:Vout,P o/\r = .ag (an7 o.e o.n o.bytes)/\H=Fi g d0 o.d s0 o.s o.b o.L o.l x:=by
 obtain⟨k,h1,h2,h3,h4,h5,h6,h7,h8,h9⟩:=x;obtain rfl:k=3:=hk;cases b with
 | true=>
  refine zV tys_ok Tryz.func45 rfl rfl (Ae rfl) ?_;conv=>whnf
  repeat' (refine z_ ?_;conv=>whnf)
  refine ze9 [0,1,2,3,4,5] h ?_;rintro _ _ ⟨o,ho,rfl,rfl⟩;obtain⟨d1,s1,b1,L1,l1,e,n,bs⟩:=o;cases b1 with
  | true=>
   exact⟨_, .ag (an7 e n bs),Fi g d0 d1 s0 s1 true L1 l1 ⟨3,h1,h2,h3,h4,h5,h6,h7,h8,h9⟩,fun _ _ h=>h,zI (zO (zE 2 4 (by decide) rfl rfl)) (s:= [0,1,2,3,4,5,7]) tA,⟨d1,s1,true,L1,l1,e,n,bs⟩,ho,rfl,rfl⟩
  | false=>
   exact⟨_, .ag (an7 e n bs),Fi g d0 d1 s0 s1 false L1 l1 ⟨3,h1,h2,h3,h4,h5,h6,h7,h8,h9⟩,fun _ _ h=>h,zI (zO (zE 2 4 (by decide) rfl rfl)) (s:= [0,1,2,3,4,5,7]) tA,⟨d1,s1,false,L1,l1,e,n,bs⟩,ho,rfl,rfl⟩
 | false=>
  refine zV tys_ok Tryz.func45 rfl rfl (Ae rfl) ?_;conv=>whnf
  repeat' (refine z_ ?_;conv=>whnf)
  refine ze9 [0,1,2,3,4,5] h ?_;rintro _ _ ⟨o,ho,rfl,rfl⟩;obtain⟨d1,s1,b1,L1,l1,e,n,bs⟩:=o;cases b1 with
  | true=>
   exact⟨_, .ag (an7 e n bs),Fi g d0 d1 s0 s1 true L1 l1 ⟨3,h1,h2,h3,h4,h5,h6,h7,h8,h9⟩,fun _ _ h=>h,zI (zO (zE 2 4 (by decide) rfl rfl)) (s:= [0,1,2,3,4,5,7]) tA,⟨d1,s1,true,L1,l1,e,n,bs⟩,ho,rfl,rfl⟩
  | false=>
   exact⟨_, .ag (an7 e n bs),Fi g d0 d1 s0 s1 false L1 l1 ⟨3,h1,h2,h3,h4,h5,h6,h7,h8,h9⟩,fun _ _ h=>h,zI (zO (zE 2 4 (by decide) rfl rfl)) (s:= [0,1,2,3,4,5,7]) tA,⟨d1,s1,false,L1,l1,e,n,bs⟩,ho,rfl,rfl⟩
theorem O9 (hk:x.kind=4) (h:ACalls Tryz.prog false 113 [.bp 5 0] (Gk g d0 d s0 s b L l x) fun r H=>∃ o:Vout,P o/\(r = iv o.e/\o.n=0/\o.bytes=[])/\H=Gk g d0 o.d s0 o.s o.b o.L o.l x):ACalls Tryz.prog false 45 [.bp 5 0] (Gk g d0 d s0 s b L l x) fun r H=>∃ o:Vout,P o/\r = .ag (an7 o.e o.n o.bytes)/\H=Fi g d0 o.d s0 o.s o.b o.L o.l x:=by
 obtain⟨k,h1,h2,h3,h4,h5,h6,h7,h8,h9⟩:=x;obtain rfl:k=4:=hk;cases b with
 | true=>
  refine zV tys_ok Tryz.func45 rfl rfl (Ae rfl) ?_;conv=>whnf
  repeat' (refine z_ ?_;conv=>whnf)
  refine ze9 [0,1,2,3,4,5] h ?_;rintro _ _ ⟨o,ho,⟨rfl,hn,hb⟩,rfl⟩;obtain⟨d1,s1,b1,L1,l1,e,n,bs⟩:=o;obtain rfl:n=0:=hn;obtain rfl:bs=[]:=hb;cases b1 with
  | true=>
   exact⟨_, .ag (an7 e 0 []),Fi g d0 d1 s0 s1 true L1 l1 ⟨4,h1,h2,h3,h4,h5,h6,h7,h8,h9⟩,B5 (Dm e 0),zI (zO (zE 2 4 (by decide) rfl rfl)) (s:= [0,1,2,3,4,5,7]) tA,⟨d1,s1,true,L1,l1,e,0, []⟩,ho,rfl,rfl⟩
  | false=>
   exact⟨_, .ag (an7 e 0 []),Fi g d0 d1 s0 s1 false L1 l1 ⟨4,h1,h2,h3,h4,h5,h6,h7,h8,h9⟩,B5 (Dm e 0),zI (zO (zE 2 4 (by decide) rfl rfl)) (s:= [0,1,2,3,4,5,7]) tA,⟨d1,s1,false,L1,l1,e,0, []⟩,ho,rfl,rfl⟩
 | false=>
  refine zV tys_ok Tryz.func45 rfl rfl (Ae rfl) ?_;conv=>whnf
  repeat' (refine z_ ?_;conv=>whnf)
  refine ze9 [0,1,2,3,4,5] h ?_;rintro _ _ ⟨o,ho,⟨rfl,hn,hb⟩,rfl⟩;obtain⟨d1,s1,b1,L1,l1,e,n,bs⟩:=o;obtain rfl:n=0:=hn;obtain rfl:bs=[]:=hb;cases b1 with
  | true=>
   exact⟨_, .ag (an7 e 0 []),Fi g d0 d1 s0 s1 true L1 l1 ⟨4,h1,h2,h3,h4,h5,h6,h7,h8,h9⟩,B5 (Dm e 0),zI (zO (zE 2 4 (by decide) rfl rfl)) (s:= [0,1,2,3,4,5,7]) tA,⟨d1,s1,true,L1,l1,e,0, []⟩,ho,rfl,rfl⟩
  | false=>
   exact⟨_, .ag (an7 e 0 []),Fi g d0 d1 s0 s1 false L1 l1 ⟨4,h1,h2,h3,h4,h5,h6,h7,h8,h9⟩,B5 (Dm e 0),zI (zO (zE 2 4 (by decide) rfl rfl)) (s:= [0,1,2,3,4,5,7]) tA,⟨d1,s1,false,L1,l1,e,0, []⟩,ho,rfl,rfl⟩
theorem N5 (hk:x.kind=5) (h:ACalls Tryz.prog false 114 [.bp 5 0] (Gk g d0 d s0 s b L l x) fun r H=>∃ o:Vout,P o/\(r = iv o.e/\o.n=0/\o.bytes=[])/\H=Fi g d0 o.d s0 o.s o.b o.L o.l x):ACalls Tryz.prog false 45 [.bp 5 0] (Gk g d0 d s0 s b L l x) fun r H=>∃ o:Vout,P o/\r = .ag (an7 o.e o.n o.bytes)/\H=Fi g d0 o.d s0 o.s o.b o.L o.l x:=by
 obtain⟨k,h1,h2,h3,h4,h5,h6,h7,h8,h9⟩:=x;obtain rfl:k=5:=hk;cases b with
 | true=>
  refine zV tys_ok Tryz.func45 rfl rfl (Ae rfl) ?_;conv=>whnf
  repeat' (refine z_ ?_;conv=>whnf)
  refine ze9 [0,1,2,3,4,5] h ?_;rintro _ _ ⟨o,ho,⟨rfl,hn,hb⟩,rfl⟩;obtain⟨d1,s1,b1,L1,l1,e,n,bs⟩:=o;obtain rfl:n=0:=hn;obtain rfl:bs=[]:=hb;cases b1 with
  | true=>
   exact⟨_, .ag (an7 e 0 []),Fi g d0 d1 s0 s1 true L1 l1 ⟨5,h1,h2,h3,h4,h5,h6,h7,h8,h9⟩,B5 (Dm e 0),zQ (s:= [0,1,2,3,4,5,7]) tA,⟨d1,s1,true,L1,l1,e,0, []⟩,ho,rfl,rfl⟩
  | false=>
   exact⟨_, .ag (an7 e 0 []),Fi g d0 d1 s0 s1 false L1 l1 ⟨5,h1,h2,h3,h4,h5,h6,h7,h8,h9⟩,B5 (Dm e 0),zQ (s:= [0,1,2,3,4,5,7]) tA,⟨d1,s1,false,L1,l1,e,0, []⟩,ho,rfl,rfl⟩
 | false=>
  refine zV tys_ok Tryz.func45 rfl rfl (Ae rfl) ?_;conv=>whnf
  repeat' (refine z_ ?_;conv=>whnf)
  refine ze9 [0,1,2,3,4,5] h ?_;rintro _ _ ⟨o,ho,⟨rfl,hn,hb⟩,rfl⟩;obtain⟨d1,s1,b1,L1,l1,e,n,bs⟩:=o;obtain rfl:n=0:=hn;obtain rfl:bs=[]:=hb;cases b1 with
  | true=>
   exact⟨_, .ag (an7 e 0 []),Fi g d0 d1 s0 s1 true L1 l1 ⟨5,h1,h2,h3,h4,h5,h6,h7,h8,h9⟩,B5 (Dm e 0),zQ (s:= [0,1,2,3,4,5,7]) tA,⟨d1,s1,true,L1,l1,e,0, []⟩,ho,rfl,rfl⟩
  | false=>
   exact⟨_, .ag (an7 e 0 []),Fi g d0 d1 s0 s1 false L1 l1 ⟨5,h1,h2,h3,h4,h5,h6,h7,h8,h9⟩,B5 (Dm e 0),zQ (s:= [0,1,2,3,4,5,7]) tA,⟨d1,s1,false,L1,l1,e,0, []⟩,ho,rfl,rfl⟩
end
section
variable (g:Geo) (d0 d:Dk) (s0:Stt) (L:List Lck) (l:List Hd) (x:Sp)
theorem Qq (a:An) (F:Int->List UInt8) (K lba:Int) (bs:List UInt8) (V:Int->Int->List UInt8) (L':List Lck) (hg:Bq g=true) (hv:Vol g K d (Bk a [])) (hK:K<=4294967294) (h:Gd (A4 g) d F) (hF:∀ a,(F a).length<=100000) (hV:VolV g a [] F V) (hlba:0<=lba/\lba<g.z*g.d) (h8:bs.length=8)
  (hl:l.length<=1000) (hs:∀ h∈l,O0 h) (hh:Gb l x.h=true) (hq:l.getD (E5 l x.h) ⟨0, [], []⟩=⟨x.h, [lba], [bs]⟩) (hd:Fn Tryz.prog 287 [C6 L,iv x.h] fun r=>r = .tp [C6 L',iv 0]) :
  ACalls Tryz.prog false 114 [.bp 5 0] (Gk g d0 d s0 (Bk a []) true L l x) fun r H=>∃ o:Vout,(∃ d' W,Gd (A4 g) d' (M9 F W)/\(∀ w∈W,(g.an<=w.addr/\w.addr<g.an+2*g.sl/\Ca w.bytes=w.addr)/\w.bytes.length<=200)/\o=⟨d',Bk a ([] ++ [FN g a [] F lba bs]),false,L',(EK l x.h).1,0,0, []⟩)/\(r = iv o.e/\o.n=0/\o.bytes=[])/\H=Fi g d0 o.d s0 o.s o.b o.L o.l x:=by
 have g4:=(Az.1 hg).2.2.2.1;have c1:=KV g d0 d s0 (Bk a []) true L l x hl hh;rw [hq] at c1;have hc:=Za g a [] d F K lba bs V hg hv hK h hF hV hlba h8 (by show 4<=g.sl - 0;omega);have c2:=fun d1 s1=>S4 g d0 d1 s0 s1 false L l x L' x.h hl hs hd
 generalize (EK l x.h).1=m at c2 |-
 refine zV tys_ok Tryz.func114 rfl rfl (Ae rfl) ?_;conv=>whnf
 refine ze9 [0,1,2,3,4,5] c1 ?_;rintro _ _ ⟨rfl,rfl⟩;conv=>whnf
 repeat' (refine z_ ?_;conv=>whnf)
 apply zX (2 ^ 136) tys_ok mixed (.o [0,1,2,3,4,5,6,7,8,9] .fin) (by kernel_rfl);conv=>whnf
 (refine zh (ConvH.ghost 1 13 (t:=170) (sz:=4) rfl rfl (by decide)) ?_;refine ze9 [1,2,3,4,7] hc ?_;rintro _ _ ⟨rfl,d1,W,hd1,hW,hv1,rfl⟩)
 conv=>whnf
 repeat' (refine z_ ?_;conv=>whnf)
 have c2:=c2 d1 (Bk a ([] ++ [FN g a [] F lba bs]));obtain⟨T,hT⟩:∃ T,T=[] ++ [FN g a [] F lba bs]:=⟨_,rfl⟩;rw [<-hT] at c2 |-
 apply zX (2 ^ 134) tys_ok mixed (.o [0,1,2,3,4,5,6] .fin) (by kernel_rfl);conv=>whnf
 (refine ze9 [0,1,2,3,8,5] c2 ?_;rintro _ _ ⟨rfl,rfl⟩)
 conv=>whnf
 repeat' (refine z_ ?_;conv=>whnf)
 exact⟨_,iv 0,Fi g d0 d1 s0 (Bk a T) false L' m x,fun _ _ h=>h,zQ (s:= [0,1,2,3,4,5,8]) tA,⟨d1,Bk a T,false,L',m,0,0, []⟩,⟨d1,W,hd1,hW,by rw [hT]⟩,tA,rfl⟩
theorem Uk (a:An) (T:List Tx) (F:Int->List UInt8) (t:List Ent) (v:Int->List UInt8) (L':List Lck) (hg:Bq g=true) (hT:LogB T) (ha:B4 g a=true) (h:Gd (A4 g) d F) (hF:∀ a,(F a).length<=100000) (hlba:0<=x.lba/\x.lba<g.z*g.d) (hB:∀ p,CG T (x.lba.tdiv g.d) 255=some p->p.1.bytes.length<=100000) (hv:ZoneV g a T F (x.lba.tdiv g.d) t v)
  (hl:l.length<=1000) (hs:∀ h∈l,O0 h) (hh:Gb l x.h=true) (hno:(Ok l x.h x.lba).2.1=false) (hr:Fn Tryz.prog 198 [C6 L,iv x.h,iv x.lba] fun r=>r = .tp [C6 L',iv 0]) :
  ACalls Tryz.prog false 112 [.bp 5 0] (Gk g d0 d s0 (Bk a T) false L l x) fun r H=>∃ o:Vout,(∃ d',Gd (A4 g) d' F/\o=⟨d',Bk a T,false,L',l,0,0,v (x.lba.tmod g.d)⟩)/\r = .ag (an7 o.e o.n o.bytes)/\H=Gk g d0 o.d s0 o.s o.b o.L o.l x:=by
 have c1:=M7 g d0 d s0 (Bk a T) false L l x hg hl hh hlba;have hid:=Wm hh;have c2:=KU g d0 d s0 (Bk a T) false L l x L';have c3:=T2 l x.h x.lba hl hs hno;have c4:=Yj [] x.lba (Ak _);have c5:=P_ g a T d F x.lba t v hg hT ha h hF hlba hB hv;obtain⟨q,hq⟩:∃ q,q=l.getD (E5 l x.h) ⟨0, [], []⟩:=⟨_,rfl⟩;rw [<-hq] at c1 hid;generalize (Ok l x.h x.lba).2.2=e3 at c3;refine zV tys_ok Tryz.func112 rfl rfl (Ae rfl) ?_;conv=>whnf
 refine ze9 [0,1,2,3,4,5] c1 ?_;rintro _ _ ⟨rfl,rfl⟩;conv=>whnf
 rw [hid];repeat' (refine z_ ?_;conv=>whnf)
 apply zX (2 ^ 146) tys_ok mixed (.o [0,1,2,3,4,5,6,7,8,9,10,11,12,13,14,15,16,17,18,19] .fin) (by kernel_rfl);conv=>whnf
 refine zZ hr ?_;conv=>whnf
 (refine ze9 [0,1,2,3,4,5] c2 ?_;rintro _ _ ⟨rfl,rfl⟩)
 conv=>whnf
 repeat' (refine z_ ?_;conv=>whnf)
 apply zX (0) tys_ok mixed (.o [0,1,2,3,4,5,6,7,8,9,10,11,12,13,14,15,16,17,18,19,20,21] .fin) (by kernel_rfl);conv=>whnf
 refine zZ c3 ?_;conv=>whnf
 repeat' (refine z_ ?_;conv=>whnf)
 apply zX (0) tys_ok mixed (.o [0,1,2,3,4,5,6,7,8,9,10,11,12,13,14,15] .fin) (by kernel_rfl);conv=>whnf
 refine zZ c4 ?_;conv=>whnf
 repeat' (refine z_ ?_;conv=>whnf)
 apply zX (2 ^ 137) tys_ok mixed (.o [0,1,2,3,4,5,6,7,8,9,10,11,12,13,14] .fin) (by kernel_rfl);conv=>whnf
 (refine ze9 [1,2,3,4] c5 ?_;rintro _ _ ⟨rfl,d1,hd1,rfl⟩)
 conv=>whnf
 repeat' (refine z_ ?_;conv=>whnf)
 exact⟨_, .ag (an7 0 0 (v (x.lba.tmod g.d))),Gk g d0 d1 s0 (Bk a T) false L' l x,B5 (ZM 0 0 _),zQ (s:= [0,1,2,3,4,5]) tA,⟨d1,Bk a T,false,L',l,0,0,_⟩,⟨d1,hd1,rfl⟩,rfl,rfl⟩
end
theorem Yt (g:Geo) (d:Dk) (x:Sp) (hk:2<=x.kind/\x.kind<=10):ACalls Tryz.prog false 20 [.bp 0 0, .ag (N9 x)] [.box 111 (KT g d)] fun r H=>r = .ag (an7 16 0 [])/\H=[.box 111 (KT g d)]:=by
 have k1:decide (x.kind>=11)=false:=decide_eq_false (by omega);have k2:(x.kind == 1)=false:=beq_eq_false_iff_ne.2 (by omega);refine zV tys_ok Tryz.func20 rfl rfl (Ae rfl) ?_;conv=>whnf
 rw [k1];conv=>whnf
 repeat' (refine z_ ?_;conv=>whnf)
 apply zX (0) tys_ok mixed (.o [0,1,2,3,4,5,6,7,8] .fin) (by kernel_rfl);conv=>whnf
 rw [k2];conv=>whnf
 repeat' (refine z_ ?_;conv=>whnf)
 exact⟨_, .ag (an7 16 0 []), [.box 111 (KT g d)],B5 (Dm 16 0),zQ (s:= [0]) tA,rfl,rfl⟩
@[reducible] def ZP (g:Geo) (d:Dk):List AV:= [iv g.z,iv g.d,iv g.sp,iv g.sl,iv g.an,K0 d.cells,K5 d.cache,iv d.reqs,iv d.left, .v (.bool true),iv 0,iv 0,iv 0,iv 0,iv 0, .v (.string ⟨#[]⟩), .v (.slice none 0 0), .v (.slice none 0 0), .v (.bool false),iv 0,iv 0,iv 0,iv 0, .v (.slice none 0 0), .v (.slice none 0 0), .v (.slice none 0 0)]
section
variable (g:Geo) (d D:Dk) (s:Stt) (x:Sp)
theorem S0 (hm:ACalls Tryz.prog false 194 [.bp 0 0] (GB g st0 d) fun r H=>r = iv 0/\H=bwN g s D):ACalls Tryz.prog false 110 [.bp 5 0] (ZW (KT g d) g st0 (Ev []) d x) fun r H=>r = iv 0/\H=Um (ZP g d) g s (.v (.slice none 0 0)) D x:=by
 refine zV tys_ok Tryz.func110 rfl rfl (Ae rfl) ?_;conv=>whnf
 refine ze9 [1,2,3,4] hm ?_;rintro _ _ ⟨rfl,rfl⟩;conv=>whnf
 repeat' (refine z_ ?_;conv=>whnf)
 apply zX (0) tys_ok mixed (.o [0,1,2,3,4,5,6,7,8,9,10,11,12,13,14,15,16,17,18,19,20] .fin) (by kernel_rfl);conv=>whnf
 try (refine tS ?_;conv=>whnf)
 try (refine tS ?_;conv=>whnf)
 try (refine tS ?_;conv=>whnf)
 all_goals
  repeat' (refine z_ ?_;conv=>whnf)
  exact⟨_,iv 0,Um (ZP g d) g s (.v (.slice none 0 0)) D x,fun _ _ h=>h,zQ (s:= [0,1,2,3,4,5,6]) tA,rfl,rfl⟩
theorem OA (hk:x.kind=1) (hm:ACalls Tryz.prog false 194 [.bp 0 0] (GB g st0 d) fun r H=>r = iv 0/\H=bwN g s D):ACalls Tryz.prog false 45 [.bp 5 0] (ZW (KT g d) g st0 (Ev []) d x) fun r H=>r = .ag (an7 0 0 [])/\H=Um (ZP g d) g s (.v (.slice none 0 0)) D x:=by
 have h:=S0 g d D s x hm;obtain⟨k,h1,h2,h3,h4,h5,h6,h7,h8,h9⟩:=x;obtain rfl:k=1:=hk;refine zV tys_ok Tryz.func45 rfl rfl (Ae rfl) ?_;conv=>whnf
 repeat' (refine z_ ?_;conv=>whnf)
 refine ze9 [0,1,2,3,4,5] h ?_;rintro _ _ ⟨rfl,rfl⟩;conv=>whnf
 repeat' (refine z_ ?_;conv=>whnf)
 exact⟨_, .ag (an7 0 0 []),Um (ZP g d) g s (.v (.slice none 0 0)) D ⟨1,h1,h2,h3,h4,h5,h6,h7,h8,h9⟩,B5 (Dm 0 0),zQ (s:= [0,1,2,3,4,5,7]) tA,rfl,rfl⟩
end
theorem S3 (g:Geo) (d D:Dk) (s:Stt) (x:Sp) (hz:d.z=d) (hd:d.cells.length<=1000000000/\d.cache.length<=1000000000) (hk:x.kind=1) (hcut:x.cut<=0) (hl:D.left = -1) (hm:ACalls Tryz.prog false 194 [.bp 0 0] (GB g st0 d) fun r H=>r = iv 0/\H=bwN g s D) :
  ACalls Tryz.prog false 20 [.bp 0 0, .ag (N9 x)] [.box 111 (KT g d)] fun r H=>r = .ag (an7 0 0 [])/\H=Mu g D s true [] []:=by
 have c1:=Sn d hd.1 hd.2;have k3:decide (x.cut > 0)=false:=decide_eq_false (by omega);have hdo:=OA g d D s x hk hm;obtain⟨dc,dw,dr,dl⟩:=d;obtain rfl:0=dr:=congrArg Dk.reqs hz;obtain⟨cs,ca,rq,lf⟩:=D;obtain rfl:lf = -1:=hl;obtain⟨k,h1,h2,h3,h4,h5,h6,h7,h8,h9⟩:=x;obtain rfl:k=1:=hk;simp only at k3;refine zV tys_ok Tryz.func20 rfl rfl (Ae rfl) ?_;conv=>whnf
 repeat' (refine z_ ?_;conv=>whnf)
 apply zX (0) tys_ok mixed (.o [0,1,2,3,4,5,6,7,8] .fin) (by kernel_rfl);conv=>whnf
 repeat' (refine z_ ?_;conv=>whnf)
 rw [k3];conv=>whnf
 repeat' (refine z_ ?_;conv=>whnf)
 apply zX (0) tys_ok mixed (.o [0,1,2,3,4,5,6,7,8,10,11,12,13,16,9,14,15,17,18,19] .fin) (by kernel_rfl);conv=>whnf
 (refine zW c1 rfl ?_;rintro _ _ ⟨rfl,rfl⟩)
 conv=>whnf
 repeat' (refine z_ ?_;conv=>whnf)
 refine zh (zx (cs':=XK g (.bp 3 0) (Ev []) (iA []) st0) 6 rfl ⟨ri,ri,ri,ri,ri,ri,ri,ri,ri,ri,ri,ri,Bt 3 _,Bt 4 _,ri,ri,ri,ri,ri,Bt 1 _,tv⟩) ?_;refine ze9 [0,6,3,4,5,7] hdo ?_;rintro _ _ ⟨rfl,rfl⟩;conv=>whnf
 repeat' (refine z_ ?_;conv=>whnf)
 apply zX (0) tys_ok mixed (.o [0,1,2,3,4,5,6,7,8,9,10,11,12,13,14,15,16,17,18,19,20,21,22,23,24] .fin) (by kernel_rfl);conv=>whnf
 try (refine tS ?_;conv=>whnf)
 try (refine tS ?_;conv=>whnf)
 repeat' (refine z_ ?_;conv=>whnf)
 exact⟨_, .ag (an7 0 0 []),Mu g ⟨cs,ca,rq, -1⟩ s true [] [],ri,zI (zO (zw (zx (cs':=voX g (.ow 4 cs.length) (.ow 8 ca.length) rq (-1) true s (.v (.slice none 0 0)) (C6 []) (CX [])) 0 rfl ⟨ri,ri,ri,ri,ri,ri,ri,ri,ri,ri,ri,ri,ri,ri,ri,ri,ri,ri,ri,ri,ri,ri,ri,ri,Bt 3 _,Bt 3 _,tv⟩) (Gl (d:=⟨cs,ca,rq, -1⟩) (b:=true) 4 8 (by decide) (by decide) rfl rfl rfl))) (s:= [0]) tA,rfl,rfl⟩
theorem Ya (l:List Lck):AV.ltL (l.map E4).flatten 0=true:=by
 rw [CM];intro x hx;obtain⟨e,he,hxe⟩:=BO.1 hx;obtain⟨h,_,rfl⟩:=AM.1 he;simp only [E4,AS,Dy,or_false] at hxe;rcases hxe with rfl | rfl | rfl <;> rfl
theorem Vd {l:List Lck} {y id:Int} {a:Nat} (j:Nat):SubL (((l.map E4 ++ [[AV.v (.int .i64 y), .ow a 1,AV.v (.int .i64 (-1))]]).map (List.map (AV.slIn a ([[AV.v (.int .i64 id)]]:List (List AV)).length (.sl 1 ([[AV.v (.int .i64 id)]]:List (List AV)).length fun i=>([[AV.v (.int .i64 id)]]:List (List AV)).getD i [])))).getD j []) (((l ++ [(⟨y, [id], -1⟩:Lck)]).map E4).getD j []):=by
 rw [A2,A2];by_cases e:j<l.length
 ·rw [E0 (by rw [Aa,Aa];exact e),E0 (by rw [Aa];exact e),AL (d:= []) (by rw [Aa];exact e),AL (d:=lz) e];exact SubL.refl _
 ·by_cases e2:j=l.length
  ·subst e2;rw [Dw (by rw [Aa,Aa];omega),Dw (by rw [Aa];omega),Aa,Aa,BG];show SubL [AV.v (.int .i64 y),AV.slIn a 1 _ (.ow a 1),AV.v (.int .i64 (-1))] _;rw [RO rfl];exact⟨fun _ _ h=>h,fun c u h=>EN (f:=IH) (l:= [id]) (d:=0) rfl c u h,fun _ _ h=>h,tv⟩
  ·rw [Ac,AE (by simp;omega)];rw [Ac,AE (by simp;omega)];exact SubL.refl _
theorem QT (l:List Lck) (y id:Int) (h:LkI l y) (hid:0<=id) (hh:Jh l y=false):ACalls Tryz.prog false 198 [C6 l,iv id,iv y] [] fun r H=>r = .tp [.ow 0 (l.length+1),iv 0]/\H=[.row 216 3 ((l ++ [(⟨y, [id], -1⟩:Lck)]).map E4)]:=by
 have c1:=I3 l h.ok;have c2:=Ly l y h;have hlen:=h.len;have hy:=h.yb;have c3:Fn Tryz.prog 280 [iA [],iv id] (fun r=>r = .tp [iv ((0:Nat):Int), .v (.bool false)]):=VY [] id (Ak _) rfl;have hp:=h.fin.resolve_left (by rw [hh];decide);have c4:=FG [] [iv id] 0 0 rfl rfl (by decide);unfold UI at c2;rw [hh,if_neg (by decide),hp,Ai,Aa,List.length_singleton] at c2;have hib:((-1:Int) == id)=false:=beq_eq_false_iff_ne.2 (by omega);have hE:∀ e,(l.map E4 ++ [e]).getD l.length []=e:=fun e=>by rw [Dw (by rw [Aa];omega),Aa,BG];try rfl
 have hS:∀ e e',(l.map E4 ++ [e]).set l.length e'=l.map E4 ++ [e']:=fun e e'=>by
  rw [C8 _ _ (by rw [Aa];omega),Aa,BG];try rfl
 have hN:∀ e:List AV,l.length+1=(l.map E4 ++ [e]).length:=fun e=>by rw [Ai,Aa];try rfl
 refine zH tys_ok Tryz.func198 rfl rfl (Ae rfl) ?_;conv=>whnf
 refine zZ c1 ?_;conv=>whnf
 rw [decide_eq_false (show ¬id<0 by omega)];conv=>whnf
 rw [decide_eq_false (show ¬y<0 by omega)];conv=>whnf
 refine zW c2 rfl ?_;rintro _ _ ⟨rfl,rfl⟩;conv=>whnf
 repeat' (refine z_ ?_;conv=>whnf)
 refine⟨⟨by omega,by omega⟩,?_⟩;conv=>whnf
 rw [Ab];refine⟨⟨rfl,hN _,Bw _⟩,?_⟩;conv=>whnf
 rw [hE];conv=>whnf
 refine zU [iA [],iv id] ⟨Bt 1 _,ri,tv⟩ ?_;refine zZ c3 ?_;refine⟨⟨rfl,hN _,Bw _⟩,?_⟩;conv=>whnf
 rw [hE];refine⟨⟨rfl,hN _,Bw _⟩,?_⟩;conv=>whnf
 rw [hE];conv=>whnf
 rw [hib];refine⟨⟨rfl,hN _,Bw _⟩,?_⟩;conv=>whnf
 rw [hE];refine⟨⟨rfl,hN _,Bw _⟩,?_⟩;conv=>whnf
 rw [hE];conv=>whnf
 refine zh (ConvH.rowo (k:=0) rfl) ?_;refine ACalls.ghost 0 (t:=3) (sz:=1) rfl (by decide) ?_;refine ze9 [2,1] c4 ?_;rintro _ _ ⟨rfl,rfl⟩;refine⟨⟨rfl,hN _,Bw _⟩,?_⟩;conv=>whnf
 rw [hE];conv=>whnf
 rw [hS];exact⟨_, .tp [.ow 0 (l.length+1),iv 0],_,fun _ _ h=>h,R5 ⟨_,zw (zt 0 3 rfl rfl rfl) (zw (zn (k:=0) rfl (es':=(l ++ [(⟨y, [id], -1⟩:Lck)]).map E4) (m':=0) (by simp) (fun j=>Vd j) (Ya _)) (ConvH.row (k:=0) rfl (Ya _))),rfl⟩ rfl,rfl,rfl⟩
theorem Tf (l:List Lck) (y id:Int) (h:LkI l y) (hid:0<=id) (hh:Jh l y=false):Fn Tryz.prog 198 [C6 l,iv id,iv y] fun r=>r = .tp [C6 (l ++ [(⟨y, [id], -1⟩:Lck)]),iv 0]:=by
 refine(QT l y id h hid hh).fn ?_;rintro r H ⟨rfl,rfl⟩;refine⟨_,zD _,?_⟩;refine⟨by simp,?_⟩;refine⟨.tp [C6 (l ++ [(⟨y, [id], -1⟩:Lck)]),iv 0],Cc ⟨fun c u h=>?_,ri,tv⟩,rfl⟩;exact EN (f:=E4) (d:=lz) (by simp) c u h
@[reducible] def sp (k h lba:Int) (b:List UInt8):Sp:=⟨k,h,lba,b,0,0,0,0,0,0⟩
theorem J7 (k h lba:Int):SubL [iv k,iv h,iv lba, .v (.slice none 0 0),iv 0,iv 0,iv 0,iv 0,iv 0,iv 0] (N9 (sp k h lba [])):=⟨ri,ri,ri,Bt 1 _,ri,ri,ri,ri,ri,ri,tv⟩
section
variable {g:Geo} {K:Int} {d:Dk} {M:Md} {b:Bool} {L:List Lck} {l:List Hd}
theorem Vm.n {g:Geo} {K:Int} {d:Dk} {M:Md} (h:Vm g K d M):d.cells.length<=1000000000/\d.cache.length<=1000000000:=⟨by have:=h.gd.ok.n;omega,by have:=h.gd.ok.m;omega⟩
theorem OD (h:Vm g K d M) (hb:b=true->M.l=[]) (hl:l.length<=1000) (hs:∀ h∈l,O0 h) (hend:freeId l 0=l.length) (ho:(Ec l).2.2=0) (q lba:Int) :
  ACalls Tryz.prog false 20 [.bp 0 0, .ag (N9 (sp 2 q lba []))] (Mu g d (Bk M.a M.l) b L l) fun r H=>∃ d',Vm g K d' M/\r = .ag (an7 0 (Ec l).2.1 [])/\H=Mu g d' (Bk M.a M.l) b L (Ec l).1:=by
 have hc:=OB g d.z d.z (Bk M.a M.l) (Bk M.a M.l) b L l (sp 2 q lba []) (fun o=>o=⟨d.z,Bk M.a M.l,b,L,(Ec l).1,0,(Ec l).2.1, []⟩) rfl ((S6 g d.z d.z (Bk M.a M.l) (Bk M.a M.l) b L l (sp 2 q lba []) hl hs hend ho).mono fun r H ⟨h1,h2⟩=>⟨_,rfl,h1,h2⟩);refine(N6 g d (Bk M.a M.l) b L l (sp 2 q lba []) (fun o=>o=⟨d.z,Bk M.a M.l,b,L,(Ec l).1,0,(Ec l).2.1, []⟩) hb h.n ⟨by show (2:Int)<=2;decide,by show (2:Int)<=10;decide⟩ (by show (0:Int)<=0;decide) (hc.mono fun r H ⟨o,h1,h2,h3⟩=>⟨o,h1,by rw [h1];show (0:Int)≠8;decide,by rw [h1];exact h.z.gd.left,h2,h3⟩)).mono ?_;rintro r H ⟨o,rfl,rfl,rfl⟩;exact⟨d.z,h.z,rfl,rfl⟩
theorem Up (L':List Lck) (hg:Bq g=true) (h:Vm g K d M) (hb:b=true->M.l=[]) (q lba:Int) (bs:List UInt8) (hok:Ed l=true) (hl:l.length<=1000) (hs:∀ h∈l,O0 h) (hh:Gb l q=true) (hlba:0<=lba/\lba<g.z*g.d) (h8:bs.length=8) (hf:Sg (l.getD (E5 l q) ⟨0, [], []⟩) lba=false) (hend:FE (l.getD (E5 l q) ⟨0, [], []⟩).lbas lba=(l.getD (E5 l q) ⟨0, [], []⟩).lbas.length) (hw:Fn Tryz.prog 202 [C6 L,iv q,iv lba] fun r=>r = .tp [C6 L',iv 0]) :
  ACalls Tryz.prog false 20 [.bp 0 0, .ag (N9 (sp 4 q lba bs))] (Mu g d (Bk M.a M.l) b L l) fun r H=>∃ d',Vm g K d' M/\r = .ag (an7 0 0 [])/\H=Mu g d' (Bk M.a M.l) b L' (l.set (E5 l q) (W6 (l.getD (E5 l q) ⟨0, [], []⟩) lba bs)):=by
 have hc:=O9 g d.z d.z (Bk M.a M.l) (Bk M.a M.l) b L l (sp 4 q lba bs) (fun o=>o=⟨d.z,Bk M.a M.l,b,L',l.set (E5 l q) (W6 (l.getD (E5 l q) ⟨0, [], []⟩) lba bs),0,0, []⟩) rfl ((Sz g d.z d.z (Bk M.a M.l) (Bk M.a M.l) b L l (sp 4 q lba bs) L' hg hok hl hs hh hlba h8 hf hend hw).mono fun r H ⟨h1,h2⟩=>⟨_,rfl,⟨h1,rfl,rfl⟩,h2⟩);refine(N6 g d (Bk M.a M.l) b L l (sp 4 q lba bs) (fun o=>o=⟨d.z,Bk M.a M.l,b,L',l.set (E5 l q) (W6 (l.getD (E5 l q) ⟨0, [], []⟩) lba bs),0,0, []⟩) hb h.n ⟨by show (2:Int)<=4;decide,by show (4:Int)<=10;decide⟩ (by show (0:Int)<=0;decide) (hc.mono fun r H ⟨o,h1,h2,h3⟩=>⟨o,h1,by rw [h1];show (0:Int)≠8;decide,by rw [h1];exact h.z.gd.left,h2,h3⟩)).mono ?_;rintro r H ⟨o,rfl,rfl,rfl⟩;exact⟨d.z,h.z,rfl,rfl⟩
theorem S7 (L':List Lck) (hg:Bq g=true) (h:Vm g K d M) (hK:K<=4294967294) (hM:M.l=[]) (q lba x1:Int) (bs:List UInt8) (hl:l.length<=1000) (hs:∀ h∈l,O0 h) (hh:Gb l q=true) (hlba:0<=lba/\lba<g.z*g.d) (h8:bs.length=8) (hq:l.getD (E5 l q) ⟨0, [], []⟩=⟨q, [lba], [bs]⟩) (hd:Fn Tryz.prog 287 [C6 L,iv q] fun r=>r = .tp [C6 L',iv 0]) :
  ACalls Tryz.prog false 20 [.bp 0 0, .ag (N9 (sp 5 q x1 []))] (Mu g d (Bk M.a M.l) true L l) fun r H=>∃ d' M',Vm g (K+1) d' M'/\M'.m=M.m.set lba.toNat bs/\r = .ag (an7 0 0 [])/\H=Mu g d' (Bk M'.a M'.l) false L' (EK l q).1:=by
 have g4:=(Az.1 hg).2.2.2.1;obtain⟨a,ml,F,m⟩:=M;simp only at hM;subst hM;obtain⟨-,V,hV, -⟩:=h.rd;have hz:=h.z;have hc:=N5 g d.z d.z (Bk a []) (Bk a []) true L l (sp 5 q x1 []) (fun o=>∃ d' W,Gd (A4 g) d' (M9 F W)/\(∀ w∈W,(g.an<=w.addr/\w.addr<g.an+2*g.sl/\Ca w.bytes=w.addr)/\w.bytes.length<=200)/\o=⟨d',Bk a ([] ++ [FN g a [] F lba bs]),false,L',(EK l q).1,0,0, []⟩) rfl (Qq g d.z d.z (Bk a []) L l (sp 5 q x1 []) a F K lba bs V L' hg (hz.vo.vol hz.gd) hK hz.gd (fun q=>by have:=h.vo.fb q;exact AX this (by decide)) hV hlba h8 hl hs hh hq hd);refine(N6 g d (Bk a []) true L l (sp 5 q x1 []) (fun o=>∃ d' W,Gd (A4 g) d' (M9 F W)/\(∀ w∈W,(g.an<=w.addr/\w.addr<g.an+2*g.sl/\Ca w.bytes=w.addr)/\w.bytes.length<=200)/\o=⟨d',Bk a ([] ++ [FN g a [] F lba bs]),false,L',(EK l q).1,0,0, []⟩) (fun _=>rfl) h.n ⟨by show (2:Int)<=5;decide,by show (5:Int)<=10;decide⟩ (by show (0:Int)<=0;decide) (hc.mono fun r H ⟨o,⟨d',W,h1,h2,h3⟩,h4,h5⟩=>⟨o,⟨d',W,h1,h2,h3⟩,by rw [h3];show (0:Int)≠8;decide,by rw [h3];exact h1.left,h4,h5⟩)).mono ?_;rintro r H ⟨o,⟨d',W,h1,h2,rfl⟩,rfl,rfl⟩;exact⟨d',_,hz.cm (M:=⟨a, [],F,m⟩) hg hK hlba h8 (by show (0:Int)+4<=g.sl;omega) h1 h2,rfl,rfl,rfl⟩
theorem W7 (L':List Lck) (hg:Bq g=true) (h:Vm g K d M) (q lba:Int) (hl:l.length<=1000) (hs:∀ h∈l,O0 h) (hh:Gb l q=true) (hlba:0<=lba/\lba<g.z*g.d) (hno:(Ok l q lba).2.1=false) (hr:Fn Tryz.prog 198 [C6 L,iv q,iv lba] fun r=>r = .tp [C6 L',iv 0]) :
  ACalls Tryz.prog false 20 [.bp 0 0, .ag (N9 (sp 3 q lba []))] (Mu g d (Bk M.a M.l) false L l) fun r H=>∃ d',Vm g K d' M/\r = .ag (an7 0 0 (M.m.getD lba.toNat []))/\H=Mu g d' (Bk M.a M.l) false L' l:=by
 obtain⟨hZ,hB⟩:=O7 hg hlba;obtain⟨-,V,hV,hm⟩:=h.rd;obtain⟨t,hv⟩:=hV _ hZ.1 hZ.2;have hz:=h.z;have hvol:=hz.vo.vol hz.gd;have hsm:=hvol.sm hg;have hval:M.m.getD lba.toNat []=V (lba.tdiv g.d) (lba.tmod g.d):=by
  rw [<-hm _ _ hZ.1 hZ.2 hB.1 hB.2];congr 2;have:=Int.mul_tdiv_add_tmod lba g.d;rw [Int.mul_comm] at this;exact this.symm
 have hc:=Qp g d.z d.z (Bk M.a M.l) (Bk M.a M.l) false L l (sp 3 q lba []) (fun o=>∃ d',Gd (A4 g) d' M.F/\o=⟨d',Bk M.a M.l,false,L',l,0,0,V (lba.tdiv g.d) (lba.tmod g.d)⟩) rfl (Uk g d.z d.z (Bk M.a M.l) L l (sp 3 q lba []) M.a M.l M.F t (V (lba.tdiv g.d)) L' hg ⟨by have:=hsm.t.1;exact AX this (by decide),fun t ht=>⟨by have:=(hsm.t.2 t ht).1;omega,fun x hx=>by have:=(hsm.t.2 t ht).2 x hx;omega⟩⟩ hvol.an hz.gd (fun q=>by have:=h.vo.fb q;exact AX this (by decide)) hlba (fun p hp=>by
   obtain⟨t,ht,hx⟩:=PK hp;have:=(hsm.t.2 t ht).2 _ hx;omega) hv hl hs hh hno hr)
 refine(N6 g d (Bk M.a M.l) false L l (sp 3 q lba []) (fun o=>∃ d',Gd (A4 g) d' M.F/\o=⟨d',Bk M.a M.l,false,L',l,0,0,V (lba.tdiv g.d) (lba.tmod g.d)⟩) (fun e=>by cases e) h.n ⟨by show (2:Int)<=3;decide,by show (3:Int)<=10;decide⟩ (by show (0:Int)<=0;decide) (hc.mono fun r H ⟨o,⟨d',h1,h3⟩,h4,h5⟩=>⟨o,⟨d',h1,h3⟩,by rw [h3];show (0:Int)≠8;decide,by rw [h3];exact h1.left,h4,h5⟩)).mono ?_;rintro r H ⟨o,⟨d',h1,rfl⟩,rfl,rfl⟩;exact⟨d',⟨h1,h.vo,h.rd⟩,by rw [hval];try rfl,rfl⟩
end
def b8:List UInt8:= [1,2,3,4,5,6,7,8]
def lbX:ByteArray:=⟨#[120]⟩
theorem lab_x8:Em lbX.data.toList=0:=by decide +kernel
theorem a7 {y:Int} (h:0<=y/\y<=1000000):LkI [] y:=⟨rfl,by decide,(fun x hx=>by cases hx),h, .inr rfl⟩
theorem YQ (i:Int) (b:List (List UInt8)) (hb:b.length<=1000/\∀ x∈b,x.length<=1000000) (a:List Int) (ha:a.length<=1000):∀ h∈ [(⟨i,a,b⟩:Hd)],O0 h:=fun h hh=>by
 rw [A8] at hh;subst hh;exact⟨ha,hb.1,hb.2⟩
theorem wakes26_fn:Fn Tryz.prog 21 [] fun r=>r = .v (.bool true):=by
 have h1:=RC 0 1 0 0 1;have hg:=OO 0 1 0 0 1;have hzd:(FU 0 1 0 0 1).z*(FU 0 1 0 0 1).d=2:=by decide
 have hbd:4*(FU 0 1 0 0 1).sl+4*(FU 0 1 0 0 1).an+16*(FU 0 1 0 0 1).z*((FU 0 1 0 0 1).d+(FU 0 1 0 0 1).sp+4)+8=168:=by decide
 generalize FU 0 1 0 0 1=g at h1 hg hzd hbd;obtain⟨D,hM,hdk,hlen,hgd,hvo⟩:=UK (lb:=lbX) hg lab_x8;have v0:Vm g 2 D (Jz g lbX):=⟨hgd,hvo,YD hg⟩;have hl0:(Jz g lbX).l=[]:=rfl;have hm0:(Jz g lbX).m=[zero8,zero8]:=by show List.replicate (g.z*g.d).toNat zero8=_;rw [hzd];try rfl
 have c1:=R7 g lbX hg lab_x8 (by decide);have c2:=Yt g (DJ g lbX) (sp 2 0 0 []) ⟨by decide,by decide⟩;have c3:=S3 g (DJ g lbX) D _ (sp 1 0 0 []) rfl ⟨by have:=hdk.n;omega,by have:=hdk.m;omega⟩ rfl (by decide) hgd.left (Zf g (DJ g lbX) D _ hg hdk hlen hM (aD hg lab_x8));obtain⟨M,hMe⟩:∃ M,M=Jz g lbX:=⟨_,rfl⟩;rw [<-hMe] at v0 hl0 hm0 c3;have cw:=Td [] 1 0 (a7 (by decide)) (by decide) rfl;have cd:=Ve [⟨1, [],0⟩] 0 rfl (by decide) (by decide);have cr:=Tf [] 1 0 (a7 (by decide)) (by decide) rfl;have hbs:=Mf b8 (by decide);have cb:=S5 g hg;rw [hbd] at cb;have s1:=OD (b:=true) (L:= []) (l:= []) v0 (fun _=>hl0) (by decide) (fun h hh=>by cases hh) rfl rfl 0 0;simp only [show Ec []=([⟨0, [], []⟩],0,0) from rfl] at s1;have hd8:∀ h∈ [(⟨0, [1], [b8]⟩:Hd)],O0 h:=YQ 0 [b8] (by decide) [1] (by decide);have hd0:∀ h∈ [(⟨0, [], []⟩:Hd)],O0 h:=YQ 0 [] ⟨by decide,fun x h=>by cases h⟩ [] (by decide);refine zT Tryz.func21 rfl ?_;conv=>whnf
 refine zZ h1 ?_;conv=>whnf
 refine zW c1 rfl ?_;rintro _ _ ⟨rfl,rfl⟩;conv=>whnf
 refine zU [.bp 1 0, .ag (N9 (sp 2 0 0 []))] ⟨ri,B5 (J7 2 0 0),tv⟩ ?_;refine ze9 [1] c2 ?_;rintro _ _ ⟨rfl,rfl⟩;conv=>whnf
 refine zU [.bp 1 0, .ag (N9 (sp 1 0 0 []))] ⟨ri,B5 (J7 1 0 0),tv⟩ ?_;refine ze9 [1] c3 ?_;rintro _ _ ⟨rfl,rfl⟩;conv=>whnf
 refine aSeq.cutR Unit (fun _=>([(1, .bp 0 0),(2, .bp 1 0),(4,bA b8)],(.box 24 (Bl g))::Mu g D (Bk M.a M.l) true [] [])) (fun _=>True) ?_ ?_
 ·exact⟨(),tv,zI (zN (zG 4 2 rfl rfl) (zA 4 rfl (N8 (L:=b8) rfl rfl))) (s:= [0,1]) tA⟩
 intro _ _;conv=>whnf
 refine zU [.bp 1 0, .ag (N9 (sp 2 0 0 []))] ⟨ri,B5 (J7 2 0 0),tv⟩ ?_;refine ze9 [1] s1 ?_;rintro _ _ ⟨d1,v1,rfl,rfl⟩;have s2:=Up (b:=true) (L:= []) (l:= [⟨0, [], []⟩]) (ZV [] 1 0) hg v1 (fun _=>hl0) 0 1 b8 rfl (by decide) hd0 rfl ⟨by decide,by rw [hzd];decide⟩ rfl rfl rfl cw;conv=>whnf
 refine ze9 [1] s2 ?_;rintro _ _ ⟨d2,v2,rfl,rfl⟩;have s3:=S7 (L:= [⟨1, [],0⟩]) (l:= [⟨0, [1], [b8]⟩]) (DX [⟨1, [],0⟩] 0) hg v2 (by decide) hl0 0 1 0 b8 (by decide) hd8 rfl ⟨by decide,by rw [hzd];decide⟩ rfl rfl cd;conv=>whnf
 refine zU [.bp 1 0, .ag (N9 (sp 5 0 0 []))] ⟨ri,B5 (J7 5 0 0),tv⟩ ?_;refine ze9 [1] s3 ?_;rintro _ _ ⟨d3,M2,v3,hm3,rfl,rfl⟩;have s4:=OD (b:=false) (L:= []) (l:= []) v3 (fun h=>by cases h) (by decide) (fun h hh=>by cases hh) rfl rfl 0 0;simp only [show Ec []=([⟨0, [], []⟩],0,0) from rfl] at s4;conv=>whnf
 refine zU [.bp 1 0, .ag (N9 (sp 2 0 0 []))] ⟨ri,B5 (J7 2 0 0),tv⟩ ?_;refine ze9 [1] s4 ?_;rintro _ _ ⟨d4,v4,rfl,rfl⟩;have s5:=W7 (L:= []) (l:= [⟨0, [], []⟩]) ([] ++ [⟨1, [0], -1⟩]) hg v4 0 1 (by decide) hd0 rfl ⟨by decide,by rw [hzd];decide⟩ rfl cr;rw [show M2.m.getD (Int.toNat 1) []=b8 by rw [hm3,hm0];try rfl] at s5;conv=>whnf
 refine zU [.bp 1 0, .ag (N9 (sp 3 0 1 []))] ⟨ri,B5 (J7 3 0 1),tv⟩ ?_;refine ze9 [1] s5 ?_;rintro _ _ ⟨d5,v5,rfl,rfl⟩;conv=>whnf
 refine zZ cb ?_;conv=>whnf
 refine zZ hbs ?_;exact⟨_,ri,rfl⟩
theorem TM (d:Dk) (h1:d.cells.length<=1000000000) (h2:d.cache.length<=1000000000) (hb:∀ c∈d.cells,c.bytes.length<=1000000000/\c.old.length<=1000000000) (hw:∀ w∈d.cache,w.bytes.length<=1000000000):ACalls Tryz.prog false 31 [.ag (Me d)] [] fun r H=>r = .ag (II (.ow 0 d.cells.length) (.ow 1 d.cache.length) d.reqs d.left)/\H=[.row 68 3 (d.cells.map BB), .row 152 2 (d.cache.map E9)]:=by
 have c1:=IE d.cells h1;have c2:=J0 d.cache h2;refine zV tys_ok Tryz.func31 rfl rfl (Ae rfl) ?_;conv=>whnf
 apply zX (0) tys_ok mixed (.o [0,1,3,4,2,6,5,7,8,9] .fin) (by kernel_rfl);conv=>whnf
 (refine zW c1 rfl ?_;rintro _ _ ⟨rfl,rfl⟩)
 conv=>whnf
 (refine zW c2 rfl ?_;rintro _ _ ⟨rfl,rfl⟩)
 conv=>whnf
 try (refine tS ?_;conv=>whnf)
 try (refine tS ?_;conv=>whnf)
 refine zS Nat (fun k=>([(1, .bp 0 0),(2, .bp 1 0),(16, .ow 2 d.cells.length),(17,iv d.cells.length),(18,iv k)], [.box 38 (II (.ow 2 d.cells.length) (.ow 3 d.cache.length) d.reqs d.left), .box 38 [.v (.slice none 0 0), .v (.slice none 0 0),iv 0,iv 0], .row 68 3 (d.cells.map BB), .row 152 2 (d.cache.map E9)])) (fun k=>k<=d.cells.length) (fun k=>d.cells.length - k) 0 (Ak _)
  (zQ (s:= [0,1,2,3]) tA) ?_
 intro k hk;conv=>whnf
 refine AJ (fun h6=>?_) (fun h6=>?_) <;> (repeat rw [Ab] at h6) <;> conv=>whnf
 ·have hk':k<d.cells.length:=by omega
  have hm:=hb _ (A9 (d:=(⟨0, [], []⟩:Cel)) hk');have b1:=Bu (d.cells.getD k ⟨0, [], []⟩).bytes hm.1;have b2:=Bu (d.cells.getD k ⟨0, [], []⟩).old hm.2;have hE:(d.cells.map BB).getD (k:Int).toNat []=BB (d.cells.getD k ⟨0, [], []⟩):=by rw [Ab];exact AL hk'
  refine⟨⟨by omega,by omega⟩,?_⟩;conv=>whnf
  refine Ah ⟨rfl,(Aa _).symm,by rw [Ab];exact hk'⟩ ?_;conv=>whnf
  rw [hE];conv=>whnf
  apply zX (16) tys_ok mixed (.o [0,1,2,3,5,6,7,9,10] (.two 4 (.o [8,11,12,13,14,15,16,17] .fin) 8 (.two 4 (.o [11,12,13,14,15,16,17] .fin) 11 (.o [12,13] (.two 4 (.o [14,15,16,17] .fin) 14 (.o [4,15,16,17] .fin)))))) (by kernel_rfl);refine Ah ?_ ?_;conv=>whnf
  refine zZ b1 ?_;conv=>whnf
  refine zZ b2 ?_;conv=>whnf
  try (refine tI ?_;conv=>whnf)
  try (refine tS ?_;conv=>whnf)
  (first | rw [hE] | rw [AQ (by rw [Ab,Aa];exact hk')] | skip)
  conv=>whnf
  try (refine tI ?_;conv=>whnf)
  try (refine tS ?_;conv=>whnf)
  (first | rw [hE] | rw [AQ (by rw [Ab,Aa];exact hk')] | skip)
  conv=>whnf
  rotate_left 1;conv=>whnf
  refine zZ b1 ?_;refine Ah ?_ ?_;conv=>whnf
  refine zZ b2 ?_;conv=>whnf
  try (refine tI ?_;conv=>whnf)
  try (refine tS ?_;conv=>whnf)
  (first | rw [hE] | rw [AQ (by rw [Ab,Aa];exact hk')] | skip)
  conv=>whnf
  try (refine tI ?_;conv=>whnf)
  try (refine tS ?_;conv=>whnf)
  (first | rw [hE] | rw [AQ (by rw [Ab,Aa];exact hk')] | skip)
  conv=>whnf
  rotate_left 1;conv=>whnf
  refine zZ b2 ?_;conv=>whnf
  try (refine tI ?_;conv=>whnf)
  refine Ah ?_ ?_;conv=>whnf
  try (refine tS ?_;conv=>whnf)
  (first | rw [hE] | rw [AQ (by rw [Ab,Aa];exact hk')] | skip)
  conv=>whnf
  try (refine tI ?_;conv=>whnf)
  try (refine tS ?_;conv=>whnf)
  (first | rw [hE] | rw [AQ (by rw [Ab,Aa];exact hk')] | skip)
  conv=>whnf
  rotate_left 1;conv=>whnf
  try (refine tS ?_;conv=>whnf)
  (first | rw [hE] | rw [AQ (by rw [Ab,Aa];exact hk')] | skip)
  conv=>whnf
  try (refine tI ?_;conv=>whnf)
  try (refine tS ?_;conv=>whnf)
  (first | rw [hE] | rw [AQ (by rw [Ab,Aa];exact hk')] | skip)
  conv=>whnf
  rotate_left 1;all_goals refine⟨k+1,hk',by omega,zI (zO (z7 (k:=2) rfl (es':=d.cells.map BB) (by simp) ?_)) (s:= [0,1,2,3]) ⟨⟨rfl,rfl,rfl,rfl,AN (by omega),tv⟩,tA,rfl,rfl,rfl,rfl,rfl⟩⟩
  all_goals
   intro i;rw [List.set_set,Ab];refine GY (f:=BB) (d:=(⟨0, [], []⟩:Cel)) hk' ?_ i;exact⟨fun _ _ h=>h,fun _ _ h=>h,fun _ _ h=>h,tv⟩
 ·refine zS Nat (fun k=>([(1, .bp 0 0),(2, .bp 1 0),(41, .ow 3 d.cache.length),(42,iv d.cache.length),(43,iv k)], [.box 38 (II (.ow 2 d.cells.length) (.ow 3 d.cache.length) d.reqs d.left), .box 38 [.v (.slice none 0 0), .v (.slice none 0 0),iv 0,iv 0], .row 68 3 (d.cells.map BB), .row 152 2 (d.cache.map E9)])) (fun k=>k<=d.cache.length) (fun k=>d.cache.length - k) 0 (Ak _)
   (zQ (s:= [0,1,2,3]) tA) ?_
  intro k hk;conv=>whnf
  refine AJ (fun h7=>?_) (fun h7=>?_) <;> (repeat rw [Ab] at h7) <;> conv=>whnf
  ·have hk':k<d.cache.length:=by omega
   have hm:=hw _ (A9 (d:=(⟨0, []⟩:Wr)) hk');have b1:=Bu (d.cache.getD k ⟨0, []⟩).bytes hm;have hE:(d.cache.map E9).getD (k:Int).toNat []=E9 (d.cache.getD k ⟨0, []⟩):=by rw [Ab];exact AL hk'
   refine⟨⟨by omega,by omega⟩,?_⟩;conv=>whnf
   refine Ah ⟨rfl,(Aa _).symm,by rw [Ab];exact hk'⟩ ?_;conv=>whnf
   rw [hE];conv=>whnf
   apply zX (0) tys_ok mixed (.o [0,1,2,3,4,5,6,7,8] .fin) (by kernel_rfl);conv=>whnf
   refine zZ b1 ?_;conv=>whnf
   try (refine tI ?_;conv=>whnf)
   try (refine tS ?_;conv=>whnf)
   (first | rw [hE] | skip)
   conv=>whnf
   all_goals refine⟨k+1,hk',by omega,zI (zO (z7 (k:=3) rfl (es':=d.cache.map E9) (by simp) ?_)) (s:= [0,1,2,3]) ⟨⟨rfl,rfl,rfl,rfl,AN (by omega),tv⟩,tA,rfl,rfl,rfl,rfl,rfl⟩⟩
   all_goals
    intro i;rw [Ab];refine GY (f:=E9) (d:=(⟨0, []⟩:Wr)) hk' ?_ i;exact⟨fun _ _ h=>h,fun _ _ h=>h,tv⟩
  ·exact⟨_, .ag (II (.ow 0 d.cells.length) (.ow 1 d.cache.length) d.reqs d.left), [.row 68 3 (d.cells.map BB), .row 152 2 (d.cache.map E9)],fun _ _ h=>h,zQ (s:= [2,3]) tA,rfl,rfl⟩
def Dk.faultX (d:Dk) (kind a frm bit bits:Int):Dk:=if (d.fault kind a frm bit bits).2=0 then (d.fault kind a frm bit bits).1 else dk0
theorem TT {d:Dk} (h:DkOk d):Fn Tryz.prog 29 [.ag (Me d)] fun r=>r = iv 0:=by
 have:=TU d (by have:=h.n;omega) (by have:=h.m;omega);rwa [Ps.2 h] at this
theorem TR (hfl:∀ (b:List UInt8) (bit bs:Int),b.length<=200->Fn Tryz.prog 32 [bA b,iv bit,iv bs] fun r=>r=bA (MX b bit bs)) (d:Dk) (kind a frm bit bits:Int) (h:DkOk d):Fn Tryz.prog 12 [.ag (Me d),iv kind,iv a,iv frm,iv bit,iv bits] fun r=>r = .tp [.ag (Me (d.faultX kind a frm bit bits)), .v (.int .i64 (d.fault kind a frm bit bits).2)]:=by
 have hn:=h.n;have hm:=h.m;have w1:IntKind.i64.wrap ((d.cells.length:Int) - 1)=d.cells.length - 1:=wi (by omega);have i1:=JX a 0 ((d.cells.length:Int) - 1);have i2:=JX frm 0 ((d.cells.length:Int) - 1);have hck:=TT h;have htw:=TM d (by omega) (by omega) (fun c hc=>by have:=(h.c c hc).2;omega) (fun w hw=>by have:=(h.w w hw).2;omega);have bad:∀ e:Int,e≠0->(d.fault kind a frm bit bits).2=e->∃ r',(∀ (c:Ctx) (v:Value),Rd (.tp [.ag [nilV,nilV,ze 0,ze 0],iv e]) c v->Rd r' c v)/\r' = .tp [.ag (Me (d.faultX kind a frm bit bits)), .v (.int .i64 (d.fault kind a frm bit bits).2)]:=fun e he hq=>by
  refine⟨_,?_,rfl⟩;rw [Dk.faultX,hq,if_neg he];exact Cc ⟨B5 dk0_sub,ri,tv⟩
 refine zT Tryz.func12 rfl ?_;conv=>whnf
 refine zZ hck ?_;conv=>whnf
 rw [w1];refine zZ i1 ?_;cases hA:CH a 0 ((d.cells.length:Int) - 1) with
 | false=>
  conv=>whnf
  exact bad 1 (by decide) (by rw [Dk.fault,if_pos hA])
 | true=>
  have ha:0<=a/\a<d.cells.length:=by rw [AH] at hA;omega
  have hmem:a.toNat<d.cells.length:=by omega
  have hgc:=VU ha;have hA':¬CH a 0 ((d.cells.length:Int) - 1)=false:=by rw [hA];simp
  conv=>whnf
  repeat' (refine z_ ?_;conv=>whnf)
  by_cases hc:0<d.cache.length
  ·rw [show decide ((d.cache.length:Int) > 0)=true from decide_eq_true (by omega)];conv=>whnf
   exact bad 9 (by decide) (by rw [Dk.fault,if_neg hA',if_pos hc])
  ·rw [show decide ((d.cache.length:Int) > 0)=false from decide_eq_false (by omega)];have hcn:d.cache=[]:=by cases hq:d.cache with | nil=>rfl | cons x y=>rw [hq] at hc;simp at hc
   conv=>whnf
   have hget:d.fault kind a frm bit bits=d.fault kind a frm bit bits:=rfl;conv at hget=>rhs;rw [Dk.fault,if_neg hA',if_neg hc]
   simp only at hget;refine zW htw rfl ?_;rintro _ _ ⟨rfl,rfl⟩;refine⟨ha,?_⟩;conv=>whnf
   have hb:(d.cells.getD a.toNat cz).bytes.length<=200:=(h.c _ (A9 (d:=cz) hmem)).2.1;have ho:(d.cells.getD a.toNat cz).old.length<=200:=(h.c _ (A9 (d:=cz) hmem)).2.2;have c1:=hfl (d.cells.getD a.toNat cz).bytes bit bits hb;have c2:=Bu (d.cells.getD a.toNat cz).old (by omega);generalize hq:d.cells.getD a.toNat cz=c at hget hgc hb ho c1 c2;have LDB:(d.cells.map BB).length=d.cells.length:=Aa _;have LSET:∀ e:List AV,d.cells.length=((d.cells.map BB).set a.toNat e).length:=fun e=>by rw [AY,Aa]
   have OK:∀ c':Cel,d.fault kind a frm bit bits=(Fe d a c',0)->∀ es:List (List AV),es=(d.cells.map BB).set a.toNat (BB c')->∃ r',(∀ (x:Ctx) (v:Value),Rd (.tp [.ag [.sl 3 d.cells.length fun i=>es.getD i [], .sl 2 d.cache.length fun i=>(d.cache.map E9).getD i [],iv d.reqs,iv d.left],iv 0]) x v->Rd r' x v)/\r' = .tp [.ag (Me (d.faultX kind a frm bit bits)), .v (.int .i64 (d.fault kind a frm bit bits).2)]:=fun c' hf es he=>by
    refine⟨_,?_,rfl⟩;rw [Dk.faultX,hf,if_pos rfl];exact Cc ⟨B5 ⟨Ck (f:=BB) (Fe d a c').cells (by simp [Fe]) (by rw [he];simp [Fe,CO]),Ck (f:=E9) d.cache rfl rfl,ri,ri,tv⟩,ri,tv⟩
   repeat' (refine z_ ?_;conv=>whnf)
   refine AJ (fun k1=>?_) (fun k1=>?_) <;> (repeat rw [Ab] at k1) <;> conv=>whnf
   ·rw [if_pos k1] at hget;refine⟨⟨rfl,LDB.symm,hmem⟩,?_⟩;conv=>whnf
    rw [hgc];conv=>whnf
    refine AJ (fun k2=>?_) (fun k2=>?_) <;> (repeat rw [Ab] at k2) <;> conv=>whnf
    ·rw [if_pos k2] at hget;refine⟨⟨rfl,LDB.symm,hmem⟩,?_⟩;conv=>whnf
     rw [hgc];conv=>whnf
     repeat' (refine z_ ?_;conv=>whnf)
     refine⟨(LSET _),?_⟩;refine Ah (Aa _).symm ?_;conv=>whnf
     exact OK _ hget _ rfl
    ·rw [if_neg k2] at hget;repeat' (refine z_ ?_;conv=>whnf)
     refine⟨LDB.symm,?_⟩;refine Ah (Aa _).symm ?_;conv=>whnf
     exact OK c hget _ (by have e:=congrArg (fun x=>x.cells.map BB) (VT ha);simp only [Fe,CO] at e;rw [hq] at e;exact e.symm)
   ·rw [if_neg k1] at hget;refine AJ (fun k2=>?_) (fun k2=>?_) <;> (repeat rw [Ab] at k2) <;> conv=>whnf
    ·rw [if_pos k2] at hget;refine⟨⟨rfl,LDB.symm,hmem⟩,?_⟩;conv=>whnf
     rw [hgc];conv=>whnf
     repeat' (refine z_ ?_;conv=>whnf)
     refine⟨(LSET _),?_⟩;refine Ah (Aa _).symm ?_;conv=>whnf
     exact OK _ hget _ rfl
    ·rw [if_neg k2] at hget;refine AJ (fun k3=>?_) (fun k3=>?_) <;> (repeat rw [Ab] at k3) <;> conv=>whnf
     ·rw [if_pos k3] at hget;refine AJ (fun k4=>?_) (fun k4=>?_) <;> (repeat rw [Ab] at k4) <;> conv=>whnf
      ·rw [if_pos (.inl k4)] at hget;exact bad 1 (by decide) (by rw [hget])
      ·refine AJ (fun k5=>?_) (fun k5=>?_) <;> (repeat rw [Ab] at k5) <;> conv=>whnf
       ·rw [if_pos (.inr k5)] at hget;exact bad 1 (by decide) (by rw [hget])
       ·rw [if_neg (by omega)] at hget;refine⟨⟨rfl,LDB.symm,hmem⟩,?_⟩;conv=>whnf
        rw [hgc];conv=>whnf
        refine zZ c1 ?_;refine⟨⟨rfl,LDB.symm,hmem⟩,?_⟩;conv=>whnf
        rw [hgc];conv=>whnf
        repeat' (refine z_ ?_;conv=>whnf)
        refine⟨(LSET _),?_⟩;refine Ah (Aa _).symm ?_;conv=>whnf
        exact OK _ hget _ rfl
     ·rw [if_neg k3] at hget;refine AJ (fun k4=>?_) (fun k4=>?_) <;> (repeat rw [Ab] at k4) <;> conv=>whnf
      ·rw [if_pos k4] at hget;refine⟨⟨rfl,LDB.symm,hmem⟩,?_⟩;conv=>whnf
       rw [hgc];conv=>whnf
       refine zZ c2 ?_;refine⟨⟨rfl,LDB.symm,hmem⟩,?_⟩;conv=>whnf
       rw [hgc];conv=>whnf
       repeat' (refine z_ ?_;conv=>whnf)
       refine⟨(LSET _),?_⟩;refine Ah (Aa _).symm ?_;conv=>whnf
       exact OK _ hget _ rfl
      ·rw [if_neg k4] at hget;refine AJ (fun k5=>?_) (fun k5=>?_) <;> (repeat rw [Ab] at k5) <;> conv=>whnf
       ·rw [if_pos k5] at hget;rw [w1];refine zZ i2 ?_;cases hF:CH frm 0 ((d.cells.length:Int) - 1) with
        | false=>
         rw [if_pos hF] at hget;conv=>whnf
         exact bad 1 (by decide) (by rw [hget])
        | true=>
         rw [if_neg (by rw [hF];simp)] at hget;have hf:0<=frm/\frm<d.cells.length:=by rw [AH] at hF;omega
         have c3:=Bu (d.cells.getD frm.toNat cz).bytes (by have:=(h.c _ (A9 (d:=cz) (show frm.toNat<d.cells.length by omega))).2.1;omega);refine⟨hf,?_⟩;refine⟨⟨rfl,LDB.symm,show frm.toNat<d.cells.length by omega⟩,?_⟩;conv=>whnf
         rw [VU hf];conv=>whnf
         refine zZ c3 ?_;refine⟨⟨rfl,LDB.symm,hmem⟩,?_⟩;conv=>whnf
         rw [hgc];conv=>whnf
         repeat' (refine z_ ?_;conv=>whnf)
         refine⟨(LSET _),?_⟩;refine Ah (Aa _).symm ?_;conv=>whnf
         exact OK _ hget _ rfl
       ·rw [if_neg k5] at hget;exact bad 1 (by decide) (by rw [hget])
theorem Qd (b:List UInt8) (hb:b.length<=1000000000):ACalls Tryz.prog false 33 [bA b] [] fun r H=>r = .ow 0 b.length/\H=[.row 5 1 (bR b)]:=by
 refine zH tys_ok Tryz.func33 rfl rfl (Ae rfl) ?_;refine Ah (fun h=>?_) ?_
 ·conv=>whnf
  have h0:=AG.1 h;subst h0;exact⟨_, .ow 0 0, [.row 5 1 []],fun _ _ h=>h,zM ⟨[(0,5,1)],tA,tA,tA,rfl,rfl,rfl⟩,rfl,rfl⟩
 ·refine⟨⟨rfl,by omega⟩,?_⟩;exact⟨.ow 0 b.length, .ow 0 b.length, [.row 5 1 (bR b)],fun _ _ h=>by rwa [Au] at h,zM ⟨[],tv,tA,⟨(congrArg (AB.row _ _) (Wi b)).symm,tv⟩,rfl,rfl,rfl⟩,rfl,rfl⟩
theorem VM {bit:Int} {n:Int} (hn:0<n) (hn2:n<=1000000):(IntKind.i64.wrap (bit.tmod n+n)).tmod n=bit % n:=by
 have a1:=Bo bit hn;have a2:=Int.lt_tmod_of_pos bit hn;have e:=SF (a:=bit) hn;rw [wi (by omega)];by_cases h:bit.tmod n<0
 ·rw [if_pos h] at e;rw [e,BP (Int.emod_nonneg _ (by omega)),Int.emod_emod]
 ·rw [if_neg h] at e;rw [BP (by omega),<-e,Int.add_emod_right,Int.emod_eq_of_lt (by omega) (by omega)]
theorem Y7 (m:Nat):m ||| 1=2*(m / 2)+1:=by
 apply Nat.eq_of_testBit_eq;intro i;rw [Nat.testBit_or];cases i with
 | zero=>simp [Nat.testBit_zero]
 | succ i=>
  rw [Nat.testBit_succ,Nat.testBit_succ,Nat.testBit_succ,show (2*(m / 2)+1) / 2=m / 2 by omega,show 1 / 2=0 from rfl,Nat.zero_testBit,Bool.or_false]
theorem PS (bs:Int):IntKind.u32.wrap ((BitVec.ofInt IntKind.u32.bits (IntKind.u32.wrap bs) ||| BitVec.ofInt IntKind.u32.bits 1).toNat:Nat)=(fX bs:Nat):=by
 have hl:=Yg bs;have e:(BitVec.ofInt IntKind.u32.bits (IntKind.u32.wrap bs) ||| BitVec.ofInt IntKind.u32.bits 1).toNat=fX bs:=by
  rw [BitVec.toNat_or];have h1:(BitVec.ofInt IntKind.u32.bits (IntKind.u32.wrap bs)).toNat=(bs % 4294967296).toNat:=by
   rw [BitVec.toNat_ofInt,IntKind.wrap_u32];show (bs % 4294967296 % (4294967296:Nat)).toNat=_;omega
  have h2:(BitVec.ofInt IntKind.u32.bits 1).toNat=1:=rfl;rw [h1,h2,Y7];unfold fX;split <;> omega
 rw [e,IntKind.wrap_u32];omega
theorem TQ {X k:Nat} (hX:X<4294967296) (hk:k<32):IntKind.u32.wrap ((BitVec.ofInt IntKind.u32.bits ((X:Int).fdiv (2 ^ min ((k:Nat):Int).toNat IntKind.u32.bits))&&&BitVec.ofInt IntKind.u32.bits 1).toNat:Nat)=((X / 2 ^ k % 2:Nat):Int):=by
 have e0:min ((k:Nat):Int).toNat IntKind.u32.bits=k:=by rw [Ab];show min k 32=k;omega
 have e1:(X:Int).fdiv (2 ^ k)=((X / 2 ^ k:Nat):Int):=by
  rw [Int.fdiv_eq_ediv_of_nonneg _ (Int.le_of_lt (Int.pow_pos (by decide)))]
  push_cast
  rfl
 have hd:=Nat.div_le_self X (2 ^ k);have e2:(BitVec.ofInt IntKind.u32.bits ((X / 2 ^ k:Nat):Int)).toNat=X / 2 ^ k:=by
  rw [BitVec.toNat_ofInt];show (((X / 2 ^ k:Nat):Int) % (4294967296:Nat)).toNat=_;generalize X / 2 ^ k=Z at hd |-
  omega
 rw [e0,e1,BitVec.toNat_and,e2];clear e0 e1 e2;generalize X / 2 ^ k=Z at hd |-
 rw [show (BitVec.ofInt IntKind.u32.bits 1).toNat=1 from rfl,Nat.and_one_is_mod,IntKind.wrap_u32];omega
theorem VL (b:List UInt8) (bit bs:Int) (hb:b.length<=200):Fn Tryz.prog 32 [bA b,iv bit,iv bs] fun r=>r=bA (MX b bit bs):=by
 have hc:=Qd b (by omega);have w8:IntKind.i64.wrap (8*(b.length:Int))=8*b.length:=wi (by omega);by_cases h0:b.length=0
 ·have e:b=[]:=Bd h0;subst e;refine zT Tryz.func32 rfl ?_;conv=>whnf
  refine zW hc rfl ?_;rintro _ _ ⟨rfl,rfl⟩;refine⟨rfl,?_⟩;exact⟨_,fun c u h=>Wh [] c u h,by rw [TC]⟩
 ·have hat:=VM (bit:=bit) (n:=8*(b.length:Int)) (by omega) (by omega);have a1:=Int.emod_lt_of_pos bit (show (0:Int)<8*b.length by omega);have a2:=Int.emod_nonneg bit (show (8*(b.length:Int))≠0 by omega);refine zT Tryz.func32 rfl ?_;conv=>whnf
  refine zW hc rfl ?_;rintro _ _ ⟨rfl,rfl⟩;conv=>whnf
  rw [w8];refine AJ (fun c=>absurd c (by omega)) (fun _=>?_);refine⟨by omega,?_⟩;refine⟨by omega,?_⟩;conv=>whnf
  rw [hat,PS bs];obtain⟨A,eA⟩:∃ A:Nat,(A:Int)=bit % (8*b.length):=⟨(bit % (8*(b.length:Int))).toNat,by omega⟩;rw [<-eA];have hXl:=Yg bs;have hR:FH (fun i=>decide (fX bs / 2 ^ i % 2=1)) (bit % (8*(b.length:Int))).toNat b 32=MX b bit bs:=rfl;rw [<-eA,Ab] at hR;obtain⟨X,eX⟩:∃ X,X=fX bs:=⟨_,rfl⟩;rw [<-eX] at hR hXl;rw [<-eX];refine zS Nat (fun k=>([(7, .ow 0 b.length),(8,iv (8*(b.length:Int))),(9, .v (.int .u32 (X:Nat))),(10,iv (A:Nat)),(31,iv k)], [.row 5 1 (bR (FH (fun i=>decide (X / 2 ^ i % 2=1)) A b k))])) (fun k=>k<=32) (fun k=>32 - k) 0 (Ak _)
   (zQ (s:= [0]) tA) ?_
  intro k hk;have hfl:=Jm (fun i=>decide (X / 2 ^ i % 2=1)) A b k;conv=>whnf
  refine AJ (fun h1=>?_) (fun h1=>?_) <;> (repeat rw [Ab] at h1) <;> conv=>whnf
  ·repeat' (refine z_ ?_;conv=>whnf)
   rw [show IntKind.i64.wrap ((A:Int)+k)=((A+k:Nat):Int) by rw [wi (by omega)];omega];refine⟨by omega,?_⟩;conv=>whnf
   rw [TQ hXl (show k<32 by omega)];have skip:¬(X / 2 ^ k % 2=1/\A+k<8*b.length)->FH (fun i=>decide (X / 2 ^ i % 2=1)) A b (k+1)=FH (fun i=>decide (X / 2 ^ i % 2=1)) A b k:=fun h=>by
    rw [FH,if_neg];simpa using h
   by_cases hp:X / 2 ^ k % 2=1
   ·rw [show (((X / 2 ^ k % 2:Nat):Int) == 1)=true by rw [hp];try rfl];conv=>whnf
    by_cases h2:A+k<8*b.length
    ·rw [show decide (((A+k:Nat):Int)<8*(b.length:Int))=true from decide_eq_true (by omega)];conv=>whnf
     have hN:FH (fun i=>decide (X / 2 ^ i % 2=1)) A b (k+1)=PH (FH (fun i=>decide (X / 2 ^ i % 2=1)) A b k) (A+k):=by
      rw [FH,if_pos];simp [hp,h2]
     rw [TE _ _ (by rw [hfl];omega)] at hN;generalize FH (fun i=>decide (X / 2 ^ i % 2=1)) A b k=F at hN hfl skip |-
     have hq:(A+k) / 8<b.length:=by omega
     have hz:(2:Nat) ^ ((A+k) % 8)<256:=by
      have:=Nat.pow_lt_pow_right (a:=2) (by omega) (show (A+k) % 8<8 by omega);omega
     have eq:IntKind.i64.wrap (((A+k:Nat):Int).tdiv 8)=(((A+k) / 8:Nat):Int):=by
      rw [Bp (by omega),wi (by omega)];omega
     have er:((A+k:Nat):Int).tmod 8=(((A+k) % 8:Nat):Int):=by
      rw [BP (by omega)];omega
     have es:IntKind.u8.wrap (1*2 ^ min ((((A+k) % 8:Nat):Int).toNat) IntKind.u8.bits)=((2 ^ ((A+k) % 8):Nat):Int):=by
      rw [Ab,show min ((A+k) % 8) IntKind.u8.bits=(A+k) % 8 from BX (by show _<=8;omega),Int.one_mul,IntKind.wrap_u8];have:((2 ^ ((A+k) % 8):Nat):Int)=(2:Int) ^ ((A+k) % 8):=by simp
      rw [<-this];generalize 2 ^ ((A+k) % 8)=z at hz |-
      omega
     refine zz tys_ok mixed [0,1,2,3,4,5,6,7,8,9,10] (by kernel_rfl) ?_;refine⟨by decide,?_⟩;conv=>whnf
     rw [eq];refine⟨⟨by omega,by omega⟩,?_⟩;refine⟨⟨rfl,by simp [bR,hfl],by omega⟩,?_⟩;conv=>whnf
     rw [Ab,Wj (by rw [hfl];omega)];refine⟨by decide,?_⟩;conv=>whnf
     rw [er];refine⟨by omega,?_⟩;refine⟨⟨by omega,by omega⟩,?_⟩;conv=>whnf
     rw [es];refine⟨⟨rfl,by simp [bR,hfl],by omega⟩,?_⟩;conv=>whnf
     rw [Ab,Wj (by rw [hfl];omega)];conv=>whnf
     have ex:=Ur (F.getD ((A+k) / 8) 0) (2 ^ ((A+k) % 8)) hz;rw [ex,Zj];repeat' (refine z_ ?_;conv=>whnf)
     refine⟨k+1,by omega,by omega,?_⟩;rw [hN];exact zQ (s:= [0]) ⟨⟨rfl,rfl,rfl,rfl,AN (by omega),tv⟩,tA,rfl,rfl,rfl,rfl,rfl⟩
    ·rw [show decide (((A+k:Nat):Int)<8*(b.length:Int))=false from decide_eq_false (by omega)];conv=>whnf
     repeat' (refine z_ ?_;conv=>whnf)
     refine⟨k+1,by omega,by omega,?_⟩;rw [skip (fun h=>h2 h.2)];exact zQ (s:= [0]) ⟨⟨rfl,rfl,rfl,rfl,AN (by omega),tv⟩,tA,rfl,rfl,rfl,rfl,rfl⟩
   ·rw [show (((X / 2 ^ k % 2:Nat):Int) == 1)=false by rw [show X / 2 ^ k % 2=0 by omega];try rfl];conv=>whnf
    repeat' (refine z_ ?_;conv=>whnf)
    refine⟨k+1,by omega,by omega,?_⟩;rw [skip (fun h=>hp h.1)];exact zQ (s:= [0]) ⟨⟨rfl,rfl,rfl,rfl,AN (by omega),tv⟩,tA,rfl,rfl,rfl,rfl,rfl⟩
  ·have ek:k=32:=by omega
   subst ek;rw [hR];rw [hR] at hfl;refine⟨(by simp [bR,hfl]),?_⟩;exact⟨_,fun c u h=>XM (G7 b bit bs).symm c u h,rfl⟩
structure Gr where
 f:Int->Gt
 cells:List Cel
 cache:List Wr
instance:CoeFun Gr fun _=>Int->Gt:=⟨Gr.f⟩
structure Gs (n:Int) (d:Dk) (G:Gr):Prop where
 ok:DkOk d
 left:d.left = -1
 len:(d.cells.length:Int)=n
 got:∀ a:Int,0<=a->a<n->d.got a=((G a).bytes,(G a).err)
 cells:d.cells=G.cells
 cache:d.cache=G.cache
theorem Gs.req {n:Int} {d:Dk} {G:Gr} (h:Gs n d G):Gs n d.req G:=⟨h.ok.req,by unfold Dk.req;rw [h.left];try rfl,h.len,h.got,h.cells,h.cache⟩
theorem Gs.read {n:Int} {d:Dk} {G:Gr} (h:Gs n d G) {a:Int} (h0:0<=a) (h1:a<n):d.read a=(d.req,(G a).bytes,(G a).err):=by
 unfold Dk.read;rw [if_neg (by rw [h.left];decide),h.got a h0 h1]
def Of (d:Dk):Gr:=⟨fun a=>⟨(d.got a).2,(d.got a).1⟩,d.cells,d.cache⟩
theorem Gs.of {n:Int} {d:Dk} (h:DkOk d) (hl:d.left = -1) (hn:(d.cells.length:Int)=n):Gs n d (Of d):=⟨h,hl,hn,fun _ _ _=>rfl,rfl,rfl⟩


@[reducible] def aJ (g:Geo) (t:List Ent) (had l:List (List UInt8)):List AB:= [.box 348 [iv g.d,BW t,GS had], .row 22 1 (l.map Mr)]



structure AtsOk (g:Geo) (l:List Int):Prop where
 pos:0<l.length
 len:l.length<=1000
 at_:∀ i:Nat,i<l.length->0<=l.getD i 0/\l.getD i 0<g.d
 up:∀ i:Nat,i+1<l.length->l.getD i 0<l.getD (i+1) 0
theorem AtsOk.lt {g:Geo} {l:List Int} (h:AtsOk g l):∀ {j k:Nat},j<k->k<l.length->l.getD j 0<l.getD k 0:=fun {j k} hjk hk=>by
 induction k with
 | zero=>omega
 | succ k ih=>
  by_cases e:j=k
  ·rw [e];exact h.up k hk
  ·exact Int.lt_trans (ih (by omega) (by omega)) (h.up k hk)
theorem AtsOk.inj {g:Geo} {l:List Int} (h:AtsOk g l) {j k:Nat} (hj:j<l.length) (hk:k<l.length) (e:l.getD j 0=l.getD k 0):j=k:=by
 rcases Nat.lt_trichotomy j k with q | q | q
 ·have:=h.lt q hk;omega
 ·exact q
 ·have:=h.lt q hj;omega
section
variable {g:Geo} {t:List Ent} {had:List (List UInt8)} {ats:List Int} {bs:List (List UInt8)}
end

theorem KP {d:Dk} (h:d.left = -1) (a:Int) (b:List UInt8):(d.write a b).2≠8/\(d.write a b).1.left = -1:=by
 have e:d.req.left = -1:=by unfold Dk.req;rw [h];try rfl
 unfold Dk.write;rw [if_neg (by rw [h];decide)];split
 ·exact⟨by show (7:Int)≠8;decide,e⟩
 ·exact⟨by show (0:Int)≠8;decide,e⟩
def XU (g:Geo) (d:Dk) (x:Rc) (Q:Int):Dk:=((d.write (A_ g 0 Q) (B3 g x 0 Q)).1.write (A_ g 1 Q) (B3 g x 1 Q)).1
def dW (g:Geo) (P:Int) (R:List Rc) (d:Dk):Nat->Dk
 | 0=>d
 | i+1=>XU g (dW g P R d i) (R.getD i rc0) (Ex g P (i:Nat))
theorem Y5 {g:Geo} (hg:Bq g=true) {d:Dk} {x:Rc} {Q:Int} (hx:EE g x=true) (hQ:0<=Q/\Q<g.sl) (h:DkOk d) (hl:d.left = -1) (hn:(d.cells.length:Int)=A4 g):DkOk (XU g d x Q)/\(XU g d x Q).left = -1/\((XU g d x Q).cells.length:Int)=A4 g:=by
 have b0:=Ez hg hn (.inl rfl) hQ (c:=0);have b1:=Ez hg hn (.inr rfl) hQ (c:=1);have h1:=h.write (a:=A_ g 0 Q) (b:=B3 g x 0 Q) (by omega) (Cd hx 0 Q);have l1:=(KP hl (A_ g 0 Q) (B3 g x 0 Q)).2;have n1:=KB d (A_ g 0 Q) (B3 g x 0 Q);have h2:=h1.write (a:=A_ g 1 Q) (b:=B3 g x 1 Q) (by omega) (Cd hx 1 Q);have l2:=(KP l1 (A_ g 1 Q) (B3 g x 1 Q)).2;have n2:=KB (d.write (A_ g 0 Q) (B3 g x 0 Q)).1 (A_ g 1 Q) (B3 g x 1 Q);exact⟨h2,l2,by show ((((d.write _ _).1.write _ _).1.cells.length:Nat):Int)=_;omega⟩
theorem Yi {g:Geo} (hg:Bq g=true) {P:Int} {R:List Rc} {n:Nat} (hR:∀ i:Nat,i<n->EE g (R.getD i rc0)=true) (hP:∀ i:Nat,i<n->0<=Ex g P (i:Nat)/\Ex g P (i:Nat)<g.sl) {d:Dk} (h:DkOk d) (hl:d.left = -1) (hn:(d.cells.length:Int)=A4 g):∀ i,i<=n->DkOk (dW g P R d i)/\(dW g P R d i).left = -1/\((dW g P R d i).cells.length:Int)=A4 g
 | 0,_=>⟨h,hl,hn⟩
 | i+1,hi=>by
  obtain⟨q1,q2,q3⟩:=Yi hg hR hP h hl hn i (by omega);exact Y5 hg (hR i (by omega)) (hP i (by omega)) q1 q2 q3


theorem M5 (d:Dk) (a:Int) (b:List UInt8):(d.write a b).1.cells=d.cells/\∃ W,(d.write a b).1.cache=d.cache ++ W/\∀ w∈W,w.addr=a:=by
 unfold Dk.write;split
 ·simp_all
 ·split
  ·exact⟨rfl, [],(AD _).symm,fun w hw=>by cases hw⟩
  ·exact⟨rfl, [⟨a,b⟩],rfl,fun w hw=>by rw [A8] at hw;rw [hw]⟩
theorem WT {g:Geo} (d:Dk) (x:Rc) {Q:Int} (hQ:0<=Q/\Q<g.sl):(XU g d x Q).cells=d.cells/\∃ W,(XU g d x Q).cache=d.cache ++ W/\∀ w∈W,g.an<=w.addr/\w.addr<g.an+2*g.sl:=by
 obtain⟨e1,W1,c1,h1⟩:=M5 d (A_ g 0 Q) (B3 g x 0 Q);obtain⟨e2,W2,c2,h2⟩:=M5 (d.write (A_ g 0 Q) (B3 g x 0 Q)).1 (A_ g 1 Q) (B3 g x 1 Q);refine⟨e2.trans e1,W1 ++ W2,by unfold XU;rw [c2,c1,AC],fun w hw=>?_⟩;rcases Ay.1 hw with q | q
 ·rw [h1 w q];exact Hq (.inl rfl) hQ
 ·rw [h2 w q];exact Hq (.inr rfl) hQ
theorem VQ {g:Geo} {P:Int} {R:List Rc} {n:Nat} (hP:∀ i:Nat,i<n->0<=Ex g P (i:Nat)/\Ex g P (i:Nat)<g.sl) (d:Dk):∀ i,i<=n->(dW g P R d i).cells=d.cells/\∃ W,(dW g P R d i).cache=d.cache ++ W/\∀ w∈W,g.an<=w.addr/\w.addr<g.an+2*g.sl
 | 0,_=>⟨rfl, [],(AD _).symm,fun w hw=>by cases hw⟩
 | i+1,hi=>by
  obtain⟨e1,W1,c1,h1⟩:=VQ (R:=R) hP d i (by omega);obtain⟨e2,W2,c2,h2⟩:=WT (dW g P R d i) (R.getD i rc0) (hP i (by omega));refine⟨e2.trans e1,W1 ++ W2,by show (XU g _ _ _).cache=_;rw [c2,c1,AC],fun w hw=>?_⟩
  grind
theorem TB {d:Dk} {q:Int} (hq:0<=q/\q<d.cells.length) (h:∀ w∈d.cache,0<=w.addr/\w.addr≠q):d.flush.got q=if (d.cells.getD q.toNat cz).state=0 then ((d.cells.getD q.toNat cz).bytes,0) else ([],6):=by
 have e:d.flush.cells=C7 d.cells d.cache:=by
  unfold Dk.flush;rw [allFin_cells];try rfl
 unfold Dk.got;rw [e,show d.flush.cache=[] from rfl];show (if ((C7 d.cells d.cache).getD q.toNat cz).state=0 then (((C7 d.cells d.cache).getD q.toNat cz).bytes,(0:Int)) else ([],6))=_;rw [finL_miss _ _ _ (by omega) fun w hw=>by have:=h w hw;omega]
theorem Gs.after {g:Geo} (hg:Bq g=true) {P:Int} {R:List Rc} {n:Nat} (hR:∀ i:Nat,i<n->EE g (R.getD i rc0)=true) (hP:∀ i:Nat,i<n->0<=Ex g P (i:Nat)/\Ex g P (i:Nat)<g.sl) {d:Dk} {G:Gr} (h:Gs (A4 g) d G) (hc:d.cache=[]):Gs (A4 g) (dW g P R d n).flush (Of (dW g P R d n).flush)/\(∀ q,g.an+2*g.sl<=q->q<A4 g->Of (dW g P R d n).flush q=G q)/\(dW g P R d n).flush.cache=[]:=by
 obtain⟨g1,g2,g3,g4,g5⟩:=Az.1 hg;obtain⟨h1,h2,h3⟩:=Yi hg hR hP h.ok h.left h.len n (Ag _);obtain⟨e1,W,c1,hW⟩:=VQ (R:=R) hP d n (Ag _);rw [hc,Br] at c1;generalize dW g P R d n=D at *
 have hl:=h.len;refine⟨Gs.of h1.flush ?_ ?_,fun q q1 q2=>?_,rfl⟩
 ·unfold Dk.flush;rw [allFin_cells];show D.req.left = -1;unfold Dk.req
  grind
 ·unfold Dk.flush;rw [allFin_cells];show ((C7 D.cells D.cache).length:Int)=_;rw [finL_len];exact h3
 ·have hq:=h.got q (by omega) q2;have hf:=TB (d:=D) (q:=q) ⟨by omega,by omega⟩ (by rw [c1];intro w hw;have:=hW w hw;omega);unfold Of;simp only;have hd:d.got q=D.flush.got q:=by
   rw [hf,e1];unfold Dk.got;rw [hc];try rfl
  simp_all
theorem Gd.gs {n:Int} {d:Dk} {F:Int->List UInt8} (h:Gd n d F):Gs n d (Of d)/\∀ q,0<=q->q<n->Of d q=⟨0,F q⟩:=
 ⟨Gs.of h.ok h.left h.len,fun q h0 h1=>by show (⟨_,_⟩:Gt)=_;rw [h.got h0 h1]⟩
section
variable {g:Geo} {s:ByteArray} {b:An} {fill:UInt8} {sizes:List Int} {d:Dk} {bad0 bad1:Int->Bool}
end
structure Sk (k n:Int) (d:Dk) (F:Int->List UInt8) (A:Int->Prop):Prop where
 ok:DkOk d
 left:d.left = -1
 len:(d.cells.length:Int)=n
 cache:d.cache=[]
 cell:∀ a:Int,0<=a->a<n->(d.cells.getD a.toNat cz).bytes=F a/\((d.cells.getD a.toNat cz).state=0/\¬A a\/(d.cells.getD a.toNat cz).state=k/\A a)
theorem Gd.sk {k n:Int} {d:Dk} {F:Int->List UInt8} (h:Gd n d F):Sk k n d F fun _=>False:=⟨h.ok,h.left,h.len,h.cache,fun a h0 h1=>⟨(h.cell a h0 h1).2, .inl ⟨(h.cell a h0 h1).1,id⟩⟩⟩
theorem Sk.fault {k j n:Int} {d:Dk} {F:Int->List UInt8} {A:Int->Prop} (hk:k=1/\j=11\/k=2/\j=12) (h:Sk k n d F A) {q:Int} (hq:0<=q/\q<n):(d.fault j q 0 0 0).2=0/\Sk k n (d.faultX j q 0 0 0) F fun a=>A a\/a=q:=by
 have hl:=h.len;have e:d.fault j q 0 0 0=(Fe d q { d.cells.getD q.toNat cz with state:=k },0):=by
  have hc:=h.cell q hq.1 hq.2;unfold Dk.fault;rw [if_neg (by rw [Bool.not_eq_false,AH];omega),if_neg (by rw [h.cache];decide)]
  grind
 have ho:=h.ok.fault j q 0 0 0;unfold Dk.faultX;rw [e] at ho |-
 rw [if_pos rfl];refine⟨rfl,ho.1,h.left,by rw [<-hl];exact congrArg Nat.cast ho.2.1,h.cache,fun a h0 h1=>?_⟩;have hc:=h.cell a h0 h1;show ((d.cells.set q.toNat _).getD a.toNat cz).bytes=_/\_;rw [show (Fe d q { d.cells.getD q.toNat cz with state:=k }).cells=d.cells.set q.toNat { d.cells.getD q.toNat cz with state:=k } from rfl,Ol _ _ _ _ (by omega)]
 grind
theorem Sk.gs {k n:Int} {d:Dk} {F:Int->List UInt8} {A:Int->Prop} (hk:k=1\/k=2) (h:Sk k n d F A) {q:Int} (h0:0<=q) (h1:q<n):(¬A q->Of d q=⟨0,F q⟩)/\(A q->(Of d q).err≠0):=by
 have hc:=h.cell q h0 h1;have e:Of d q=⟨(if (d.cells.getD q.toNat cz).state=0 then ((d.cells.getD q.toNat cz).bytes,(0:Int)) else ([],6)).2,(if (d.cells.getD q.toNat cz).state=0 then ((d.cells.getD q.toNat cz).bytes,(0:Int)) else ([],6)).1⟩:=by
  show (⟨(d.got q).2,(d.got q).1⟩:Gt)=_;unfold Dk.got;rw [h.cache];try rfl
 grind
theorem Sk.stuck {n:Int} {d:Dk} {F:Int->List UInt8} {A:Int->Prop} (h:Sk 2 n d F A) {q:Int} (h0:0<=q) (h1:q<n):(A q->decide ((d.cells.getD q.toNat cz).state=2)=true)/\(¬A q->decide ((d.cells.getD q.toNat cz).state=2)=false):=by
 have hc:=h.cell q h0 h1
 grind
theorem Rs {d:Dk} {a:Int} {c:Cel} (h0:0<=a) {i:Nat} (hi:(i:Int)≠a):(Fe d a c).cells.getD i cz=d.cells.getD i cz/\(Fe d a c).cells.length=d.cells.length:=by
 refine⟨?_,AY⟩;show (d.cells.set a.toNat c).getD i cz=_;rw [Ac,A3 (by omega),Ac]
theorem PL (d:Dk) (k a f b c:Int) {i:Nat} (hi:(i:Int)≠a):(d.fault k a f b c).1.cells.getD i cz=d.cells.getD i cz/\(d.fault k a f b c).1.cells.length=d.cells.length:=by
 unfold Dk.fault;cases h:CH a 0 ((d.cells.length:Int) - 1) with
 | false=>exact tA
 | true=>
  have h0:=(AH.1 h).1;simp only [Bool.true_eq_false,if_false];repeat' split
  all_goals first | exact Rs h0 hi | exact tA
theorem TI (d:Dk) (hc:d.cache=[]) {k:Int} (hk:11<=k/\k<=15) (a f b:Int):(d.fault k a f b b).2=if a<0\/(d.cells.length:Int)<=a then 1 else if k=13/\b<0\/k=15/\(f<0\/(d.cells.length:Int)<=f) then 1 else 0:=by
 unfold Dk.fault;by_cases h:a<0\/(d.cells.length:Int)<=a
 ·have e:CH a 0 ((d.cells.length:Int) - 1)=false:=by rw [<-Cf,AH];omega
  rw [e,if_pos rfl,if_pos h]
 ·have e:CH a 0 ((d.cells.length:Int) - 1)=true:=AH.2 (by omega);rw [e,if_neg (by decide),if_neg h,if_neg (by rw [hc];decide)];simp only;have hf:CH f 0 ((d.cells.length:Int) - 1)=false↔(f<0\/(d.cells.length:Int)<=f):=by rw [<-Cf,AH];omega
  rcases(show k=11\/k=12\/k=13\/k=14\/k=15 by omega) with rfl | rfl | rfl | rfl | rfl
  ·rfl
  ·rfl
  ·by_cases hb:b<0
   ·simp [hb]
   ·simp [hb]
  ·rfl
  ·by_cases hb:f<0\/(d.cells.length:Int)<=f
   ·simp [hf.2 hb,hb]
   ·have:CH f 0 ((d.cells.length:Int) - 1)=true:=by rw [<-Bool.not_eq_false];exact fun q=>hb (hf.1 q)
    simp [this,hb]
def Dk.vf (g:Geo) (d:Dk) (x:Sp):Dk × Int:=
 if (x.kind=14\/x.kind=15)/\(x.addr<0\/(d.cells.length:Int)<=x.addr) then (d,1)
 else if (x.kind=14\/x.kind=15)/\x.addr<g.an+2*g.sl then (d,9)
 else if (d.fault x.kind x.addr x.frm x.bit x.bits).2=0 then d.fault x.kind x.addr x.frm x.bit x.bits else (d,(d.fault x.kind x.addr x.frm x.bit x.bits).2)
theorem OC (g:Geo) (d:Dk) (h:DkOk d):ACalls Tryz.prog false 22 [.bp 0 0] [.box 111 (KT g d)] fun r H=>r = .ag (Me d)/\H=[.box 111 (KT g d)]:=by
 have hn:=h.n;have hm:=h.m;have c1:=VI d (by omega) (by omega) (fun c hc=>by have:=(h.c c hc).2;omega) (fun w hw=>by have:=(h.w w hw).2;omega);refine zV tys_ok Tryz.func22 rfl rfl (Ae rfl) ?_;conv=>whnf
 refine zZ c1 ?_;exact⟨_, .ag (Me d), [.box 111 (KT g d)],fun _ _ h=>h,zQ (s:= [0]) tA,rfl,rfl⟩
theorem S1 (g:Geo) (d:Dk) (x:Sp) (hg:Bq g=true) (h:DkOk d):ACalls Tryz.prog false 43 [.bp 0 0, .ag (N9 x)] [.box 111 (KT g d)] fun r H=>r = .v (.int .i64 (d.vf g x).2)/\H=[.box 111 (KT g (d.vf g x).1)]:=by
 have c1:=TR VL d x.kind x.addr x.frm x.bit x.bits h;obtain⟨g1,g2,g3,g4,g5⟩:=Az.1 hg;have w1:IntKind.i64.wrap (2*g.sl)=2*g.sl:=wi (by omega);have w2:IntKind.i64.wrap (g.an+2*g.sl)=g.an+2*g.sl:=wi (by omega);obtain⟨F,hF⟩:∃ F,F=d.vf g x:=⟨_,rfl⟩;rw [<-hF];unfold Dk.vf at hF;refine zV tys_ok Tryz.func43 rfl rfl (Ae rfl) ?_;conv=>whnf
 repeat' (refine z_ ?_;conv=>whnf)
 by_cases hk:x.kind=14\/x.kind=15
 ·rcases hk with hk | hk
  all_goals
   first
    | (rw [beq_iff_eq.2 (show x.kind=14 from hk)];conv=>whnf)
    | (rw [beq_eq_false_iff_ne.2 (show x.kind≠14 by omega)];conv=>whnf;rw [beq_iff_eq.2 (show x.kind=15 from hk)];conv=>whnf)
   apply zX (0) tys_ok mixed (.o [0,1,2,3,4,5,6,7,8,9,10,11,12,13,14] .fin) (by kernel_rfl);conv=>whnf
   by_cases ha:x.addr<0
   ·rw [decide_eq_true ha];conv=>whnf
    repeat' (refine z_ ?_;conv=>whnf)
    rw [if_pos ⟨by omega, .inl ha⟩] at hF;subst hF;exact⟨_,iv 1, [.box 111 (KT g d)],fun _ _ h=>h,zQ (s:= [0]) tA,rfl,rfl⟩
   ·rw [decide_eq_false ha];conv=>whnf
    by_cases hb:(d.cells.length:Int)<=x.addr
    ·rw [show decide (x.addr>=(d.cells.length:Int))=true from decide_eq_true hb];conv=>whnf
     repeat' (refine z_ ?_;conv=>whnf)
     rw [if_pos ⟨by omega, .inr hb⟩] at hF;subst hF;exact⟨_,iv 1, [.box 111 (KT g d)],fun _ _ h=>h,zQ (s:= [0]) tA,rfl,rfl⟩
    ·rw [show decide (x.addr>=(d.cells.length:Int))=false from decide_eq_false hb];conv=>whnf
     repeat' (refine z_ ?_;conv=>whnf)
     apply zX (0) tys_ok mixed (.o [0,1,2,3,4,5,6,7,8,9,10,11,12,13,14,15] .fin) (by kernel_rfl);conv=>whnf
     rw [w1,w2];by_cases hc:x.addr<g.an+2*g.sl
     ·rw [decide_eq_true hc];conv=>whnf
      repeat' (refine z_ ?_;conv=>whnf)
      rw [if_neg (by omega),if_pos ⟨by omega,hc⟩] at hF;subst hF;exact⟨_,iv 9, [.box 111 (KT g d)],fun _ _ h=>h,zQ (s:= [0]) tA,rfl,rfl⟩
     ·rw [decide_eq_false hc];conv=>whnf
      repeat' (refine z_ ?_;conv=>whnf)
      rw [if_neg (by omega),if_neg (by omega)] at hF;by_cases hz:(d.fault x.kind x.addr x.frm x.bit x.bits).2=0
      ·rw [if_pos hz] at hF;rw [Dk.faultX,if_pos hz,hz,<-hF] at c1;rw [<-hF] at hz;rw [hz];clear hF;apply zX (0) tys_ok mixed (.o [0,1,2,3,4,5,6,7,8,9,10,11,12,13] (.two 14 (.o [15,16,17,18,19,20] .fin) 18 (.o [14,15,16,17,19,20] .fin))) (by kernel_rfl);refine Ah ?_ ?_;conv=>whnf
       refine zZ c1 ?_;conv=>whnf
       try (refine tS ?_;conv=>whnf)
       rotate_left 1;conv=>whnf
       refine zZ c1 ?_;conv=>whnf
       try (refine tS ?_;conv=>whnf)
       rotate_left 1;all_goals
        repeat' (refine z_ ?_;conv=>whnf)
        exact⟨_,iv 0, [.box 111 (KT g F.1)],fun _ _ h=>h,zQ (s:= [0]) tA,rfl,rfl⟩
      ·rw [if_neg hz] at hF;rw [Dk.faultX,if_neg hz] at c1;generalize (d.fault x.kind x.addr x.frm x.bit x.bits).2=e at c1 hz hF;subst hF;have he:(e == 0)=false:=beq_eq_false_iff_ne.2 hz;apply zX (0) tys_ok mixed (.o [0,1,2,3,4,5,6,7,8,9,10,11,12,13] (.two 14 (.o [15,16,17,18,19,20] .fin) 18 (.o [14,15,16,17,19,20] .fin))) (by kernel_rfl);refine Ah ?_ ?_;conv=>whnf
       refine zZ c1 ?_;conv=>whnf
       try (refine tS ?_;conv=>whnf)
       rotate_left 1;conv=>whnf
       refine zZ c1 ?_;conv=>whnf
       try (refine tS ?_;conv=>whnf)
       rotate_left 1;all_goals
        repeat' (refine z_ ?_;conv=>whnf)
        rw [he];conv=>whnf
        repeat' (refine z_ ?_;conv=>whnf)
        exact⟨_,iv e, [.box 111 (KT g d)],fun _ _ h=>h,zQ (s:= [0]) tA,rfl,rfl⟩
 ·rw [beq_eq_false_iff_ne.2 (show x.kind≠14 by omega)];conv=>whnf
  rw [beq_eq_false_iff_ne.2 (show x.kind≠15 by omega)];conv=>whnf
  repeat' (refine z_ ?_;conv=>whnf)
  rw [if_neg (by omega),if_neg (by omega)] at hF;by_cases hz:(d.fault x.kind x.addr x.frm x.bit x.bits).2=0
  ·rw [if_pos hz] at hF;rw [Dk.faultX,if_pos hz,hz,<-hF] at c1;rw [<-hF] at hz;rw [hz];clear hF;apply zX (0) tys_ok mixed (.o [0,1,2,3,4,5,6,7,8,9,10,11,12,13] (.two 14 (.o [15,16,17,18,19,20] .fin) 18 (.o [14,15,16,17,19,20] .fin))) (by kernel_rfl);refine Ah ?_ ?_;conv=>whnf
   refine zZ c1 ?_;conv=>whnf
   try (refine tS ?_;conv=>whnf)
   rotate_left 1;conv=>whnf
   refine zZ c1 ?_;conv=>whnf
   try (refine tS ?_;conv=>whnf)
   rotate_left 1;all_goals
    repeat' (refine z_ ?_;conv=>whnf)
    exact⟨_,iv 0, [.box 111 (KT g F.1)],fun _ _ h=>h,zQ (s:= [0]) tA,rfl,rfl⟩
  ·rw [if_neg hz] at hF;rw [Dk.faultX,if_neg hz] at c1;generalize (d.fault x.kind x.addr x.frm x.bit x.bits).2=e at c1 hz hF;subst hF;have he:(e == 0)=false:=beq_eq_false_iff_ne.2 hz;apply zX (0) tys_ok mixed (.o [0,1,2,3,4,5,6,7,8,9,10,11,12,13] (.two 14 (.o [15,16,17,18,19,20] .fin) 18 (.o [14,15,16,17,19,20] .fin))) (by kernel_rfl);refine Ah ?_ ?_;conv=>whnf
   refine zZ c1 ?_;conv=>whnf
   try (refine tS ?_;conv=>whnf)
   rotate_left 1;conv=>whnf
   refine zZ c1 ?_;conv=>whnf
   try (refine tS ?_;conv=>whnf)
   rotate_left 1;all_goals
    repeat' (refine z_ ?_;conv=>whnf)
    rw [he];conv=>whnf
    repeat' (refine z_ ?_;conv=>whnf)
    exact⟨_,iv e, [.box 111 (KT g d)],fun _ _ h=>h,zQ (s:= [0]) tA,rfl,rfl⟩
theorem S2 (g:Geo) (d:Dk) (x:Sp) (hg:Bq g=true) (h:DkOk d) (hk:11<=x.kind/\x.kind<=15):ACalls Tryz.prog false 20 [.bp 0 0, .ag (N9 x)] [.box 111 (KT g d)] fun r H=>r = .ag (an7 (d.vf g x).2 0 [])/\H=[.box 111 (KT g (d.vf g x).1)]:=by
 have c1:=S1 g d x hg h;have k1:decide (x.kind>=11)=true:=decide_eq_true (by omega);have k2:decide (x.kind<=15)=true:=decide_eq_true (by omega);refine zV tys_ok Tryz.func20 rfl rfl (Ae rfl) ?_;conv=>whnf
 rw [k1];conv=>whnf
 rw [k2];conv=>whnf
 repeat' (refine z_ ?_;conv=>whnf)
 refine ze9 [0] c1 ?_;rintro _ _ ⟨rfl,rfl⟩;exact⟨_, .ag (an7 (d.vf g x).2 0 []), [.box 111 (KT g (d.vf g x).1)],B5 (Dm _ 0),zQ (s:= [0]) tA,rfl,rfl⟩
theorem Un (g:Geo) {d:Dk} (h:DkOk d) (hc:d.cache=[]) {k:Int} (hk:11<=k/\k<=15) (a f b:Int) :
  DkOk (d.vf g ⟨k,0,0, [],a,f,b,b,0,0⟩).1/\(d.vf g ⟨k,0,0, [],a,f,b,b,0,0⟩).1.cells.length=d.cells.length/\(∀ i:Nat,(i:Int)≠a->(d.vf g ⟨k,0,0, [],a,f,b,b,0,0⟩).1.cells.getD i cz=d.cells.getD i cz)/\
  (d.vf g ⟨k,0,0, [],a,f,b,b,0,0⟩).2=if a<0\/(d.cells.length:Int)<=a then 1 else if 14<=k/\a<g.an+2*g.sl then 9 else if k=13/\b<0\/k=15/\(f<0\/(d.cells.length:Int)<=f) then 1 else 0:=by
 have hf:=h.fault k a f b b;have he:=TI d hc hk a f b;have ho:∀ i:Nat,(i:Int)≠a->(d.fault k a f b b).1.cells.getD i cz=d.cells.getD i cz:=fun i hi=>(PL d k a f b b hi).1
 unfold Dk.vf;simp only;by_cases h1:(k=14\/k=15)/\(a<0\/(d.cells.length:Int)<=a)
 ·rw [if_pos h1,if_pos h1.2];exact⟨h,rfl,fun _ _=>rfl,rfl⟩
 ·rw [if_neg h1];by_cases h2:(k=14\/k=15)/\a<g.an+2*g.sl
  ·rw [if_pos h2,if_neg (show ¬(a<0\/(d.cells.length:Int)<=a) by omega),if_pos (show 14<=k/\a<g.an+2*g.sl by omega)];exact⟨h,rfl,fun _ _=>rfl,rfl⟩
  ·rw [if_neg h2];have e2:(if a<0\/(d.cells.length:Int)<=a then (1:Int) else if 14<=k/\a<g.an+2*g.sl then 9 else if k=13/\b<0\/k=15/\(f<0\/(d.cells.length:Int)<=f) then 1 else 0)=if a<0\/(d.cells.length:Int)<=a then 1 else if k=13/\b<0\/k=15/\(f<0\/(d.cells.length:Int)<=f) then 1 else 0:=by
    by_cases h3:a<0\/(d.cells.length:Int)<=a
    ·rw [if_pos h3,if_pos h3]
    ·rw [if_neg h3,if_neg h3,if_neg (show ¬(14<=k/\a<g.an+2*g.sl) by omega)]
   rw [e2,<-he];by_cases hz:(d.fault k a f b b).2=0
   ·rw [if_pos hz];exact⟨hf.1,hf.2.1,ho,rfl⟩
   ·rw [if_neg hz];exact⟨h,rfl,fun _ _=>rfl,rfl⟩
theorem lab_e8:Em (⟨#[]⟩:ByteArray).data.toList=0:=by decide +kernel
theorem N4 (z d sp sl an k a f b:Int):Fn Tryz.prog 7 [iv z,iv d,iv sp,iv sl,iv an,iv k,iv a, .ag [iv f,iv b]] fun r=>r = .v (.bool true):=by
 have h1:=RC z d sp sl an;have hg:=OO z d sp sl an;generalize FU z d sp sl an=g at h1 hg;obtain⟨D0,hM,hdk,hlen,hgd,hvo⟩:=UK (lb:=⟨#[]⟩) hg lab_e8;have c1:=R7 g ⟨#[]⟩ hg lab_e8 (by decide);have c2:=OC g (DJ g ⟨#[]⟩) hdk;have c5:=wakes26_fn;have cN:=QI g hg;obtain⟨D,hD⟩:∃ D,D=DJ g ⟨#[]⟩:=⟨_,rfl⟩;rw [<-hD] at c1 c2 hdk hlen;obtain⟨K,hK⟩:∃ K:Int,K=IntKind.i64.wrap (11+IntKind.i64.wrap ((IntKind.u64.wrap k).tmod 5)):=⟨_,rfl⟩;have hA:0<=IntKind.i64.wrap ((IntKind.u64.wrap k).tmod 5)/\IntKind.i64.wrap ((IntKind.u64.wrap k).tmod 5)<5:=EQ (x:=k) (n:=5) (by decide) (by decide);have hK2:11<=K/\K<=15:=by
  have e:=wi (n:=11+IntKind.i64.wrap ((IntKind.u64.wrap k).tmod 5)) (by omega);omega
 have c3:=S2 g D ⟨K,0,0, [],a,f,b,b,0,0⟩ hg hdk hK2;obtain⟨V,hV⟩:∃ V,V=D.vf g ⟨K,0,0, [],a,f,b,b,0,0⟩:=⟨_,rfl⟩;have hcache:D.cache=[]:=by rw [hD];exact(Ia (g:=g) (s:=⟨#[]⟩) hg).cache
 have hv:=Un g hdk hcache hK2 a f b;rw [<-hV] at c3 hv;obtain⟨v1,v2,v3,v4⟩:=hv;have c4:=OC g V.1 v1;have hb:∀ c:Cel,c.bytes.length<=200->Fn Tryz.prog 17 [bA c.bytes,bA c.bytes] fun x=>x = .v (.bool true):=fun c h=>Mf c.bytes (by omega)
 obtain⟨g1,g2,g3,g4,g5⟩:=Az.1 hg;refine zT Tryz.func7 rfl ?_;conv=>whnf
 apply zX (0) tys_ok mixed (.o [0,1,2,3,4,5] .fin) (by kernel_rfl);conv=>whnf
 try (refine tI ?_;conv=>whnf)
 try (refine tI ?_;conv=>whnf)
 refine zZ h1 ?_;conv=>whnf
 refine zW c1 rfl ?_;rintro _ _ ⟨rfl,rfl⟩;conv=>whnf
 clear c1;refine⟨by decide,?_⟩;conv=>whnf
 rw [<-hK];refine ze9 [2] c2 ?_;rintro _ _ ⟨rfl,rfl⟩;conv=>whnf
 refine zU [.bp 2 0, .ag (N9 ⟨K,0,0, [],a,f,b,b,0,0⟩)] ⟨ri,B5 ⟨ri,ri,ri,Bt 1 _,ri,ri,ri,ri,ri,ri,tv⟩,tv⟩ ?_;refine ze9 [2] c3 ?_;rintro _ _ ⟨rfl,rfl⟩;conv=>whnf
 refine ze9 [2] c4 ?_;rintro _ _ ⟨rfl,rfl⟩;conv=>whnf
 refine zZ cN ?_;conv=>whnf
 clear c2 c3 c4 cN h1 hM hgd hvo;rw [show (((D.cells.length:Nat):Int) != A4 g)=false from bne_eq_false_iff_eq.2 hlen];conv=>whnf
 rw [show (((V.1.cells.length:Nat):Int) != A4 g)=false from bne_eq_false_iff_eq.2 (by rw [v2];exact hlen)];conv=>whnf
 repeat' (refine z_ ?_;conv=>whnf)
 have hn:=hdk.n;refine zS Nat (fun i=>([(5,iv K),(6,iv a),(17,iv f),(18,iv b),(19, .bp 0 0),(22, .bp 1 0),(23, .bp 2 0),(24, .bp 3 0),(25,iv (A4 g)),(26,iv (i:Nat))], [.box 24 (Bl g), .box 38 (Me D), .box 60 (an7 V.2 0 []), .box 38 (Me V.1)])) (fun i=>(i:Int)<=A4 g) (fun i=>(A4 g).toNat - i) 0 (by show ((0:Nat):Int)<=A4 g;omega)
  (zQ (s:= [1,3,4,5]) tA) ?_
 intro i hi;conv=>whnf
 refine AJ (fun h6=>?_) (fun h6=>?_) <;> (repeat rw [Ab] at h6) <;> conv=>whnf
 ·repeat' (refine z_ ?_;conv=>whnf)
  obtain⟨c,hc⟩:∃ c,c=D.cells.getD i cz:=⟨_,rfl⟩;have hi2:i<D.cells.length:=by omega
  have hE1:D.cells.getD ((i:Nat):Int).toNat ⟨0, [], []⟩=c:=by rw [Ab,hc];try rfl
  have hc2:c.bytes.length<=200:=by rw [hc];exact(hdk.c _ (A9 (d:=cz) hi2)).2.1
  apply zX (0) tys_ok mixed (.o [0,1,2,3,4,5,6,7,8,9,10,11,12,13,14,15,16,17,18,19,20,21,22,23,24,25,26,27,28,29,30,31,32,33] .fin) (by kernel_rfl);conv=>whnf
  try (refine tI ?_;conv=>whnf)
  try (refine tI ?_;conv=>whnf)
  try (refine tI ?_;conv=>whnf)
  try (refine tI ?_;conv=>whnf)
  (skip)
  conv=>whnf
  by_cases hia:(i:Int)=a
  ·rw [show (((i:Nat):Int) != a)=false from bne_eq_false_iff_eq.2 hia];conv=>whnf
   repeat' (refine z_ ?_;conv=>whnf)
   exact⟨i+1,by show ((i+1:Nat):Int)<=A4 g;omega,by show (A4 g).toNat - (i+1)<(A4 g).toNat - i;omega,zQ (s:= [0,1,2,3]) ⟨⟨rfl,rfl,rfl,rfl,rfl,rfl,rfl,rfl,rfl,AN (by omega),tv⟩,tA,rfl,rfl,rfl,rfl,rfl⟩⟩
  ·have hE2:V.1.cells.getD ((i:Nat):Int).toNat ⟨0, [], []⟩=c:=by rw [Ab,hc];exact v3 i hia
   rw [show (((i:Nat):Int) != a)=true from bne_iff_ne.2 hia];refine⟨⟨by omega,by omega⟩,?_⟩;refine⟨⟨by omega,by omega⟩,?_⟩;conv=>whnf
   rw [hE1,hE2,show (c.state != c.state)=false from bne_self_eq_false _];refine⟨⟨by omega,by omega⟩,?_⟩;refine⟨⟨by omega,by omega⟩,?_⟩;conv=>whnf
   rw [hE1,hE2];refine zZ (hb c hc2) ?_;conv=>whnf
   repeat' (refine z_ ?_;conv=>whnf)
   exact⟨i+1,by show ((i+1:Nat):Int)<=A4 g;omega,by show (A4 g).toNat - (i+1)<(A4 g).toNat - i;omega,zQ (s:= [0,1,2,3]) ⟨⟨rfl,rfl,rfl,rfl,rfl,rfl,rfl,rfl,rfl,AN (by omega),tv⟩,tA,rfl,rfl,rfl,rfl,rfl⟩⟩
 ·repeat' (refine z_ ?_;conv=>whnf)
  obtain⟨E,hE⟩:∃ E,E=V.2:=⟨_,rfl⟩;rw [<-hE] at v4 |-
  by_cases k1:a<0
  ·rw [decide_eq_true k1];conv=>whnf
   repeat' (refine z_ ?_;conv=>whnf)
   rw [if_pos (.inl k1)] at v4;subst v4;conv=>whnf
   refine zZ c5 ?_;exact⟨_,ri,rfl⟩
  ·rw [decide_eq_false k1];conv=>whnf
   by_cases k2:(D.cells.length:Int)<=a
   ·rw [show decide (a>=A4 g)=true from decide_eq_true (by omega)];conv=>whnf
    repeat' (refine z_ ?_;conv=>whnf)
    rw [if_pos (.inr k2)] at v4;subst v4;conv=>whnf
    refine zZ c5 ?_;exact⟨_,ri,rfl⟩
   ·rw [show decide (a>=A4 g)=false from decide_eq_false (by omega)];conv=>whnf
    repeat' (refine z_ ?_;conv=>whnf)
    rw [if_neg (by omega)] at v4;have w1:IntKind.i64.wrap (2*g.sl)=2*g.sl:=wi (by omega);have w2:IntKind.i64.wrap (g.an+2*g.sl)=g.an+2*g.sl:=wi (by omega);by_cases k3:14<=K
    ·rw [show decide (K>=14)=true from decide_eq_true k3];conv=>whnf
     rw [w1,w2];by_cases k4:a<g.an+2*g.sl
     ·rw [decide_eq_true k4];conv=>whnf
      repeat' (refine z_ ?_;conv=>whnf)
      rw [if_pos ⟨k3,k4⟩] at v4;subst v4;conv=>whnf
      refine zZ c5 ?_;exact⟨_,ri,rfl⟩
     ·rw [decide_eq_false k4];conv=>whnf
      repeat' (refine z_ ?_;conv=>whnf)
      rw [beq_eq_false_iff_ne.2 (show K≠13 by omega)];conv=>whnf
      by_cases k5:K=15
      ·rw [beq_iff_eq.2 k5];conv=>whnf
       by_cases k6:f<0
       ·rw [decide_eq_true k6];conv=>whnf
        repeat' (refine z_ ?_;conv=>whnf)
        rw [if_neg (by omega),if_pos (by omega)] at v4;subst v4;conv=>whnf
        refine zZ c5 ?_;exact⟨_,ri,rfl⟩
       ·rw [decide_eq_false k6];conv=>whnf
        by_cases k7:f>=A4 g
        ·rw [decide_eq_true k7];conv=>whnf
         repeat' (refine z_ ?_;conv=>whnf)
         rw [if_neg (by omega),if_pos (by omega)] at v4;subst v4;conv=>whnf
         refine zZ c5 ?_;exact⟨_,ri,rfl⟩
        ·rw [decide_eq_false k7];conv=>whnf
         repeat' (refine z_ ?_;conv=>whnf)
         rw [if_neg (by omega),if_neg (by omega)] at v4;subst v4;conv=>whnf
         refine zZ c5 ?_;exact⟨_,ri,rfl⟩
      ·rw [beq_eq_false_iff_ne.2 k5];conv=>whnf
       repeat' (refine z_ ?_;conv=>whnf)
       rw [if_neg (by omega),if_neg (by omega)] at v4;subst v4;conv=>whnf
       refine zZ c5 ?_;exact⟨_,ri,rfl⟩
    ·rw [show decide (K>=14)=false from decide_eq_false k3];conv=>whnf
     repeat' (refine z_ ?_;conv=>whnf)
     by_cases k5:K=13
     ·rw [beq_iff_eq.2 k5];conv=>whnf
      by_cases k6:b<0
      ·rw [decide_eq_true k6];conv=>whnf
       repeat' (refine z_ ?_;conv=>whnf)
       rw [if_neg (by omega),if_pos (by omega)] at v4;subst v4;conv=>whnf
       refine zZ c5 ?_;exact⟨_,ri,rfl⟩
      ·rw [decide_eq_false k6];conv=>whnf
       rw [beq_eq_false_iff_ne.2 (show K≠15 by omega)];conv=>whnf
       repeat' (refine z_ ?_;conv=>whnf)
       rw [if_neg (by omega),if_neg (by omega)] at v4;subst v4;conv=>whnf
       refine zZ c5 ?_;exact⟨_,ri,rfl⟩
     ·rw [beq_eq_false_iff_ne.2 k5];conv=>whnf
      rw [beq_eq_false_iff_ne.2 (show K≠15 by omega)];conv=>whnf
      repeat' (refine z_ ?_;conv=>whnf)
      rw [if_neg (by omega),if_neg (by omega)] at v4;subst v4;conv=>whnf
      refine zZ c5 ?_;exact⟨_,ri,rfl⟩
end
end Go.Proofs.YtpjkcgacjjbikaaGreatDoor.A
namespace Go.Proofs.YtpjkcgacjjbikaaGreatDoor
section
open Go.ChangeShapes Go.WideShapes Go.ChangeAt Go.RowKit
theorem own_none:ownKnob Tryz.prog.godebug=none:=by kernel_rfl
theorem laidOut:laidOutB Tryz.prog=true:=by kernel_rfl

section
variable {H:Type} {enc:TypeId × Value->H}
theorem Vh {f:Func} {s:ChangeSpec} {apart fresh handsOn again:Bool} {W W':World} {args:Array Value} {ds:List (DataW H)} {before:List MemPlace}
  (hW:DataW.Whole enc Tryz.prog f.params.toList s.vars apart W args.toList ds [] before) (hv:s.vars=[]) (hvs:(s.fn H (ds ++ [])).vars=[])
  (hr:f.resultTypes = #[4]) (hfr:(s.fn H (ds ++ [])).results=[.lit (.bool true)]) (hfa:(s.fn H (ds ++ [])).args=ds)
  (hrow:∀ t∈f.params.toList,Tryz.prog.readableRec t=true/\t<Tryz.prog.types.size) (hb:Below W.heap.size W W') :
  s.post enc Tryz.prog f apart fresh handsOn again W args (.bool true) W':=by
 have hlt:∀ p∈before,p.block<W.heap.size:=fun p hp=>hW.lt p hp
 obtain⟨p,q,hA,hV,hpq,hz,hn⟩:=id hW;rw [hv] at hV;obtain⟨-,rfl⟩:=trodVars_none hV;rw [AD] at hpq;subst hpq;have stay:∀ sp:Nat->Bool,(∀ x∈before,sp x.block=true)->DataW.TrodAll enc Tryz.prog W' 0 sp true f.params.toList args.toList ds before:=by
  intro sp hsp;have go:∀ (ts:List TypeId) (vs:List Value) (es:List (DataW H)) (ps:List MemPlace),(∀ t∈ts,Tryz.prog.readableRec t=true/\t<Tryz.prog.types.size)->(∀ x∈ps,x∈before)->
    DataW.TrodAll enc Tryz.prog W 0 (fun _=>true) true ts vs es ps->DataW.TrodAll enc Tryz.prog W' 0 sp true ts vs es ps:=by
   intro ts;induction ts with
   | nil=>
    intro vs es ps _ _ h;cases vs <;> cases es <;> exact h
   | cons t ts ih=>
    intro vs es ps ht hin h;cases vs with
    | nil=>cases es <;> exact h.elim
    | cons v vs=>
     cases es with
     | nil=>exact h.elim
     | cons e es=>
      obtain⟨p1,p2,h1,h2,rfl⟩:=h;exact⟨p1,p2,WideElems.Trod_stays laidOut (ht t (by simp)).1 (ht t (by simp)).2 h1 (fun x hx=>hb.same (hlt x (hin x (by simp [hx])))) (fun x hx=>hsp x (hin x (by simp [hx]))),
       ih vs es p2 (fun t' ht'=>ht t' (by simp [ht'])) (fun x hx=>hin x (by simp [hx])) h2,rfl⟩
  exact go _ _ _ _ hrow (fun x hx=>hx) hA
 have hres:∀ (b:Nat) (sp:Nat->Bool) (hd:Bool),DataW.TrodAll enc Tryz.prog W' b sp hd f.resultTypes.toList ((Value.bool true).resultList f.resultTypes.size) (s.fn H (ds ++ [])).results []:=by
  intro b sp hd;rw [hr,hfr];exact trodAll_mk1 ⟨1,by simp [DataW.trod,Value.cells,Tryz.underlying4]⟩
 have hold:∀ p∈before,(fun b=>decide (b<W.heap.size)) p.block=true:=fun p hp=>by simpa using hlt p hp
 have hvars:∀ sp:Nat->Bool,DataW.TrodVars enc Tryz.prog W' sp s.vars (s.fn H (ds ++ [])).vars []:=by
  intro sp;rw [hv,hvs];exact rfl
 refine⟨ds, [],before, [],before, [],hW,hres _ _ _,by rw [hfa];exact stay _ hold,hvars _,World.keptBut_mono (fun p hp=>⟨hp,?_⟩) (hb.frame (·∈before)),fun _=>?_⟩
 ·exact Or.inr (by simpa using hp)
 ·refine⟨ok_one hr rfl (by simp [Value.okWide,Tryz.underlying4,Cell.okWide,Cell.ok]),_,_,([] ++ before) ++ [],⟨[] ++ before, [],trodAll_append (stay _ (fun _ _=>rfl)) (hres _ _ _),hvars _,rfl,?_,?_⟩,?_⟩
  ·intro b off hp;have hin:MemPlace.cell b off∈before:=by simpa using hp
   rw [hb.frozen (hlt _ hin)];exact hz b off hin
  ·intro ha;have:=hn ha;simpa using this
  ·intro p hp _;simpa using hp
end
abbrev Vk : List (String × DataW Unit) := [("unicode/utf8.acceptRanges", Rows.laid_unicode_utf8_acceptRanges), ("unicode/utf8.first", Rows.laid_unicode_utf8_first)]
noncomputable def JM (os:Os):World:=
 let w0:=World.holding Tryz.prog os ⟨#[], #[], []⟩;let put (h:Array Obj) (g:Nat) (cs:Array Value):Array Obj:=h.modify g fun
  | .cells _ t frozen=> .cells cs t frozen
  | o=>o
 let h1:=put w0.heap 0 (Lib.firstTab.map fun z=>Value.int .u8 z).toArray;let h2:=put h1 1 ((List.range 16).flatMap fun i=> [Value.int .u8 (Lib.accLo i),Value.int .u8 (Lib.accHi i)]).toArray
 { w0 with heap:=h2 }
theorem Vj (os:Os) (args:Array Value):laidMetH Tryz.prog Vk ((JM os).forCall (fun _ _=>0) ⟨#[],args, []⟩).memory:=by
 rw [MakeChecks.laidMetH_plain _ _ _ (by kernel_rfl)];exact(LaidIn.of_run (l:=Vk) [1,0] 8 (by kernel_rfl) (by kernel_rfl) (by kernel_rfl) (by kernel_rfl)).met
theorem first_data:Rows.laid_unicode_utf8_first=Lib.firstData:=by kernel_rfl
theorem accept_data:(Rows.laid_unicode_utf8_acceptRanges:DataW Unit)=Lib.acceptData:=by kernel_rfl
theorem Tm {W:World} (h:laidMetH Tryz.prog Vk W):A.globOk W:=by
 rw [MakeChecks.laidMetH_plain _ _ _ (by kernel_rfl)] at h;have h1:=Lib.laidMet.reads h (.head _);have h2:=Lib.laidMet.reads h (.tail _ (.head _));rw [accept_data] at h1;rw [first_data] at h2;exact utf8Tabs_of_readsT (U8Types.of196 Tryz.laysValid) ⟨by kernel_rfl,by kernel_rfl,by kernel_rfl,by kernel_rfl,by kernel_rfl,by kernel_rfl,by kernel_rfl⟩ h2 h1
end
end Go.Proofs.YtpjkcgacjjbikaaGreatDoor
