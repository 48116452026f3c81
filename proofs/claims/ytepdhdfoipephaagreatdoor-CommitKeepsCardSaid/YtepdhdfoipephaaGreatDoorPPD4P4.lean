/-
Several texts in one.
-/
import Derived.Test.YtepdhdfoipephaaGreatDoorPPD4P3
import Derived.Test.YtepdhdfoipephaaGreatDoorPPD4P2
import Derived.Test.YtepdhdfoipephaaGreatDoorPPD4P1
set_option maxRecDepth 100000
set_option maxHeartbeats 8000000
set_option linter.unusedSimpArgs false
set_option linter.unusedVariables false
set_option linter.deprecated false
namespace Go.Proofs.YtepdhdfoipephaaGreatDoor.A
section
open Go.RowKit
@[reducible] def Tj (a:An) (x:AV):List AV:= [iv a.gen,iv a.epoch,iv a.pos,iv a.seq,iv a.last, .v (.string a.label),x]
@[reducible] def stX (s:Stt) (x y:AV):List AV:= [iv s.a.gen,iv s.a.epoch,iv s.a.pos,iv s.a.seq,iv s.a.last, .v (.string s.a.label),x,y, .v (.bool s.only),iv s.cursor,iv s.found,iv s.fixed,iv s.moved,iA s.lost]
theorem Ol (l:List Tx) (hl:l.length<=1000000) (hi:∀ t∈l,t.images.length<=1000000/\∀ x∈t.images,x.bytes.length<=1000000000):ACalls Tryz.prog false 64 [Dl l] [] fun r H=>r = .ow 0 l.length/\H=[.row 112 4 (l.map CO)]:=by
 refine zT tys_ok Tryz.func64 rfl rfl (Ag rfl) ?_;conv=>whnf
 refine zU Nat (fun k=>([(0,Dl l),(3, .ow 0 k),(4,ze k)], [.row 112 4 ((l.take k).map CO)])) (fun k=>k<=l.length) (fun k=>l.length - k) 0 (Aj _)
  ⟨_,_,zG _ _, [(3,112,4)],tA, [0],tA⟩ ?_
 intro k hk;conv=>whnf
 refine A8 (fun h6=>?_) (fun h6=>?_) <;> (repeat rw [Ac] at h6) <;> conv=>whnf
 ·have hk':k<l.length:=by omega
  have hm:=hi _ (A6 (d:=(⟨0,0,0, []⟩:Tx)) hk');have b1:=IK (l.getD k ⟨0,0,0, []⟩).images hm.1 hm.2;have hl:k=((l.take k).map CO).length:=by simp;omega
  apply zW (0) tys_ok mixed (.o [0,1,2,3,4,5,6,7,8,9,10,11,12,13,14,15,16,17,18,19,20,21,22,23,24,25] .fin) (by kernel_rfl);conv=>whnf
  try (refine tI ?_;conv=>whnf)
  try (refine tI ?_;conv=>whnf)
  try (refine tI ?_;conv=>whnf)
  try (refine tI ?_;conv=>whnf)
  refine zZ b1 ?_;conv=>whnf
  try (refine tJ ?_;conv=>whnf)
  try (refine tK ?_;conv=>whnf)
  all_goals exact⟨k+1,hk',by omega,zR (s:= [0]) ⟨⟨rfl,rfl,AH (by omega),tv⟩,⟨congrArg (fun l=>some (AB.row _ _ l)) (FD (f:=CO) (d:=(⟨0,0,0, []⟩:Tx)) hk').symm,tv⟩,rfl,rfl,rfl,rfl,rfl⟩⟩
 ·have ek:k=l.length:=by omega
  subst ek;rw [Aw];exact⟨.ow 0 l.length, .ow 0 l.length, [.row 112 4 (l.map CO)],fun _ _ h=>h,zR (s:= [0]) tA,rfl,rfl⟩
theorem L7 (a:An) (hh:a.homes.length<=1000) (hp:∀ h∈a.homes,h.places.length<=1000000):ACalls Tryz.prog false 63 [.ag (ED a)] [] fun r H=>r = .ag (Tj a (.ow 0 a.homes.length))/\H=[.row 177 3 (a.homes.map EC)]:=by
 refine zT tys_ok Tryz.func63 rfl rfl (Ag rfl) ?_;conv=>whnf
 refine zO Nat (fun k=>([(1, .bp 0 0),(2, .bp 1 0),(3,Jk a.homes),(4,iv k)], [.box 33 [iv a.gen,iv a.epoch,iv a.pos,iv a.seq,iv a.last, .v (.string a.label), .ow 2 k], .box 33 [iv 0,iv 0,iv 0,iv 0,iv 0, .v (.string ⟨#[]⟩), .v (.slice none 0 0)], .row 177 3 ((a.homes.take k).map EC)])) (fun k=>k<=a.homes.length) (fun k=>a.homes.length - k) 0 (Aj _) ⟨[(1000006,177,3)],tA,tA,tA,rfl,rfl,rfl⟩ ?_;intro k hk;conv=>whnf
 refine A8 (fun c1=>?_) (fun c1=>?_) <;> (repeat rw [Ac] at c1) <;> conv=>whnf
 ·have ti:=G4 (a.homes.getD k ⟨[],0,0⟩).places (hp _ (A6 c1));refine zA tys_ok mixed [0,1,2,3,4,5,6,8,9,10,11,12,13,14,15,16,17,7,18,19,20,21,22] (by kernel_rfl) ?_;conv=>whnf
  repeat' (first | (refine z_ ?_;conv=>whnf) | (refine A8 (fun _=>?_) (fun _=>?_) <;> conv=>whnf) | (refine zZ ti ?_;conv=>whnf) | (refine Af (by first | omega | exact of_decide_eq_true rfl) ?_;conv=>whnf) | fail)
  refine Af ⟨by rw [Ab,Aq];omega,by omega⟩ ?_;exact⟨k+1,by omega,by omega, [],tv,⟨rfl,rfl,rfl,AH (by omega),tv⟩,⟨rfl,rfl,congrArg (AB.row _ _) (GE c1),tv⟩,rfl,rfl,rfl⟩
 ·have ek:k=a.homes.length:=by omega
  subst ek;rw [Aw];exact⟨.ag (Tj a (.ow 2 a.homes.length)), .ag (Tj a (.ow 0 a.homes.length)), [.row 177 3 (a.homes.map EC)],fun _ _ h=>h,zR (s:= [2]) tA,rfl,rfl⟩
theorem IJ (s:Stt) (h:StSm s):ACalls Tryz.prog false 24 [.ag (EB s)] [] fun r H=>r = .ag (stX s (.ow 0 s.a.homes.length) (.ow 1 s.txns.length))/\H=[.row 177 3 (s.a.homes.map EC), .row 112 4 (s.txns.map CO)]:=by
 have c1:=L7 s.a (by have:=h.h.1;omega) h.h.2;have c2:=Ol s.txns (by have:=h.t.1;omega) (fun t ht=>⟨by have:=(h.t.2 t ht).1;omega,fun x hx=>by have:=(h.t.2 t ht).2 x hx;omega⟩);have c3:=G4 s.lost h.o;refine zT tys_ok Tryz.func24 rfl rfl (Ag rfl) ?_;conv=>whnf
 apply zW (0) tys_ok mixed (.o [0,1,3,4,6,7,8,2,10,5,9,11,12,13,14,15,16] .fin) (by kernel_rfl);conv=>whnf
 (refine zV c1 rfl ?_;rintro _ _ ⟨rfl,rfl⟩)
 conv=>whnf
 (refine zV c2 rfl ?_;rintro _ _ ⟨rfl,rfl⟩)
 conv=>whnf
 refine zZ c3 ?_;conv=>whnf
 try (refine tS ?_;conv=>whnf)
 try (refine tS ?_;conv=>whnf)
 try (refine tS ?_;conv=>whnf)
 all_goals exact⟨.ag (stX s (.ow 2 s.a.homes.length) (.ow 3 s.txns.length)), .ag (stX s (.ow 0 s.a.homes.length) (.ow 1 s.txns.length)), [.row 177 3 (s.a.homes.map EC), .row 112 4 (s.txns.map CO)],fun _ _ h=>h,zR (s:= [2,3]) tA,rfl,rfl⟩
@[reducible] def Zx (g:Geo) (x hm tx:AV) (s:Stt) (e:Int):List AV:= [iv g.z,iv g.d,iv g.sp,iv g.sl,iv g.an,x,iv s.a.gen,iv s.a.epoch,iv s.a.pos,iv s.a.seq,iv s.a.last, .v (.string s.a.label),hm,tx, .v (.bool s.only),iv s.cursor,iv s.found,iv s.fixed,iv s.moved,iA s.lost,iv e]
@[reducible] def Fw (g:Geo) (s:Stt) (e:Int) (d:Dk):List AB:= [.box 83 (Zx g (.bp 1 0) (.ow 4 s.a.homes.length) (.ow 5 s.txns.length) s e), .box 85 (He (.ow 2 d.cells.length) (.ow 3 d.cache.length) d.reqs d.left), .row 128 3 (d.cells.map BE), .row 134 2 (d.cache.map EE), .row 177 3 (s.a.homes.map EC), .row 112 4 (s.txns.map CO)]
@[reducible] def rwP (g:Geo) (s:Stt) (e:Int) (d:Dk):List AB:= [.box 83 (Zx g (.bp 1 0) (.ow 4 s.a.homes.length) (.ow 5 s.txns.length) s e), .box 85 (He (.ow 2 d.cells.length) (.ow 6 d.cache.length) d.reqs d.left), .row 128 3 (d.cells.map BE), .dead, .row 177 3 (s.a.homes.map EC), .row 112 4 (s.txns.map CO), .row 134 2 (d.cache.map EE)]
theorem Zz (g:Geo) (s:Stt) (e:Int) (d:Dk):ConvH (Fw g s e d) (rwP g s e d):=zv (H:=Fw g s e d) 1 3 (by decide) rfl rfl
theorem LU (g:Geo) (d:Dk) (s:Stt) (h:DkOk d) (hs:StSm s):ACalls Tryz.prog false 29 [.ag (AT g), .ag (EN d), .ag (EB s)] [] fun r H=>r = .bp 0 0/\H=Fw g s 0 d:=by
 obtain⟨q1,q2,q3,q4⟩:=h.big;have c1:=O2 d q1 q2 q3 q4;have c2:=IJ s hs;refine zT tys_ok Tryz.func29 rfl rfl (Ag rfl) ?_;conv=>whnf
 apply zW (0) tys_ok mixed (.o [0,1,3,2,4,5,6,7] .fin) (by kernel_rfl);conv=>whnf
 (refine zV c1 rfl ?_;rintro _ _ ⟨rfl,rfl⟩)
 conv=>whnf
 (refine zV c2 rfl ?_;rintro _ _ ⟨rfl,rfl⟩)
 exact⟨_, .bp 0 0,Fw g s 0 d,fun _ _ h=>h,zR (s:= [8,3,4,5,6,7]) tA,rfl,rfl⟩
theorem XY (g:Geo) (s:Stt) (d:Dk) (a:Int) (h:DkOk d) (ha:0<=a/\a<d.cells.length) :
  ACalls Tryz.prog false 79 [.bp 0 0,iv a] (Fw g s 0 d) fun r H=>r = .ag (Dz ⟨(d.read a).2.2,(d.read a).2.1⟩)/\H=Fw g s (if d.left=0 then 8 else 0) (d.read a).1:=by
 have hr:=P8 d a h.l ha h.m (fun c hc=>by have:=(h.c c hc).2.1;omega) (fun w hw=>by have:=(h.w w hw).2;omega);have he:(d.left=0/\(d.read a).2.2=8)\/(¬d.left=0/\(d.read a).2.2≠8):=by
  unfold Dk.read;by_cases h0:d.left=0
  ·rw [if_pos h0];exact .inl ⟨h0,rfl⟩
  ·rw [if_neg h0];exact .inr ⟨h0,show (d.got a).2≠8 by have:=SX d a;omega⟩
 generalize d.read a=q at hr he |-
 obtain⟨D,b,e⟩:=q;simp only at hr he |-
 refine zT tys_ok Tryz.func79 rfl rfl (Ag rfl) ?_;conv=>whnf
 refine zd [1,2,3] hr ?_;rintro _ _ ⟨rfl,rfl⟩;rcases he with ⟨h0,rfl⟩ | ⟨h0,he⟩
 ·rw [if_pos h0];conv=>whnf
  repeat' (refine z_ ?_;conv=>whnf)
  exact⟨_, .ag (Dz ⟨8,b⟩),Fw g s 8 D,fun _ _ h=>h,zR (s:= [0,1,2,3,4,5]) tA,rfl,rfl⟩
 ·rw [if_neg h0];conv=>whnf
  repeat' (refine z_ ?_;conv=>whnf)
  refine Ak (fun h8=>absurd (by simpa using h8) he) (fun _=>?_);conv=>whnf
  repeat' (refine z_ ?_;conv=>whnf)
  exact⟨_, .ag (Dz ⟨e,b⟩),Fw g s 0 D,fun _ _ h=>h,zR (s:= [0,1,2,3,4,5]) tA,rfl,rfl⟩
theorem XW (g:Geo) (s:Stt) (d:Dk) (a:Int) (b:List UInt8) (h:DkOk d) (ha:0<=a/\a<d.cells.length) (hb:b.length<=200) :
  ACalls Tryz.prog false 88 [.bp 0 0,iv a,bA b] (Fw g s 0 d) fun r H=>r = .v (.bool (decide ((d.write a b).2=0)))/\H=Fw g s (if (d.write a b).2=8 then 8 else 0) (d.write a b).1:=by
 have hr:=Nq d a b h.l ha h.m (by omega);have he:=JY d a b;generalize d.write a b=q at hr he |-
 obtain⟨D,e⟩:=q;simp only at hr he |-
 refine zT tys_ok Tryz.func88 rfl rfl (Ag rfl) ?_;conv=>whnf
 refine zd [1,2,3] hr ?_;rintro _ _ ⟨rfl,rfl⟩;rcases he with rfl | rfl | rfl
 all_goals
  conv=>whnf
  repeat' (refine z_ ?_;conv=>whnf)
 ·exact⟨_, .v (.bool false),Fw g s 8 D,fun _ _ h=>h,zR (s:= [0,1,2,3,4,5]) tA,rfl,rfl⟩
 ·exact⟨_, .v (.bool false),Fw g s 0 D,fun _ _ h=>h,zR (s:= [0,1,2,3,4,5]) tA,rfl,rfl⟩
 ·exact⟨_, .v (.bool true),Fw g s 0 D,fun _ _ h=>h,zR (s:= [0,1,2,3,4,5]) tA,rfl,rfl⟩
theorem Yf (g:Geo) (s:Stt) (e:Int) (d:Dk) (h:DkOk d) :
  ACalls Tryz.prog false 90 [.bp 0 0] (Fw g s e d) fun r H=>r = .tp []/\H=rwP g s (if e=0 then if d.left=0 then 8 else 0 else e) (if e=0 then if d.left=0 then d else d.flush else d):=by
 have hf:=Nx d h.l h.m (fun w hw=>(h.w w hw).1) (fun w hw=>by have:=(h.w w hw).2;omega);by_cases he:e=0
 ·subst he;rw [if_pos rfl,if_pos rfl];refine zT tys_ok Tryz.func90 rfl rfl (Ag rfl) ?_;conv=>whnf
  refine zd [1,2,3] hf ?_;rintro _ _ ⟨rfl,rfl⟩;by_cases h0:d.left=0;all_goals
   simp only [h0,if_true,if_false];exact⟨_, .tp [],rwP g s _ _,fun _ _ h=>h,zR (s:= [0,1,2,3,4,5,6]) tA,rfl,rfl⟩
 ·rw [if_neg he,if_neg he];have hb:(e == 0)=false:=beq_eq_false_iff_ne.2 he;refine zT tys_ok Tryz.func90 rfl rfl (Ag rfl) ?_;conv=>whnf
  rw [hb];exact⟨_, .tp [],rwP g s e d,fun _ _ h=>h,zF (zK (Zz g s e d)) (s:= [0,1,2,3,4,5,6]) tA,rfl,rfl⟩

theorem Mu {α:Type} {n i:Nat} {a d:α} (h:i<n):(List.replicate n a).getD i d=a:=by rw [Aa,Cx h];try rfl
theorem Tl {i:Nat} (h:i<8):zero8.getD i 0=0:=by
 have:i=0\/i=1\/i=2\/i=3\/i=4\/i=5\/i=6\/i=7:=by omega
 rcases this with rfl | rfl | rfl | rfl | rfl | rfl | rfl | rfl <;> rfl
def KZ (cs:List Cel) (w:Wr):List Cel:=cs.set w.addr.toNat { cs.getD w.addr.toNat cz with bytes:=w.bytes }
def E8 (cs:List Cel) (l:List Wr):List Cel:=l.foldl KZ cs
theorem Qj (cs:List Cel) (w:Wr):(KZ cs w).length=cs.length:=by simp [KZ]
theorem Fp (l:List Wr):∀ cs:List Cel,(E8 cs l).length=cs.length:=by
 induction l with
 | nil=>intro cs;rfl
 | cons w l ih=>intro cs;show (E8 (KZ cs w) l).length=_;rw [ih,Qj]
theorem I6 (cs:List Cel) {l:List Wr} {k:Nat} (h:k<l.length):E8 cs (l.take (k+1))=KZ (E8 cs (l.take k)) (l.getD k ⟨0, []⟩):=by
 unfold E8;rw [AR,BM,Ae h];simp [Aa,Ae h]
theorem JK (cs:List Cel) (w:Wr):(KZ cs w).map BE=(cs.map BE).set w.addr.toNat (BE { cs.getD w.addr.toNat cz with bytes:=w.bytes }):=by rw [KZ,Ca]
def Jn (g:Geo):List Cel:=List.replicate (Ay g).toNat cz
def Hu (g:Geo) (c:Int):List Wr:=(List.range g.sl.toNat).map fun i=>⟨Bg g c (i:Nat),BB g zeroC c (i:Nat)⟩
def IC (g:Geo) (z:Int):List Wr:=(List.range 2).map fun k=>⟨AI g z (k:Nat),Cf (AI g z (k:Nat)) 0 (CW (Fd g))⟩
def HE (g:Geo) (z:Int):List Wr:=(List.range (CG g).toNat).map fun i=>⟨Ck g z (i:Nat),Cf (Ck g z (i:Nat)) 0 zero8⟩
def WP (g:Geo) (s:ByteArray):List Cel:=E8 (Jn g) (Bf g (BZ g s))
def OS (g:Geo) (s:ByteArray):Nat->List Cel
 | 0=>WP g s
 | c+1=>E8 (OS g s c) (Hu g (c:Nat))
def Hy (g:Geo) (s:ByteArray):Nat->List Cel
 | 0=>OS g s 2
 | z+1=>E8 (E8 (Hy g s z) (IC g (z:Nat))) (HE g (z:Nat))
def Gy (g:Geo) (s:ByteArray):Dk:=⟨Hy g s g.z.toNat, [],0, -1⟩
theorem My (g:Geo):(Jn g).length=(Ay g).toNat:=by simp [Jn]
theorem WO (g:Geo) (s:ByteArray):(WP g s).length=(Ay g).toNat:=by rw [WP,Fp,My]
theorem Mx (g:Geo) (s:ByteArray):∀ c,(OS g s c).length=(Ay g).toNat
 | 0=>WO g s
 | c+1=>by rw [OS,Fp,Mx g s c]
theorem GX (g:Geo) (s:ByteArray):∀ z,(Hy g s z).length=(Ay g).toNat
 | 0=>Mx g s 2
 | z+1=>by rw [Hy,Fp,Fp,GX g s z]
theorem Ke {α:Type} {f:Nat->α} {n k:Nat} {d:α} (h:k<n):((List.range n).map f).getD k d=f k:=by
 rw [Bc (d:=0) (by simpa using h),Aa,Bq h];try rfl
theorem F4 {g:Geo} (hg:Bp g=true):ER g zeroC=true:=by
 simp [ER,hg,Fs,zeroC,Ie]
theorem JL (cs:List Cel) (l m:List Wr):E8 cs (l ++ m)=E8 (E8 cs l) m:=by unfold E8;rw [BM]
theorem Hw (cs:List Cel) (i a:Nat) (x:Cel) (ha:a<cs.length):(cs.set i x).getD a cz=if i=a then x else cs.getD a cz:=by
 rw [Aa,List.getElem?_set];by_cases h:i=a
 ·subst h;rw [if_pos rfl,if_pos rfl,if_pos ha];try rfl
 ·rw [if_neg h,if_neg h,<-Aa]
theorem WM (cs:List Cel) (w:Wr) (a:Nat) (ha:a<cs.length):(KZ cs w).getD a cz=if w.addr.toNat=a then { cs.getD a cz with bytes:=w.bytes } else cs.getD a cz:=by
 unfold KZ;rw [Hw _ _ _ _ ha];split
 ·rename_i h;rw [h]
 ·rfl
theorem NO {F:List UInt8}:∀ (l:List Wr) (cs:List Cel) (a:Nat),a<cs.length->(∀ w∈l,w.addr.toNat=a->w.bytes=F)->((∃ w∈l,w.addr.toNat=a)\/(cs.getD a cz).bytes=F)->(E8 cs l).getD a cz={ cs.getD a cz with bytes:=F }
 | [],cs,a,_,_,h=>by
  rcases h with ⟨w,hw,_⟩ | h
  ·cases hw
  ·show cs.getD a cz=_;rw [<-h]
 | w::l,cs,a,ha,hF,h=>by
  have hs:=WM cs w a ha;have ha':a<(KZ cs w).length:=by rw [Qj];exact ha
  have ih:=NO (F:=F) l (KZ cs w) a ha' (fun x hx=>hF x (Ba _ hx));show (E8 (KZ cs w) l).getD a cz=_;by_cases e:w.addr.toNat=a
  ·rw [if_pos e,hF w (by simp) e] at hs;rw [ih (.inr (by rw [hs])),hs]
  ·rw [if_neg e] at hs;rw [ih ?_,hs];rcases h with ⟨x,hx,hxa⟩ | h
   ·rcases AQ.1 hx with rfl | hx
    ·exact absurd hxa e
    ·exact .inl ⟨x,hx,hxa⟩
   ·exact .inr (by rw [hs];exact h)
def K2 (g:Geo):Nat->List Wr
 | 0=> []
 | z+1=>K2 g z ++ (IC g (z:Nat) ++ HE g (z:Nat))
def OR (g:Geo) (s:ByteArray):List Wr:=Bf g (BZ g s) ++ (Hu g 0 ++ (Hu g 1 ++ K2 g g.z.toNat))
theorem WN (g:Geo) (s:ByteArray):∀ z,Hy g s z=E8 (Jn g) (Bf g (BZ g s) ++ (Hu g 0 ++ (Hu g 1 ++ K2 g z)))
 | 0=>by
  show E8 (E8 (WP g s) (Hu g 0)) (Hu g 1)=_;rw [WP,<-JL,<-JL,K2,AL]
 | z+1=>by
  rw [Hy,WN g s z,<-JL,<-JL,K2];simp only [A9]
def GK (g:Geo) (s:ByteArray) (a:Int):List UInt8:=
 if a<g.an then D0 (BZ g s) a else if a<g.an+g.sl then BB g zeroC 0 (a - g.an) else if a<g.an+2*g.sl then BB g zeroC 1 (a - g.an - g.sl)
 else if a<g.an+2*g.sl+2*g.z then Cf a 0 (CW (Fd g)) else Cf a 0 zero8
theorem Io {g:Geo} (hg:Bp g=true):∀ (n:Nat) (w:Wr),(n:Int)<=g.z->(w∈K2 g n↔(∃ z k:Nat,z<n/\k<2/\w=⟨AI g z k,Cf (AI g z k) 0 (CW (Fd g))⟩)\/∃ z i:Nat,z<n/\i<(CG g).toNat/\w=⟨Ck g z i,Cf (Ck g z i) 0 zero8⟩)
 | 0,w,_=>by simp [K2]
 | n+1,w,h=>by
  rw [K2,A0,A0,Io hg n w (by omega)];simp only [IC,HE,AK,AP];constructor
  ·rintro((⟨z,k,h1,h2,h3⟩ | ⟨z,i,h1,h2,h3⟩) | ⟨k,h1,h2⟩ | ⟨i,h1,h2⟩)
   ·exact .inl ⟨z,k,by omega,h2,h3⟩
   ·exact .inr ⟨z,i,by omega,h2,h3⟩
   ·exact .inl ⟨n,k,by omega,h1,h2.symm⟩
   ·exact .inr ⟨n,i,by omega,h1,h2.symm⟩
  ·rintro(⟨z,k,h1,h2,h3⟩ | ⟨z,i,h1,h2,h3⟩)
   ·by_cases e:z=n
    ·subst e;exact .inr (.inl ⟨k,h2,h3.symm⟩)
    ·exact .inl (.inl ⟨z,k,by omega,h2,h3⟩)
   ·by_cases e:z=n
    ·subst e;exact .inr (.inr ⟨i,h2,h3.symm⟩)
    ·exact .inl (.inr ⟨z,i,by omega,h2,h3⟩)
theorem Ta {g:Geo} {s:ByteArray} {a:Int} (h:a<g.an):GK g s a=D0 (BZ g s) a:=if_pos h
theorem JM {g:Geo} {s:ByteArray} {c:Int} {i:Nat} (hc:c=0\/c=1) (hi:(i:Int)<g.sl):GK g s (Bg g c i)=BB g zeroC c i:=by
 unfold GK Bg;rcases hc with rfl | rfl
 ·rw [if_neg (by omega),if_pos (by omega)];congr 1;omega
 ·rw [if_neg (by omega),if_neg (by omega),if_pos (by omega)];congr 1;omega
theorem Qk {g:Geo} {s:ByteArray} {z k:Nat} (h0:0<=g.sl) (hz:(z:Int)<g.z) (hk:k<2):GK g s (AI g z k)=Cf (AI g z k) 0 (CW (Fd g)):=by
 unfold GK;have:AI g z k=g.an+2*g.sl+2*z+k:=rfl;rw [if_neg (by omega),if_neg (by omega),if_neg (by omega),if_pos (by omega)]
theorem NP {g:Geo} {s:ByteArray} {z i:Nat} (h0:0<=g.sl) (h1:0<=g.z) (h2:0<=CG g):GK g s (Ck g z i)=Cf (Ck g z i) 0 zero8:=by
 unfold GK;have:Ck g z i=g.an+2*g.sl+2*g.z+z*CG g+i:=rfl;have:0<=(z:Int)*CG g:=CL (by omega) h2;rw [if_neg (by omega),if_neg (by omega),if_neg (by omega),if_neg (by omega)]
theorem PN {g:Geo} (hg:Bp g=true):0<CG g:=by
 obtain⟨g1,g2,g3,g4,g5⟩:=As.1 hg;unfold CG;omega
theorem WL {g:Geo} {s:ByteArray} (hg:Bp g=true):∀ w∈OR g s,0<=w.addr/\w.bytes=GK g s w.addr:=by
 obtain⟨g1,g2,g3,g4,g5⟩:=As.1 hg;have hp:=PN hg;intro w hw;simp only [OR,A0,Io hg g.z.toNat w (by omega)] at hw;rcases hw with hw | hw | hw | ⟨z,k,h1,h2,rfl⟩ | ⟨z,i,h1,h2,rfl⟩
 ·simp only [Bf,AK,AP] at hw;obtain⟨i,hi,rfl⟩:=hw;exact⟨by show (0:Int)<=(i:Nat);omega,(Ta (by show ((i:Nat):Int)<g.an;omega)).symm⟩
 ·simp only [Hu,AK,AP] at hw;obtain⟨i,hi,rfl⟩:=hw;exact⟨by show 0<=Bg g 0 i;unfold Bg;omega,(JM (.inl rfl) (by omega)).symm⟩
 ·simp only [Hu,AK,AP] at hw;obtain⟨i,hi,rfl⟩:=hw;exact⟨by show 0<=Bg g 1 i;unfold Bg;omega,(JM (.inr rfl) (by omega)).symm⟩
 ·exact⟨by show 0<=AI g z k;unfold AI;omega,(Qk (by omega) (by omega) h2).symm⟩
 ·have:0<=(z:Int)*CG g:=CL (by omega) (by omega);exact⟨by show 0<=Ck g z i;unfold Ck;omega,(NP (by omega) (by omega) (by omega)).symm⟩
theorem WK {g:Geo} {s:ByteArray} (hg:Bp g=true) {a:Int} (h0:0<=a) (h:a<Ay g):∃ w∈OR g s,w.addr=a:=by
 obtain⟨g1,g2,g3,g4,g5⟩:=As.1 hg;have hp:=PN hg;by_cases h1:a<g.an
 ·refine⟨⟨a,D0 (BZ g s) a⟩,?_,rfl⟩;simp only [OR,A0,Bf,AK,AP];exact .inl ⟨a.toNat,by omega,by rw [DU h0]⟩
 ·have hlog:∀ (c:Int) (i:Nat),(c=0\/c=1)->(i:Int)<g.sl->∃ w∈OR g s,w.addr=Bg g c i:=fun c i hc hi=>by
   refine⟨⟨Bg g c i,BB g zeroC c i⟩,?_,rfl⟩;simp only [OR,A0,Hu,AK,AP];rcases hc with rfl | rfl
   ·exact .inr (.inl ⟨i,by omega,rfl⟩)
   ·exact .inr (.inr (.inl ⟨i,by omega,rfl⟩))
  by_cases h2:a<g.an+g.sl
  ·obtain⟨w,hw,e⟩:=hlog 0 (a - g.an).toNat (.inl rfl) (by omega);exact⟨w,hw,by rw [e];unfold Bg;omega⟩
  ·by_cases h3:a<g.an+2*g.sl
   ·obtain⟨w,hw,e⟩:=hlog 1 (a - g.an - g.sl).toNat (.inr rfl) (by omega);exact⟨w,hw,by rw [e];unfold Bg;omega⟩
   ·by_cases h4:a<g.an+2*g.sl+2*g.z
    ·refine⟨⟨AI g (((a - (g.an+2*g.sl)).toNat / 2:Nat)) ((a - (g.an+2*g.sl)).toNat % 2:Nat),Cf (AI g (((a - (g.an+2*g.sl)).toNat / 2:Nat)) ((a - (g.an+2*g.sl)).toNat % 2:Nat)) 0 (CW (Fd g))⟩,?_,by show AI g _ _=a;unfold AI;omega⟩;simp only [OR,A0,Io hg g.z.toNat _ (by omega)];exact .inr (.inr (.inr (.inl ⟨_,_,by omega,by omega,rfl⟩)))
    ·have hq:a - (g.an+2*g.sl+2*g.z)=((a - (g.an+2*g.sl+2*g.z)).toNat:Int):=by omega
     generalize hX:(a - (g.an+2*g.sl+2*g.z)).toNat=X at hq;have hP:CG g=((CG g).toNat:Int):=by omega
     have hX2:X<g.z.toNat*(CG g).toNat:=by
      have:(X:Int)<g.z*CG g:=by unfold Ay at h;omega
      rw [hP,show g.z=(g.z.toNat:Int) by omega] at this
      exact_mod_cast this
     generalize hPn:(CG g).toNat=p at hP hX2;have hp0:0<p:=by omega
     have hdm:(X / p)*p+X % p=X:=Nat.div_add_mod' X p;refine⟨⟨Ck g ((X / p:Nat)) ((X % p:Nat)),Cf (Ck g ((X / p:Nat)) ((X % p:Nat))) 0 zero8⟩,?_,?_⟩
     ·simp only [OR,A0,Io hg g.z.toNat _ (by omega)];exact .inr (.inr (.inr (.inr ⟨X / p,X % p,Nat.div_lt_of_lt_mul (by rw [Nat.mul_comm];exact hX2),by rw [hPn];exact Nat.mod_lt _ hp0,rfl⟩)))
     ·show Ck g _ _=a;unfold Ck;rw [hP];have:((X / p:Nat):Int)*(p:Int)+((X % p:Nat):Int)=(X:Int):=by exact_mod_cast hdm
      omega
theorem Qi {g:Geo} {s:ByteArray} (hg:Bp g=true) {a:Int} (h0:0<=a) (h:a<Ay g):(Gy g s).cells.getD a.toNat cz=⟨0,GK g s a, []⟩:=by
 have hl:a.toNat<(Jn g).length:=by rw [My];omega
 obtain⟨w,hw,e⟩:=WK (s:=s) hg h0 h;have hall:=WL (s:=s) hg;show (Hy g s g.z.toNat).getD a.toNat cz=_;rw [WN];refine(NO (F:=GK g s a) (OR g s) (Jn g) a.toNat hl (fun x hx hxa=>?_) (.inl ⟨w,hw,by rw [e]⟩)).trans ?_
 ·have:=hall x hx;rw [this.2];congr 1;omega
 ·have:(Jn g).getD a.toNat cz=cz:=by
   unfold Jn;rw [Aa,CE];split <;> rfl
  rw [this];try rfl
structure Holds (d:Dk) (n:Int) (F:Int->List UInt8):Prop where
 len:(d.cells.length:Int)=n
 cache:d.cache=[]
 cell:∀ a:Int,0<=a->a<n->(d.cells.getD a.toNat cz).state=0/\(d.cells.getD a.toNat cz).bytes=F a
theorem Holds.got {d:Dk} {n:Int} {F:Int->List UInt8} (h:Holds d n F) {a:Int} (h0:0<=a) (h1:a<n):Uz d a=⟨0,F a⟩:=by
 obtain⟨e1,e2⟩:=h.cell a h0 h1;have hg:d.got a=((d.cells.getD a.toNat cz).bytes,0):=by
  unfold Dk.got;rw [h.cache];simp only [NA];rw [show (d.cells.getD a.toNat ⟨0, [], []⟩)=d.cells.getD a.toNat cz from rfl,if_pos e1]
 rw [Uz,hg,e2]
theorem Ku {g:Geo} {s:ByteArray} (hg:Bp g=true):Holds (Gy g s) (Ay g) (GK g s):=by
 have hc:=EL hg;obtain⟨g1,g2,g3,g4,g5⟩:=As.1 hg;refine⟨?_,rfl,fun a h0 h1=>by rw [Qi hg h0 h1];exact tA⟩;show ((Hy g s g.z.toNat).length:Int)=_;rw [GX];omega
def Dk.tick (k:Nat) (d:Dk):Dk:=⟨d.cells,d.cache,min (d.reqs+k) 1048576,if d.left<0 then d.left else d.left - k⟩
structure Lv (d:Dk) (k:Nat):Prop where
 r:0<=d.reqs/\d.reqs<=1048576
 l:d.left<0\/(k:Int)<=d.left
theorem Lv.le {d:Dk} {k j:Nat} (h:Lv d k) (hj:j<=k):Lv d j:=⟨h.r,by have:=h.l;omega⟩
theorem LP {d:Dk} (h:0<=d.reqs/\d.reqs<=1048576) (_h0:d.left≠0) (hl:d.left<0\/1<=d.left):d.req=d.tick 1:=by
 unfold Dk.req Dk.tick;rw [wi (by omega)];congr 1
 ·split <;> omega
 ·split <;> split <;> omega
theorem GM {d:Dk} (a b:Nat) (_hr:d.reqs<=1048576) (h:d.left<0\/(a:Int)<=d.left):(d.tick a).tick b=d.tick (a+b):=by
 unfold Dk.tick;congr 1
 ·simp only;omega
 ·simp only;by_cases h':d.left<0
  ·simp only [h',if_true]
  ·rw [if_neg h',if_neg (by omega),if_neg h'];omega
theorem Ni {d:Dk} (hr:d.reqs<=1048576):d.tick 0=d:=by
 unfold Dk.tick;obtain⟨c,ca,r,l⟩:=d;simp only [Dk.mk.injEq,true_and] at hr |-
 constructor
 ·omega
 ·split <;> omega
theorem J0 {d:Dk} {a b:Nat} (h:Lv d (a+b)):Lv (d.tick a) b:=by
 have:=h.r;have:=h.l;refine⟨?_,?_⟩
 ·show 0<=min _ _/\min _ _<=_;omega
 ·show (if d.left<0 then d.left else d.left - a)<0\/(b:Int)<=(if d.left<0 then d.left else d.left - a);split <;> omega
theorem JU {d:Dk}:∀ (k:Nat),Lv d k->d.adv k=d.tick k
 | 0,h=>(Ni h.r.2).symm
 | k+1,h=>by
  have ih:=JU k (h.le (by omega));have h1:=J0 (a:=k) (b:=1) h;have h2:=h1.l;show (if (d.adv k).left=0 then d.adv k else (d.adv k).req)=_;rw [ih,if_neg (by omega),LP h1.r (by omega) (by omega),GM k 1 h.r.2 (by have:=h.l;omega)]
def free (cs:List Cel) (w:Wr):Bool:=decide ((cs.getD w.addr.toNat cz).state≠2)
theorem QV {d:Dk} {w:Wr} (h:Lv d 1) (hc:d.cache.length<2000):d.write w.addr w.bytes=if free d.cells w then (⟨d.cells,d.cache ++ [w],(d.tick 1).reqs,(d.tick 1).left⟩,0) else (d.tick 1,7):=by
 have:=h.l;unfold Dk.write free;rw [if_neg (by omega),LP h.r (by omega) (by omega)];by_cases h2:(d.cells.getD w.addr.toNat cz).state=2
 ·rw [if_pos (.inl h2),if_neg (by simpa using h2)]
 ·rw [if_neg (by rintro(h3 | h3);exact h2 h3;omega),if_pos (by simpa using h2)];try rfl
theorem writes_go:∀ (l:List Wr) (d:Dk) (n:Nat),Lv d l.length->d.cache.length+l.length<=2000->l.foldl FU (d,n,false)=(⟨d.cells,d.cache ++ l.filter (free d.cells),(d.tick l.length).reqs,(d.tick l.length).left⟩,n+(l.filter (free d.cells)).length,false)
 | [],d,n,h,_=>by
  show (d,n,false)=_;rw [show ([]:List Wr).length=0 from rfl,Ni h.r.2];simp only [List.filter_nil,AL,Be,C6]
 | w::l,d,n,h,hc=>by
  have hl:(w::l).length=l.length+1:=rfl;rw [hl] at h hc |-
  have hw:=QV (w:=w) (h.le (show 1<=l.length+1 by omega)) (by omega);have h1:Lv (d.tick 1) l.length:=J0 (by rw [CX];exact h);have ht:=GM (d:=d) 1 l.length h.r.2 (by have:=h.l;omega);rw [CX] at ht;show l.foldl FU (FU (d,n,false) w)=_;have hs:FU (d,n,false) w=(match d.write w.addr w.bytes with | (d,e)=>if e=8 then (d,n,true) else (d,n+(if e=0 then 1 else 0),false)):=by
   unfold FU;rw [if_neg (by simp)]
  rw [hs,hw];cases hf:free d.cells w with
  | true=>
   simp only [if_true];rw [if_neg (by decide)];have hgo:=writes_go l ⟨d.cells,d.cache ++ [w],(d.tick 1).reqs,(d.tick 1).left⟩ (n+1) ⟨h1.r,h1.l⟩ (by simp;omega);have e1:((⟨d.cells,d.cache ++ [w],(d.tick 1).reqs,(d.tick 1).left⟩:Dk).tick l.length).reqs=(d.tick (l.length+1)).reqs/\((⟨d.cells,d.cache ++ [w],(d.tick 1).reqs,(d.tick 1).left⟩:Dk).tick l.length).left=(d.tick (l.length+1)).left:=by rw [<-ht];exact tA
   rw [e1.1,e1.2] at hgo;rw [hgo];simp only [Dv,hf,if_true,Ao,A9,List.singleton_append,Prod.mk.injEq,and_true,true_and];omega
  | false=>
   simp only [CA,if_false];rw [if_neg (by decide),if_neg (by decide)];rw [writes_go l (d.tick 1) (n+0) h1 (by show d.cache.length+_<=_;omega),ht];simp only [Dv,hf,CA,if_false,C6];rfl
theorem Pk {d:Dk} {l:List Wr} (h:Lv d l.length) (hc:d.cache.length+l.length<=2000):d.writes l=(⟨d.cells,d.cache ++ l.filter (free d.cells),(d.tick l.length).reqs,(d.tick l.length).left⟩,(l.filter (free d.cells)).length,false):=by
 rw [Dk.writes,writes_go l d 0 h hc,A4]
def F8 (cs:List Cel) (w:Wr):List Cel:=if (cs.getD w.addr.toNat cz).state=2 then cs else cs.set w.addr.toNat ⟨0,w.bytes,(cs.getD w.addr.toNat cz).bytes⟩
def CU (cs:List Cel) (l:List Wr):List Cel:=l.foldl F8 cs
theorem GZ (cs:List Cel) (w:Wr):(F8 cs w).length=cs.length:=by unfold F8;split <;> simp
theorem finL_len:∀ (l:List Wr) (cs:List Cel),(CU cs l).length=cs.length
 | [],_=>rfl
 | w::l,cs=>by show (CU (F8 cs w) l).length=_;rw [finL_len l,GZ]
theorem U2 (d:Dk) (w:Wr):d.fin w={ d with cells:=F8 d.cells w }:=by unfold Dk.fin F8;split <;> rfl
theorem allFin_cells:∀ (l:List Wr) (d:Dk),d.allFin l={ d with cells:=CU d.cells l }
 | [],_=>rfl
 | w::l,d=>by
  show (d.fin w).allFin l=_;rw [allFin_cells l,U2];try rfl
theorem Gz (cs:List Cel) (w:Wr) (a:Nat) (ha:a<cs.length):(F8 cs w).getD a cz=if w.addr.toNat=a/\(cs.getD a cz).state≠2 then ⟨0,w.bytes,(cs.getD a cz).bytes⟩ else cs.getD a cz:=by
 unfold F8;by_cases h:(cs.getD w.addr.toNat cz).state=2
 ·rw [if_pos h,if_neg];rintro⟨rfl,h2⟩;exact h2 h
 ·rw [if_neg h,Hw _ _ _ _ ha];by_cases e:w.addr.toNat=a
  ·subst e;rw [if_pos rfl,if_pos ⟨rfl,h⟩]
  ·rw [if_neg e,if_neg (fun h=>e h.1)]
theorem finL_miss:∀ (l:List Wr) (cs:List Cel) (a:Nat),a<cs.length->(∀ w∈l,w.addr.toNat≠a)->(CU cs l).getD a cz=cs.getD a cz
 | [],_,_,_,_=>rfl
 | w::l,cs,a,ha,h=>by
  have hs:=Gz cs w a ha;rw [if_neg (fun e=>h w (by simp) e.1)] at hs;show (CU (F8 cs w) l).getD a cz=_;rw [finL_miss l (F8 cs w) a (by rw [GZ];exact ha) (fun x hx=>h x (Ba _ hx)),hs]
theorem finL_stuck:∀ (l:List Wr) (cs:List Cel) (a:Nat),a<cs.length->(cs.getD a cz).state=2->(CU cs l).getD a cz=cs.getD a cz
 | [],_,_,_,_=>rfl
 | w::l,cs,a,ha,h=>by
  have hs:=Gz cs w a ha;rw [if_neg (fun e=>e.2 h)] at hs;show (CU (F8 cs w) l).getD a cz=_;rw [finL_stuck l (F8 cs w) a (by rw [GZ];exact ha) (by rw [hs];exact h),hs]
theorem finL_any:∀ (l:List Wr) (cs:List Cel) (a:Nat),a<cs.length->(CU cs l).getD a cz=cs.getD a cz\/(cs.getD a cz).state≠2/\((CU cs l).getD a cz).state=0/\∃ w∈l,w.addr.toNat=a/\((CU cs l).getD a cz).bytes=w.bytes
 | [],_,_,_=> .inl rfl
 | w::l,cs,a,ha=>by
  have hs:=Gz cs w a ha;have ih:=finL_any l (F8 cs w) a (by rw [GZ];exact ha);by_cases e:w.addr.toNat=a/\(cs.getD a cz).state≠2
  ·rw [if_pos e] at hs;rcases ih with ih | ⟨h1,h2,x,hx,h3,h4⟩
   ·refine .inr ⟨e.2,?_,w,by simp,e.1,?_⟩
    ·show ((CU (F8 cs w) l).getD a cz).state=0;rw [ih,hs]
    ·show ((CU (F8 cs w) l).getD a cz).bytes=_;rw [ih,hs]
   ·exact .inr ⟨e.2,h2,x,Ba _ hx,h3,h4⟩
  ·rw [if_neg e] at hs;rcases ih with ih | ⟨h1,h2,x,hx,h3,h4⟩
   ·exact .inl (ih.trans hs)
   ·exact .inr ⟨by rw [hs] at h1;exact h1,h2,x,Ba _ hx,h3,h4⟩
theorem MF {F:List UInt8}:∀ (l:List Wr) (cs:List Cel) (a:Nat),a<cs.length->(cs.getD a cz).state≠2->(∀ w∈l,w.addr.toNat=a->w.bytes=F)->(∃ w∈l,w.addr.toNat=a)\/((cs.getD a cz).state=0/\(cs.getD a cz).bytes=F)->((CU cs l).getD a cz).state=0/\((CU cs l).getD a cz).bytes=F
 | [],cs,a,_,_,_,h=>by
  rcases h with ⟨w,hw,_⟩ | h
  ·cases hw
  ·exact h
 | w::l,cs,a,ha,h2,hF,h=>by
  have hs:=Gz cs w a ha;have ha':a<(F8 cs w).length:=by rw [GZ];exact ha
  show ((CU (F8 cs w) l).getD a cz).state=0/\((CU (F8 cs w) l).getD a cz).bytes=F;by_cases e:w.addr.toNat=a
  ·rw [if_pos ⟨e,h2⟩,hF w (by simp) e] at hs;exact MF l (F8 cs w) a ha' (by rw [hs];show (0:Int)≠2;decide) (fun x hx=>hF x (Ba _ hx)) (.inr (by rw [hs];exact tA))
  ·rw [if_neg (fun q=>e q.1)] at hs;refine MF l (F8 cs w) a ha' (by rw [hs];exact h2) (fun x hx=>hF x (Ba _ hx)) ?_;rcases h with ⟨x,hx,hxa⟩ | h
   ·rcases AQ.1 hx with rfl | hx
    ·exact absurd hxa e
    ·exact .inl ⟨x,hx,hxa⟩
   ·exact .inr (by rw [hs];exact h)
theorem finL_free:∀ (l:List Wr) (cs cs0:List Cel),(∀ a,(cs.getD a cz).state=2↔(cs0.getD a cz).state=2)->CU cs (l.filter (free cs0))=CU cs l
 | [],_,_,_=>rfl
 | w::l,cs,cs0,h=>by
  have hstep:∀ a,((F8 cs w).getD a cz).state=2↔(cs0.getD a cz).state=2:=fun a=>by
   rw [<-h a];by_cases ha:a<cs.length
   ·rw [Gz cs w a ha];split
    ·rename_i e;constructor
     ·intro q;exact absurd q (by simp)
     ·intro q;exact absurd q e.2
    ·exact Iff.rfl
   ·rw [Aa,Aa,AG (by rw [GZ];omega),AG (by omega)]
  show _=CU (F8 cs w) l;rw [Dv];by_cases hf:free cs0 w=true
  ·rw [if_pos hf];exact finL_free l (F8 cs w) cs0 hstep
  ·rw [if_neg hf];have:F8 cs w=cs:=by
    unfold F8;rw [if_pos];simp only [free,decide_eq_true_eq,Decidable.not_not] at hf;exact(h _).2 hf
   rw [this];exact finL_free l cs cs0 h
theorem J9 {d:Dk} {l:List Wr} (h:Lv d (l.length+1)) (hc:d.cache=[]) (hl:l.length<=2000):d.putAll l=(⟨CU d.cells l, [],(d.tick (l.length+1)).reqs,(d.tick (l.length+1)).left⟩,(l.filter (free d.cells)).length,false):=by
 have hw:=Pk (h.le (show l.length<=l.length+1 by omega)) (by rw [hc];simpa using hl);have h1:=J0 (a:=l.length) (b:=1) h;have h2:=h1.l;rw [hc,B5] at hw;unfold Dk.putAll;rw [hw];simp only [CA,if_false];rw [if_neg (by show ¬(d.tick l.length).left=0;omega)];have ht:=GM (d:=d) l.length 1 h.r.2 (by have:=h.l;omega);simp only [Prod.mk.injEq,and_true];unfold Dk.flush;rw [allFin_cells];have h3:Lv ⟨d.cells,l.filter (free d.cells),(d.tick l.length).reqs,(d.tick l.length).left⟩ 1:=⟨h1.r,h1.l⟩;have hr:=LP (d:=⟨d.cells,l.filter (free d.cells),(d.tick l.length).reqs,(d.tick l.length).left⟩) h3.r (by show (d.tick l.length).left≠0;omega) (by show (d.tick l.length).left<0\/1<=(d.tick l.length).left;omega);rw [hr,<-ht];show (⟨CU d.cells (l.filter (free d.cells)), [],_,_⟩:Dk)=_;rw [finL_free l d.cells d.cells fun _=>Iff.rfl];try rfl
structure Gw (n:Int) (d:Dk) (F:Int->List UInt8) (l:List Wr):Prop where
 ok:DkOk d
 left:d.left = -1
 len:(d.cells.length:Int)=n
 cache:d.cache=l
 cell:∀ a:Int,0<=a->a<n->(d.cells.getD a.toNat cz).state=0/\(d.cells.getD a.toNat cz).bytes=F a
 old:∀ a:Int,0<=a->a<n->(d.cells.getD a.toNat cz).old=F (-1 - a)
abbrev Gd (n:Int) (d:Dk) (F:Int->List UInt8):Prop:=Gw n d F []
def XF (F:Int->List UInt8) (w:Wr) (a:Int):List UInt8:=if 0<=a then (if w.addr=a then w.bytes else F a) else if w.addr = -1 - a then F w.addr else F a
def IA (F:Int->List UInt8) (l:List Wr):Int->List UInt8:=l.foldl XF F
theorem L3 {F:Int->List UInt8} (l:List Wr) (w:Wr):IA F (l ++ [w])=XF (IA F l) w:=by
 unfold IA;rw [BM];try rfl
theorem Gw.req {n:Int} {d:Dk} {F:Int->List UInt8} {l:List Wr} (h:Gw n d F l):Gw n d.req F l:=
 ⟨h.ok.req,by unfold Dk.req;rw [h.left];try rfl,h.len,h.cache,h.cell,h.old⟩
theorem Gd.got {n:Int} {d:Dk} {F:Int->List UInt8} (h:Gd n d F) {a:Int} (h0:0<=a) (h1:a<n):d.got a=(F a,0):=by
 have:=Holds.got ⟨h.len,h.cache,h.cell⟩ h0 h1;unfold Uz at this;injection this with e1 e2
 exact Prod.ext e2 e1
theorem Gd.read {n:Int} {d:Dk} {F:Int->List UInt8} (h:Gd n d F) {a:Int} (h0:0<=a) (h1:a<n):d.read a=(d.req,F a,0):=by
 unfold Dk.read;rw [if_neg (by rw [h.left];decide),h.got h0 h1]
theorem Gw.write {n:Int} {d:Dk} {F:Int->List UInt8} {l:List Wr} (h:Gw n d F l) (hl:l.length<2000) {a:Int} (h0:0<=a) (h1:a<n) {b:List UInt8} (hb:b.length<=200):(d.write a b).2=0/\Gw n (d.write a b).1 F (l ++ [⟨a,b⟩]):=by
 have hw:=h.ok.write (a:=a) (b:=b) (by rw [<-h.len] at h1;omega) hb;have e:d.write a b=({ d.req with cache:=d.cache ++ [⟨a,b⟩] },0):=by
  unfold Dk.write;rw [if_neg (by rw [h.left];decide),if_neg];rintro(h2 | h2)
  ·have:=(h.cell a h0 h1).1;unfold cz at this;omega
  ·rw [h.cache] at h2;omega
 rw [e] at hw |-
 exact⟨rfl,hw,h.req.left,h.len,by rw [h.cache],h.cell,h.old⟩
theorem OZ {cs:List Cel} {F:Int->List UInt8} {a:Int} (h0:0<=a) (h1:a.toNat<cs.length) (hc:(cs.getD a.toNat cz).state=0/\(cs.getD a.toNat cz).bytes=F a):∀ (n:Nat) (l:List Wr),l.length=n->(∀ w∈l,0<=w.addr)->((CU cs l).getD a.toNat cz).state=0/\((CU cs l).getD a.toNat cz).bytes=IA F l a
 | 0,l,hn,_=>by
  obtain rfl:=AZ.1 hn;exact hc
 | n+1,l,hn,hw=>by
  rcases CS l with rfl | ⟨m,w,rfl⟩
  ·cases hn
  ·have ih:=OZ h0 h1 hc n m (by simpa using hn) (fun x hx=>hw x (by simp [hx]));have hwa:=hw w (by simp);have e:CU cs (m ++ [w])=F8 (CU cs m) w:=by unfold CU;rw [BM];try rfl
   have e2:=Gz (CU cs m) w a.toNat (by rw [finL_len];exact h1);rw [CT,e,e2,L3];unfold XF;rw [if_pos h0];by_cases hA:w.addr=a
   ·rw [if_pos hA,if_pos ⟨by rw [hA],by rw [ih.1];decide⟩];exact tA
   ·rw [if_neg hA,if_neg (fun h=>hA (by have:=h.1;omega))];exact ih
theorem Td {cs:List Cel} {F:Int->List UInt8} {a:Int} (h0:0<=a) (h1:a.toNat<cs.length) (hc:(cs.getD a.toNat cz).state=0/\(cs.getD a.toNat cz).bytes=F a) (ho:(cs.getD a.toNat cz).old=F (-1 - a)):∀ (n:Nat) (l:List Wr),l.length=n->(∀ w∈l,0<=w.addr)->((CU cs l).getD a.toNat cz).old=IA F l (-1 - a)
 | 0,l,hn,_=>by
  obtain rfl:=AZ.1 hn;exact ho
 | n+1,l,hn,hw=>by
  rcases CS l with rfl | ⟨m,w,rfl⟩
  ·cases hn
  ·have ih:=Td h0 h1 hc ho n m (by simpa using hn) (fun x hx=>hw x (by simp [hx]));have iu:=OZ h0 h1 hc n m (by simpa using hn) (fun x hx=>hw x (by simp [hx]));have hwa:=hw w (by simp);have e:CU cs (m ++ [w])=F8 (CU cs m) w:=by unfold CU;rw [BM];try rfl
   have e2:=Gz (CU cs m) w a.toNat (by rw [finL_len];exact h1);rw [CT,e,e2,L3];unfold XF;rw [if_neg (show ¬(0:Int)<= -1 - a by omega),show -1 - (-1 - a)=a by omega];by_cases hA:w.addr=a
   ·rw [if_pos hA,if_pos ⟨by rw [hA],by rw [iu.1];decide⟩,hA];exact iu.2
   ·rw [if_neg hA,if_neg (fun h=>hA (by have:=h.1;omega))];exact ih
theorem Gw.flush {n:Int} {d:Dk} {F:Int->List UInt8} {l:List Wr} (h:Gw n d F l):Gd n d.flush (IA F l):=by
 have e:d.flush=⟨CU d.cells l, [],d.req.reqs,d.req.left⟩:=by
  unfold Dk.flush;rw [allFin_cells,h.cache];try rfl
 have ho:=h.ok.flush;rw [e] at ho |-
 have hl:=h.len;have hw0:∀ w∈l,0<=w.addr:=fun w hw=>by
  rw [<-h.cache] at hw;exact(h.ok.w w hw).1.1
 exact⟨ho,h.req.left,by show ((CU d.cells l).length:Int)=n;rw [finL_len];exact h.len,rfl,fun a h0 h1=>OZ h0 (by omega) (h.cell a h0 h1) _ l rfl hw0,fun a h0 h1=>Td h0 (by omega) (h.cell a h0 h1) (h.old a h0 h1) _ l rfl hw0⟩
theorem bz (g:Geo) (s:Stt) (n:Int) (d:Dk) (F:Int->List UInt8) (a:Int) (h:Gd n d F) (ha:0<=a/\a<n) :
  ACalls Tryz.prog false 79 [.bp 0 0,iv a] (Fw g s 0 d) fun r H=>r = .ag (Dz ⟨0,F a⟩)/\∃ d',Gd n d' F/\H=Fw g s 0 d':=by
 have hr:=XY g s d a h.ok (by have:=h.len;omega);rw [h.read ha.1 ha.2,if_neg (by rw [h.left];decide)] at hr;exact hr.mono fun r H ⟨e1,e2⟩=>⟨e1,d.req,h.req,e2⟩
theorem au (g:Geo) (s:Stt) (n:Int) (d:Dk) (F:Int->List UInt8) (l:List Wr) (a:Int) (b:List UInt8) (h:Gw n d F l) (hl:l.length<2000) (ha:0<=a/\a<n) (hb:b.length<=200) :
  ACalls Tryz.prog false 88 [.bp 0 0,iv a,bA b] (Fw g s 0 d) fun r H=>r = .v (.bool true)/\∃ d',Gw n d' F (l ++ [⟨a,b⟩])/\H=Fw g s 0 d':=by
 have hr:=XW g s d a b h.ok (by have:=h.len;omega) hb;obtain⟨e0,hw⟩:=h.write hl ha.1 ha.2 hb;rw [e0] at hr;exact hr.mono fun r H ⟨e1,e2⟩=>⟨e1,_,hw,e2⟩
theorem bF (g:Geo) (s:Stt) (n:Int) (d:Dk) (F:Int->List UInt8) (l:List Wr) (h:Gw n d F l) :
  ACalls Tryz.prog false 90 [.bp 0 0] (Fw g s 0 d) fun r H=>r = .tp []/\∃ d',Gd n d' (IA F l)/\H=rwP g s 0 d':=by
 have hr:=Yf g s 0 d h.ok;rw [if_pos rfl,if_pos rfl,if_neg (by rw [h.left];decide),if_neg (by rw [h.left];decide)] at hr;exact hr.mono fun r H ⟨e1,e2⟩=>⟨e1,_,h.flush,e2⟩
theorem Jv {F:Int->List UInt8} {a:Int} (h0:0<=a):∀ (n:Nat) (l:List Wr),l.length=n->(∀ w∈l,w.addr≠a)->IA F l a=F a
 | 0,l,hn,_=>by
  obtain rfl:=AZ.1 hn;rfl
 | n+1,l,hn,h=>by
  rcases CS l with rfl | ⟨m,w,rfl⟩
  ·rfl
  ·have ih:=Jv (F:=F) h0 n m (by simpa using hn) (fun x hx=>h x (by simp [hx]));rw [CT,L3];unfold XF;rw [if_pos h0,if_neg (h w (by simp))];exact ih
def Fm (g:Geo) (a:An) (seq:Int) (x:Img):List Wr:=if x.what=255 then [⟨AI g x.zone 0,Cf (AI g x.zone 0) seq x.bytes⟩,⟨AI g x.zone 1,Cf (AI g x.zone 1) seq x.bytes⟩] else [⟨BH g a x.zone x.what,Cf (BH g a x.zone x.what) seq x.bytes⟩]
def DB (g:Geo) (a:An) (seq:Int):List Img->List Wr
 | []=> []
 | x::r=>Fm g a seq x ++ DB g a seq r
def Dr (a:An) (seq:Int) (x:Img):An:=if x.what=255 then { a with homes:=a.homes.set x.zone.toNat { a.homes.getD x.zone.toNat ⟨[],0,0⟩ with root:=seq } } else a
def Cj (a:An) (seq:Int) (l:List Img):An:=l.foldl (fun a x=>Dr a seq x) a
theorem Gi (a:An) (seq:Int) (x:Img):(Dr a seq x).homes.length=a.homes.length:=by unfold Dr;split <;> simp
theorem K4 (seq:Int):∀ (l:List Img) (a:An),(Cj a seq l).homes.length=a.homes.length
 | [],_=>rfl
 | x::r,a=>by
  show (Cj (Dr a seq x) seq r).homes.length=_;rw [K4 seq r,Gi]
theorem IU (a:An) (seq:Int) (x:Img) (z:Nat) (hz:z<a.homes.length):(Dr a seq x).homes.getD z ⟨[],0,0⟩=if x.what=255/\x.zone.toNat=z then { a.homes.getD z ⟨[],0,0⟩ with root:=seq } else a.homes.getD z ⟨[],0,0⟩:=by
 unfold Dr;by_cases h:x.what=255
 ·rw [if_pos h];by_cases e:x.zone.toNat=z
  ·subst e;rw [if_pos ⟨h,rfl⟩];show (a.homes.set _ _).getD _ _=_;rw [BK hz]
  ·rw [if_neg (fun q=>e q.2)];show (a.homes.set _ _).getD _ _=_;rw [K8 e]
 ·rw [if_neg h,if_neg (fun q=>h q.1)]
theorem Sq {g:Geo} {a:An} {seq:Int} {x:Img} {z w:Int} (hz:z.toNat<a.homes.length):BH g (Dr a seq x) z w=BH g a z w:=by
 unfold BH;rw [IU a seq x _ hz];split <;> rfl
theorem In {g:Geo} {seq z w:Int}:∀ (l:List Img) {a:An},z.toNat<a.homes.length->BH g (Cj a seq l) z w=BH g a z w
 | [],_,_=>rfl
 | x::r,a,hz=>by
  show BH g (Cj (Dr a seq x) seq r) z w=_;rw [In r (by rw [Gi];exact hz),Sq hz]
theorem GC {seq:Int} {z:Nat}:∀ (l:List Img) {a:An},z<a.homes.length->(∀ x∈l,x.what=255->x.zone.toNat≠z)->(Cj a seq l).homes.getD z ⟨[],0,0⟩=a.homes.getD z ⟨[],0,0⟩
 | [],_,_,_=>rfl
 | x::r,a,hz,h=>by
  show (Cj (Dr a seq x) seq r).homes.getD z _=_;rw [GC r (by rw [Gi];exact hz) (fun y hy=>h y (Ba _ hy)),IU a seq x z hz,if_neg (fun q=>h x (by simp) q.1 q.2)]
theorem K5 {seq:Int} {z:Nat}:∀ (l:List Img) {a:An},z<a.homes.length->(∃ x∈l,x.what=255/\x.zone.toNat=z)->((Cj a seq l).homes.getD z ⟨[],0,0⟩).root=seq
 | x::r,a,hz,⟨y,hy,h1,h2⟩=>by
  show ((Cj (Dr a seq x) seq r).homes.getD z _).root=_;by_cases hr:∃ x∈r,x.what=255/\x.zone.toNat=z
  ·exact K5 r (by rw [Gi];exact hz) hr
  ·rcases AQ.1 hy with rfl | q
   ·rw [GC r (by rw [Gi];exact hz) (fun x hx e1 e2=>hr ⟨x,hx,e1,e2⟩),IU a seq y z hz,if_pos ⟨h1,h2⟩]
   ·exact absurd ⟨y,q,h1,h2⟩ hr
theorem Tp {g:Geo} {a:An} {seq:Int} {x:Img} (ha:Bu g a=true) (hs:0<=seq/\seq<=4294967295):Bu g (Dr a seq x)=true:=by
 unfold Dr;split
 ·by_cases hi:x.zone.toNat<a.homes.length
  ·simp only [Bu,Ad,decide_eq_true_eq,Au] at ha |-
   obtain⟨q1,q2,q3,q4,q5,q6,q7⟩:=ha;refine⟨q1,q2,q3,q4,q5,by rw [AW];exact q6,fun y hy=>?_⟩;rcases Cu hy with h | rfl
   ·exact q7 y h
   ·have hh:=q7 _ (A6 (d:=(⟨[],0,0⟩:Hm)) hi);simp only [DZ,Ad] at hh |-
    exact⟨hh.1,hh.2.1,AF.2 hs,hh.2.2.2⟩
  ·rw [List.set_eq_of_length_le (by omega)];exact ha
 ·exact ha
theorem IT {g:Geo} {seq:Int} (hs:0<=seq/\seq<=4294967295):∀ (l:List Img) {a:An},Bu g a=true->Bu g (Cj a seq l)=true
 | [],_,h=>h
 | x::r,_,h=>IT hs r (Tp h hs)
def D_ (g:Geo) (a:An) (x:Tx):An:={ Cj a x.seq x.images with gen:=a.gen+1,pos:=(x.pos+x.n).tmod g.sl,seq:=a.seq+1,last:=max a.last a.seq }
theorem Hg (seq:Int):∀ (l:List Img) (a:An),(Cj a seq l).gen=a.gen/\(Cj a seq l).epoch=a.epoch/\(Cj a seq l).pos=a.pos/\(Cj a seq l).seq=a.seq/\(Cj a seq l).last=a.last/\(Cj a seq l).label=a.label
 | [],_=>tA
 | x::r,a=>by
  obtain⟨h1,h2,h3,h4,h5,h6⟩:=Hg seq r (Dr a seq x);have e:(Dr a seq x).gen=a.gen/\(Dr a seq x).epoch=a.epoch/\(Dr a seq x).pos=a.pos/\(Dr a seq x).seq=a.seq/\(Dr a seq x).last=a.last/\(Dr a seq x).label=a.label:=by unfold Dr;split <;> exact tA
  obtain⟨e1,e2,e3,e4,e5,e6⟩:=e;exact⟨h1.trans e1,h2.trans e2,h3.trans e3,h4.trans e4,h5.trans e5,h6.trans e6⟩
theorem Pu {g:Geo} {a:An} {x:Tx} (hg:Bp g=true) (ha:Bu g a=true) (h1:a.gen<4294967295) (h2:a.seq<4294967295) (hx:x.seq=a.seq) (hp:0<=x.pos) (hn:0<=x.n):Bu g (D_ g a x)=true:=by
 obtain⟨g1,g2,g3,g4,g5⟩:=As.1 hg;have hh:=ha;simp only [Bu,AX,B7,Bx,Ad,decide_eq_true_eq,AF] at hh;obtain⟨⟨w1,w2,w3,w4⟩,q2,q3,q4,q5,q6,q7⟩:=hh;have hu:=IT (g:=g) (seq:=x.seq) (by omega) x.images ha;obtain⟨_,e2,_,_,_,e6⟩:=Hg x.seq x.images a;simp only [Bu,AX,B7,Bx,Ad,decide_eq_true_eq,AF] at hu |-
 obtain⟨_,_,_,_,u5,u6,u7⟩:=hu;have hm0:0<=(x.pos+x.n).tmod g.sl:=Bk _ (by omega);have hm1:(x.pos+x.n).tmod g.sl<g.sl:=AY _ (by omega);refine⟨⟨?_,?_,?_,?_⟩,?_,?_,?_,u5,u6,u7⟩
 ·show 0<=a.gen+1/\a.gen+1<=_;omega
 ·show 0<=(Cj a x.seq x.images).epoch/\(Cj a x.seq x.images).epoch<=_;rw [e2];exact w2
 ·show 0<=a.seq+1/\a.seq+1<=_;omega
 ·show 0<=max a.last a.seq/\max a.last a.seq<=_;omega
 ·show 1<=a.seq+1;omega
 ·show a.seq+1 - 1<=max a.last a.seq;omega
 ·show 0<=(x.pos+x.n).tmod g.sl/\(x.pos+x.n).tmod g.sl<=g.sl - 1;omega
theorem OneTab.eq:∀ {l:List Img} (_:OneTab l) {x y:Img},x∈l->y∈l->x.what=255->y.what=255->x.zone=y.zone->x=y
 | w::l,h,x,y,hx,hy,h1,h2,h3=>by
  obtain⟨q1,q2⟩:=List.pairwise_cons.1 h;rcases AQ.1 hx with ex | mx
  ·rcases AQ.1 hy with ey | my
   ·rw [ex,ey]
   ·rw [ex] at h1 h3;exact absurd h3 (q1 y my h1 h2)
  ·rcases AQ.1 hy with ey | my
   ·rw [ey] at h2 h3;exact absurd h3.symm (q1 x mx h2 h1)
   ·exact OneTab.eq q2 mx my h1 h2 h3
theorem Mk {g:Geo} {a:An} {seq:Int} {w:Wr}:∀ {l:List Img},w∈DB g a seq l↔∃ x∈l,w∈Fm g a seq x
 | []=>by simp [DB]
 | x::r=>by
  rw [DB,A0,Mk];simp
theorem E7 {g:Geo} {x:Img} (h:Bz g x=true):(0<=x.zone/\x.zone<g.z)/\(x.what≠255-> -1<=x.what/\x.what<g.d/\x.bytes.length=8):=by
 simp only [Bz,Ad,AF] at h;refine⟨by omega,fun hw=>?_⟩;have h2:=h.2.2;rw [if_neg hw,Ad,AF,decide_eq_true_eq] at h2;omega
theorem NK {g:Geo} {a:An} (ha:Bu g a=true) {z:Int} (hz:0<=z/\z<g.z):z.toNat<a.homes.length/\DZ g (a.homes.getD z.toNat ⟨[],0,0⟩)=true:=by
 simp only [Bu,Ad,decide_eq_true_eq,Au] at ha;obtain⟨_,_,_,_,_,q6,q7⟩:=ha;have hi:z.toNat<a.homes.length:=by omega
 exact⟨hi,q7 _ (A6 (d:=(⟨[],0,0⟩:Hm)) hi)⟩
theorem Ey {g:Geo} (hg:Bp g=true) {a:An} (ha:Bu g a=true) {z w:Int} (hz:0<=z/\z<g.z) (hw : -1<=w/\w<g.d):∃ s,BH g a z w=Ck g z s/\0<=s/\s<CG g:=by
 obtain⟨g1,g2,g3,g4,g5⟩:=As.1 hg;obtain⟨hi,hh⟩:=NK ha hz;simp only [DZ,Ad,decide_eq_true_eq,AF] at hh;obtain⟨p1,p2,p3,p4⟩:=hh;have hat:0<=Em g w/\Em g w<=g.d:=by unfold Em;split <;> omega
 refine⟨_,rfl,?_⟩;have hk:(Em g w).toNat<(a.homes.getD z.toNat ⟨[],0,0⟩).places.length:=by omega
 have hp:=Au.1 p4 (Em g w).toNat (by simpa using hk);simp only [Ad,AF] at hp;unfold CG;omega
theorem FE {g:Geo} (hg:Bp g=true) {z s:Int} (hz:0<=z/\z<g.z) (hs:0<=s/\s<CG g):g.an+2*g.sl+2*g.z<=Ck g z s/\Ck g z s<Ay g:=by
 obtain⟨g1,g2,g3,g4,g5⟩:=As.1 hg;have hp:=GG hg;have h1:=Hf hg (z:=z) (by omega);have h2:z*CG g+CG g<=g.z*CG g:=by
  have:=BF (show z+1<=g.z by omega) (show 0<=CG g by omega);rw [Int.add_mul,Int.one_mul] at this;exact this
 unfold Ck Ay;omega
theorem FV {g:Geo} (hg:Bp g=true) {z k:Int} (hz:0<=z/\z<g.z) (hk:0<=k/\k<=1):g.an+2*g.sl<=AI g z k/\AI g z k<g.an+2*g.sl+2*g.z/\AI g z k<Ay g:=by
 obtain⟨g1,g2,g3,g4,g5⟩:=As.1 hg;have hp:=GG hg;have h1:=Hf hg (z:=g.z) (by omega);unfold AI Ay;omega
theorem Wb (g:Geo) (w:Int):Fn Tryz.prog 148 [.ag (AT g),iv w] fun r=>r = iv (Em g w):=by
 unfold Em;by_cases h:w = -1
 ·rw [if_pos h];refine zS Tryz.func148 rfl ?_;conv=>whnf
  rw [show (w == -1)=true by simpa using h];exact⟨_,ri,rfl⟩
 ·rw [if_neg h];refine zS Tryz.func148 rfl ?_;conv=>whnf
  rw [show (w == -1)=false by simpa using h];exact⟨_,ri,rfl⟩
theorem LW (g:Geo) (a:An) (z w:Int) (hg:Bp g=true) (ha:Bu g a=true) (hz:0<=z/\z<g.z) (hw : -1<=w/\w<g.d):Fn Tryz.prog 97 [.ag (AT g), .ag (ED a),iv z,iv w] fun r=>r = iv (BH g a z w):=by
 obtain⟨g1,g2,g3,g4,g5⟩:=As.1 hg;obtain⟨hi,hh⟩:=NK ha hz;simp only [DZ,Ad,decide_eq_true_eq,AF] at hh;obtain⟨p1,p2,p3,p4⟩:=hh;have hat:0<=Em g w/\Em g w<=g.d:=by unfold Em;split <;> omega
 have hk:(Em g w).toNat<(a.homes.getD z.toNat ⟨[],0,0⟩).places.length:=by omega
 have hp:=Au.1 p4 (Em g w).toNat (by simpa using hk);simp only [Ad,AF] at hp;have r1:=Wb g w;have r2:=P7 g z ((a.homes.getD z.toNat ⟨[],0,0⟩).places.getD (Em g w).toNat 0) hg hz (by unfold CG;omega);refine zS Tryz.func97 rfl ?_;conv=>whnf
 apply zP tys_ok mixed (.o [0,1,2,3,4,5,6,7,8,9,10,11,12,13,14] .fin) [8,9,10,11,12,13,14,15,16,17,18,19,20,21,22] (by kernel_rfl)
 ·conv=>whnf
  try (refine Af (by first | omega | exact ixA | exact ixB | (simp;done)) ?_;conv=>whnf)
  refine zZ r1 ?_;conv=>whnf
  try (refine Af (by first | omega | exact ixA | exact ixB | (simp;done)) ?_;conv=>whnf)
  refine zZ r2 ?_;exact tA
 exact⟨_,ri,rfl⟩
theorem P6 (g:Geo) (x:Gt) (addr root:Int) (hg:Bp g=true) (hl:x.bytes.length<=100000):Fn Tryz.prog 78 [.ag (AT g), .ag (Dz x),iv addr,iv root] fun r=>r = .tp [.ag [Bm ((BG g x addr root).getD [])], .v (.bool (BG g x addr root).isSome)]:=by
 have h1:=Iu x addr hl;have zs:∀ (c:Ctx) (v:Value),Rd (.tp [.ag [.v (.slice none 0 0)], .v (.bool false)]) c v->Rd (.tp [.ag [Bm []], .v (.bool false)]) c v:=BW (m:= [.ag [Bm []], .v (.bool false)]) ⟨Bi ⟨Bh 3 _,tv⟩,ri,tv⟩;unfold BG;cases hs:BR x addr with
 | none=>
  rw [hs] at h1;refine zS Tryz.func78 rfl ?_;conv=>whnf
  refine zZ h1 ?_;exact⟨_,zs,rfl⟩
 | some s=>
  rw [hs] at h1;simp only [B4,Option.isSome_some] at h1;have h2:=LL g s.pay hg;simp only;by_cases hr:s.stamp=root
  ·rw [if_pos hr];refine zS Tryz.func78 rfl ?_;conv=>whnf
   refine zZ h1 ?_;conv=>whnf
   rw [show (s.stamp != root)=false by simpa using hr];conv=>whnf
   refine zZ h2 ?_;exact⟨_,ri,rfl⟩
  ·rw [if_neg hr];refine zS Tryz.func78 rfl ?_;conv=>whnf
   refine zZ h1 ?_;conv=>whnf
   rw [show (s.stamp != root)=true by simpa using hr];exact⟨_,zs,rfl⟩
theorem TU (x:Gt) (addr:Int) (e:Ent) (hl:x.bytes.length<=100000):Fn Tryz.prog 147 [.ag (Dz x),iv addr, .ag (Cb e)] fun r=>r = .tp [bA ((DD x addr e).getD []), .v (.bool (DD x addr e).isSome)]:=by
 have h1:=Iu x addr hl;have zs:∀ (c:Ctx) (v:Value),Rd (.tp [.v (.slice none 0 0), .v (.bool false)]) c v->Rd (.tp [bA [], .v (.bool false)]) c v:=BW (m:= [bA [], .v (.bool false)]) ⟨Bh 1 _,ri,tv⟩;unfold DD;cases hs:BR x addr with
 | none=>
  rw [hs] at h1;refine zS Tryz.func147 rfl ?_;conv=>whnf
  refine zZ h1 ?_;conv=>whnf
  apply zP tys_ok mixed (.o [0,1,2,3,4,5,6,7,8,9,10,11,12,13,14,15,16,17,19,20,18,21,22] .fin) [16,17,18,19,20,21,22,23,24,25,26,27,28,29,30,31,32,33,34,35,36,37,38] (by kernel_rfl)
  ·conv=>whnf
   (skip)
   exact tA
  conv=>whnf
  exact⟨_,zs,rfl⟩
 | some s=>
  rw [hs] at h1;simp only [B4,Option.isSome_some] at h1;have hp:s.pay.length<=100000:=by
   unfold BR at hs;split at hs
   ·obtain rfl:=Option.some.inj hs;unfold CF;simp;omega
   ·cases hs
  have h2:=J6 s.pay (by omega);simp only;by_cases q1:s.stamp=e.stamp
  ·have e1:(s.stamp != e.stamp)=false:=by simpa using q1
   by_cases q2:s.pay.length=8
   ·have e2:((s.pay.length:Int) != 8)=false:=by rw [q2];try rfl
    by_cases q3:((C4 s.pay:Nat):Int)=e.sum
    ·have e3:(((C4 s.pay:Nat):Int) != e.sum)=false:=by simpa using q3
     rw [if_pos ⟨q1,q2,q3⟩];refine zS Tryz.func147 rfl ?_;conv=>whnf
     refine zZ h1 ?_;conv=>whnf
     apply zP tys_ok mixed (.o [0,1,2,3,4,5,6,7,8,9,10,11,12,13,14,15,16,17,19,20,18,21,22] .fin) [16,17,18,19,20,21,22,23,24,25,26,27,28,29,30,31,32,33,34,35,36,37,38] (by kernel_rfl)
     ·conv=>whnf
      (rw [e1];(conv=>whnf);rw [e2];(conv=>whnf);refine zZ h2 ?_)
      exact tA
     conv=>whnf
     conv=>whnf
     rw [e3];exact⟨_,ri,rfl⟩
    ·have e3:(((C4 s.pay:Nat):Int) != e.sum)=true:=by simpa using q3
     rw [if_neg fun h=>q3 h.2.2];refine zS Tryz.func147 rfl ?_;conv=>whnf
     refine zZ h1 ?_;conv=>whnf
     apply zP tys_ok mixed (.o [0,1,2,3,4,5,6,7,8,9,10,11,12,13,14,15,16,17,19,20,18,21,22] .fin) [16,17,18,19,20,21,22,23,24,25,26,27,28,29,30,31,32,33,34,35,36,37,38] (by kernel_rfl)
     ·conv=>whnf
      (rw [e1];(conv=>whnf);rw [e2];(conv=>whnf);refine zZ h2 ?_)
      exact tA
     conv=>whnf
     conv=>whnf
     rw [e3];exact⟨_,zs,rfl⟩
   ·have e2:((s.pay.length:Int) != 8)=true:=bne_iff_ne.2 (by omega);rw [if_neg fun h=>q2 h.2.1];refine zS Tryz.func147 rfl ?_;conv=>whnf
    refine zZ h1 ?_;conv=>whnf
    apply zP tys_ok mixed (.o [0,1,2,3,4,5,6,7,8,9,10,11,12,13,14,15,16,17,19,20,18,21,22] .fin) [16,17,18,19,20,21,22,23,24,25,26,27,28,29,30,31,32,33,34,35,36,37,38] (by kernel_rfl)
    ·conv=>whnf
     (rw [e1];(conv=>whnf);rw [e2])
     exact tA
    conv=>whnf
    exact⟨_,zs,rfl⟩
  ·have e1:(s.stamp != e.stamp)=true:=bne_iff_ne.2 q1;rw [if_neg fun h=>q1 h.1];refine zS Tryz.func147 rfl ?_;conv=>whnf
   refine zZ h1 ?_;conv=>whnf
   apply zP tys_ok mixed (.o [0,1,2,3,4,5,6,7,8,9,10,11,12,13,14,15,16,17,19,20,18,21,22] .fin) [16,17,18,19,20,21,22,23,24,25,26,27,28,29,30,31,32,33,34,35,36,37,38] (by kernel_rfl)
   ·conv=>whnf
    (rw [e1])
    exact tA
   conv=>whnf
   exact⟨_,zs,rfl⟩
theorem S7 (a b:List UInt8) (h:a.length<=b.length) (hl:a.length<=1000000):Fn Tryz.prog 149 [bA a,bA b] fun r=>r=bA (Fb a b):=by
 have hx:(Fb a b).length=a.length:=by rw [Gf];omega
 refine zS Tryz.func149 rfl ?_;conv=>whnf
 refine zU Nat (fun k=>([(0,bA a),(1,bA b),(5, .ow 0 k),(6,iv k)], [.row 5 1 (((Fb a b).take k).map Ej)])) (fun k=>k<=a.length) (fun k=>a.length - k) 0 (Aj _)
  ⟨_,_,zG _ _, [(5,5,1)],tA, [0],tA⟩ ?_
 intro k hk;conv=>whnf
 refine A8 (fun h6=>?_) (fun h6=>?_) <;> (repeat rw [Ac] at h6) <;> conv=>whnf
 ·have hk':k<a.length:=by omega
  have hml:k=(((Fb a b).take k).map Ej).length:=by rw [Ab,Aq];omega
  have hx2:(((Fb a b).take k).map Ej) ++ [[AV.v (.int .u8 (IntKind.u8.wrap (BitVec.ofInt IntKind.u8.bits ((a.getD k 0).toNat:Int) ^^^ BitVec.ofInt IntKind.u8.bits ((b.getD k 0).toNat:Int)).toNat))]]=((Fb a b).take (k+1)).map Ej:=by
   rw [Vs (a.getD k 0) (b.getD k 0).toNat (b.getD k 0).toNat_lt,UInt8.ofNat_toNat,AR,Ae (by omega),Az];have e:(Fb a b)[k]'(by omega)=a.getD k 0 ^^^ b.getD k 0:=by
    unfold Fb;rw [List.getElem_zipWith,Aa,Aa,Ae hk',Ae (by omega)];try rfl
   rw [e];try rfl
  repeat' (refine z_ ?_;conv=>whnf)
  apply z8 (0) tys_ok mixed (.o [0,1,2,3,4,5,6,7,8,9,10,11,12] .fin) [5,13,14,15,16,17,18,19,20,21,22,23,24] (by kernel_rfl)
  ·conv=>whnf
   try (refine tI ?_;conv=>whnf)
   try (refine tI ?_;conv=>whnf)
   try (refine tJ ?_;conv=>whnf)
   try (refine tK ?_;conv=>whnf)
   exact tA
  conv=>whnf
  rw [Ac];exact⟨k+1,hk',by omega,zR (s:= [0]) ⟨⟨rfl,rfl,rfl,AH (by omega),tv⟩,⟨congrArg (fun z=>some (AB.row 5 1 z)) hx2,tv⟩,rfl,rfl,rfl,rfl,rfl⟩⟩
 ·have ek:k=a.length:=by omega
  subst ek;rw [<-hx,Aw];refine⟨(by rw [Ab]),?_⟩;exact⟨bA (Fb a b),E0 rfl rfl,rfl⟩
theorem JC {t:List Ent} {had:List (List UInt8)} {i k:Nat} (h:DG t had i k=none):∀ m,k<=m->DG t had i m=none
 | 0,hm=>by
  obtain rfl:k=0:=by omega
  exact h
 | m+1,hm=>by
  by_cases e:k=m+1
  ·exact e ▸ h
  ·rw [DG,JC h m (by omega)]
def Ev (l:List (List UInt8)):AV:= .sl 1 l.length fun i=> [bA (l.getD i [])]
theorem TI (g:Geo) (t:List Ent) (had:List (List UInt8)) (i:Nat) (hg:Bp g=true) (ht:(t.length:Int)=g.d+1) (hh:(had.length:Int)=g.d+1) (hb:∀ b∈had,b.length=0\/b.length=8) (hi:(i:Int)<=g.d):Fn Tryz.prog 81 [.ag (AT g), .ag [Bm t],Ev had,iv i] fun r=>r=bA (BL g t had i):=by
 obtain⟨g1,g2,g3,g4,g5⟩:=As.1 hg;have hi1:i<t.length:=by omega
 have hi2:i<had.length:=by omega
 unfold BL;cases hL:(t.getD i ⟨0,0,false⟩).lost with
 | true=>
  rw [if_pos (show (t.getD i ez).lost=true from hL)];refine zS Tryz.func81 rfl ?_;refine⟨⟨by omega,by omega⟩,?_⟩;conv=>whnf
  rw [Ac,hL];exact⟨bA [],Bh 1 _,rfl⟩
 | false=>
  rw [if_neg (show ¬(t.getD i ez).lost=true by rw [show t.getD i ez=t.getD i ⟨0,0,false⟩ from rfl,hL];decide)];by_cases h0:0<(had.getD i []).length
  ·rw [if_pos h0];have ht8:=hb _ (A6 (d:= []) hi2);have h2:=Ez (had.getD i []) (by omega);refine zS Tryz.func81 rfl ?_;refine⟨⟨by omega,by omega⟩,?_⟩;conv=>whnf
   rw [Ac,hL];refine⟨⟨by omega,by omega⟩,?_⟩;conv=>whnf
   rw [Ac,show decide (((had.getD i []).length:Int) > 0)=true from decide_eq_true (by omega)];refine⟨⟨by omega,by omega⟩,?_⟩;conv=>whnf
   rw [Ac];refine zZ h2 ?_;exact⟨_,ri,rfl⟩
  ·rw [if_neg h0];have hz8:(List.replicate 8 [AV.v (.int .u8 0)])=zero8.map Ej:=rfl;refine zS Tryz.func81 rfl ?_;refine⟨⟨by omega,by omega⟩,?_⟩;conv=>whnf
   rw [Ac,hL];refine⟨⟨by omega,by omega⟩,?_⟩;conv=>whnf
   rw [Ac,show decide (((had.getD i []).length:Int) > 0)=false from decide_eq_false (by omega)];refine⟨⟨rfl,by decide,by decide⟩,?_⟩;conv=>whnf
   refine zU (Nat × List UInt8) (fun x=>([(2,Ev had),(3,iv (i:Nat)),(4, .bp 0 0),(5, .bp 1 0),(9,bA x.2),(10,iv (x.1:Nat))], [.box 23 (AT g), .box 70 [Bm t]])) (fun x=>x.1<=g.d.toNat+1/\DG t had i x.1=some x.2) (fun x=>g.d.toNat+1 - x.1) (0,zero8) ⟨Aj _,rfl⟩
    (zF (zQ (zL 9 2 rfl rfl) (zI 9 rfl (E0 (L:=zero8) rfl rfl))) (s:= [0,1]) tA) ?_
   rintro⟨k,b⟩ ⟨hk,hI⟩;simp only at hk hI;have hb8:=Ib hb k b hI;have hstep:DG t had i (k+1)=if k=i\/(t.getD k ⟨0,0,false⟩).lost=true then some b else if (had.getD k []).length=0 then none else some (Fb b (had.getD k [])):=by rw [DG,hI];try rfl
   conv=>whnf
   refine A8 (fun h6=>?_) (fun h6=>?_) <;> (repeat rw [Ac] at h6) <;> conv=>whnf
   ·have hk1:k<t.length:=by omega
    have hk2:k<had.length:=by omega
    have hgo:∀ c,DG t had i (k+1)=some c->∃ x':Nat × List UInt8,(x'.1<=g.d.toNat+1/\DG t had i x'.1=some x'.2)/\g.d.toNat+1 - x'.1<g.d.toNat+1 - k/\x'=(k+1,c):=fun c h=>⟨(k+1,c),⟨by show k+1<=_;omega,h⟩,by show g.d.toNat+1 - (k+1)<_;omega,rfl⟩
    repeat' (refine z_ ?_;conv=>whnf)
    by_cases hki:k=i
    ·rw [show (((k:Nat):Int) == ((i:Nat):Int))=true by rw [hki];exact beq_self_eq_true _];conv=>whnf
     rw [if_pos (.inl hki)] at hstep;obtain⟨x',h1,h2,rfl⟩:=hgo b hstep;exact⟨_,h1,h2,zR (s:= [0,1]) ⟨⟨rfl,rfl,rfl,rfl,rfl,AH (by omega),tv⟩,tA,rfl,rfl,rfl,rfl,rfl⟩⟩
    ·rw [show (((k:Nat):Int) == ((i:Nat):Int))=false by rw [beq_eq_false_iff_ne];omega];refine⟨⟨by omega,by omega⟩,?_⟩;conv=>whnf
     rw [Ac];cases hkl:(t.getD k ⟨0,0,false⟩).lost with
     | true=>
      conv=>whnf
      rw [if_pos (.inr hkl)] at hstep;obtain⟨x',h1,h2,rfl⟩:=hgo b hstep;exact⟨_,h1,h2,zR (s:= [0,1]) ⟨⟨rfl,rfl,rfl,rfl,rfl,AH (by omega),tv⟩,tA,rfl,rfl,rfl,rfl,rfl⟩⟩
     | false=>
      conv=>whnf
      rw [if_neg (by rw [hkl];simp [hki])] at hstep;repeat' (refine z_ ?_;conv=>whnf)
      refine Af ⟨by show (0:Int)<=(k:Nat);omega,by show ((k:Nat):Int)<_;omega⟩ ?_;conv=>whnf
      rw [show ((((k,b):Nat × List UInt8).1:Nat):Int).toNat=k from Ac k];by_cases h8:(had.getD k []).length=0
      ·rw [show (((had.getD k []).length:Int) == 0)=true by rw [h8];try rfl];conv=>whnf
       rw [if_pos h8] at hstep;rw [JC hstep (g.d.toNat+1) (by omega)];exact⟨bA [],Bh 1 _,rfl⟩
      ·rw [show (((had.getD k []).length:Int) == 0)=false by rw [beq_eq_false_iff_ne];omega];conv=>whnf
       refine Af ⟨by show (0:Int)<=(k:Nat);omega,by show ((k:Nat):Int)<_;omega⟩ ?_;conv=>whnf
       rw [show ((((k,b):Nat × List UInt8).1:Nat):Int).toNat=k from Ac k];rw [if_neg h8] at hstep;have hk8:=hb _ (A6 (d:= []) hk2);have h2:=S7 b (had.getD k []) (by omega) (by omega);refine zZ h2 ?_;conv=>whnf
       obtain⟨x',h1,h2,rfl⟩:=hgo _ hstep;exact⟨_,h1,h2,zR (s:= [0,1]) ⟨⟨rfl,rfl,rfl,rfl,rfl,AH (by omega),tv⟩,tA,rfl,rfl,rfl,rfl,rfl⟩⟩
   ·have ek:k=g.d.toNat+1:=by omega
    subst ek;have hs:=J6 b (by omega);rw [hI];simp only;apply zP tys_ok mixed (.o [0,2,3,4,5,6,7,1,8] .fin) [58,59,60,61,62,63,64,65,66] (by kernel_rfl)
    ·conv=>whnf
     try (refine Af (by first | omega | exact ixA | exact ixB | (simp;done)) ?_;conv=>whnf)
     refine zZ hs ?_;exact tA
    conv=>whnf
    conv=>whnf
    rw [Ac];by_cases hq:((C4 b:Nat):Int)=(t.getD i ⟨0,0,false⟩).sum
    ·rw [if_pos (show ((C4 b:Nat):Int)=(t.getD i ez).sum from hq),show (((C4 b:Nat):Int) != (t.getD i ⟨0,0,false⟩).sum)=false by simpa using hq];exact⟨_,ri,rfl⟩
    ·rw [if_neg (show ¬((C4 b:Nat):Int)=(t.getD i ez).sum from hq),show (((C4 b:Nat):Int) != (t.getD i ⟨0,0,false⟩).sum)=true from bne_iff_ne.2 hq];exact⟨bA [],Bh 1 _,rfl⟩
theorem Rt (g:Geo) (z:Int) (t:List Ent) (par:List UInt8) (at_:Int) (b:List UInt8) (hg:Bp g=true) (ht:FX g t=true) (hp:par.length=8) (hb:b.length=8):Fn Tryz.prog 86 [iv z, .ag [Bm t],bA par,iA [at_],Ev [b]] fun r=>r=Dm (BU z t par [at_] [b]):=by
 have h1:=Ez par (by omega);have h2:=Ez b (by omega);have hh:=ht;simp only [FX,Ad,decide_eq_true_eq,Au] at hh;obtain⟨⟨⟨_,t1⟩,t2⟩,_⟩:=hh;obtain⟨g1,g2,g3,g4,g5⟩:=As.1 hg;have h3:=S0 t (by omega) (fun e he=>by have:=t2 e he;simp only [DR,HJ,Ad,AF] at this;omega);refine zS Tryz.func86 rfl ?_;conv=>whnf
 refine zU Nat (fun k=>([(0,iv z),(2,bA par),(3,iA [at_]),(4,Ev [b]),(6, .bp 0 0),(11, .ow 1 k),(12,iv k)], [.box 70 [Bm t], .row 166 3 ((([⟨z,at_,b⟩]:List Img).take k).map D8)])) (fun k=>k<=1) (fun k=>1 - k) 0 (by decide)
  ⟨_,_,zG _ _, [(11,166,3)],tA, [0,1],tA⟩ ?_
 intro k hk;conv=>whnf
 refine A8 (fun h6=>?_) (fun h6=>?_) <;> conv=>whnf
 ·have ek:k=0:=by simp only [Ao,Be] at h6;omega
  subst ek;apply zW (0) tys_ok mixed (.o [0,1,2,3,4,5,6,7,8,9,10,11,12,13,14] .fin) (by kernel_rfl);conv=>whnf
  try (refine tI ?_;conv=>whnf)
  try (refine tI ?_;conv=>whnf)
  refine zZ h2 ?_;conv=>whnf
  try (refine tJ ?_;conv=>whnf)
  try (refine tK ?_;conv=>whnf)
  all_goals exact⟨1,by omega,by omega,zR (s:= [0,1]) tA⟩
 ·have ek:k=1:=by simp only [Ao,Be] at h6;omega
  subst ek;apply zW (0) tys_ok mixed (.o [0,1,2,5,6,3,4,7,8,9,10,11] .fin) (by kernel_rfl);conv=>whnf
  refine zZ h1 ?_;conv=>whnf
  refine zZ h3 ?_;conv=>whnf
  try (refine tJ ?_;conv=>whnf)
  try (refine tK ?_;conv=>whnf)
  all_goals refine Af rfl ?_
  all_goals conv=>whnf
  all_goals exact⟨Dm (BU z t par [at_] [b]),Bb (f:=D8) (BU z t par [at_] [b]) rfl rfl,rfl⟩
theorem Tn (b:List UInt8):Fn Tryz.prog 264 [bA b] fun r=>r = .v (.bool (((b.length:Nat):Int) != 8)):=by
 refine zS Tryz.func264 rfl ?_;exact⟨_,ri,rfl⟩
theorem Zt (l:List (List UInt8))  (hl:l.length<=1000000):Fn Tryz.prog 261 [Ev l, .v (.func (.func 264) #[] #[])] fun r=>r = iv (Vg (fun b=>(((b.length:Nat):Int) != 8)) l):=by
 refine zS Tryz.func261 rfl ?_;conv=>whnf
 refine zO Nat (fun k=>([(0,Ev l),(1, .v (.func (.func 264) #[] #[])),(7,iv l.length),(8,iv k)], [])) (fun k=>k<=l.length/\(l.take k).any (fun b=>(((b.length:Nat):Int) != 8))=false) (fun k=>l.length - k) 0 ⟨Aj _,by simp⟩ ⟨[],tv,tA,tv,rfl,rfl,rfl⟩ ?_;rintro k ⟨hk,hI⟩;conv=>whnf
 refine Ak (fun h2=>?_) (fun h2=>?_) <;> simp at h2 <;> conv=>whnf
 ·refine⟨by first | omega | (refine⟨rfl,?_,?_⟩ <;> first | omega | (simp only [Ab];done) | (simp only [Ab];omega)) | (simp only [Ab];omega),?_⟩;conv=>whnf
  refine zZ (Tn (l.getD k [])) ?_;conv=>whnf
  refine Ak (fun h3=>?_) (fun h3=>?_) <;> conv=>whnf
  ·exact⟨_,ri,by rw [I3 (d:= []) h2 hI (by first | exact h3 | (rw [Ac] at h3;exact h3) | simpa using h3)]⟩
  ·refine⟨k+1,⟨by omega,Eh (d:= []) h2 hI (by first | exact h3 | (rw [Ac] at h3;exact h3) | simpa using h3)⟩,by omega, [],tv,⟨rfl,rfl,rfl,AH (by omega),tv⟩,tv,rfl,rfl,rfl⟩
 ·exact⟨_,ri,by rw [A7 h2] at hI;rw [GW hI]⟩
theorem Zu (l:List (List UInt8))  (hl:l.length<=1000000):Fn Tryz.prog 228 [Ev l, .v (.func (.func 264) #[] #[])] fun r=>r = .v (.bool (l.any (fun b=>(((b.length:Nat):Int) != 8)))):=by
 refine zS Tryz.func228 rfl ?_;conv=>whnf
 refine zZ (Zt l  hl) ?_;exact⟨_,ri,by rw [Ko]⟩

theorem J_ (l:List (List UInt8)) (hl:l.length<=1000000) (h:∀ b∈l,b.length=8):Fn Tryz.prog 234 [Ev l] fun r=>r = .v (.bool true):=by
 have hc:=Zu l hl;have e:(l.any fun b=>(((b.length:Nat):Int) != 8))=false:=by
  rw [List.any_eq_false];intro b hb;rw [h b hb];decide
 rw [e] at hc;refine zS Tryz.func234 rfl ?_;conv=>whnf
 refine zZ hc ?_;exact⟨_,ri,rfl⟩
theorem Tk (b:List UInt8):Fn Tryz.prog 227 [bA b] fun r=>r = .v (.bool ((((b.length:Nat):Int) != 0)&&(((b.length:Nat):Int) != 8))):=by
 refine zS Tryz.func227 rfl ?_;conv=>whnf
 by_cases h:((b.length:Nat):Int)=0
 ·rw [show (((b.length:Nat):Int) != 0)=false from bne_eq_false_iff_eq.2 h];exact⟨_,ri,rfl⟩
 ·rw [show (((b.length:Nat):Int) != 0)=true from bne_iff_ne.2 h];exact⟨_,ri,by rw [Bw]⟩
theorem Zi (l:List (List UInt8))  (hl:l.length<=1000000):Fn Tryz.prog 261 [Ev l, .v (.func (.func 227) #[] #[])] fun r=>r = iv (Vg (fun b=>((((b.length:Nat):Int) != 0)&&(((b.length:Nat):Int) != 8))) l):=by
 refine zS Tryz.func261 rfl ?_;conv=>whnf
 refine zO Nat (fun k=>([(0,Ev l),(1, .v (.func (.func 227) #[] #[])),(7,iv l.length),(8,iv k)], [])) (fun k=>k<=l.length/\(l.take k).any (fun b=>((((b.length:Nat):Int) != 0)&&(((b.length:Nat):Int) != 8)))=false) (fun k=>l.length - k) 0 ⟨Aj _,by simp⟩ ⟨[],tv,tA,tv,rfl,rfl,rfl⟩ ?_;rintro k ⟨hk,hI⟩;conv=>whnf
 refine Ak (fun h2=>?_) (fun h2=>?_) <;> simp at h2 <;> conv=>whnf
 ·refine⟨by first | omega | (refine⟨rfl,?_,?_⟩ <;> first | omega | (simp only [Ab];done) | (simp only [Ab];omega)) | (simp only [Ab];omega),?_⟩;conv=>whnf
  refine zZ (Tk (l.getD k [])) ?_;conv=>whnf
  refine Ak (fun h3=>?_) (fun h3=>?_) <;> conv=>whnf
  ·exact⟨_,ri,by rw [I3 (d:= []) h2 hI (by first | exact h3 | (rw [Ac] at h3;exact h3) | simpa using h3)]⟩
  ·refine⟨k+1,⟨by omega,Eh (d:= []) h2 hI (by first | exact h3 | (rw [Ac] at h3;exact h3) | simpa using h3)⟩,by omega, [],tv,⟨rfl,rfl,rfl,AH (by omega),tv⟩,tv,rfl,rfl,rfl⟩
 ·exact⟨_,ri,by rw [A7 h2] at hI;rw [GW hI]⟩
theorem Zj (l:List (List UInt8))  (hl:l.length<=1000000):Fn Tryz.prog 228 [Ev l, .v (.func (.func 227) #[] #[])] fun r=>r = .v (.bool (l.any (fun b=>((((b.length:Nat):Int) != 0)&&(((b.length:Nat):Int) != 8))))):=by
 refine zS Tryz.func228 rfl ?_;conv=>whnf
 refine zZ (Zi l  hl) ?_;exact⟨_,ri,by rw [Ko]⟩

@[reducible] def zlH (g:Geo) (t:List Ent) (had:List (List UInt8)):List AB:= [.box 298 [iv g.d,Bm t,Ev had]]
def G8 (L b:List UInt8) (k:Nat):List UInt8:=Fb (L.take k) (b.take k) ++ L.drop k
theorem Ul {L b:List UInt8} (h:L.length<=b.length) (k:Nat):(G8 L b k).length=L.length:=by
 simp only [G8,Ai,Gf,Aq,Am];omega
theorem Um {L b:List UInt8} {k:Nat} (h:k<L.length) (h2:L.length<=b.length):(G8 L b k).getD k 0=L.getD k 0:=by
 have e:(Fb (L.take k) (b.take k)).length=k:=by rw [Gf,Aq,Aq];omega
 rw [G8,Aa,A2 (by omega),e,Cq,BI,C6,<-Aa]
theorem Uk {L b:List UInt8} {k:Nat} (h:k<L.length) (h2:L.length<=b.length):(G8 L b k).set k (L.getD k 0 ^^^ b.getD k 0)=G8 L b (k+1):=by
 have e:(Fb (L.take k) (b.take k)).length=k:=by rw [Gf,Aq,Aq];omega
 have e2:Fb (L.take (k+1)) (b.take (k+1))=Fb (L.take k) (b.take k) ++ [L.getD k 0 ^^^ b.getD k 0]:=by
  rw [AR,AR,Ae h,Ae (by omega),Fb,List.zipWith_append (by rw [Aq,Aq];omega),Aa,Aa,Ae h,Ae (show k<b.length by omega)];try rfl
 rw [G8,G8,D4 _ _ (by omega),e,Cq,Bj h,e2,A9];try rfl
theorem Uo {L b:List UInt8} (h:L.length=b.length):G8 L b L.length=Fb L b:=by
 rw [G8,List.drop_length,AL,Aw,h,Aw]
theorem Tg {l:List UInt8} {k:Nat} (h:k<l.length):(l.map Ej).getD k []=Ej (l.getD k 0):=Bc h
theorem Vj (L b:List UInt8) (h:L.length=b.length) (hl:L.length<=1000000):ACalls Tryz.prog false 263 [.ow 0 L.length,bA b] [.row 5 1 (L.map Ej)] fun r H=>r = .tp []/\H=[.row 5 1 ((Fb L b).map Ej)]:=by
 refine zT tys_ok Tryz.func263 rfl rfl (Ag rfl) ?_;conv=>whnf
 refine zU Nat (fun k=>([(0, .ow 0 L.length),(6,bA b),(7,iv (b.length:Nat)),(8,iv (k:Nat))], [.row 5 1 ((G8 L b k).map Ej)])) (fun k=>k<=b.length) (fun k=>b.length - k) 0 (Aj _)
  (zR (s:= [0]) tA) ?_
 intro k hk;conv=>whnf
 refine A8 (fun h6=>?_) (fun h6=>?_) <;> (repeat rw [Ac] at h6) <;> conv=>whnf
 ·have hk':k<b.length:=by omega
  have hml:=Ul (L:=L) (b:=b) (by omega) k;repeat' (refine z_ ?_;conv=>whnf)
  refine⟨⟨by omega,by omega⟩,?_⟩;conv=>whnf
  repeat' (refine z_ ?_;conv=>whnf)
  refine⟨⟨by omega,by omega⟩,?_⟩;refine⟨⟨rfl,by rw [Ab,hml],by omega⟩,?_⟩;rw [Ac,Tg (by omega),Um (by omega) (by omega)];refine⟨⟨by omega,by omega⟩,?_⟩;refine⟨⟨rfl,by rw [Ab,hml],by omega⟩,?_⟩;rw [Ac,Tg (by omega)];refine⟨k+1,hk',by omega,zR (s:= [0]) ⟨⟨rfl,rfl,rfl,AH (by omega),tv⟩,⟨?_,tv⟩,rfl,rfl,rfl,rfl,rfl⟩⟩;have e:((G8 L b k).map Ej).set k (Ej (L.getD k 0 ^^^ b.getD k 0))=(G8 L b (k+1)).map Ej:=by rw [<-Ca,Uk (by omega) (by omega)]
  have ex:=Vs (L.getD k 0) (b.getD k 0).toNat (b.getD k 0).toNat_lt;rw [UInt8.ofNat_toNat] at ex;rw [<-e];show some (AB.row _ _ _)=some (AB.row _ _ _);rw [show Ej (L.getD k 0 ^^^ b.getD k 0)=[AV.v (.int .u8 ((L.getD k 0 ^^^ b.getD k 0).toNat:Nat))] from rfl,<-ex]
 ·have ek:k=b.length:=by omega
  subst ek;exact⟨_, .tp [], [.row 5 1 ((Fb L b).map Ej)],fun _ _ h=>h,zR (s:= [0]) ⟨tA,⟨congrArg (fun z=>some (AB.row 5 1 (List.map Ej z))) (show G8 L b b.length=Fb L b by rw [<-h];exact Uo h),tv⟩,rfl,rfl,rfl,rfl,rfl⟩,rfl,rfl⟩
theorem Tm (l:List (List UInt8)) (hl:l.length<=1000000) (h:∀ b∈l,b.length=8):Fn Tryz.prog 262 [iv 8,Ev l] fun r=>r = .v (.bool true):=by
 refine zS Tryz.func262 rfl ?_;conv=>whnf
 refine zU Nat (fun k=>([(0,iv 8),(7,Ev l),(8,iv (l.length:Nat)),(9,iv (k:Nat))], [])) (fun k=>k<=l.length) (fun k=>l.length - k) 0 (Aj _)
  (zR (s:= []) tA) ?_
 intro k hk;conv=>whnf
 refine A8 (fun h6=>?_) (fun h6=>?_) <;> (repeat rw [Ac] at h6) <;> conv=>whnf
 ·have hk':k<l.length:=by omega
  have h8:=h _ (A6 (d:=([]:List UInt8)) hk');repeat' (refine z_ ?_;conv=>whnf)
  refine⟨⟨by omega,by omega⟩,?_⟩;conv=>whnf
  repeat' (refine z_ ?_;conv=>whnf)
  rw [show (((l.getD (k:Int).toNat []).length:Int) != 8)=false from bne_eq_false_iff_eq.2 (by rw [Ac,h8];try rfl)];exact⟨k+1,hk',by omega,zR (s:= []) ⟨⟨rfl,rfl,rfl,AH (by omega),tv⟩,tv,rfl,rfl,rfl,rfl,rfl⟩⟩
 ·exact⟨_,ri,rfl⟩
def G1 (l:List (List UInt8)):List UInt8:=l.foldl Fb zero8
theorem xorL_len:∀ (l:List (List UInt8)) (a:List UInt8),a.length=8->(∀ b∈l,b.length=8)->(l.foldl Fb a).length=8
 | [],_,h,_=>h
 | b::l,a,h,hl=>xorL_len l _ (by rw [Gf,h,hl b (by simp)];rfl) fun c hc=>hl c (by simp [hc])
theorem Oi (l:List (List UInt8)) (hl:l.length<=1000000) (h:∀ b∈l,b.length=8):Fn Tryz.prog 230 [Ev l,iv 8] fun r=>r = .tp [bA (G1 l),iv 0]:=by
 have ha:=Tm l hl h;refine zS Tryz.func230 rfl ?_;conv=>whnf
 refine zZ ha ?_;refine⟨⟨rfl,by decide,by decide⟩,?_⟩;conv=>whnf
 refine zU Nat (fun k=>([(0,Ev l),(6, .ow 0 8),(23,Ev l),(24,iv (l.length:Nat)),(25,iv (k:Nat))], [.row 5 1 ((G1 (l.take k)).map Ej)])) (fun k=>k<=l.length) (fun k=>l.length - k) 0 (Aj _)
  (zR (s:= [0]) tA) ?_
 intro k hk;conv=>whnf
 refine A8 (fun h6=>?_) (fun h6=>?_) <;> (repeat rw [Ac] at h6) <;> conv=>whnf
 ·have hk':k<l.length:=by omega
  have h8:=h _ (A6 (d:=([]:List UInt8)) hk');have hx:(G1 (l.take k)).length=8:=xorL_len _ _ rfl fun b hb=>h b (Cm hb)
  have hi:=Vj (G1 (l.take k)) (l.getD k []) (by omega) (by omega);rw [hx] at hi;have hs:Fb (G1 (l.take k)) (l.getD k [])=G1 (l.take (k+1)):=by
   unfold G1;rw [AR,BM,Aa,Ae hk'];try rfl
  rw [hs] at hi;repeat' (refine z_ ?_;conv=>whnf)
  refine⟨⟨by omega,by omega⟩,?_⟩;conv=>whnf
  rw [Ac];repeat' (refine z_ ?_;conv=>whnf)
  refine hi.mono ?_;rintro _ _ ⟨rfl,rfl⟩;exact⟨k+1,hk',by omega,zR (s:= [0]) ⟨⟨rfl,rfl,rfl,rfl,AH (by omega),tv⟩,tA,rfl,rfl,rfl,rfl,rfl⟩⟩
 ·have ek:k=l.length:=by omega
  subst ek;have hx:(G1 l).length=8:=xorL_len _ _ rfl h;rw [Aw];refine⟨(by rw [Ab,hx]),?_⟩;exact⟨.tp [bA (G1 l),iv 0],BW (m:= [bA (G1 l),iv 0]) ⟨E0 hx.symm rfl,ri,tv⟩,rfl⟩
theorem Qp (stamp:Int) (b:List UInt8) (hs:0<=stamp/\stamp<=4294967295) (hb:b.length=8):Fn Tryz.prog 236 [iv stamp,bA b] fun r=>r = .tp [.ag (Cb ⟨stamp,(C4 b:Nat),false⟩),iv 0]:=by
 have h1:=J2 b;refine zS Tryz.func236 rfl ?_;conv=>whnf
 rw [show decide (stamp<0)=false from decide_eq_false (by omega)];conv=>whnf
 rw [show decide (stamp > 4294967295)=false from decide_eq_false (by omega)];conv=>whnf
 rw [show ((b.length:Int) != 8)=false from bne_eq_false_iff_eq.2 (by rw [hb];try rfl)];conv=>whnf
 refine zZ h1 ?_;exact⟨_,ri,rfl⟩
theorem WZ (l:List Ent) (hl:l.length<=1000000000):ACalls Tryz.prog false 265 [Bm l] [] fun r H=>r = .ow 0 l.length/\H=[.row 97 3 (l.map Cb)]:=by
 refine zz tys_ok Tryz.func265 rfl rfl (by show 1<=_;decide) ?_;refine Af (fun h=>?_) ?_
 ·conv=>whnf
  have h0:=AZ.1 h;subst h0;exact⟨_, .ow 0 0, [.row 97 3 []],fun _ _ h=>h,zD ⟨[(0,97,3)],tA,tA,tA,rfl,rfl,rfl⟩,rfl,rfl⟩
 ·refine⟨⟨rfl,by omega⟩,?_⟩;exact⟨.ow 0 l.length, .ow 0 l.length, [.row 97 3 (l.map Cb)],fun _ _ h=>by rwa [A4] at h,zD ⟨[],tv,tA,⟨(congrArg (AB.row _ _) (Hr (d:=(⟨0,0,false⟩:Ent)) Cb l)).symm,tv⟩,rfl,rfl,rfl⟩,rfl,rfl⟩
theorem Tu (t:List Ent) (ht:t.length<=1000000):ACalls Tryz.prog false 235 [.ag [Bm t]] [] fun r H=>r = .ag [.ow 0 t.length]/\H=[.row 97 3 (t.map Cb)]:=by
 have h1:=WZ t (by omega);refine zT tys_ok Tryz.func235 rfl rfl (Ag rfl) ?_;conv=>whnf
 refine zV h1 rfl ?_;rintro _ _ ⟨rfl,rfl⟩;exact⟨.ag [.ow 2 t.length], .ag [.ow 0 t.length], [.row 97 3 (t.map Cb)],fun _ _ h=>h,zR (s:= [2]) tA,rfl,rfl⟩
theorem MQ (t:List Ent) (ht:t.length<=1000000):ACalls Tryz.prog false 152 [.ag [Bm t]] [] fun r H=>r = .ag [.ow 0 t.length]/\H=[.row 97 3 (t.map Cb)]:=by
 refine zT tys_ok Tryz.func152 rfl rfl (Ag rfl) ?_;refine⟨by omega,?_⟩;exact⟨.ag [.ow 2 t.length], .ag [.ow 0 t.length], [.row 97 3 (t.map Cb)],fun _ _ h=>h,zR (s:= [2]) ⟨tA,⟨congrArg (fun z=>some (AB.row 97 3 z)) (Hr (d:=(⟨0,0,false⟩:Ent)) Cb t),tv⟩,rfl,rfl,rfl,rfl,rfl⟩,rfl,rfl⟩
section
variable (g:Geo) (t:List Ent) (had:List (List UInt8)) (ats:List Int) (bs:List (List UInt8)) (stamp:Int)
def YI (i k:Nat):List UInt8:=match CR ats bs i k with
 | some b=>b
 | none=>BL g t had i
def JO (i k:Nat):Ent:=match CR ats bs i k with
 | some b=>⟨stamp,(C4 b:Nat),false⟩
 | none=>t.getD i ez
def DL (i:Nat):List Ent:=(List.range i).map (IF g t had ats bs stamp) ++ t.drop i
theorem JB {i:Nat} (h:i<=t.length):(DL g t had ats bs stamp i).length=t.length:=by simp [DL];omega
theorem JA {i:Nat} (h:i<t.length) (e:Ent):(DL g t had ats bs stamp i).set i e=(List.range i).map (IF g t had ats bs stamp) ++ e::t.drop (i+1):=by
 rw [DL,D4 _ _ (by simp),Ab,Cg,Cq,Bj h];try rfl
theorem Wj {i:Nat} (h:i<t.length):(DL g t had ats bs stamp i).set i (t.getD i ez)=DL g t had ats bs stamp i:=by
 rw [JA g t had ats bs stamp h,DL,Bj h,Aa,Ae h];try rfl
theorem GS {i:Nat} (h:i<t.length):(DL g t had ats bs stamp i).set i (IF g t had ats bs stamp i)=DL g t had ats bs stamp (i+1):=by
 rw [JA g t had ats bs stamp h,DL,Bd,Az,A9];try rfl
end
theorem S3 {α β:Type} (f:α->β) (l:List α) (i:Nat) (c e:α):((l.set i c).map f).set i (f e)=(l.set i e).map f:=by
 rw [Ca,Ca,List.set_set]
theorem SZ {l:List Ent} {i:Nat} (h:i<l.length) (c:Ent):((l.set i c).map Cb).getD i []=Cb c:=by
 rw [Aa,AS,AD h];try rfl
theorem P3 (g:Geo) (t:List Ent) (had:List (List UInt8)) (ats:List Int) (bs:List (List UInt8)) (stamp:Int) (hg:Bp g=true) (ht:FX g t=true) (hh:(had.length:Int)=g.d+1) (hb:∀ b∈had,b.length=0\/b.length=8) (hn:ats.length=bs.length) (h8:∀ b∈bs,b.length=8) (hl:ats.length<=1000):Fn Tryz.prog 85 [.ag (AT g), .ag [Bm t],Ev had,iA ats,Ev bs,iv stamp] fun r=>r = .tp [.ag [Bm (Br g t had ats bs stamp)],bA (DA g t had ats bs g.d.toNat)]:=by
 obtain⟨g1,g2,g3,g4,g5⟩:=As.1 hg;have hh2:=ht;simp only [FX,Ad,decide_eq_true_eq,Au] at hh2;obtain⟨⟨⟨_,t1⟩,t2⟩,_⟩:=hh2;have htw:=MQ t (by omega);refine zS Tryz.func85 rfl ?_;conv=>whnf
 refine zV htw rfl ?_;rintro _ _ ⟨rfl,rfl⟩;refine⟨⟨rfl,by decide,by decide⟩,?_⟩;conv=>whnf
 refine zU Nat (fun i=>([(2,Ev had),(3,iA ats),(4,Ev bs),(5,iv stamp),(6, .bp 0 0),(7, .bp 1 0),(12, .bp 2 0),(14, .bp 3 0),(15,bA (DA g t had ats bs i)),(16,iv (i:Nat))], [.box 23 (AT g), .box 70 [Bm t], .box 70 [.v (.slice none 0 0)], .box 70 [.ow 4 t.length], .row 97 3 ((DL g t had ats bs stamp i).map Cb)])) (fun i=>i<=g.d.toNat) (fun i=>g.d.toNat - i) 0 (Aj _)
  (zF (zQ (zL 15 5 rfl rfl) (zI 15 rfl (E0 (L:=zero8) rfl rfl))) (s:= [0,1,2,4,3]) tA) ?_
 intro i hi;conv=>whnf
 refine A8 (fun h6=>?_) (fun h6=>?_) <;> (repeat rw [Ac] at h6) <;> conv=>whnf
 ·have hk:=TI g t had i hg t1 hh hb (by omega);have hit:i<t.length:=by omega
  have hlo:=JB g t had ats bs stamp (Nat.le_of_lt hit);refine zZ hk ?_;conv=>whnf
  refine zU Nat (fun k=>([(2,Ev had),(3,iA ats),(4,Ev bs),(5,iv stamp),(6, .bp 0 0),(7, .bp 1 0),(12, .bp 2 0),(14, .bp 3 0),(15,bA (DA g t had ats bs i)),(16,iv (i:Nat)),(17,bA (YI g t had ats bs i k)),(18,iv (k:Nat))], [.box 23 (AT g), .box 70 [Bm t], .box 70 [.v (.slice none 0 0)], .box 70 [.ow 4 t.length], .row 97 3 (((DL g t had ats bs stamp i).set i (JO t ats bs stamp i k)).map Cb)])) (fun k=>k<=ats.length) (fun k=>ats.length - k) 0 (Aj _)
   (zR (s:= [0,1,2,3,4]) ⟨tA,⟨rfl,rfl,rfl,rfl,congrArg (fun z=>some (AB.row 97 3 z)) (show (DL g t had ats bs stamp i).map Cb=((DL g t had ats bs stamp i).set i (JO t ats bs stamp i 0)).map Cb by rw [show JO t ats bs stamp i 0=t.getD i ez from rfl,Wj g t had ats bs stamp hit]),tv⟩,rfl,rfl,rfl,rfl,rfl⟩) ?_
  intro k hk2;conv=>whnf
  refine A8 (fun h7=>?_) (fun h7=>?_) <;> (repeat rw [Ac] at h7) <;> conv=>whnf
  ·have hk3:k<ats.length:=by omega
   have hp:CR ats bs i (k+1)=if ats.getD k 0=(i:Int) then some (bs.getD k []) else CR ats bs i k:=rfl
   repeat' (refine z_ ?_;conv=>whnf)
   refine⟨⟨by omega,by omega⟩,?_⟩;conv=>whnf
   rw [Ac];by_cases hq:ats.getD k 0=(i:Int)
   ·rw [if_pos hq] at hp;rw [show (ats.getD k 0 == ((i:Nat):Int))=true by rw [hq];exact beq_self_eq_true _];refine⟨⟨by omega,by omega⟩,?_⟩;conv=>whnf
    rw [Ac];repeat' (refine z_ ?_;conv=>whnf)
    have hbk:=h8 _ (A6 (d:= []) (show k<bs.length by omega));have he:=MG stamp (bs.getD k []) (by omega);apply zW (0) tys_ok mixed (.o [0,1,2,3,4,5,6,7] .fin) (by kernel_rfl);conv=>whnf
    refine zZ he ?_;conv=>whnf
    try (refine tI ?_;conv=>whnf)
    try (refine tS ?_;conv=>whnf)
    all_goals rw [Ac,SZ (by omega)]
    all_goals conv=>whnf
    all_goals exact⟨k+1,by omega,by omega,WkN.r (s:= [0,1,2,3,4]) ⟨⟨rfl,rfl,rfl,rfl,rfl,rfl,rfl,rfl,rfl,rfl,congrArg bA (by unfold YI;rw [hp]),AH (by omega),tv⟩,⟨rfl,rfl,rfl,rfl,congrArg (fun z=>some (AB.row 97 3 z)) (show (((DL g t had ats bs stamp i).set i (JO t ats bs stamp i k)).map Cb).set i (Cb ⟨stamp,(C4 (bs.getD k []):Nat),false⟩)=((DL g t had ats bs stamp i).set i (JO t ats bs stamp i (k+1))).map Cb by rw [S3];unfold JO;rw [hp]),tv⟩,rfl,rfl,rfl,rfl,rfl⟩⟩
   ·rw [if_neg hq] at hp;rw [show (ats.getD k 0 == ((i:Nat):Int))=false by rw [beq_eq_false_iff_ne];exact hq];conv=>whnf
    exact⟨k+1,by omega,by omega,WkN.r (s:= [0,1,2,3,4]) ⟨⟨rfl,rfl,rfl,rfl,rfl,rfl,rfl,rfl,rfl,rfl,congrArg bA (by unfold YI;rw [hp]),AH (by omega),tv⟩,⟨rfl,rfl,rfl,rfl,congrArg (fun z=>some (AB.row 97 3 z)) (show ((DL g t had ats bs stamp i).set i (JO t ats bs stamp i k)).map Cb=((DL g t had ats bs stamp i).set i (JO t ats bs stamp i (k+1))).map Cb by unfold JO;rw [hp]),tv⟩,rfl,rfl,rfl,rfl,rfl⟩⟩
  ·have ek:k=ats.length:=by omega
   subst ek;have eB:YI g t had ats bs i ats.length=FO g t had ats bs i:=rfl;rw [eB];by_cases h0:(FO g t had ats bs i).length=0
   ·rw [show (((FO g t had ats bs i).length:Int) == 0)=true by rw [h0];try rfl];refine⟨⟨by omega,by omega⟩,?_⟩;refine⟨⟨rfl,by rw [Ab,AW,hlo],by omega⟩,?_⟩;rw [Ac,SZ (by omega)];conv=>whnf
    have eP:DA g t had ats bs (i+1)=DA g t had ats bs i:=by rw [DA,if_pos h0]
    have eE : { JO t ats bs stamp i ats.length with lost:=true }=IF g t had ats bs stamp i:=by unfold IF;simp only;rw [if_pos h0];try rfl
    exact⟨i+1,by omega,by omega,zR (s:= [0,1,2,3,4]) ⟨⟨rfl,rfl,rfl,rfl,rfl,rfl,rfl,rfl,congrArg bA eP.symm,AH (by omega),tv⟩,⟨rfl,rfl,rfl,rfl,congrArg (fun z=>some (AB.row 97 3 z)) (show (((DL g t had ats bs stamp i).set i (JO t ats bs stamp i ats.length)).map Cb).set i (Cb { JO t ats bs stamp i ats.length with lost:=true })=(DL g t had ats bs stamp (i+1)).map Cb by rw [S3,eE,GS g t had ats bs stamp hit]),tv⟩,rfl,rfl,rfl,rfl,rfl⟩⟩
   ·rw [show (((FO g t had ats bs i).length:Int) == 0)=false by rw [beq_eq_false_iff_ne];omega];have hn8:=Me (g:=g) (t:=t) (had:=had) (ats:=ats) (bs:=bs) hb h8 (by omega) i;have hpl:=EI (g:=g) (t:=t) (had:=had) (ats:=ats) (bs:=bs) hb h8 (by omega) i;have htwo:=S7 (DA g t had ats bs i) (FO g t had ats bs i) (by omega) (by omega);conv=>whnf
    refine zZ htwo ?_;conv=>whnf
    have eP:DA g t had ats bs (i+1)=Fb (DA g t had ats bs i) (FO g t had ats bs i):=by rw [DA,if_neg h0]
    have eE:JO t ats bs stamp i ats.length=IF g t had ats bs stamp i:=by unfold IF;simp only;rw [if_neg h0];try rfl
    rw [<-eP];exact⟨i+1,by omega,by omega,zR (s:= [0,1,2,3,4]) ⟨⟨rfl,rfl,rfl,rfl,rfl,rfl,rfl,rfl,rfl,AH (by omega),tv⟩,⟨rfl,rfl,rfl,rfl,congrArg (fun z=>some (AB.row 97 3 z)) (show ((DL g t had ats bs stamp i).set i (JO t ats bs stamp i ats.length)).map Cb=(DL g t had ats bs stamp (i+1)).map Cb by rw [eE,GS g t had ats bs stamp hit]),tv⟩,rfl,rfl,rfl,rfl,rfl⟩⟩
 ·have ei:i=g.d.toNat:=by omega
  subst ei;have hp8:=EI (g:=g) (t:=t) (had:=had) (ats:=ats) (bs:=bs) hb h8 (by omega) g.d.toNat;have he:=MG stamp (DA g t had ats bs g.d.toNat) (by omega);apply zW (0) tys_ok mixed (.o [0,1,2,3,4,5,6,7,8] .fin) (by kernel_rfl);conv=>whnf
  refine zZ he ?_;conv=>whnf
  try (refine tI ?_;conv=>whnf)
  try (refine tS ?_;conv=>whnf)
  have hdl:g.d.toNat<t.length:=by omega
  have hlo:=JB g t had ats bs stamp (Nat.le_of_lt hdl);have eW:(DL g t had ats bs stamp g.d.toNat).set g.d.toNat ⟨stamp,(C4 (DA g t had ats bs g.d.toNat):Nat),false⟩=Br g t had ats bs stamp:=by
   rw [JA g t had ats bs stamp hdl,Br,AE (by omega)]
  have hgl:((DL g t had ats bs stamp g.d.toNat).map Cb).getD g.d.toNat []=Cb ((DL g t had ats bs stamp g.d.toNat).getD g.d.toNat ez):=Bc (by omega);all_goals refine Af ⟨rfl,by rw [Ab,hlo],hdl⟩ ?_
  all_goals rw [hgl]
  all_goals conv=>whnf
  have eR:((DL g t had ats bs stamp g.d.toNat).map Cb).set g.d.toNat (Cb ⟨stamp,(C4 (DA g t had ats bs g.d.toNat):Nat),false⟩)=(Br g t had ats bs stamp).map Cb:=by rw [<-Ca,eW]
  have eN:(Br g t had ats bs stamp).length=t.length:=by simp [Br];omega
  all_goals refine Af (by rw [AW,Ab,hlo]) ?_
  all_goals conv=>whnf
  all_goals exact⟨.tp [.ag [Bm (Br g t had ats bs stamp)],bA (DA g t had ats bs g.d.toNat)],BW ⟨Bi ⟨Bb (f:=Cb) (Br g t had ats bs stamp) eN.symm eR,tv⟩,ri,tv⟩,rfl⟩
inductive TrJ where
 | fin
 | jump (k:Nat)
 | one (i:Nat) (r:TrJ)
 | non
 | alt (i:Nat) (a:TrJ) (r:TrJ)
def TrJ.o (l:List Nat) (t:TrJ):TrJ:=l.foldr .one t
abbrev Seg:=List Nat × Nat × TrJ
def segGet:List Seg->Nat->Option Seg
 | [],_=>none
 | x::_,0=>some x
 | _::r,k+1=>segGet r k
def TrJ.depth (sg:List Seg):TrJ->Nat
 | .fin=>0
 | .jump k=>match segGet sg k with | some s=>s.2.1 | none=>0
 | .one _ r=>r.depth sg+1
 | .non=>0
 | .alt _ a r=>max (a.depth sg+1) (r.depth sg)
def TrJ.alts:TrJ->List Nat
 | .alt i _ r=>i::r.alts
 | _=> []
def eqB:List Bool->List Bool->Bool
 | [], []=>true
 | a::l,b::m=>(a == b)&&eqB l m
 | _,_=>false
theorem eqB_eq:∀ {l m:List Bool},eqB l m=true->l=m
 | [], [],_=>rfl
 | a::l,b::m,h=>by
  simp only [eqB,Ad,beq_iff_eq] at h;rw [h.1,eqB_eq h.2]
 | [],_::_,h=>by simp [eqB] at h
 | _::_, [],h=>by simp [eqB] at h
def eqN:List Nat->List Nat->Bool
 | [], []=>true
 | a::l,b::m=>Nat.beq a b&&eqN l m
 | _,_=>false
theorem eqN_eq:∀ {l m:List Nat},eqN l m=true->l=m
 | [], [],_=>rfl
 | a::l,b::m,h=>by
  simp only [eqN,Ad] at h;rw [Al h.1,eqN_eq h.2]
 | [],_::_,h=>by simp [eqN] at h
 | _::_, [],h=>by simp [eqN] at h
def Od (n:Nat) (s:List Nat):Array Bool:=s.foldl (fun l i=>l.setIfInBounds i true) (Array.replicate n false)
abbrev Sts:=List (Fr × List AB)
def sget:Sts->Nat->Fr × List AB
 | [],_=>([], [])
 | x::_,0=>x
 | _::r,k+1=>sget r k
section
variable {P:Program} {ops:Array Oper} {B:List Nat} {Q:Exit->Act->World->Prop} {mk:Nat}
def G5 (ops:Array Oper) (B:List Nat) (mk:Nat) (sg:List Seg) (me:Nat):TrJ->Bool->Array Bool->Bool
 | .fin,f,l=>f&&(Region.ready .any ops l).isEmpty
 | .jump k,f,l=>f&&Nat.blt me k&&(match segGet sg k with | some s=>eqB l.toList (Od ops.size s.1).toList | none=>false)
 | .one i r,f,l=>f&&(match ops[i]? with
   | none=>false
   | some o=>match isEff o.op with
    | true=>(match Region.ready .any ops l with | [j]=>Nat.beq i j | _=>false)&&(qM mk i o.op || !JG ops B mk i)
    | false=>match mk.testBit i with
     | true=>(match Region.ready .any ops l with | [j]=>Nat.beq i j | _=>false)&&(qM mk i o.op || !JG ops B mk i)
     | false=>Region.free .any ops l i&&(Region.ready .any ops l).contains i)&&G5 ops B mk sg me r true (l.setIfInBounds i true)
 | .non,f,_=>!f
 | .alt i a r,f,l=>(!f || eqN (Region.ready .any ops l) (i::r.alts))&&K_ ops B mk i&&G5 ops B mk sg me a true (l.setIfInBounds i true)&&G5 ops B mk sg me r false l
def PP (P:Program) (T:Tys) (n mk:Nat) (ops:Array Oper) (ds:List Nat) (st:Sts) (K:Fr->List AB->Prop):TrJ->Fr->List AB->Prop
 | .fin,fr,H=>K fr H
 | .jump k,fr,H=>canonK ds fr fun l=>l=(sget st k).1/\H=(sget st k).2
 | .one i r,fr,H=>Fe P T n mk ops i fr H fun fr H=>PP P T n mk ops ds st K r fr H
 | .non,_,_=>True
 | .alt i a r,fr,H=>(Fe P T n mk ops i fr H fun fr H=>PP P T n mk ops ds st K a fr H)/\PP P T n mk ops ds st K r fr H
def OD (P:Program) (T:Tys) (n mk:Nat) (ops:Array Oper) (ds:List Nat) (st:Sts) (K:Fr->List AB->Prop):List Seg->Nat->Prop
 | [],_=>True
 | s::r,k=>PP P T n mk ops ds st K s.2.2 (sget st k).1 (sget st k).2/\OD P T n mk ops ds st K r (k+1)
def Kb (ops:Array Oper) (B:List Nat) (mk:Nat) (sg:List Seg):List Seg->Nat->Bool
 | [],_=>true
 | s::r,k=>G5 ops B mk sg k s.2.2 true (Od ops.size s.1)&&Nat.ble (s.2.2.depth sg) s.2.1&&Kb ops B mk sg r (k+1)
variable {T:Tys} {w0:Fl} {M0:Ms} {n d0:Nat} {ce:Ctx}
theorem L_ {ds:List Nat} {st:Sts} {K:Fr->List AB->Prop}:∀ {sg:List Seg} {k0 k:Nat} {s:Seg},OD P T n mk ops ds st K sg k0->segGet sg k=some s->PP P T n mk ops ds st K s.2.2 (sget st (k0+k)).1 (sget st (k0+k)).2
 | [],_,_,_,_,h=>by simp [segGet] at h
 | x::r,k0,0,s,h,hs=>by
  simp only [segGet,Option.some.injEq] at hs;subst hs;exact h.1
 | x::r,k0,k+1,s,h,hs=>by
  have:=L_ (k:=k) h.2 hs;rw [show k0+(k+1)=k0+1+k by omega];exact this
theorem LJ {sg0:List Seg}:∀ {sg:List Seg} {k0 k:Nat} {s:Seg},Kb ops B mk sg0 sg k0=true->segGet sg k=some s->G5 ops B mk sg0 (k0+k) s.2.2 true (Od ops.size s.1)=true/\s.2.2.depth sg0<=s.2.1
 | [],_,_,_,_,h=>by simp [segGet] at h
 | x::r,k0,0,s,h,hs=>by
  simp only [segGet,Option.some.injEq] at hs;subst hs;simp only [Kb,Ad] at h;exact⟨h.1.1,Ag h.1.2⟩
 | x::r,k0,k+1,s,h,hs=>by
  simp only [Kb,Ad] at h;have:=LJ (k:=k) h.2 hs;rw [show k0+(k+1)=k0+1+k by omega];exact this
theorem segGet_lt:∀ {sg:List Seg} {k:Nat} {s:Seg},segGet sg k=some s->k<sg.length
 | [],_,_,h=>by simp [segGet] at h
 | _::_,0,_,_=>by simp
 | _::r,k+1,s,h=>by
  have:=segGet_lt (sg:=r) (k:=k) h;simp;omega
def Zg (P:Program) (T:Tys) (ops:Array Oper) (B:List Nat) (mk n:Nat) (Q:Exit->Act->World->Prop) (w0:Fl) (M0:Ms) (ce:Ctx) (st:Sts) (sg:List Seg) (k:Nat):Prop:=
 ∀ (s:Seg) (m:Nat) (c:Ctx) (a:Act),segGet sg k=some s->s.2.1<=m->Cl ops (Od ops.size s.1)->HS w0 M0 c (sget st k).2->FR w0 c n (sget st k).1 a->Ext ce c->HeldM P ops B mk Q m (Od ops.size s.1) a c.w
theorem F1 (hT:TOk P T) (hB:GA ops B=true) (hns:Region.noSelect ops=true) {ds:List Nat} {st:Sts} {sg:List Seg} {K:Fr->List AB->Prop} (hq:∀ a w,Ek w0 M0 ce n K a w->Q .normal a w) (hpan:∀ c a w,¬Q (.panic c) a w) {me:Nat} (hseg:∀ k,me<k->Zg P T ops B mk n Q w0 M0 ce st sg k) :
  ∀ (r:TrJ) (m:Nat) (l:Array Bool) (c:Ctx) (fr:Fr) (H:List AB) (a:Act),Cl ops l->HS w0 M0 c H->FR w0 c n fr a->Ext ce c->PP P T n mk ops ds st K r fr H->
   (G5 ops B mk sg me r true l=true->r.depth sg<=m->HeldM P ops B mk Q m l a c.w)/\
   (G5 ops B mk sg me r false l=true->r.depth sg<=m+1->∀ j∈r.alts,j∈Region.ready .any ops l->wpOp P ops Q j (fun a' w'=>(JG ops B mk j=true->Old c.w w')/\HeldM P ops B mk Q m (l.setIfInBounds j true) a' w') a c.w)
 | .fin,m,l,c,fr,H,a,hcl,hs,hf,he,h=>by
  refine⟨fun hd hm=>?_,fun _ _ j hj=>by simp [TrJ.alts] at hj⟩;simp only [G5,Bw,List.isEmpty_iff] at hd;cases m with
  | zero=>exact⟨hd,hq _ _ ⟨c,fr,H,rfl,h,hs,hf,he⟩⟩
  | succ m=>exact⟨fun _=>hq _ _ ⟨c,fr,H,rfl,h,hs,hf,he⟩,by rw [hd];simp⟩
 | .jump k,m,l,c,fr,H,a,hcl,hs,hf,he,h=>by
  refine⟨fun hd hm=>?_,fun _ _ j hj=>by simp [TrJ.alts] at hj⟩;simp only [G5,Bw,Ad] at hd;simp only [TrJ.depth] at hm;obtain⟨hlt,hd⟩:=hd;cases hg:segGet sg k with
  | none=>rw [hg] at hd;simp at hd
  | some s=>
   rw [hg] at hd hm;simp only at hd hm;have hl:l=Od ops.size s.1:=Array.ext' (eqB_eq hd);obtain⟨e1,e2⟩:=canonK_iff h;subst hl;refine hseg k (At (Nat.lt_succ_self me) (Ag hlt)) s m c a hg hm hcl (e2 ▸ hs) (e1 ▸ hf.canon _) he
 | .non,m,l,c,fr,H,a,hcl,hs,hf,he,h=>by
  refine⟨fun hd hm=>by simp [G5] at hd,fun _ _ j hj=>by simp [TrJ.alts] at hj⟩
 | .alt i x r,m,l,c,fr,H,a,hcl,hs,hf,he,h=>by
  obtain⟨h1,h2⟩:=h;have key:∀ m,TrJ.depth sg (.alt i x r)<=m+1->K_ ops B mk i=true->G5 ops B mk sg me x true (l.setIfInBounds i true)=true->i∈Region.ready .any ops l->wpOp P ops Q i (fun a' w'=>(JG ops B mk i=true->Old c.w w')/\HeldM P ops B mk Q m (l.setIfInBounds i true) a' w') a c.w:=by
   intro m hm hk hx hr;simp only [TrJ.depth] at hm;unfold K_ at hk;split at hk
   ·rename_i o ho;refine FA hT ho hk hs hf he (fun c' fr' H' a' q1 q2 q3 q4=>(F1 hT hB hns hq hpan hseg x m _ c' fr' H' a' (hcl.set hr) q1 q2 q3 q4).1 hx (by omega)) h1
   ·cases hk
  refine⟨fun hd hm=>?_,fun hd hm j hj hr=>?_⟩
  ·simp only [G5,Bool.not_true,Bool.false_or,Ad] at hd;obtain⟨⟨⟨hr,hi⟩,hx⟩,hy⟩:=hd;have hr':=eqN_eq hr;cases m with
   | zero=>simp only [TrJ.depth] at hm;omega
   | succ m=>
    refine⟨fun h0=>(by rw [hr'] at h0;cases h0),fun j hj=>?_⟩;have hj0:=hj;rw [hr',AQ] at hj;rcases hj with rfl | hj
    ·exact key m hm hi hx hj0
    ·refine(F1 hT hB hns hq hpan hseg r m l c fr H a hcl hs hf he h2).2 hy ?_ j hj hj0;simp only [TrJ.depth] at hm;omega
  ·simp only [G5,Bool.not_false,Bool.true_or,Bw,Ad] at hd;obtain⟨⟨hi,hx⟩,hy⟩:=hd;simp only [TrJ.alts,AQ] at hj;rcases hj with rfl | hj
   ·exact key m hm hi hx hr
   ·refine(F1 hT hB hns hq hpan hseg r m l c fr H a hcl hs hf he h2).2 hy ?_ j hj hr;simp only [TrJ.depth] at hm;omega
 | .one i r,m,l,c,fr,H,a,hcl,hs,hf,he,h=>by
  refine⟨fun hd hm=>?_,fun _ _ j hj=>by simp [TrJ.alts] at hj⟩;cases m with
  | zero=>simp [TrJ.depth] at hm
  | succ m=>
   simp only [TrJ.depth,Nat.add_le_add_iff_right] at hm;simp only [G5,Bw,Ad] at hd;obtain⟨hd1,hd2⟩:=hd;simp only [PP] at h;cases ho:ops[i]? with
   | none=>rw [ho] at hd1;simp at hd1
   | some o=>
    rw [ho] at hd1;simp only at hd1;have only:(match Region.ready .any ops l with | [j]=>Nat.beq i j | _=>false)=true->(qM mk i o.op || !JG ops B mk i)=true->HeldM P ops B mk Q (m+1) l a c.w:=by
     intro hr hmq;have hr':Region.ready .any ops l=[i]:=by
      split at hr
      ·rename_i j hj;rw [hj,Al hr]
      ·cases hr
     have hri:i∈Region.ready .any ops l:=by rw [hr'];simp
     refine⟨fun h0=>(by rw [hr'] at h0;cases h0),fun j hj=>?_⟩;rw [hr',AC] at hj;subst hj;exact FA hT ho hmq hs hf he (fun c' fr' H' a' q1 q2 q3 q4=>(F1 hT hB hns hq hpan hseg r m _ c' fr' H' a' (hcl.set hri) q1 q2 q3 q4).1 hd2 hm) h
    cases hE:isEff o.op with
    | true=>
     rw [hE] at hd1;simp only [Ad] at hd1;exact only hd1.1 hd1.2
    | false=>
     rw [hE] at hd1;dsimp only at hd1;cases hM:mk.testBit i with
     | true=>
      rw [hM] at hd1;simp only [Ad] at hd1;exact only hd1.1 hd1.2
     | false=>
     rw [hM] at hd1;simp only [Ad] at hd1;obtain⟨hfree,hr⟩:=hd1;have hri:i∈Region.ready .any ops l:=by simpa using hr
     simp only [Fe,E6] at h;rw [show ops.toList[i]? = some o by simpa using ho] at h;simp only at h;have step:∀ v fr2,YieldsIf P ops (fun w'=>pureOp o.op=true\/Old c.w w') o v a->FR w0 c n fr2 (a.put o.dst v)->PP P T n mk ops ds st K r fr2 H->HeldM P ops B mk Q (m+1) l a c.w:=by
      intro v fr2 hy hf2 h2;exact HeldM.first1 hB ho hM hE (Region.noSelect_spec hns) (fun c a w h=>(hpan _ _ _ h).elim) m l a c.w hcl (Region.free_spec ho hfree) hri hy
       ((F1 hT hB hns hq hpan hseg r m _ c fr2 H _ (hcl.set hri) hs hf2 he h2).1 hd2 hm)
     rcases DH hf h with ⟨hw,fr',hf',h⟩ | ⟨hw,fr',hf',h⟩
     ·unfold HR at h;rw [hE] at h;obtain⟨rr,v,h1,h2,h3⟩:=(G_ hT hs hf' h).y;obtain⟨fr2,h4,h5⟩:=C8 hf' h3 h1;exact step v fr2 (.inl ⟨hw,h2⟩) h5 h4
     ·obtain⟨fr2,h4,h5⟩:=C8 (v:=undef) hf' (by simp [Rd]) h;exact step undef fr2 (.inr ⟨hw,rfl⟩) h5 h4
theorem LI (hT:TOk P T) (hB:GA ops B=true) (hns:Region.noSelect ops=true) {ds:List Nat} {st:Sts} {sg:List Seg} {K:Fr->List AB->Prop} (hq:∀ a w,Ek w0 M0 ce n K a w->Q .normal a w) (hpan:∀ c a w,¬Q (.panic c) a w) (hok:Kb ops B mk sg sg 0=true) (h:OD P T n mk ops ds st K sg 0):∀ (z k:Nat),sg.length<=z+k->Zg P T ops B mk n Q w0 M0 ce st sg k
 | 0,k,hz,s,m,c,a,hg,_,_,_,_,_=>by
  have:=segGet_lt hg;omega
 | z+1,k,hz,s,m,c,a,hg,hm,hcl,hs,hf,he=>by
  obtain⟨h1,h2⟩:=LJ hok hg;have h3:=L_ h hg;rw [A4] at h1 h3;exact(F1 hT hB hns hq hpan (fun k' hk'=>LI hT hB hns hq hpan hok h z k' (by omega)) s.2.2 m _ c _ _ a hcl hs hf he h3).1 h1 (by omega)
def Zc (ops:Array Oper) (mk:Nat) (sg:List Seg):Bool:=GA ops (K0 ops)&&Region.noSelect ops&&(match sg with | ([],d,_)::_=>Nat.ble d ops.size | _=>false)&&Kb ops (K0 ops) mk sg sg 0
theorem aDraw.dag (mk:Nat) (hT:TOk P T) (hm:P.follows .mixedOrders=true) {id:Nat} {K:Fr->List AB->Prop} {fr:Fr} {H:List AB} (sg:List Seg) (ds:List Nat) (st:Sts) {F:Fr} {H2:List AB} (hok:Zc ops mk sg=true)
  (h:OD P T n mk ops (ds ++ slots fr) ((fr,H)::st) (fun fr' H'=>canonK (ds ++ slots fr) fr' fun l=>l=F/\H'=H2) sg 0) (hk:K F H2):aDraw P T n d0 id ops K fr H:=by
 simp only [Zc,Ad] at hok;obtain⟨⟨⟨hB,hns⟩,hlen⟩,hok⟩:=hok;refine⟨fun w0 M0 ce c a hs hf he hd Q hQ=>?_⟩;refine wp_mono (Q:=fun e a w=>e = .normal/\Ek w0 M0 ce n (fun fr' H'=>canonK (ds ++ slots fr) fr' fun l=>l=F/\H'=H2) a w) ?_ ?_
 ·refine wp_region_any hm (HeldM.any (B:=K0 ops) (mk:=mk) _ _ _ _ ?_);have hb:=(Below.refl c.w.heap.size c.w).drew;obtain⟨h1,h2⟩:=hs.grow hb;have hcl:Cl ops (Array.replicate ops.size false):=by
   intro j o hj hlj;rcases B_ j ops.size with h' | h'
   ·simp [h'] at hlj
   ·simp [BN h'] at hj
  cases sg with
  | nil=>simp at hlen
  | cons s sg=>
   obtain⟨s1,d,tr⟩:=s;cases s1 with
   | cons _ _=>simp at hlen
   | nil=>
    exact LI (w0:=w0) (M0:=M0) (ce:=ce) (st:=(fr,H)::st) hT hB hns (fun a w hl=>⟨rfl,hl⟩) (fun c a w h=>by cases h.1) hok h _ 0 (Ah _) ([],d,tr) _ { c with w:=c.w.drew } a rfl (Ag hlen) hcl h1 (hf.ext h2) (he.trans h2)
 ·rintro e a w ⟨rfl,c',fr',H',rfl,h1,h2,h3,h4⟩;obtain⟨e1,rfl⟩:=canonK_iff h1;exact hQ c' F H' a hk h2 (e1 ▸ h3.canon _) h4
end
theorem SP {d:Dk} (hd:DkOk d) (hl:d.left<0) (k:Nat):Lv d k:=⟨hd.r, .inl hl⟩
theorem Ps (k:Nat) (d:Dk) (l:List Int):B6 (d.tick k) l=B6 d l:=rfl
theorem finL_two:∀ (l:List Wr) (cs:List Cel) (a:Nat),((CU cs l).getD a cz).state=2↔(cs.getD a cz).state=2:=fun l cs a=>by
 by_cases ha:a<cs.length
 ·by_cases h:(cs.getD a cz).state=2
  ·rw [finL_stuck l cs a ha h]
  ·rcases finL_any l cs a ha with e | ⟨_,e,_⟩
   ·rw [e]
   ·rw [e];exact⟨fun q=>absurd q (by decide),fun q=>absurd q h⟩
 ·rw [Aa,Aa,AG (by rw [finL_len];omega),AG (by omega)]
theorem WI (l:List Wr) (cs:List Cel):free (CU cs l)=free cs:=by
 funext w;unfold free;rw [CN,decide_eq_true_eq,decide_eq_true_eq];exact not_congr (finL_two l cs _)
def Mf (g:Geo) (w:List Wr):Nat:=g.an.toNat+2*g.sl.toNat+(if w=[] then 0 else w.length+1)+(g.an.toNat+1)
theorem OJ {g:Geo} {d:Dk} {a:An} {j:Nat} {L:List Tx} {w:List Wr} (hg:Bp g=true) (hd:DkOk d) (hn:(d.cells.length:Int)=Ay g) (hc:d.cache=[]) (hl:d.left<0) (hp:HH g (B6 d (DW g))=some (a,j)) (hs:FZ g a (B6 d (BO g 0)) (B6 d (BO g 1))=(L,w,0)) (h1:a.gen≠4294967295) (h2:a.epoch≠4294967295) (hw1:∀ z∈w,QR d.cells.length z) (hw2:w.length<=900) :
  DN g d=(⟨CU (CU d.cells w) (Bf g (DQ a L.length)), [],(d.tick (Mf g w)).reqs,d.left⟩,if ((Bf g (DQ a L.length)).filter (free d.cells)).length=0 then 14 else 0,if ((Bf g (DQ a L.length)).filter (free d.cells)).length=0 then st0 else AJ (DQ a L.length) L):=by
 obtain⟨g1,g2,g3,g4,g5⟩:=As.1 hg;have hao:=Ll hg _ hp;have hlv:∀ k,d.live k:=fun k=> .inl hl
 have htl:∀ k,(d.tick k).left=d.left:=fun k=>if_pos hl
 have hr:=hd.r;unfold DN;rw [if_pos (hlv _),hp];simp only;unfold Kh;rw [JU _ (SP hd hl _),if_pos (show (d.tick g.an.toNat).live _ from .inl (by rw [htl];exact hl)),Ps,Ps,hs];rw [JU _ (show Lv (d.tick g.an.toNat) (2*g.sl.toNat) from J0 (SP hd hl _)),GM _ _ hr.2 (.inl hl)];unfold OL;simp only [ne_eq,not_true,if_false];have hm:(d.tick (g.an.toNat+2*g.sl.toNat)).mend w=(⟨CU d.cells w, [],(d.tick (g.an.toNat+2*g.sl.toNat+(if w=[] then 0 else w.length+1))).reqs,d.left⟩,false):=by
  unfold Dk.mend;by_cases hw:w=[]
  ·subst hw;rw [if_pos rfl,if_pos rfl,C6];simp only [Prod.mk.injEq,and_true];show (d.tick _:Dk)=_;unfold Dk.tick;rw [hc,if_pos hl];try rfl
  ·rw [if_neg hw,if_neg hw,J9 (J0 (SP hd hl _)) hc (by omega),GM _ _ hr.2 (.inl hl)];simp only [htl];rfl
 rw [hm];simp only [CA,if_false];unfold OK;rw [if_neg (by rintro(h | h);exact h1 h;exact h2 h)];obtain⟨K,hK⟩:∃ K,K=g.an.toNat+2*g.sl.toNat+(if w=[] then 0 else w.length+1):=⟨_,rfl⟩;rw [<-hK];have hrk:0<=(d.tick K).reqs/\(d.tick K).reqs<=1048576:=by show 0<=min _ _/\min _ _<=_;omega
 have hlen:=Ex g (DQ a L.length);rw [J9 (d:=⟨CU d.cells w, [],(d.tick K).reqs,d.left⟩) ⟨hrk, .inl hl⟩ rfl (by omega)];simp only [CA,if_false,WI,hlen];have e1:((⟨CU d.cells w, [],(d.tick K).reqs,d.left⟩:Dk).tick (g.an.toNat+1)).left=d.left:=if_pos hl;have e2:((⟨CU d.cells w, [],(d.tick K).reqs,d.left⟩:Dk).tick (g.an.toNat+1)).reqs=(d.tick (Mf g w)).reqs:=by
  show min ((d.tick K).reqs+((g.an.toNat+1:Nat):Int)) _=min _ _;show min (min (d.reqs+(K:Nat)) 1048576+((g.an.toNat+1:Nat):Int)) 1048576=min (d.reqs+(Mf g w:Nat)) 1048576;unfold Mf;rw [<-hK];omega
 rw [e1,e2];split <;> rfl
theorem LX (g:Geo) (l:List Gt):∀ k,(Fy g l k=none->∀ i,i<k->EW g (l.getD i ⟨0, []⟩) (i:Nat)=none)/\∀ a j,Fy g l k=some (a,j)->j<k/\EW g (l.getD j ⟨0, []⟩) (j:Nat)=some a/\∀ i b,i<k->EW g (l.getD i ⟨0, []⟩) (i:Nat)=some b->b.gen<=a.gen
 | 0=>⟨fun _ i hi=>by omega,fun a j h=>by cases h⟩
 | k+1=>by
  obtain⟨ih1,ih2⟩:=LX g l k;rw [I_,PK];cases hS:EW g (l.getD k ⟨0, []⟩) (k:Nat) with
  | none=>
   refine⟨fun h i hi=>?_,fun a j h=>?_⟩
   ·by_cases e:i=k
    ·rw [e];exact hS
    ·exact ih1 h i (by omega)
   ·obtain⟨q1,q2,q3⟩:=ih2 a j h;refine⟨by omega,q2,fun i b hi hb=>?_⟩;by_cases e:i=k
    ·rw [e,hS] at hb;cases hb
    ·exact q3 i b (by omega) hb
  | some c=>
   cases hP:Fy g l k with
   | none=>
    refine⟨fun h=>(by cases h),fun a j h=>?_⟩;cases h;refine⟨by omega,hS,fun i b hi hb=>?_⟩;by_cases e:i=k
    ·rw [e,hS] at hb;cases hb;exact CZ _
    ·rw [ih1 hP i (by omega)] at hb;cases hb
   | some q=>
    obtain⟨a0,j0⟩:=q;obtain⟨q1,q2,q3⟩:=ih2 a0 j0 hP;simp only;by_cases hlt:a0.gen<c.gen
    ·rw [if_pos hlt];refine⟨fun h=>(by cases h),fun a j h=>?_⟩;cases h;refine⟨by omega,hS,fun i b hi hb=>?_⟩;by_cases e:i=k
     ·rw [e,hS] at hb;cases hb;exact CZ _
     ·have:=q3 i b (by omega) hb;omega
    ·rw [if_neg hlt];refine⟨fun h=>(by cases h),fun a j h=>?_⟩;cases h;refine⟨by omega,q2,fun i b hi hb=>?_⟩;by_cases e:i=k
     ·rw [e,hS] at hb;cases hb;omega
     ·exact q3 i b (by omega) hb
theorem Sp {g:Geo} {d:Dk} {i:Nat} (hi:i<g.an.toNat):(B6 d (DW g)).getD i ⟨0, []⟩=Uz d (i:Nat):=by
 rw [B6,Bc (d:=0) (by rw [FC];exact hi),Of hi]
theorem Rn {g:Geo} {a:An} {i:Nat} (hg:Bp g=true) (ha:Bu g a=true) (hi:(i:Int)<=65535):EW g ⟨0,D0 a i⟩ i=some a:=by
 obtain⟨e1,e2,e3,e4⟩:=GP (Oe hg ha (i:=(i:Nat)) ⟨by omega,hi⟩);unfold EW;rw [if_pos ⟨rfl,e1,e2⟩];show (match Fx g (CF (D0 a i)) with | some a_1=>if a_1.gen=Cs (D0 a i) then some a_1 else none | none=>none)=_;rw [show CF (D0 a i)=MP a from e4,TQ hg ha,show Cs (D0 a i)=a.gen from e3];simp
section
variable {g:Geo} {a:An} {fill:UInt8} {sizes:List Int}
end
theorem Ij {g:Geo} {c s:Int} (hc:c=0\/c=1) (hs:0<=s/\s<g.sl):g.an<=Bg g c s/\Bg g c s<g.an+2*g.sl:=by
 unfold Bg;rcases hc with rfl | rfl <;> omega
section
variable {g:Geo} {s:ByteArray} {a:An} {fill:UInt8} {sizes:List Int}
theorem JR {b:An} (hg:Bp g=true) (hb:Bu g b=true) (i:Int):(D0 b i).length<=200:=by
 have:=K1 hg hb;rw [D0,Fz];omega
end
theorem Li {cs:List Cel} {n:Nat} (h:cs.length=n) {k:Nat} (hk:k<n):(cs.map BE).getD k []=BE (cs.getD k cz):=Bc (by omega)
theorem XM {g:Geo} (hg:Bp g=true):FX g (Fd g)=true:=by
 obtain⟨g1,g2,g3,g4,g5⟩:=As.1 hg;have hz:=Iq zero8;simp only [FX,hg,Fd,B8,Ad,decide_eq_true_eq,Bw];refine⟨⟨by omega,?_⟩,?_⟩
 ·rw [Au];intro e he;rw [CY he];simp [DR,ent0,HJ,CH];exact decide_eq_true (by omega)
 ·have:GJ (List.replicate (g.d+1).toNat ent0) g.d.toNat=false:=by
   unfold GJ;rw [Cx (by omega)];try rfl
  rw [this];try rfl
theorem Vx {g:Geo} (hg:Bp g=true) {a:Int} (ha:0<=a/\a<=65535):Wo a 0 (CW (Fd g)):=by
 obtain⟨g1,g2,g3,g4,g5⟩:=As.1 hg;refine⟨ha.1,ha.2,CZ _,by decide,?_⟩;rw [Fc,Fd,B8];omega
section
variable {g:Geo} {s:ByteArray} {a b:An} {fill:UInt8} {sizes:List Int} {d:Dk}
theorem Mp {F:Int->List UInt8} {n:Int} (h:Holds d n F) (l:List Int) (hl:∀ x∈l,0<=x/\x<n):B6 d l=l.map fun x=>⟨0,F x⟩:=by
 unfold B6;refine Cv fun x hx=>?_
 exact h.got (hl x hx).1 (hl x hx).2
theorem N9 (hg:Bp g=true) {c:Int} (hc:c=0\/c=1):∀ x∈BO g c,0<=x/\x<Ay g:=fun x hx=>by
 obtain⟨g1,g2,g3,g4,g5⟩:=As.1 hg;have hcg:=EL hg;simp only [BO,AK,AP] at hx;obtain⟨i,hi,rfl⟩:=hx;have:=Ij (g:=g) hc (s:=(i:Nat)) (by omega);omega
theorem Ut {F:Int->List UInt8} (hg:Bp g=true) {c:An} (h:Holds d (Ay g) F) {r:Int} {l:Int}:Holds ⟨CU d.cells (Bf g c), [],r,l⟩ (Ay g) (fun x=>if x<g.an then D0 c x else F x):=by
 obtain⟨g1,g2,g3,g4,g5⟩:=As.1 hg;have hcg:=EL hg;refine⟨by rw [<-h.len];show ((CU d.cells _).length:Int)=_;rw [finL_len],rfl,fun x h0 h1=>?_⟩;obtain⟨e1,e2⟩:=h.cell x h0 h1;have hlt:x.toNat<d.cells.length:=by have:=h.len;omega
 show ((CU d.cells _).getD x.toNat cz).state=0/\((CU d.cells _).getD x.toNat cz).bytes=_;have hmem:∀ w∈Bf g c,∃ i:Nat,i<g.an.toNat/\w=⟨(i:Nat),D0 c (i:Nat)⟩:=fun w hw=>by
  simp only [Bf,AK,AP] at hw;obtain⟨i,hi,rfl⟩:=hw;exact⟨i,hi,rfl⟩
 by_cases hx:x<g.an
 ·rw [if_pos hx];refine MF _ _ _ hlt (by rw [e1];decide) (fun w hw hwa=>?_) (.inl ⟨⟨x,D0 c x⟩,?_,rfl⟩)
  ·obtain⟨i,hi,rfl⟩:=hmem w hw;have:((i:Nat):Int).toNat=x.toNat:=hwa;show D0 c (i:Nat)=_;congr 1;omega
  ·simp only [Bf,AK,AP];exact⟨x.toNat,by omega,by rw [DU h0]⟩
 ·rw [if_neg hx,finL_miss _ _ _ hlt (fun w hw e=>?_)]
  ·exact⟨e1,e2⟩
  ·obtain⟨i,hi,rfl⟩:=hmem w hw;have:((i:Nat):Int).toNat=x.toNat:=e;omega
theorem WJ {n:Int} {F:Int->List UInt8} (h:Holds d n F) (l:List Wr) (hl:∀ w∈l,0<=w.addr/\w.addr<n):l.filter (free d.cells)=l:=by
 rw [List.filter_eq_self];intro w hw;unfold free;rw [(h.cell w.addr (hl w hw).1 (hl w hw).2).1];try rfl
end
theorem Uv (s t:Stt) (h:s.lost.length<=1000000):Fn Tryz.prog 50 [.ag [iv s.found,iv s.fixed,iv s.moved,iA s.lost], .ag [iv t.found,iv t.fixed,iv t.moved,iA t.lost]] fun r=>r = .v (.bool (decide (s.found=t.found/\s.fixed=t.fixed/\s.moved=t.moved/\s.lost=t.lost))):=by
 have hi:=SS s.lost t.lost (by omega);refine zS Tryz.func50 rfl ?_;conv=>whnf
 repeat' (first | (refine Ak (fun h=>?_) (fun h=>?_) <;> (try simp at h) <;> conv=>whnf) | (refine zM tys_ok mixed (by kernel_rfl) ?_;conv=>whnf) | (refine z_ ?_;conv=>whnf) | (refine zZ hi ?_;conv=>whnf) | (refine Af (by omega) ?_;conv=>whnf))
 all_goals exact⟨_,ri,by congr 2;rw [CN];simp [*]⟩
theorem Xx {a b:An}:a=b↔a.gen=b.gen/\a.epoch=b.epoch/\a.pos=b.pos/\a.seq=b.seq/\a.last=b.last/\a.label=b.label/\a.homes=b.homes:=by
 cases a;cases b;simp
theorem WA {a b:Hm}:a=b↔a.places=b.places/\a.next=b.next/\a.root=b.root:=by
 cases a;cases b;simp
theorem On {α:Type} {d:α} {l m:List α} {k:Nat} (hl:k<l.length) (hm:k<m.length) (h:l.take k=m.take k) (e:l.getD k d=m.getD k d):l.take (k+1)=m.take (k+1):=by
 rw [Aa,Aa,Ae hl,Ae hm] at e;have e:l[k]=m[k]:=by simpa using e
 rw [AM hl,AM hm,h,e]
theorem XL (s:ByteArray):∀ (n i:Nat) (r:List UInt8),s.size - i=n->ByteArray.toList.loop s i r=r.reverse ++ s.data.toList.drop i:=by
 intro n;induction n with
 | zero=>
  intro i r h;rw [ByteArray.toList.loop,if_neg (by omega),AE (by show s.data.toList.length<=i;rw [Dq];show s.size<=i;omega),AL]
 | succ n ih=>
  intro i r h;have hi:i<s.size:=by omega
  have hi':i<s.data.toList.length:=by rw [Dq];exact hi
  rw [ByteArray.toList.loop,if_pos hi,ih (i+1) _ (by omega),Bj hi',List.reverse_cons,A9];congr 2;show s.get! i::_=_;congr 1;show s.data[i]! = _;rw [getElem!_pos s.data i hi];simp
theorem Y0 {s t:ByteArray} (h:s.toList=t.toList):s=t:=by
 have e:∀ x:ByteArray,x.toList=x.data.toList:=fun x=>by
  rw [ByteArray.toList,XL x _ 0 [] rfl];try rfl
 rw [e,e] at h;exact ByteArray.ext (Array.toList_inj.mp h)
theorem RP (a b:An) (hh:a.homes.length<=1000000) (hp:∀ h∈a.homes,h.places.length<=1000000):Fn Tryz.prog 48 [.ag (ED a), .ag (ED b)] fun r=>r = .v (.bool (decide (a=b))):=by
 refine zS Tryz.func48 rfl ?_;conv=>whnf
 repeat' (first | (refine Ak (fun h=>?_) (fun h=>?_) <;> (try simp at h) <;> conv=>whnf) | (refine zM tys_ok mixed (by kernel_rfl) ?_;conv=>whnf) | (refine z_ ?_;conv=>whnf) | (refine Af (by omega) ?_;conv=>whnf))
 all_goals try (exact⟨_,ri,by rw [decide_eq_false];rw [Xx];intro hx;simp_all⟩)
 have hlen:a.homes.length=b.homes.length:=by omega
 have hlab:a.label=b.label:=Y0 (by assumption);have hrest:a=b↔a.homes=b.homes:=by rw [Xx];simp [*]
 refine zU Nat (fun k=>([(2, .bp 0 0),(3, .bp 1 0),(5,iv k)], [.box 33 (ED a), .box 33 (ED b)])) (fun k=>k<=a.homes.length/\a.homes.take k=b.homes.take k) (fun k=>a.homes.length - k) 0 ⟨Aj _,rfl⟩
  (zR (s:= [0,1]) tA) ?_
 rintro k ⟨hk,hI⟩;conv=>whnf
 refine A8 (fun h6=>?_) (fun h6=>?_) <;> (repeat rw [Ac] at h6) <;> conv=>whnf
 ·have hk':k<a.homes.length:=by omega
  have hk2:k<b.homes.length:=by omega
  have hi:=SS (a.homes.getD k ⟨[],0,0⟩).places (b.homes.getD k ⟨[],0,0⟩).places (by have:=hp _ (A6 (d:=(⟨[],0,0⟩:Hm)) hk');omega);have hno:a.homes.getD k ⟨[],0,0⟩≠b.homes.getD k ⟨[],0,0⟩->decide (a=b)=false:=fun hne=>decide_eq_false fun e=>hne (by rw [e])
  have hyes:=On (d:=(⟨[],0,0⟩:Hm)) hk' hk2 hI;rw [WA] at hyes;rw [Ne,WA] at hno;clear hrest hI hlen;repeat' (refine z_ ?_;conv=>whnf)
  refine zM tys_ok mixed (by kernel_rfl) ?_;refine⟨⟨by omega,by omega⟩,?_⟩;refine⟨⟨by omega,by omega⟩,?_⟩;conv=>whnf
  rw [Ac];generalize hx:a.homes.getD k ⟨[],0,0⟩=x at hi hno hyes |-
  generalize hy:b.homes.getD k ⟨[],0,0⟩=y at hi hno hyes |-
  refine zZ hi ?_;conv=>whnf
  by_cases q1:x.places=y.places
  ·rw [decide_eq_true q1];refine⟨⟨by omega,by omega⟩,?_⟩;refine⟨⟨by omega,by omega⟩,?_⟩;conv=>whnf
   rw [Ac,hx,hy];refine A8 (fun q2=>?_) (fun q2=>?_)
   ·exact⟨_,ri,by rw [hno fun e=>q2 e.2.1]⟩
   ·refine⟨⟨by omega,by omega⟩,?_⟩;refine⟨⟨by omega,by omega⟩,?_⟩;conv=>whnf
    rw [Ac,hx,hy];refine A8 (fun q3=>?_) (fun q3=>?_)
    ·exact⟨_,ri,by rw [hno fun e=>q3 e.2.2]⟩
    ·exact⟨k+1,⟨hk',hyes ⟨q1,q2,q3⟩⟩,by omega,zR (s:= [0,1]) ⟨⟨rfl,rfl,AH (by omega),tv⟩,tA,rfl,rfl,rfl,rfl,rfl⟩⟩
  ·rw [decide_eq_false q1];exact⟨_,ri,by rw [hno fun e=>q1 e.1]⟩
 ·have ek:k=a.homes.length:=by omega
  subst ek;have he:a.homes=b.homes:=by
   rw [Aw,hlen,Aw] at hI;exact hI
  exact⟨_,ri,by rw [decide_eq_true (hrest.2 he)]⟩
theorem Zv {s t:Stt}:s=t↔s.a=t.a/\s.txns=t.txns/\s.only=t.only/\s.cursor=t.cursor/\(s.found=t.found/\s.fixed=t.fixed/\s.moved=t.moved/\s.lost=t.lost):=by
 cases s;cases t;simp
theorem Uj (s t:Stt) (hh:s.a.homes.length<=1000000) (hp:∀ h∈s.a.homes,h.places.length<=1000000) (hl:s.lost.length<=1000000) (ht:s.txns.length<=1000000000) (hi:∀ x∈s.txns,x.images.length<=1000000000/\∀ i∈x.images,i.bytes.length<=100000000000):Fn Tryz.prog 17 [.ag (EB s), .ag (EB t)] fun r=>r = .v (.bool (decide (s=t))):=by
 have c1:=RP s.a t.a hh hp;have c2:=XG s.txns t.txns ht hi;have c3:=Uv s t hl;refine zS Tryz.func17 rfl ?_;conv=>whnf
 repeat' (first | (refine Ak (fun h=>?_) (fun h=>?_) <;> (try simp at h) <;> conv=>whnf) | (refine zM tys_ok mixed (by kernel_rfl) ?_;conv=>whnf) | (refine z_ ?_;conv=>whnf) | (refine zZ c1 ?_;conv=>whnf) | (refine zZ c2 ?_;conv=>whnf) | (refine zZ c3 ?_;conv=>whnf) | (refine Af (by omega) ?_;conv=>whnf))
 all_goals exact⟨_,ri,by rw [show decide (s=t)=decide (s.a=t.a/\s.txns=t.txns/\s.only=t.only/\s.cursor=t.cursor/\(s.found=t.found/\s.fixed=t.fixed/\s.moved=t.moved/\s.lost=t.lost)) from decide_eq_decide.2 Zv];congr 2;rw [CN];simp [*]⟩

theorem PC (g:Geo) (s:ByteArray) (hg:Bp g=true) (hs:Gu s.data.toList=0):ACalls Tryz.prog false 57 [.ag (AT g), .v (.string s)] [] fun r H=>r = .ag [.ow 0 (Ay g).toNat,nilV,ze 0,ze (-1)]/\H=[.row 128 3 ((Gy g s).cells.map BE)]:=by
 obtain⟨g1,g2,g3,g4,g5⟩:=As.1 hg;have hcg:=EL hg;have hp:=GG hg;have hN:1<=(Ay g).toNat/\(Ay g).toNat<=300:=by
  have:g.z*CG g<=4*7:=Int.mul_le_mul (by omega) (by omega) (by omega) (by omega);unfold Ay at hcg |-
  omega
 have hcN:Ay g=((Ay g).toNat:Int):=by omega
 have hao:=Kv hg hs;have hA:=WT g s hg;have hC:=R9 g hg;rw [hcN] at hC;have hD:=VO (Ay g).toNat hN;refine zT tys_ok Tryz.func57 rfl rfl (Ag rfl) ?_;conv=>whnf
 refine zZ hC ?_;conv=>whnf
 refine zV hD rfl ?_;rintro _ _ ⟨rfl,rfl⟩;conv=>whnf
 refine zZ hA ?_;conv=>whnf
 refine zU Nat (fun k=>([(2, .bp 0 0),(4, .bp 1 0),(5, .bp 2 0),(6, .bp 3 0),(7,ze k)], [.box 23 (AT g), .box 43 [nilV,nilV,ze 0,ze 0], .box 43 [.ow 4 (Ay g).toNat,nilV,ze 0,ze (-1)], .box 33 (ED (BZ g s)), .row 128 3 ((E8 (Jn g) ((Bf g (BZ g s)).take k)).map BE)])) (fun k=>k<=g.an.toNat) (fun k=>g.an.toNat - k) 0 (Aj _)
  ?_ ?_
 ·refine zF (zK (zE (k:=2) rfl (es':=(Jn g).map BE) (by simp [Jn]) fun i=>?_)) (s:= [0,1,3,4,2]) tA;rw [Jn,List.map_replicate];by_cases hi:i<(Ay g).toNat
  ·rw [Mu hi,Mu hi];exact⟨fun _ _ h=>h,Bh 1 _,Bh 1 _,tv⟩
  ·rw [Aa,Aa,AG (by simpa using hi),AG (by simpa using hi)];exact SubL.refl _
 ·intro k hk;conv=>whnf
  refine A8 (fun h6=>?_) (fun h6=>?_) <;> (repeat rw [Ac] at h6) <;> conv=>whnf
  ·have hk':k<(Bf g (BZ g s)).length:=by rw [Ex];omega
   have hsx:=I6 (Jn g) hk';rw [KU (by omega)] at hsx;have hlx:(E8 (Jn g) ((Bf g (BZ g s)).take k)).length=(Ay g).toNat:=by rw [Fp,My]
   generalize E8 (Jn g) ((Bf g (BZ g s)).take k)=cs at hsx hlx |-
   have hnc:=LV g (BZ g s) k hg hao (by omega);have hE:(cs.map BE).getD (k:Int).toNat []=BE (cs.getD (k:Int).toNat cz):=Li hlx (by omega);repeat' (refine z_ ?_;conv=>whnf)
   apply zW (0) tys_ok mixed (.o [0,1,2,3,4,5,6,7,8] .fin) (by kernel_rfl);conv=>whnf
   refine zZ hnc ?_;conv=>whnf
   try (refine tI ?_;conv=>whnf)
   try (refine tS ?_;conv=>whnf)
   (first | rw [hE] | skip)
   conv=>whnf
   all_goals exact⟨k+1,by omega,by omega,zR (s:= [0,1,2,3,4]) ⟨⟨rfl,rfl,rfl,rfl,AH (by omega),tv⟩,⟨rfl,rfl,rfl,rfl,congrArg (fun l=>some (AB.row _ _ l)) (by rw [hsx,JK];try rfl),tv⟩,rfl,rfl,rfl,rfl,rfl⟩⟩
  ·have ek:k=(Bf g (BZ g s)).length:=by rw [Ex];omega
   rw [ek,Aw];repeat' (refine z_ ?_;conv=>whnf)
   refine zU Nat (fun c=>([(2, .bp 0 0),(4, .bp 1 0),(5, .bp 2 0),(6, .bp 3 0),(8,ze c)], [.box 23 (AT g), .box 43 [nilV,nilV,ze 0,ze 0], .box 43 [.ow 4 (Ay g).toNat,nilV,ze 0,ze (-1)], .box 33 (ED (BZ g s)), .row 128 3 ((OS g s c).map BE)])) (fun c=>c<=2) (fun c=>2 - c) 0 (Aj _)
    (zR (s:= [0,1,2,3,4]) tA) ?_
   intro c hc;conv=>whnf
   refine A8 (fun h7=>?_) (fun h7=>?_) <;> (repeat rw [Ac] at h7) <;> conv=>whnf
   ·have hc01:(c:Int)=0\/(c:Int)=1:=by omega
    repeat' (refine z_ ?_;conv=>whnf)
    refine zU Nat (fun i=>([(2, .bp 0 0),(4, .bp 1 0),(5, .bp 2 0),(6, .bp 3 0),(8,ze c),(9,ze i)], [.box 23 (AT g), .box 43 [nilV,nilV,ze 0,ze 0], .box 43 [.ow 4 (Ay g).toNat,nilV,ze 0,ze (-1)], .box 33 (ED (BZ g s)), .row 128 3 ((E8 (OS g s c) ((Hu g c).take i)).map BE)])) (fun i=>i<=g.sl.toNat) (fun i=>g.sl.toNat - i) 0 (Aj _)
     (zR (s:= [0,1,2,3,4]) tA) ?_
    intro i hi;conv=>whnf
    refine A8 (fun h8=>?_) (fun h8=>?_) <;> (repeat rw [Ac] at h8) <;> conv=>whnf
    ·have hlw:(Hu g c).length=g.sl.toNat:=by simp [Hu]
     have hi':i<(Hu g c).length:=by omega
     have hsx:=I6 (OS g s c) hi';rw [show (Hu g c).getD i ⟨0, []⟩=⟨Bg g c (i:Nat),BB g zeroC c (i:Nat)⟩ from Ke (by omega)] at hsx;have hlx:(E8 (OS g s c) ((Hu g c).take i)).length=(Ay g).toNat:=by rw [Fp,Mx]
     generalize E8 (OS g s c) ((Hu g c).take i)=cs at hsx hlx |-
     have hokl:IM g c i=true:=by simp only [IM,Ad,AF];omega
     have hla:=EY g c i hg hokl;have hin:=Fj (n:=(Ay g).toNat) hg hcN.symm hc01 (s:=i) (by omega);have hrc:=Hj g zeroC c i (F4 hg) hokl;have hE:(cs.map BE).getD (Bg g c i).toNat []=BE (cs.getD (Bg g c i).toNat cz):=Li hlx (by omega);repeat' (refine z_ ?_;conv=>whnf)
     apply zW (0) tys_ok mixed (.o [0,1,2,3,4,6,7,8,9,5,10,11,12,13] .fin) (by kernel_rfl);conv=>whnf
     refine zZ hla ?_;conv=>whnf
     (refine zX [.ag (AT g), .ag (JW zeroC),ze c,ze i] (by repeat' (first | exact trivial | exact fun _ _ h=>h | exact Bh _ _ | refine Af ?_ ?_ | refine Bi ?_)) ?_;refine zZ hrc ?_)
     conv=>whnf
     try (refine tI ?_;conv=>whnf)
     try (refine tS ?_;conv=>whnf)
     (first | rw [hE] | skip)
     conv=>whnf
     all_goals exact⟨i+1,by omega,by omega,zR (s:= [0,1,2,3,4]) ⟨⟨rfl,rfl,rfl,rfl,rfl,AH (by omega),tv⟩,⟨rfl,rfl,rfl,rfl,congrArg (fun l=>some (AB.row _ _ l)) (by rw [hsx,JK];try rfl),tv⟩,rfl,rfl,rfl,rfl,rfl⟩⟩
    ·have ei:i=(Hu g c).length:=by simp [Hu];omega
     repeat' (refine z_ ?_;conv=>whnf)
     exact⟨c+1,by omega,by omega,zR (s:= [0,1,2,3,4]) ⟨⟨rfl,rfl,rfl,rfl,AH (by omega),tv⟩,⟨rfl,rfl,rfl,rfl,by rw [ei,Aw];try rfl,tv⟩,rfl,rfl,rfl,rfl,rfl⟩⟩
   ·have ec:c=2:=by omega
    subst ec;have hT:=XN g hg;have hz8:=Iq zero8;have hB:=S0 (Fd g) (by rw [Fd,B8];omega) (fun e he=>by rw [CY he];simp only [ent0];omega);repeat' (refine z_ ?_;conv=>whnf)
    refine zZ hT ?_;conv=>whnf
    refine zZ hB ?_;conv=>whnf
    repeat' (refine z_ ?_;conv=>whnf)
    refine zU Nat (fun z=>([(2, .bp 0 0),(4, .bp 1 0),(5, .bp 2 0),(10,bA (CW (Fd g))),(11,ze z)], [.box 23 (AT g), .box 43 [nilV,nilV,ze 0,ze 0], .box 43 [.ow 4 (Ay g).toNat,nilV,ze 0,ze (-1)], .box 33 (ED (BZ g s)), .row 128 3 ((Hy g s z).map BE)])) (fun z=>z<=g.z.toNat) (fun z=>g.z.toNat - z) 0 (Aj _)
     (zR (s:= [0,1,2,3,4]) tA) ?_
    intro z hz;conv=>whnf
    refine A8 (fun h9=>?_) (fun h9=>?_) <;> (repeat rw [Ac] at h9) <;> conv=>whnf
    ·have htb:∀ k:Nat,k<2->0<=AI g z k/\AI g z k<((Ay g).toNat:Int):=fun k hk=>by unfold AI;omega
     have hmul:(z:Int)*CG g<=(g.z - 1)*CG g:=BF (by omega) (by omega);have hz0:0<=(z:Int)*CG g:=CL (by omega) (by omega);have hsb:∀ k:Nat,(k:Int)<CG g->0<=Ck g z k/\Ck g z k<((Ay g).toNat:Int):=fun k hk=>by
      rw [<-hcN];unfold Ck Ay;rw [Int.sub_mul,Int.one_mul] at hmul;omega
     repeat' (refine z_ ?_;conv=>whnf)
     refine zU Nat (fun k=>([(2, .bp 0 0),(4, .bp 1 0),(5, .bp 2 0),(10,bA (CW (Fd g))),(11,ze z),(12,ze k)], [.box 23 (AT g), .box 43 [nilV,nilV,ze 0,ze 0], .box 43 [.ow 4 (Ay g).toNat,nilV,ze 0,ze (-1)], .box 33 (ED (BZ g s)), .row 128 3 ((E8 (Hy g s z) ((IC g z).take k)).map BE)])) (fun k=>k<=2) (fun k=>2 - k) 0 (Aj _)
      (zR (s:= [0,1,2,3,4]) tA) ?_
     intro k hk;conv=>whnf
     refine A8 (fun h10=>?_) (fun h10=>?_) <;> (repeat rw [Ac] at h10) <;> conv=>whnf
     ·have hlw:(IC g z).length=2:=by simp [IC]
      have hk':k<(IC g z).length:=by omega
      have hsx:=I6 (Hy g s z) hk';rw [show (IC g z).getD k ⟨0, []⟩=⟨AI g z (k:Nat),Cf (AI g z (k:Nat)) 0 (CW (Fd g))⟩ from Ke (by omega)] at hsx;have hlx:(E8 (Hy g s z) ((IC g z).take k)).length=(Ay g).toNat:=by rw [Fp,GX]
      generalize E8 (Hy g s z) ((IC g z).take k)=cs at hsx hlx |-
      have hgt:=Iv g z k hg (by omega) (by omega);have hin:=htb k (by omega);have hmk:=F0 (AI g z k) 0 (CW (Fd g)) (Vx hg (by omega));have hE:(cs.map BE).getD (AI g z k).toNat []=BE (cs.getD (AI g z k).toNat cz):=Li hlx (by omega);repeat' (refine z_ ?_;conv=>whnf)
      refine zZ hgt ?_;conv=>whnf
      apply zW (0) tys_ok mixed (.o [0,1,2,3,4,5,6,7,8] .fin) (by kernel_rfl);conv=>whnf
      refine zZ hmk ?_;conv=>whnf
      try (refine tI ?_;conv=>whnf)
      try (refine tS ?_;conv=>whnf)
      (first | rw [hE] | skip)
      conv=>whnf
      all_goals exact⟨k+1,by omega,by omega,zR (s:= [0,1,2,3,4]) ⟨⟨rfl,rfl,rfl,rfl,rfl,AH (by omega),tv⟩,⟨rfl,rfl,rfl,rfl,congrArg (fun l=>some (AB.row _ _ l)) (by rw [hsx,JK];try rfl),tv⟩,rfl,rfl,rfl,rfl,rfl⟩⟩
     ·have ek:k=(IC g z).length:=by simp [IC];omega
      rw [ek,Aw];have hpr:=O0 g hg;repeat' (refine z_ ?_;conv=>whnf)
      refine zU Nat (fun i=>([(2, .bp 0 0),(4, .bp 1 0),(5, .bp 2 0),(10,bA (CW (Fd g))),(11,ze z),(14,ze i)], [.box 23 (AT g), .box 43 [nilV,nilV,ze 0,ze 0], .box 43 [.ow 4 (Ay g).toNat,nilV,ze 0,ze (-1)], .box 33 (ED (BZ g s)), .row 128 3 ((E8 (E8 (Hy g s z) (IC g z)) ((HE g z).take i)).map BE)])) (fun i=>i<=(CG g).toNat) (fun i=>(CG g).toNat - i) 0 (Aj _)
       (zR (s:= [0,1,2,3,4]) tA) ?_
      intro i hi;conv=>whnf
      refine zZ hpr ?_;conv=>whnf
      refine A8 (fun h11=>?_) (fun h11=>?_) <;> (repeat rw [Ac] at h11) <;> conv=>whnf
      ·have hlw:(HE g z).length=(CG g).toNat:=by simp [HE]
       have hi':i<(HE g z).length:=by omega
       have hsx:=I6 (E8 (Hy g s z) (IC g z)) hi';rw [show (HE g z).getD i ⟨0, []⟩=⟨Ck g z (i:Nat),Cf (Ck g z (i:Nat)) 0 zero8⟩ from Ke (by omega)] at hsx;have hlx:(E8 (E8 (Hy g s z) (IC g z)) ((HE g z).take i)).length=(Ay g).toNat:=by rw [Fp,Fp,GX]
       generalize E8 (E8 (Hy g s z) (IC g z)) ((HE g z).take i)=cs at hsx hlx |-
       have hgt:=P7 g z i hg (by omega) (by omega);have hin:=hsb i (by omega);have hmk:=F0 (Ck g z i) 0 zero8 ⟨hin.1,by omega,CZ _,by decide,by decide⟩;have hE:(cs.map BE).getD (Ck g z i).toNat []=BE (cs.getD (Ck g z i).toNat cz):=Li hlx (by omega);repeat' (refine z_ ?_;conv=>whnf)
       refine zZ hgt ?_;conv=>whnf
       apply zW (0) tys_ok mixed (.o [0,1,2,3,4,5,6,7,8] .fin) (by kernel_rfl);conv=>whnf
       (try (refine Af ⟨rfl,by decide,by decide⟩ ?_;conv=>whnf);refine zN hmk.go ?_;(conv=>whnf);refine Af rfl ?_;(conv=>whnf);refine zX [ze (Ck g z i),ze 0,bA zero8] ⟨ri,ri,fun c v h=>zC rfl (fun i hi=>by have hi':i<8:=hi;rw [Mu (by exact hi'),Tl hi'];try rfl) h,tv⟩ ?_;refine zZ hmk ?_)
       conv=>whnf
       try (refine tI ?_;conv=>whnf)
       try (refine tS ?_;conv=>whnf)
       (first | rw [hE] | skip)
       conv=>whnf
       all_goals exact⟨i+1,by omega,by omega,zR (s:= [0,1,2,3,4]) ⟨⟨rfl,rfl,rfl,rfl,rfl,AH (by omega),tv⟩,⟨rfl,rfl,rfl,rfl,congrArg (fun l=>some (AB.row _ _ l)) (by rw [hsx,JK];try rfl),tv⟩,rfl,rfl,rfl,rfl,rfl⟩⟩
      ·have ei:i=(HE g z).length:=by simp [HE];omega
       repeat' (refine z_ ?_;conv=>whnf)
       exact⟨z+1,by omega,by omega,zR (s:= [0,1,2,3,4]) ⟨⟨rfl,rfl,rfl,rfl,AH (by omega),tv⟩,⟨rfl,rfl,rfl,rfl,by rw [ei,Aw];try rfl,tv⟩,rfl,rfl,rfl,rfl,rfl⟩⟩
    ·have ez:z=g.z.toNat:=by omega
     subst ez;exact⟨_, .ag [.ow 0 (Ay g).toNat,nilV,ze 0,ze (-1)], [.row 128 3 ((Hy g s g.z.toNat).map BE)],fun _ _ h=>h,zR (s:= [4]) tA,rfl,rfl⟩
theorem Rw (g:Geo) (s:ByteArray) (hg:Bp g=true) (hs:Gu s.data.toList=0):Fn Tryz.prog 57 [.ag (AT g), .v (.string s)] fun r=>r = .ag (EN (Gy g s)):=by
 refine ACalls.fn (PC g s hg hs) ?_;rintro _ _ ⟨rfl,rfl⟩;refine⟨_,z6 _,?_⟩;conv=>whnf
 refine Af (by rw [Ab];exact(GX g s _).symm) ?_;exact⟨.ag (EN (Gy g s)),Bi ⟨Bb (f:=BE) (Hy g s g.z.toNat) (by rw [GX]) rfl,Bh 2 _,ri,ri,tv⟩,rfl⟩


section
variable {g:Geo} {s:ByteArray} {b:An} {fill:UInt8} {sizes:List Int} {D:Dk}
end
theorem StSm.big {S:Stt} (h:StSm S):StBig S:=
 ⟨by have:=h.l;omega,by have:=h.h.1;omega,⟨by have:=h.t.1;omega,fun t ht=>⟨by have:=(h.t.2 t ht).1;omega,fun x hx=>by have:=(h.t.2 t ht).2 x hx;omega⟩⟩,by have:=h.o;omega⟩
structure Vol (g:Geo) (K:Int) (d:Dk) (s:Stt):Prop where
 gd:∃ F,Gd (Ay g) d F
 an:Bu g s.a=true
 ring:C7 g s.txns s.a.seq s.a.pos g.sl=true
 rest:s.only=false/\s.cursor=0/\s.found=0/\s.fixed=0/\s.moved=0/\s.lost=[]
 gen:s.a.gen<=K
 seq:s.a.seq+s.txns.length<=K
 one:∀ t∈s.txns,OneTab t.images
theorem Ew {g:Geo} {a:An} (ha:Bu g a=true):(0<=a.gen/\a.gen<=4294967295)/\(1<=a.seq/\a.seq<=4294967295)/\(0<=a.pos/\a.pos<g.sl)/\(a.homes.length:Int)=g.z:=by
 simp only [Bu,AX,B7,Bx,Ad,decide_eq_true_eq,AF] at ha;omega
theorem KD {g:Geo}:∀ {l:List Tx} {seq pos a b:Int},a<=b->C7 g l seq pos a=true->C7 g l seq pos b=true
 | [],_,_,_,_,_,_=>rfl
 | t::r,seq,pos,a,b,hab,h=>by
  simp only [C7,Ad,decide_eq_true_eq] at h |-
  obtain⟨⟨h1,h2,h3,h4,h5,h6,h7⟩,h8⟩:=h;exact⟨⟨h1,h2,h3,h4,by omega,h6,h7⟩,KD (by omega) h8⟩
theorem Dx {g:Geo}:∀ {l:List Tx} {seq pos left:Int},C7 g l seq pos left=true->∀ t∈l,t.images.all (Bz g)=true/\t.n=t.images.length+1/\2<=t.n/\t.n<=max left 0
 | t::r,seq,pos,left,h,x,hx=>by
  simp only [C7,Ad,decide_eq_true_eq] at h;obtain⟨⟨h1,h2,h3,h4,h5,h6,h7⟩,h8⟩:=h;rcases AQ.1 hx with rfl | hx
  ·exact⟨h7,h6,h4,by omega⟩
  ·have:=Dx h8 x hx;exact⟨this.1,this.2.1,this.2.2.1,by omega⟩
theorem E_ {g:Geo} (hg:Bp g=true) {x:Img} (h:Bz g x=true):x.bytes.length<=45:=by
 obtain⟨g1,g2,g3,g4,g5⟩:=As.1 hg;by_cases hw:x.what=255
 ·simp only [Bz,Ad] at h;have h2:=h.2.2;rw [if_pos hw] at h2;by_cases hl:x.bytes.length=9*(g.d+1).toNat
  ·omega
  ·rw [Kd (.inl hl)] at h2;cases h2
 ·have:=(E7 h).2 hw;omega
theorem Vol.st {g:Geo} {K:Int} {d:Dk} {s:Stt} (hg:Bp g=true) (h:Vol g K d s):LF g d s=true:=by
 obtain⟨F,hF⟩:=h.gd;obtain⟨r1,r2,r3,r4,r5,r6⟩:=h.rest;have hu:=L5 hg;have hh:Et g s=true:=by
  unfold Et;rw [r3,r4,r5,r6];try rfl
 unfold LF;rw [hg,PS.2 hF.ok,decide_eq_true hF.len,h.an,h.ring,r2,hh,decide_eq_true (show (0:Int)<GD g by omega)];try rfl
theorem Vol.sm {g:Geo} {K:Int} {d:Dk} {s:Stt} (hg:Bp g=true) (h:Vol g K d s):StSm s:=by
 obtain⟨g1,g2,g3,g4,g5⟩:=As.1 hg;have hr:=Dx h.ring;have hin:=GQ hg (CZ _) h.ring;have hlen:(s.txns.length:Int)<=30:=by
  have:∀ l:List Tx,(∀ t∈l,2<=t.n)->2*(l.length:Int)<=sumT l:=by
   intro l;induction l with
   | nil=>intro _;simp [sumT]
   | cons t r ih=>
    intro hl;have h1:=hl t (by simp);have h2:=ih fun x hx=>hl x (Ba _ hx)
    rw [sumT,Ao];omega
  have:=this s.txns fun t ht=>(hr t ht).2.2.1
  have:=hin.2;omega
 refine⟨⟨(Hb hg h.an 0 (Aj _)).2.1,fun x hx=>KS hg h.an x hx⟩,(Hb hg h.an 0 (Aj _)).2.2.2.1,⟨by omega,fun t ht=>?_⟩,by rw [h.rest.2.2.2.2.2];simp⟩;obtain⟨q1,q2,q3,q4⟩:=hr t ht;refine⟨by omega,fun i hi=>?_⟩;have:=E_ hg (Au.1 q1 i hi);omega
theorem Vol.add {g:Geo} {K:Int} {d d':Dk} {s:Stt} (hg:Bp g=true) (h:Vol g K d s) (hK:K<=4294967294) (hd:∃ F,Gd (Ay g) d' F) {x:Tx} (e1:x.seq=s.a.seq+s.txns.length) (e3:x.pos=(s.a.pos+BX s.txns).tmod g.sl) (e4:2<=x.n) (e5:x.n<=g.sl - BX s.txns) (e6:x.n=x.images.length+1) (e7:∀ y∈x.images,Bz g y=true) (e8:OneTab x.images):Vol g (K+1) d' { s with txns:=s.txns ++ [x] }:=by
 obtain⟨a1,a2,a3,a4⟩:=Ew h.an;have hin:=GQ hg (CZ _) h.ring;rw [To hin.1] at e3 e5;have hs:=h.seq;refine⟨hd,h.an,KC hg a3.1 a3.2 (CZ _) h.ring e1 (by omega) e3 e4 e5 e6 (Au.2 e7),h.rest,by have:=h.gen;show s.a.gen<=K+1;omega,?_,fun t ht=>?_⟩
 ·show s.a.seq+((s.txns ++ [x]).length:Nat)<=K+1;simp only [Ai,Ao,Be];omega
 ·rcases A0.1 ht with q | q
  ·exact h.one t q
  ·rw [AC] at q;exact q ▸ e8
theorem Vol.home {g:Geo} {K:Int} {d d':Dk} {s:Stt} (hg:Bp g=true) {x:Tx} {r:List Tx} (hx:s.txns=x::r) (h:Vol g K d s) (hK:K<=4294967294) (hd:∃ F,Gd (Ay g) d' F):Vol g (K+1) d' { s with a:=D_ g s.a x,txns:=r }:=by
 obtain⟨a1,a2,a3,a4⟩:=Ew h.an;have hs:=h.seq;have hgn:=h.gen;have hr:=h.ring;rw [hx,Ao] at hs;rw [hx] at hr;have hin:=(GQ hg (CZ _) hr).1 x (by simp);simp only [C7,Ad,decide_eq_true_eq] at hr;obtain⟨⟨h1,h2,h3,h4,h5,h6,h7⟩,h8⟩:=hr;refine⟨hd,Pu hg h.an (by omega) (by omega) h1 (by omega) (by omega),?_,h.rest,by show s.a.gen+1<=K+1;omega,?_,fun t ht=>h.one t (by rw [hx];exact Ba _ ht)⟩
 ·show C7 g r (s.a.seq+1) ((x.pos+x.n).tmod g.sl) g.sl=true;rw [h3];exact KD (by omega) h8
 ·show s.a.seq+1+(r.length:Int)<=K+1;omega
theorem JQ {g:Geo} {a:An} {w:Wr} (hw:w∈Bf g a):∃ i:Nat,(i:Int)<g.an/\w=⟨(i:Nat),D0 a (i:Nat)⟩:=by
 simp only [Bf,AK,AP] at hw;obtain⟨i,hi,rfl⟩:=hw;exact⟨i,by omega,rfl⟩
def Gj (g:Geo) (a:An) (x:Tx) (F:Int->List UInt8):Int->List UInt8:=IA (IA F (DB g a x.seq x.images)) (Bf g (D_ g a x))
theorem VH (g:Geo):Fn Tryz.prog 287 [.ag (AT g), .ag (JW zeroC)] fun r=>r = .v (.bool true):=by
 have hi:=Qe ⟨0,0, []⟩ ⟨0,0, []⟩ (by decide);rw [decide_eq_true rfl] at hi;refine zS Tryz.func287 rfl ?_;conv=>whnf
 refine zX [.ag (D8 ⟨0,0, []⟩), .ag (D8 ⟨0,0, []⟩)] ⟨ri,Bi ⟨ri,ri,Bh 1 _,tv⟩,tv⟩ ?_;refine zZ hi ?_;exact⟨_,ri,rfl⟩
theorem TL (g:Geo):Fn Tryz.prog 285 [.ag (AT g),bA (Eo zeroC)] fun r=>r = .tp [.ag (JW zeroC), .v (.bool true)]:=by
 obtain⟨b,hb⟩:∃ b,b=Eo zeroC:=⟨_,rfl⟩;have hbl:b.length=11:=by rw [hb];try rfl
 have q1:=FH (b.drop 1) 4 (by rw [Am];omega) (by decide);have q2:=FH (b.drop 5) 4 (by rw [Am];omega) (by decide);have e1:leN ((b.drop 1).take 4)=0:=by rw [hb];try rfl
 have e2:leN ((b.drop 5).take 4)=0:=by rw [hb];try rfl
 have hrec:=VH g;rw [<-hb];refine zS Tryz.func285 rfl ?_;conv=>whnf
 refine A8 (fun hq=>absurd hq (by omega)) (fun hq=>?_);conv=>whnf
 apply z8 (0) tys_ok mixed (.o [0,1,2,3,4,5,7,8,10,11,12,13,14,15,16,17] (.two 6 (.two 9 (.o [18,19,20] .fin) 19 (.o [9,18,20] .fin)) 19 (.o [6,9,18,20] .fin))) [6,11,12,13,14,15,16,17,18,19,20,21,22,23,24,25,26,27,28,29] (by kernel_rfl)
 ·conv=>whnf
  try (refine tI ?_;conv=>whnf)
  try (refine tI ?_;conv=>whnf)
  try (refine tI ?_;conv=>whnf)
  try (refine tI ?_;conv=>whnf)
  try (refine tI ?_;conv=>whnf)
  refine Af ?_ ?_
  ·conv=>whnf
   (refine zX [bA (b.drop 1),iv 4] ⟨AU (by omega),ri,tv⟩ ?_;refine zZ q1 ?_)
   refine Af ?_ ?_
   ·conv=>whnf
    (refine zX [bA (b.drop 5),iv 4] ⟨AU (by omega),ri,tv⟩ ?_;refine zZ q2 ?_)
    conv=>whnf
    try (refine tS ?_;conv=>whnf)
    exact tA
   ·conv=>whnf
    (refine zX [bA (b.drop 5),iv 4] ⟨AU (by omega),ri,tv⟩ ?_;refine zZ q2 ?_)
    conv=>whnf
    try (refine tS ?_;conv=>whnf)
    exact tA
  ·conv=>whnf
   (refine zX [bA (b.drop 1),iv 4] ⟨AU (by omega),ri,tv⟩ ?_;refine zZ q1 ?_)
   conv=>whnf
   (refine zX [bA (b.drop 5),iv 4] ⟨AU (by omega),ri,tv⟩ ?_;refine zZ q2 ?_)
   conv=>whnf
   try (refine tS ?_;conv=>whnf)
   exact tA
 conv=>whnf
 repeat' (refine z_ ?_;conv=>whnf)
 have z0:(b.getD (Int.toNat 0) 0).toNat=0:=by rw [hb];try rfl
 have z9:(b.getD (Int.toNat 9) 0).toNat=0:=by rw [hb];try rfl
 have z10:(b.getD (Int.toNat 10) 0).toNat=0:=by rw [hb];try rfl
 rw [z0,z9,z10,e1,e2,show IntKind.i64.wrap ((0:Nat):Int)=0 from rfl];conv=>whnf
 rw [show ((b.length:Int) != 11)=false by rw [hbl];try rfl];conv=>whnf
 have hsb:SubL [iv 0,iv 0,iv 0,iv 0,iv 0,iv 0,iv 0, .v (.slice none 0 0)] (JW zeroC):=⟨ri,ri,ri,ri,ri,ri,ri,Bh 1 _,tv⟩;refine zX [.ag (AT g), .ag (JW zeroC)] ⟨ri,Bi hsb,tv⟩ ?_;refine zZ hrec ?_;exact⟨_,BW (m:= [.ag (JW zeroC), .v (.bool true)]) ⟨Bi hsb,ri,tv⟩,rfl⟩
theorem Nt (g:Geo) (c s:Int) (hg:Bp g=true) (hc:c=0\/c=1) (hs:0<=s/\s<g.sl):Fn Tryz.prog 272 [.ag (AT g), .ag (Dz ⟨0,BB g zeroC c s⟩),iv c,iv s] fun r=>r = .tp [.ag (JW zeroC), .v (.bool true)]:=by
 have hL:=Ic (g:=g) hc hs;have hb:=Fk hg hL;have h1:=JF (F4 hg);have h2:=Ec (F4 hg);obtain⟨o1,o2,o3,o4⟩:=GP (a:=Bg g c s) (s:=zeroC.seq) (p:=Eo zeroC) ⟨hb.1,by omega,h1.1,h1.2,by omega⟩;have s1:=Iu ⟨0,BB g zeroC c s⟩ (Bg g c s) (by have:=C5 (F4 hg) c s;show (BB g zeroC c s).length<=100000;omega);have hS:BR ⟨0,BB g zeroC c s⟩ (Bg g c s)=some ⟨Bg g c s,0,Eo zeroC⟩:=by
  unfold BR BB;rw [if_pos ⟨rfl,o1,o2⟩,o2,o3,o4];try rfl
 rw [hS] at s1;have s2:=TL g;refine zS Tryz.func272 rfl ?_;conv=>whnf
 apply zP tys_ok mixed (.o [0,1,2,3] (.two 4 (.two 5 (.o [6,7,8,9,10,11] .fin) 9 (.o [5,6,7,8,10,11] .fin)) 9 (.o [4,5,6,7,8,10,11] .fin))) [10,11,13,14,15,16,17,18,19,20,21] (by kernel_rfl)
 ·refine Af ?_ ?_
  ·conv=>whnf
   refine zZ (EY g c s hg hL) ?_;refine Af ?_ ?_
   ·conv=>whnf
    refine zZ s1 ?_;conv=>whnf
    try (refine tS ?_;conv=>whnf)
    exact tA
   ·conv=>whnf
    refine zZ s1 ?_;conv=>whnf
    try (refine tS ?_;conv=>whnf)
    exact tA
  ·conv=>whnf
   refine zZ (EY g c s hg hL) ?_;conv=>whnf
   refine zZ s1 ?_;conv=>whnf
   try (refine tS ?_;conv=>whnf)
   exact tA
 conv=>whnf
 refine zZ s2 ?_;exact⟨_,ri,rfl⟩
theorem TG (g:Geo) (a:An) (s seq left:Int) (hg:Bp g=true) (hs:0<=s/\s<g.sl) :
  Fn Tryz.prog 248 [.ag (AT g), .ag (ED a), .ag (Dz ⟨0,BB g zeroC 0 s⟩), .ag (Dz ⟨0,BB g zeroC 1 s⟩),iv s,iv seq,iv 0,iv 0,iv left]
   fun r=>r = .tp [.ag (JW zeroC),iA [],iv 2]:=by
 have s2:=Nt g 0 s hg (.inl rfl) hs;have s3:=Nt g 1 s hg (.inr rfl) hs;have i1:=X_ zeroC a seq 0 0 left;rw [show G7 zeroC a seq 0 0 left=false from decide_eq_false fun h=>h.1 rfl] at i1;refine zS Tryz.func248 rfl ?_;conv=>whnf
 repeat' (first | (refine z_ ?_;conv=>whnf) | (refine A8 (fun _=>?_) (fun _=>?_) <;> conv=>whnf) | (refine zZ s2 ?_;conv=>whnf) | (refine zZ s3 ?_;conv=>whnf) | (refine zZ i1 ?_;conv=>whnf) | (refine Af (by first | omega | exact of_decide_eq_true rfl) ?_;conv=>whnf) | fail)
 exact⟨_,fun c u h=>Z5 2 c u h,rfl⟩
theorem T9 (g:Geo) (a:An) (x y:List Gt) (hg:Bp g=true) (hp:a.pos=0) (hl:¬a.seq - 1<a.last) (hq1:1<=a.seq) (hq2:a.seq<=4294967295) (hx:(x.length:Int)=g.sl) (hy:(y.length:Int)=g.sl) (h0:x.getD 0 gz=⟨0,BB g zeroC 0 0⟩) (h1:y.getD 0 gz=⟨0,BB g zeroC 1 0⟩) :
  Fn Tryz.prog 201 [.ag (AT g), .ag (ED a),Im x,Im y] fun r=>r = .tp [Dl [],Lz [],iv 0]:=by
 obtain⟨g1,g2,g3,g4,g5⟩:=As.1 hg;have w1:IntKind.i64.wrap (a.seq - 1)=a.seq - 1:=wi (by omega);have w0:(IntKind.i64.wrap (0+0)).tmod g.sl=0:=by rw [show IntKind.i64.wrap (0+0)=0 from rfl,Int.zero_tmod]
 have rl1:=TG g a 0 a.seq g.sl hg ⟨by omega,by omega⟩;rw [<-h0,<-h1] at rl1;refine zS Tryz.func201 rfl ?_;conv=>whnf
 refine zA tys_ok mixed [0,1,2,3,4,5,6,7,8] (by kernel_rfl) ?_;conv=>whnf
 refine zu 1 ?_;conv=>whnf
 rw [show decide (g.sl > 0)=true from decide_eq_true (by omega)];conv=>whnf
 rw [show decide (a.seq<=4294967295)=true from decide_eq_true hq2];conv=>whnf
 refine zu 1 ?_;conv=>whnf
 repeat' (refine z_ ?_;conv=>whnf)
 refine⟨by omega,?_⟩;conv=>whnf
 rw [hp,w0];apply zP tys_ok mixed (.o [0,1,2,3,4,5,6,7,8,9,10,11,12,13,14] (.two 15 (.o [16,17,18,19,20,21,22,23] .fin) 20 (.o [15,16,17,18,19,21,22,23] .fin))) [22,23,24,60,61,62,63,64,65,66,67,68,69,70,71,72,73,74,75,76,77,78,79] (by kernel_rfl)
 ·conv=>whnf
  try (refine Af (by first | omega | exact ixA | exact ixB | (simp;done)) ?_;conv=>whnf)
  try (refine Af (by first | omega | exact ixA | exact ixB | (simp;done)) ?_;conv=>whnf)
  refine Af ?_ ?_
  ·conv=>whnf
   refine zZ rl1 ?_;conv=>whnf
   try (refine tS ?_;conv=>whnf)
   exact tA
  ·conv=>whnf
   refine zZ rl1 ?_;conv=>whnf
   try (refine tS ?_;conv=>whnf)
   exact tA
 conv=>whnf
 repeat' (refine z_ ?_;conv=>whnf)
 rw [w1,decide_eq_false hl];exact⟨.tp [Dl [],Lz [],iv 0],BW (m:= [Dl [],Lz [],iv 0]) ⟨Bh 4 _,Bh 2 _,ri,tv⟩,rfl⟩
def bB (g:Geo):Stt:=AJ (DQ (BZ g ⟨#[]⟩) 0) []
def bI (g:Geo) (a:An) (q:Int):List UInt8:=if q<g.an then D0 a q else GK g ⟨#[]⟩ q
theorem Qg {g:Geo} (hg:Bp g=true) {d:Dk} (h:Holds d (Ay g) (GK g ⟨#[]⟩)) {c:Int} (hc:c=0\/c=1):B6 d (BO g c)=GL g [] 0 c g.sl.toNat:=by
 rw [Mp h _ (N9 hg hc)];unfold BO GL;rw [List.map_map];refine Cv fun i hi=>?_
 have hi:=AP.1 hi;show (⟨0,GK g ⟨#[]⟩ (Bg g c (i:Nat))⟩:Gt)=_;rw [JM hc (by omega)];try rfl
theorem P1 {g:Geo} (hg:Bp g=true) {b:An} (hp:b.pos=0) (hl:¬b.seq - 1<b.last) {d:Dk} (h:Holds d (Ay g) (GK g ⟨#[]⟩)):FZ g b (B6 d (BO g 0)) (B6 d (BO g 1))=([], [],0):=by
 obtain⟨g1,g2,g3,g4,g5⟩:=As.1 hg;have hok:LogOk g [] 0:=⟨by simp,by simp,fun s i k _ h=>(nomatch (show (none:Option (Nat × Int))=some (i,k) from h)),fun s _=>F4 hg⟩;rw [XV,Qg hg h (.inl rfl),Qg hg h (.inr rfl),S6 hg hok (.inl rfl),S6 hg hok (.inr rfl)];obtain⟨n,hn⟩:∃ n,g.sl.toNat=n+1:=⟨g.sl.toNat - 1,by omega⟩;have hz:HG g [] 0 (fun _=>false) 0=some zeroC:=by
  unfold HG;rw [if_pos (by omega)];try rfl
 have hs:Db g 0 0=0:=by
  show (IntKind.i64.wrap 0).tmod g.sl=0;rw [show IntKind.i64.wrap 0=0 from rfl,Int.zero_tmod]
 have h0:G7 zeroC b b.seq 0 0 g.sl=false:=decide_eq_false fun h=>h.1 rfl
 have hr:(Z9 g b (HG g [] 0 fun _=>false) (HG g [] 0 fun _=>false) 0 b.seq g.sl 0 0).2.1=2:=by
  show (GU (HG g [] 0 (fun _=>false) (Db g 0 0)) (HG g [] 0 (fun _=>false) (Db g 0 0)) (RJ (HG g [] 0 (fun _=>false) (Db g 0 0)) b b.seq 0 0 g.sl) (RJ (HG g [] 0 (fun _=>false) (Db g 0 0)) b b.seq 0 0 g.sl)).2.2=2;rw [hs,hz];show (GU (some zeroC) (some zeroC) (G7 zeroC b b.seq 0 0 g.sl) (G7 zeroC b b.seq 0 0 g.sl)).2.2=2;rw [h0];try rfl
 have ht:(XH g b (HG g [] 0 fun _=>false) (HG g [] 0 fun _=>false) 0 b.seq g.sl).1=2:=by
  unfold XH;simp only;rw [if_pos (by rw [hr];decide)];exact hr
 unfold V6;rw [hn,hp,LK];split
 ·simp only;rw [ht,if_neg (by decide),if_pos (by decide),ME hl]
 ·exact ME hl
theorem RX {g:Geo} (hg:Bp g=true) (hb:Bu g (BZ g ⟨#[]⟩)=true) (x:Int):(GK g ⟨#[]⟩ x).length<=200:=by
 unfold GK;split
 ·exact JR hg hb x
 ·split
  ·exact C5 (F4 hg) _ _
  ·split
   ·exact C5 (F4 hg) _ _
   ·split
    ·rw [Fz,Fc];unfold Fd;rw [B8];have:=(As.1 hg).2.1;omega
    ·rw [Fz];decide
theorem YB {g:Geo} (hg:Bp g=true) (hb:Bu g (BZ g ⟨#[]⟩)=true):DkOk (Gy g ⟨#[]⟩):=by
 have hcb:=FT hg;have h:=Ku (g:=g) (s:=⟨#[]⟩) hg;have hlen:=h.len;refine⟨by omega,by rw [h.cache];simp,by show (0:Int)<=0/\(0:Int)<=_;decide,by show (-1:Int)<= -1/\(-1:Int)<=_;decide,fun c hc=>?_,fun w hw=>by rw [h.cache] at hw;cases hw⟩;obtain⟨i,hi,rfl⟩:=Do hc;have hci:=Qi (g:=g) (s:=⟨#[]⟩) hg (a:=((i:Nat):Int)) (by omega) (by omega);have e:(Gy g ⟨#[]⟩).cells.getD ((i:Nat):Int).toNat cz=(Gy g ⟨#[]⟩).cells[i]:=by
  rw [Ac,Aa,Ae hi];try rfl
 rw [e] at hci;rw [hci];exact⟨⟨CZ _,by show (0:Int)<=2;decide⟩,RX hg hb _,by simp⟩
theorem Wu {g:Geo} (hg:Bp g=true) (hb:Bu g (BZ g ⟨#[]⟩)=true) {d:Dk} (h:Holds d (Ay g) (GK g ⟨#[]⟩)):HH g (B6 d (DW g))=some (BZ g ⟨#[]⟩,(bH (HH g (B6 d (DW g))))):=by
 obtain⟨g1,g2,g3,g4,g5⟩:=As.1 hg;have hcg:=EL hg;have hsp:=LX g (B6 d (DW g)) (B6 d (DW g)).length;rw [F7,FC] at hsp;have hsay:∀ i,i<g.an.toNat->EW g ((B6 d (DW g)).getD i ⟨0, []⟩) (i:Nat)=some (BZ g ⟨#[]⟩):=fun i hi=>by
  rw [Sp hi,h.got (by omega) (by omega),Ta (by omega)];exact Rn hg hb (by omega)
 have hpk:HH g (B6 d (DW g))=Fy g (B6 d (DW g)) g.an.toNat:=by rw [HH,F7,FC]
 rw [hpk];cases hP:Fy g (B6 d (DW g)) g.an.toNat with
 | none=>
  have:=hsp.1 hP 0 (by omega);rw [hsay 0 (by omega)] at this;cases this
 | some q=>
  obtain⟨a0,j⟩:=q;obtain⟨q1,q2,q3⟩:=hsp.2 a0 j hP;rw [hsay j q1] at q2;cases q2;rfl
theorem ZI {g:Geo} (hg:Bp g=true):ai g (Gy g ⟨#[]⟩):=fun d1 a j _ h1 h2 hp=>by
 obtain⟨g1,g2,g3,g4,g5⟩:=As.1 hg;have hf:=Ku (g:=g) (s:=⟨#[]⟩) hg;have hb:=Kv (g:=g) (s:=⟨#[]⟩) hg lab_nil;rw [Wu hg hb hf] at hp;obtain⟨rfl, -⟩:=Prod.mk.inj (Option.some.inj hp);have h3:Holds d1 (Ay g) (GK g ⟨#[]⟩):=⟨by rw [h1];exact hf.len,h2.trans hf.cache,by rw [h1];exact hf.cell⟩;have hl:∀ c,((B6 d1 (BO g c)).length:Int)=g.sl:=fun c=>by rw [F7,Jd];omega
 have e:∀ c,c=0\/c=1->(B6 d1 (BO g c)).getD 0 gz=⟨0,BB g zeroC c 0⟩:=fun c hc=>by
  rw [Mp h3 _ (N9 hg hc)];unfold BO;rw [List.map_map,Aa,AS,Bq (by omega)];show (⟨0,GK g ⟨#[]⟩ (Bg g c ((0:Nat):Int))⟩:Gt)=_;rw [JM hc (by omega)];try rfl
 rw [P1 hg rfl (by show ¬(1:Int) - 1<0;decide) h3];exact⟨T9 g _ _ _ hg rfl (by show ¬(1:Int) - 1<0;decide) (by show (1:Int)<=1;decide) (by show (1:Int)<=4294967295;decide) (hl 0) (hl 1) (e 0 (.inl rfl)) (e 1 (.inr rfl)),fun _=>⟨fun w hw=>(by cases hw),Aj _⟩⟩
def RK (g:Geo) (c:An) (q:Int):List UInt8:=if q<0 then ((CU (Gy g ⟨#[]⟩).cells (Bf g c)).getD (-1 - q).toNat cz).old else bI g c q
theorem ZD {g:Geo} (hg:Bp g=true):∃ D,DN g (Gy g ⟨#[]⟩)=(D,0,bB g)/\DkOk (Gy g ⟨#[]⟩)/\((Gy g ⟨#[]⟩).cells.length:Int)=Ay g/\Vol g 2 D (bB g)/\Gd (Ay g) D (RK g (DQ (BZ g ⟨#[]⟩) 0)):=by
 obtain⟨g1,g2,g3,g4,g5⟩:=As.1 hg;have hs:Gu (⟨#[]⟩:ByteArray).data.toList=0:=lab_nil;have hf:=Ku (g:=g) (s:=⟨#[]⟩) hg;have hb:=Kv (g:=g) (s:=⟨#[]⟩) hg hs;have hdk:DkOk (Gy g ⟨#[]⟩):=YB hg hb;have hcg:=EL hg;have hsc:=P1 hg (b:=BZ g ⟨#[]⟩) rfl (by show ¬(1:Int) - 1<0;decide) hf;have hm:=OJ hg hdk hf.len hf.cache (by show (-1:Int)<0;decide) (Wu hg hb hf) hsc (by show (1:Int)≠_;decide) (by show (0:Int)≠_;decide) (fun w hw=>by cases hw) (Aj _);have hna:=Ex g (DQ (BZ g ⟨#[]⟩) ([]:List Tx).length);rw [WJ hf _ (fun w hw=>by
  simp only [Bf,AK,AP] at hw;obtain⟨i,hi,rfl⟩:=hw;exact⟨by show (0:Int)<=(i:Nat);omega,by show ((i:Nat):Int)<_;omega⟩),if_neg (by omega),if_neg (by omega)] at hm
 have hn:=PU (n:=0) hb (by show (1:Int)≠_;decide) (by show (0:Int)≠_;decide) (by show (1:Int)+0 - 1<=_;decide);have hfin:=Ut (r:=((Gy g ⟨#[]⟩).tick (Mf g [])).reqs) (l:=(Gy g ⟨#[]⟩).left) hg (c:=DQ (BZ g ⟨#[]⟩) ([]:List Tx).length) hf;have hD:DkOk ⟨CU (CU (Gy g ⟨#[]⟩).cells []) (Bf g (DQ (BZ g ⟨#[]⟩) 0)), [],((Gy g ⟨#[]⟩).tick (Mf g [])).reqs,(Gy g ⟨#[]⟩).left⟩:=by
  have h1:=hdk.adv (Mf g []);rw [JU _ (SP hdk (by show (-1:Int)<0;decide) _)] at h1;have h2:=h1.allFin (Bf g (DQ (BZ g ⟨#[]⟩) 0)) fun w hw=>(MO hg hn hf.len w hw).2
  rw [allFin_cells] at h2;exact h2
 have hgd:Gd (Ay g) _ (RK g (DQ (BZ g ⟨#[]⟩) 0)):=⟨hD,rfl,hfin.len,hfin.cache,fun a h0 h1=>by
  unfold RK;rw [if_neg (by omega)];exact hfin.cell a h0 h1,fun a h0 h1=>by
  unfold RK;rw [if_pos (by omega),show -1 - (-1 - a)=a by omega];try rfl⟩
 exact⟨_,hm,hdk,hf.len,⟨⟨_,hgd⟩,hn,rfl,tA,(by show (1:Int)+1<=2;decide),(by show (1:Int)+(0:Nat)<=2;decide),fun t ht=>by cases ht⟩,hgd⟩
theorem flat_by1:∀ b:List UInt8,((b.map Ej).flatten.all flatX)=true
 | []=>rfl
 | x::b=>by rw [A3,AN,Dj,flat_by1 b];rfl
structure LogB (l:List Tx):Prop where
 n:l.length<=1000000
 i:∀ t∈l,t.images.length<=1000000/\∀ x∈t.images,x.bytes.length<=1000000000
def EP (g:Geo) (s:Stt) (F:Int->List UInt8) (z:Int):Option (List Ent):=match C2 s.txns z 255 with
 | some p=>BT g p.1.bytes
 | none=>match BG g ⟨0,F (AI g z 0)⟩ (AI g z 0) (Ch s.a s.txns z) with
  | some t=>some t
  | none=>BG g ⟨0,F (AI g z 1)⟩ (AI g z 1) (Ch s.a s.txns z)
theorem Ge {m:Nat} (h:Nat.ble 6 m=true):∀ z∈ [0,1,2,3,4,5],z<m:=fun z hz=>by
 have:=Ag h;simp at hz;omega
theorem VE (g:Geo) (s:Stt) (d:Dk) (F:Int->List UInt8) (z:Int) (hg:Bp g=true) (hl:LogB s.txns) (ha:Bu g s.a=true) (h:Gd (Ay g) d F) (hF:∀ a,(F a).length<=100000) (hz:0<=z/\z<g.z) :
    ACalls Tryz.prog false 30 [.bp 0 0,iv z] (Fw g s 0 d) fun r H=>r = .tp [.ag [Bm ((EP g s F z).getD [])], .v (.bool (EP g s F z).isSome)]/\∃ d',Gd (Ay g) d' F/\H=Fw g s 0 d':=by
  have hf:=Kc s.txns z 255 hl.n hl.i;unfold EP;cases hL:C2 s.txns z 255 with
  | some p=>
    obtain⟨x,q⟩:=p;rw [hL] at hf;have hr:=LL g x.bytes hg;simp only;refine zT tys_ok Tryz.func30 rfl rfl (Ag rfl) ?_;conv=>whnf
    refine FnO.lend (hf.subA (args:= [.sl 4 s.txns.length fun i=>(s.txns.map CO).getD i [],iv z,iv 255]) ⟨Bb (f:=CO) s.txns rfl rfl,fun _ _ h=>h,fun _ _ h=>h,tv⟩) ⟨(Ab _).symm,rfl⟩ ?_;rintro _ _ ⟨rfl,rfl⟩;refine⟨⟨rfl,by rw [flatR,flat_by1];try rfl⟩,?_⟩;conv=>whnf
    refine zN hr.go ?_;refine Af (Ab _).symm ?_;conv=>whnf
    refine zX [.ag (AT g),bA x.bytes] ⟨ri,E0 rfl rfl,tv⟩ ?_;refine zZ hr ?_;exact⟨.tp [.ag [Bm ((BT g x.bytes).getD [])], .v (.bool (BT g x.bytes).isSome)], .tp [.ag [Bm ((BT g x.bytes).getD [])], .v (.bool (BT g x.bytes).isSome)],Fw g s 0 d,fun _ _ h=>h,zR (s:= [0,1,2,3,4,5]) tA,rfl,d,h,rfl⟩
  | none=>
    rw [hL] at hf;simp only;have hG1:∀ k:Nat,k<2->(∀ j:Nat,j<k->BG g ⟨0,F (AI g z (j:Nat))⟩ (AI g z (j:Nat)) (Ch s.a s.txns z)=none)->∀ t,BG g ⟨0,F (AI g z (k:Nat))⟩ (AI g z (k:Nat)) (Ch s.a s.txns z)=some t->(match BG g ⟨0,F (AI g z 0)⟩ (AI g z 0) (Ch s.a s.txns z) with | some t=>some t | none=>BG g ⟨0,F (AI g z 1)⟩ (AI g z 1) (Ch s.a s.txns z))=some t:=fun k hk hno t ht=>by
      match k,hk with
      | 0,_=>
        have ht:BG g ⟨0,F (AI g z 0)⟩ (AI g z 0) (Ch s.a s.txns z)=some t:=ht;rw [ht]
      | 1,_=>
        have h0:BG g ⟨0,F (AI g z 0)⟩ (AI g z 0) (Ch s.a s.txns z)=none:=hno 0 (by decide);rw [h0];exact ht
    have hG2:(∀ j:Nat,j<2->BG g ⟨0,F (AI g z (j:Nat))⟩ (AI g z (j:Nat)) (Ch s.a s.txns z)=none)->(match BG g ⟨0,F (AI g z 0)⟩ (AI g z 0) (Ch s.a s.txns z) with | some t=>some t | none=>BG g ⟨0,F (AI g z 1)⟩ (AI g z 1) (Ch s.a s.txns z))=none:=fun hno=>by
      have h0:BG g ⟨0,F (AI g z 0)⟩ (AI g z 0) (Ch s.a s.txns z)=none:=hno 0 (by decide);rw [h0];exact hno 1 (by decide)
    generalize (match BG g ⟨0,F (AI g z 0)⟩ (AI g z 0) (Ch s.a s.txns z) with | some t=>some t | none=>BG g ⟨0,F (AI g z 1)⟩ (AI g z 1) (Ch s.a s.txns z))=G at hG1 hG2 |-
    have zs:∀ (c:Ctx) (v:Value),Rd (.tp [.ag [.v (.slice none 0 0)], .v (.bool false)]) c v->Rd (.tp [.ag [Bm []], .v (.bool false)]) c v:=BW (m:= [.ag [Bm []], .v (.bool false)]) ⟨Bi ⟨Bh 3 _,tv⟩,ri,tv⟩;have hR:=VG g s.a s.txns z (Ew ha).2.2.2 hz hl.n hl.i;refine zT tys_ok Tryz.func30 rfl rfl (Ag rfl) ?_;conv=>whnf
    refine FnO.lend (hf.subA (args:= [.sl 4 s.txns.length fun i=>(s.txns.map CO).getD i [],iv z,iv 255]) ⟨Bb (f:=CO) s.txns rfl rfl,fun _ _ h=>h,fun _ _ h=>h,tv⟩) ⟨(Ab _).symm,rfl⟩ ?_;rintro _ _ ⟨rfl,rfl⟩;refine⟨tA,?_⟩;conv=>whnf
    repeat' (refine z_ ?_;conv=>whnf)
    apply zP tys_ok mixed (.o [0,1,2,3,4,5,6,7,8,9,10,11,12] .fin) [9,34,35,36,37,38,39,40,41,42,43,44,45] (by kernel_rfl)
    · conv=>whnf
      (refine zp (args':= [.ag (Tj s.a (.sl 3 s.a.homes.length fun i=>(s.a.homes.map EC).getD i [])), .sl 4 s.txns.length fun i=>(s.txns.map CO).getD i [],iv z]) (hR.subA ⟨Bi ⟨ri,ri,ri,ri,ri,ri,Bb (f:=EC) s.a.homes rfl rfl,tv⟩,Bb (f:=CO) s.txns rfl rfl,ri,tv⟩) ⟨(Ab _).symm,(Ab _).symm,rfl⟩ ?_;rintro _ rfl;refine⟨rfl,?_⟩)
      exact tA
    conv=>whnf
    have htab:∀ k:Nat,k<2->g.an+2*g.sl<=AI g z (k:Nat)/\AI g z (k:Nat)<Ay g:=fun k hk=>by have:=FV hg hz (k:=(k:Nat)) (by omega);omega
    refine zU (Nat × Dk) (fun x=>([(0, .bp 0 0),(1,iv z),(4, .bp 6 0),(9,iv (Ch s.a s.txns z)),(10,iv (x.1:Nat))],Fw g s 0 x.2 ++ ([.box 70 [.v (.slice none 0 0)]]:List AB))) (fun x=>x.1<=2/\Gd (Ay g) x.2 F/\∀ j:Nat,j<x.1->BG g ⟨0,F (AI g z (j:Nat))⟩ (AI g z (j:Nat)) (Ch s.a s.txns z)=none) (fun x=>2 - x.1) (0,d) ⟨Aj _,h,fun j hj=>absurd hj (Ap j)⟩
      (zR (s:= [0,1,2,3,4,5,6]) tA) ?_
    rintro⟨k,d1⟩ ⟨hk,hd1,hno⟩;simp only at hk hd1 hno;conv=>whnf
    refine A8 (fun h6=>?_) (fun h6=>?_) <;> (repeat rw [Ac] at h6) <;> conv=>whnf
    · have hk2:k<2:=by omega
      have hta:=Iv g z (k:Nat) hg hz (by omega);obtain⟨q1,q2⟩:=htab k hk2;have hz2:=As.1 hg;have hrd:=bz g s (Ay g) d1 F (AI g z (k:Nat)) hd1 (by omega);have hGk:=hG1 k hk2 hno;have hto:=P6 g ⟨0,F (AI g z (k:Nat))⟩ (AI g z (k:Nat)) (Ch s.a s.txns z) hg (hF _);repeat' (refine z_ ?_;conv=>whnf)
      refine zZ hta ?_;conv=>whnf
      repeat' (refine z_ ?_;conv=>whnf)
      apply zW (8+2 ^ 134) tys_ok mixed (.o [0,1,2,4,5,7,8] (.three 3 (.two 6 (.two 9 (.o [10,11,12,13,14,15] .fin) 13 (.o [9,10,11,12,14,15] .fin)) 13 (.o [6,9,10,11,12,14,15] .fin)) 6 (.two 3 (.two 9 (.o [10,11,12,13,14,15] .fin) 13 (.o [9,10,11,12,14,15] .fin)) 13 (.o [3,9,10,11,12,14,15] .fin)) 13 (.two 3 (.o [6,9,10,11,12,14,15] .fin) 6 (.o [3,9,10,11,12,14,15] .fin)))) (by kernel_rfl);refine Af ?_ (Af ?_ ?_);refine Af ?_ ?_;conv=>whnf
      (refine zd [0,1,2,3,4,5] hrd ?_;rintro _ _ ⟨rfl,d2,hd2,rfl⟩)
      refine Af ?_ ?_;conv=>whnf
      refine zZ hto ?_;conv=>whnf
      try (refine tS ?_;conv=>whnf)
      rotate_left 1;conv=>whnf
      refine zZ hto ?_;conv=>whnf
      try (refine tS ?_;conv=>whnf)
      rotate_left 1;conv=>whnf
      (refine zd [0,1,2,3,4,5] hrd ?_;rintro _ _ ⟨rfl,d2,hd2,rfl⟩)
      conv=>whnf
      refine zZ hto ?_;conv=>whnf
      try (refine tS ?_;conv=>whnf)
      rotate_left 1;conv=>whnf
      (refine zd [0,1,2,3,4,5] hrd ?_;rintro _ _ ⟨rfl,d2,hd2,rfl⟩)
      refine Af ?_ ?_;refine Af ?_ ?_;conv=>whnf
      refine zZ hto ?_;conv=>whnf
      try (refine tS ?_;conv=>whnf)
      rotate_left 1;conv=>whnf
      refine zZ hto ?_;conv=>whnf
      try (refine tS ?_;conv=>whnf)
      rotate_left 1;conv=>whnf
      refine zZ hto ?_;conv=>whnf
      try (refine tS ?_;conv=>whnf)
      rotate_left 1;refine Af ?_ ?_;conv=>whnf
      (refine zd [0,1,2,3,4,5] hrd ?_;rintro _ _ ⟨rfl,d2,hd2,rfl⟩)
      conv=>whnf
      refine zZ hto ?_;conv=>whnf
      try (refine tS ?_;conv=>whnf)
      rotate_left 1;conv=>whnf
      (refine zd [0,1,2,3,4,5] hrd ?_;rintro _ _ ⟨rfl,d2,hd2,rfl⟩)
      conv=>whnf
      refine zZ hto ?_;conv=>whnf
      try (refine tS ?_;conv=>whnf)
      rotate_left 1;all_goals
        cases hT:BG g ⟨0,F (AI g z (k:Nat))⟩ (AI g z (k:Nat)) (Ch s.a s.txns z)
      all_goals
        conv=>whnf
        first
        | exact⟨(k+1,d2),⟨by show k+1<=2;omega,hd2,fun j hj=>by by_cases e:j=k;exact e ▸ hT;exact hno j (by have:j<k+1:=hj;omega)⟩,by show 2 - (k+1)<2 - k;omega,zR (s:= [0,1,2,3,4,5,6]) ⟨⟨rfl,rfl,rfl,rfl,AH (by omega),tv⟩,tA,rfl,rfl,rfl,rfl,rfl⟩⟩
        | (rename_i t
           have e:=hGk _ hT;subst e;exact⟨.tp [.ag [Bm t], .v (.bool true)], .tp [.ag [Bm t], .v (.bool true)],Fw g s 0 d2,fun _ _ h=>h,zR (s:= [0,1,2,3,4,5]) tA,rfl,d2,hd2,rfl⟩)
    · have ek:k=2:=by omega
      subst ek;rw [hG2 hno];exact⟨.tp [.ag [Bm []], .v (.bool false)], .tp [.ag [Bm []], .v (.bool false)],Fw g s 0 d1,zs,zR (s:= [0,1,2,3,4,5]) tA,rfl,d1,hd1,rfl⟩
def JE (g:Geo) (s:Stt) (F:Int->List UInt8) (t:List Ent) (z w:Int):List UInt8:=match C2 s.txns z w with
 | some p=>p.1.bytes
 | none=>(DD ⟨0,F (BH g s.a z w)⟩ (BH g s.a z w) (t.getD (Em g w).toNat ez)).getD []
theorem St (g:Geo) (s:Stt) (d:Dk) (F:Int->List UInt8) (t:List Ent) (z w:Int) (hg:Bp g=true) (hl:LogB s.txns) (ha:Bu g s.a=true) (h:Gd (Ay g) d F) (hF:∀ a,(F a).length<=100000) (ht:(t.length:Int)=g.d+1) (hz:0<=z/\z<g.z) (hw : -1<=w/\w<g.d) :
    ACalls Tryz.prog false 80 [.bp 0 0, .ag [Bm t],iv z,iv w] (Fw g s 0 d) fun r H=>r=bA (JE g s F t z w)/\∃ d',Gd (Ay g) d' F/\H=Fw g s 0 d':=by
  have hf:=Kc s.txns z w hl.n hl.i;unfold JE;cases hL:C2 s.txns z w with
  | some p=>
    obtain⟨x,q⟩:=p;rw [hL] at hf;simp only;refine zT tys_ok Tryz.func80 rfl rfl (Ag rfl) ?_;conv=>whnf
    refine FnO.lend (hf.subA (args:= [.sl 4 s.txns.length fun i=>(s.txns.map CO).getD i [],iv z,iv w]) ⟨Bb (f:=CO) s.txns rfl rfl,fun _ _ h=>h,fun _ _ h=>h,tv⟩) ⟨(Ab _).symm,rfl⟩ ?_;rintro _ _ ⟨rfl,rfl⟩;refine⟨⟨rfl,by rw [flatR,flat_by1];try rfl⟩,?_⟩;exact⟨.ow 7 (x.bytes.length),bA x.bytes,Fw g s 0 d,fun _ _ h=>h,zF (zQ (zL 0 7 (congrArg (AV.ow 7) (Ab _).symm) rfl) (zI 0 rfl (E0 (Ab _) rfl))) (s:= [0,1,2,3,4,5]) tA,rfl,d,h,rfl⟩
  | none=>
    rw [hL] at hf;simp only;have hA:=LW g s.a z w hg ha hz hw;obtain⟨sl,e1,e2,e3⟩:=Ey hg ha hz hw;obtain⟨q1,q2⟩:=FE hg hz ⟨e2,e3⟩;have hz2:=As.1 hg;have hrd:=bz g s (Ay g) d F (BH g s.a z w) h (by omega);have hat:=Wb g w;have hb:=TU ⟨0,F (BH g s.a z w)⟩ (BH g s.a z w) (t.getD (Em g w).toNat ez) (hF _);have a1:0<=Em g w/\Em g w<g.d+1:=by unfold Em;split <;> omega
    refine zT tys_ok Tryz.func80 rfl rfl (Ag rfl) ?_;conv=>whnf
    refine FnO.lend (hf.subA (args:= [.sl 4 s.txns.length fun i=>(s.txns.map CO).getD i [],iv z,iv w]) ⟨Bb (f:=CO) s.txns rfl rfl,fun _ _ h=>h,fun _ _ h=>h,tv⟩) ⟨(Ab _).symm,rfl⟩ ?_;rintro _ _ ⟨rfl,rfl⟩;refine⟨tA,?_⟩;conv=>whnf
    repeat' (refine z_ ?_;conv=>whnf)
    apply zP tys_ok mixed (.o [0,1,2,3,4,5,6,7,8,9,10,11,12] .fin) [12,29,30,31,32,33,34,35,36,37,38,39,40] (by kernel_rfl)
    · conv=>whnf
      (refine zp (args':= [.ag (AT g), .ag (Tj s.a (.sl 3 s.a.homes.length fun i=>(s.a.homes.map EC).getD i [])),iv z,iv w]) (hA.subA ⟨ri,Bi ⟨ri,ri,ri,ri,ri,ri,Bb (f:=EC) s.a.homes rfl rfl,tv⟩,ri,ri,tv⟩) ⟨(Ab _).symm,rfl⟩ ?_;rintro _ rfl;refine⟨rfl,?_⟩)
      exact tA
    conv=>whnf
    cases hb2:DD ⟨0,F (BH g s.a z w)⟩ (BH g s.a z w) (t.getD (Em g w).toNat ez);all_goals
      rw [hb2] at hb;repeat' (refine z_ ?_;conv=>whnf)
      apply zW (544+2 ^ 130) tys_ok mixed (.o [0,1,3,4,6,7,8,10] (.three 2 (.two 5 (.o [9,11,12,13,14,15,16,17,18,19] .fin) 9 (.two 5 (.o [11,12,13,14,15,16,17,18,19] .fin) 11 (.o [5,12,13,14,15,16,17,18,19] .fin))) 5 (.two 2 (.o [9,11,12,13,14,15,16,17,18,19] .fin) 9 (.o [2,11,12,13,14,15,16,17,18,19] .fin)) 9 (.two 2 (.two 5 (.o [11,12,13,14,15,16,17,18,19] .fin) 11 (.o [5,12,13,14,15,16,17,18,19] .fin)) 5 (.o [2,11,12,13,14,15,16,17,18,19] .fin)))) (by kernel_rfl);refine Af ?_ (Af ?_ ?_);conv=>whnf
      (refine zd [0,1,2,3,4,5] hrd ?_;rintro _ _ ⟨rfl,d2,hd2,rfl⟩)
      refine Af ?_ ?_;conv=>whnf
      refine zZ hat ?_;conv=>whnf
      try (refine tI ?_;conv=>whnf)
      refine zZ hb ?_;conv=>whnf
      rotate_left 1;refine Af ?_ ?_;conv=>whnf
      refine zZ hat ?_;conv=>whnf
      try (refine tI ?_;conv=>whnf)
      refine zZ hb ?_;conv=>whnf
      rotate_left 1;conv=>whnf
      refine zZ hat ?_;conv=>whnf
      try (refine tI ?_;conv=>whnf)
      refine zZ hb ?_;conv=>whnf
      rotate_left 1;refine Af ?_ ?_;conv=>whnf
      (refine zd [0,1,2,3,4,5] hrd ?_;rintro _ _ ⟨rfl,d2,hd2,rfl⟩)
      conv=>whnf
      refine zZ hat ?_;conv=>whnf
      try (refine tI ?_;conv=>whnf)
      refine zZ hb ?_;conv=>whnf
      rotate_left 1;conv=>whnf
      (refine zd [0,1,2,3,4,5] hrd ?_;rintro _ _ ⟨rfl,d2,hd2,rfl⟩)
      conv=>whnf
      refine zZ hat ?_;conv=>whnf
      try (refine tI ?_;conv=>whnf)
      refine zZ hb ?_;conv=>whnf
      rotate_left 1;refine Af ?_ ?_;conv=>whnf
      (refine zd [0,1,2,3,4,5] hrd ?_;rintro _ _ ⟨rfl,d2,hd2,rfl⟩)
      refine Af ?_ ?_;conv=>whnf
      refine zZ hat ?_;conv=>whnf
      try (refine tI ?_;conv=>whnf)
      refine zZ hb ?_;conv=>whnf
      rotate_left 1;conv=>whnf
      refine zZ hat ?_;conv=>whnf
      try (refine tI ?_;conv=>whnf)
      refine zZ hb ?_;conv=>whnf
      rotate_left 1;conv=>whnf
      (refine zd [0,1,2,3,4,5] hrd ?_;rintro _ _ ⟨rfl,d2,hd2,rfl⟩)
      conv=>whnf
      refine zZ hat ?_;conv=>whnf
      try (refine tI ?_;conv=>whnf)
      refine zZ hb ?_;conv=>whnf
      rotate_left 1
    all_goals
      first
      | (rename_i b
         exact⟨bA b,bA b,Fw g s 0 d2,fun _ _ h=>h,zR (s:= [0,1,2,3,4,5]) tA,rfl,d2,hd2,rfl⟩)
      | exact⟨bA [],bA [],Fw g s 0 d2,Bh 1 _,zR (s:= [0,1,2,3,4,5]) tA,rfl,d2,hd2,rfl⟩
def DY (b:List UInt8):List AV:= [bA b]
theorem ConvF.sealTp {fr:Fr} {H:List AB} (i k:Nat) {x z:AV} {t:TypeId} {sz:Nat} {es:List (List AV)} (hx:fget fr i = .tp [x, .ow k es.length,z]) (hk:hget H k=some (.row t sz es)):ConvF fr H ((i, .tp [x, .sl sz es.length fun j=>es.getD j [],z])::fr) (H.set k .dead):=fun _ _ c _ _ hs hf=>by
 rw [hget_eq] at hk;obtain⟨c1,e1,s1,x1,r1⟩:=hs.freeze hk;refine⟨c1,e1,s1,(hf.ext x1).cons i _ ?_,x1⟩;have h0:=hf.get i;have h1:=(hf.ext x1).get i;rw [hx] at h0 h1;simp only [Rd] at h0 h1;obtain⟨us,e,h0⟩:=h0;obtain⟨us',e',h1⟩:=h1;have eu:us'=us:=by
  have:=e.symm.trans e';injection this with this
  simpa using this.symm
 subst eu;obtain⟨y1,l1,rfl,a1,y2,l2,rfl,a2,y3,l3,rfl,a3,rfl⟩:=h0;obtain⟨z1,m1,q1,b1,z2,m2,q2,b2,z3,m3,q3,b3,q4⟩:=h1;subst q2 q3 q4;simp only [List.cons.injEq,and_true] at q1;obtain⟨rfl,rfl,rfl⟩:=q1;simp only [Rd];exact⟨_,e,_,_,rfl,b1,_,_,rfl,r1 _ a2,_,_,rfl,b3,rfl⟩
theorem Ei {L:List (List UInt8)} {n:Nat} {es:List (List AV)} (hn:n=L.length) (he:es=L.map DY) (c:Ctx) (v:Value) (h:Rd (.sl 1 n fun i=>es.getD i []) c v):Rd (Ev L) c v:=Bb (f:=DY) L hn he c v h
def Kr (g:Geo) (s:Stt) (F:Int->List UInt8) (t:List Ent) (z:Int) (k:Nat):List (List UInt8):=(List.range k).map fun i=>JE g s F t z (i:Nat)
def Dg (g:Geo) (s:Stt) (F:Int->List UInt8) (t:List Ent) (z:Int):List (List UInt8):=Kr g s F t z g.d.toNat ++ [JE g s F t z (-1)]
theorem J1 {g:Geo} {s:Stt} {F:Int->List UInt8} {z:Int} {t:List Ent} (h:EP g s F z=some t):FX g t=true:=by
 have hr:∀ {b:List UInt8} {t:List Ent},BT g b=some t->FX g t=true:=fun {b t} h=>by
  unfold BT at h;split at h
  ·rename_i hh;obtain rfl:=Option.some.inj h;exact hh.1
  ·cases h
 have ho:∀ {x:Gt} {a r:Int} {t:List Ent},BG g x a r=some t->FX g t=true:=fun {x a r t} h=>by
  unfold BG at h;split at h
  ·split at h
   ·exact hr h
   ·cases h
  ·cases h
 unfold EP at h;split at h
 ·exact hr h
 ·split at h
  ·rename_i hh;obtain rfl:=Option.some.inj h;exact ho hh
  ·exact ho h
theorem G6 {g:Geo} {t:List Ent} (h:FX g t=true):(t.length:Int)=g.d+1:=by
 unfold FX at h
 grind
theorem GT {g:Geo} {s:Stt} {F:Int->List UInt8} {t:List Ent} {z w:Int} (hi:∀ t∈s.txns,∀ x∈t.images,Bz g x=true) (hw:w≠255):(JE g s F t z w).length=0\/(JE g s F t z w).length=8:=by
 unfold JE;split
 ·rename_i p hp;obtain⟨x,q⟩:=p;obtain⟨t',ht, -,hx, -,e⟩:=GY (Ah _) hp;exact .inr ((E7 (hi t' ht x hx)).2 (by rw [e];exact hw)).2.2
 ·unfold DD;split
  ·split
   ·rename_i h;exact .inr h.2.1
   ·exact .inl rfl
  ·exact .inl rfl
theorem Ru (g:Geo) (s:Stt) (d:Dk) (F:Int->List UInt8) (z:Int) (hg:Bp g=true) (hl:LogB s.txns) (ha:Bu g s.a=true) (h:Gd (Ay g) d F) (hF:∀ a,(F a).length<=100000) (hz:0<=z/\z<g.z) :
  ACalls Tryz.prog false 31 [.bp 0 0,iv z] (Fw g s 0 d) fun r H=>r=(match EP g s F z with | some t=> .tp [.ag [Bm t],Ev (Dg g s F t z), .v (.bool true)] | none=> .tp [.ag [Bm []],Ev [], .v (.bool false)])/\∃ d',Gd (Ay g) d' F/\H=Fw g s 0 d':=by
 have hT:=VE g s d F z hg hl ha h hF hz;obtain⟨g1,g2,g3,g4,g5⟩:=As.1 hg;cases hq:EP g s F z with
 | none=>
  rw [hq] at hT;refine zT tys_ok Tryz.func31 rfl rfl (Ag rfl) ?_;conv=>whnf
  refine zd [0,1,2,3,4,5] hT ?_;rintro _ _ ⟨rfl,d2,hd2,rfl⟩;exact⟨.tp [.ag [Bm []],Ev [], .v (.bool false)], .tp [.ag [Bm []],Ev [], .v (.bool false)],Fw g s 0 d2,BW ⟨Bi ⟨Bh 3 _,tv⟩,Bh 1 _,ri,tv⟩,zR (s:= [0,1,2,3,4,5]) tA,rfl,d2,hd2,rfl⟩
 | some t=>
  rw [hq] at hT;have htl:=G6 (J1 hq);refine zT tys_ok Tryz.func31 rfl rfl (Ag rfl) ?_;conv=>whnf
  refine zd [0,1,2,3,4,5] hT ?_;rintro _ _ ⟨rfl,d2,hd2,rfl⟩;conv=>whnf
  refine zU (Nat × Dk) (fun x=>([(0, .bp 0 0),(1,iv z),(4, .bp 6 0),(7, .bp 7 0),(9, .ow 8 x.1),(10,iv (x.1:Nat))],Fw g s 0 x.2 ++ ([.box 70 [.v (.slice none 0 0)], .box 70 [Bm t], .row 47 1 ((Kr g s F t z x.1).map DY)]:List AB))) (fun x=>(x.1:Int)<=g.d/\Gd (Ay g) x.2 F) (fun x=>g.d.toNat - x.1) (0,d2) ⟨by show ((0:Nat):Int)<=g.d;omega,hd2⟩
   ⟨_,_,zG _ _, [(9,47,1)],tA, [0,1,2,3,4,5,6,7,8],tA,tA,rfl,rfl,rfl,rfl,rfl⟩ ?_
  rintro⟨k,d1⟩ ⟨hk,hd1⟩;simp only at hk hd1;conv=>whnf
  refine A8 (fun h6=>?_) (fun h6=>?_) <;> (repeat rw [Ac] at h6) <;> conv=>whnf
  ·have hk1:(Kr g s F t z k).map DY ++ [DY (JE g s F t z (k:Nat))]=(Kr g s F t z (k+1)).map DY:=by simp [Kr,Bd]
   have h1:=St g s d1 F t z (k:Nat) hg hl ha hd1 hF htl hz (by omega);repeat' (refine z_ ?_;conv=>whnf)
   refine zd [0,1,2,3,4,5] h1 ?_;rintro _ _ ⟨rfl,d3,hd3,rfl⟩;refine⟨rfl,?_⟩;refine⟨⟨by simp [Kr],by omega⟩,?_⟩;conv=>whnf
   exact⟨(k+1,d3),⟨by show ((k+1:Nat):Int)<=g.d;omega,hd3⟩,by show g.d.toNat - (k+1)<g.d.toNat - k;omega,zR (s:= [0,1,2,3,4,5,6,7,8]) ⟨⟨rfl,rfl,rfl,rfl,rfl,AH (by omega),tv⟩,⟨rfl,rfl,rfl,rfl,rfl,rfl,rfl,rfl,congrArg (fun es=>some (AB.row 47 1 es)) hk1,tv⟩,rfl,rfl,rfl,rfl,rfl⟩⟩
  ·have ek:k=g.d.toNat:=by omega
   subst ek;have hlen:(Dg g s F t z).length=g.d.toNat+1:=by simp [Dg,Kr]
   have hrow:(Kr g s F t z g.d.toNat).map DY ++ [DY (JE g s F t z (-1))]=(Dg g s F t z).map DY:=by simp [Dg]
   have h1:=St g s d1 F t z (-1) hg hl ha hd1 hF htl hz (by omega);refine zd [0,1,2,3,4,5] h1 ?_;rintro _ _ ⟨rfl,d3,hd3,rfl⟩;refine⟨rfl,?_⟩;refine⟨⟨by simp [Kr],by omega⟩,?_⟩;conv=>whnf
   apply zW (32) tys_ok mixed (.o [0,1,2,3,4] (.two 5 (.o [6,7,8,9] .fin) 7 (.o [8,5,6,9] .fin))) (by kernel_rfl);refine Af ?_ ?_;conv=>whnf
   try (refine tS ?_;conv=>whnf)
   rotate_left 1;conv=>whnf
   try (refine tS ?_;conv=>whnf)
   rotate_left 1;all_goals
    conv=>whnf
    exact⟨.tp [.ag [Bm t], .ow 8 (Dg g s F t z).length, .v (.bool true)], .tp [.ag [Bm t],Ev (Dg g s F t z), .v (.bool true)],Fw g s 0 d3,BW (m:= [.ag [Bm t], .ow 8 (Dg g s F t z).length, .v (.bool true)]) ⟨ri,by rw [hlen];exact fun _ _ h=>h,ri,tv⟩,zF (zQ (ConvF.sealTp 0 8 (es:=(Dg g s F t z).map DY) (by rw [Ab];try rfl) (congrArg (fun es=>some (AB.row 47 1 es)) hrow)) (zI 0 rfl (BW (m:= [.ag [Bm t],Ev (Dg g s F t z), .v (.bool true)]) ⟨ri,Ei (Ab _) rfl,ri,tv⟩))) (s:= [0,1,2,3,4,5]) tA,rfl,d3,hd3,rfl⟩
theorem EJ {L:List Int} {n:Nat} {es:List (List AV)} (hn:n=L.length) (he:es=L.map fun x=> [AV.v (.int .i64 x)]) (c:Ctx) (v:Value) (h:Rd (.sl 1 n fun i=>es.getD i []) c v):Rd (iA L) c v:=Bb (f:=fun x=> [AV.v (.int .i64 x)]) L hn he c v h
def IP (g:Geo) (s:Stt) (F:Int->List UInt8) (seq lba:Int) (b:List UInt8):List Img:=match EP g s F (lba.tdiv g.d) with
 | some t=>BU (lba.tdiv g.d) (Br g t (Dg g s F t (lba.tdiv g.d)) [lba.tmod g.d] [b] seq) (DA g t (Dg g s F t (lba.tdiv g.d)) [lba.tmod g.d] [b] g.d.toNat) [lba.tmod g.d] [b]
 | none=> []
theorem Ya {L L':List Img} {n:Nat} (e:L=L') (hn:n=L'.length) (c:Ctx) (v:Value) (h:Rd (.sl 3 n fun j=>((List.range L'.length).map fun i=>D8 (L'.getD i ⟨0,0, []⟩)).getD j []) c v):Rd (Dm L) c v:=by
 subst e;refine zC hn (fun i hi=>?_) h;have:i<L.length:=by omega
 simp [this]
theorem Yi {g:Geo} {seq epoch:Int} {x:Img} (hg:Bp g=true) (h2:CH seq 0 4294967295=true) (h3:CH epoch 0 4294967295=true) (h7:Bz g x=true) {k n:Nat} (hk:k<n) (hn:n=3):ER g ⟨1,seq,epoch,(k:Nat),n+1,x⟩=true:=by
 simp only [ER,hg,Fs,HI,h2,h3,h7,Bw,Bx];simp only [if_neg (show ¬(1:Int)=0 by omega),if_true,Ad,AF];omega
theorem Yh {g:Geo} {seq epoch:Int} (hg:Bp g=true) (h2:CH seq 0 4294967295=true) (h3:CH epoch 0 4294967295=true) {n:Nat} (hn:n=3):ER g ⟨2,seq,epoch,(n:Nat),n+1,noImg⟩=true:=by
 subst hn;simp only [ER,hg,Fs,HI,h2,h3,Bw];simp only [if_neg (show ¬(2:Int)=0 by omega),if_neg (show ¬(2:Int)=1 by omega),if_true,Ad,AF,beq_iff_eq,Ie,noImg];simp
@[reducible] def rwQ (g:Geo) (a:An) (l:List Tx) (x:Tx) (d:Dk):List AB:= [.box 83 (Zx g (.bp 1 0) (.ow 4 a.homes.length) (.ow 5 (l.length+1)) (AJ a l) 0), .box 85 (He (.ow 2 d.cells.length) (.ow 6 d.cache.length) d.reqs d.left), .row 128 3 (d.cells.map BE), .dead, .row 177 3 (a.homes.map EC), .row 112 4 (l.map CO ++ [CO x]), .row 134 2 (d.cache.map EE)]
theorem Zy (g:Geo) (a:An) (l:List Tx) (x:Tx) (d:Dk):rwQ g a l x d=rwP g (AJ a (l ++ [x])) 0 d:=by
 have e1:(AJ a (l ++ [x])).txns.length=l.length+1:=by show (l ++ [x]).length=_;simp
 have e2:(AJ a (l ++ [x])).txns.map CO=l.map CO ++ [CO x]:=by show (l ++ [x]).map CO=_;simp
 show _=rwP g (AJ a (l ++ [x])) 0 d;unfold rwP;rw [e1,e2];try rfl
def H7 (g:Geo) (a:An) (l:List Tx) (F:Int->List UInt8) (lba:Int) (b:List UInt8):Tx:=⟨a.seq+(l.length:Int),(a.pos+BX l).tmod g.sl,4,IP g (AJ a l) F (a.seq+(l.length:Int)) lba b⟩
theorem in01:(0:Int)<=((0:Nat):Int)/\((0:Nat):Int)<((1:Nat):Int):=by decide
def bm (A:Int) (p:Bool):AV:=match p with
 | true=>iA [A]
 | false=> .v (.slice none 0 0)
def bL (b:List UInt8) (p:Bool):AV:=match p with
 | true=>Ev [b]
 | false=> .v (.slice none 0 0)
def aF (L:List Img) (p:Bool):AV:=match p with
 | true=>Dm L
 | false=> .v (.slice none 0 0)
theorem QD {g:Geo} (hg:Bp g=true) {r:Rc} (hr:ER g r=true) {c s:Int} (hc:c=0\/c=1) (hs:0<=s/\s<g.sl):Cw (BB g r c s)=Bg g c s:=by
 have hb:=Fk hg (Ic hc hs);have h1:=JF hr;have h2:=Ec hr;exact(GP (a:=Bg g c s) (s:=r.seq) (p:=Eo r) ⟨hb.1,by omega,h1.1,h1.2,by omega⟩).2.1
theorem R6 (g:Geo) (a:An) (l:List Tx) (d:Dk) (F:Int->List UInt8) (K lba:Int) (b:List UInt8) (hg:Bp g=true) (hv:Vol g K d (AJ a l)) (hK:K<=4294967294) (h:Gd (Ay g) d F) (hF:∀ a,(F a).length<=100000) (hlba:0<=lba/\lba<g.z*g.d) (hb:b.length=8) :
  ACalls Tryz.prog false 34 [.bp 0 0,iA [lba],Ev [b]] (Fw g (AJ a l) 0 d) fun r H=>(r = iv 0/\BX l+4<=g.sl/\(EP g (AJ a l) F (lba.tdiv g.d)).isSome=true/\∃ d' W,Gd (Ay g) d' (IA F W)/\(∀ w∈W,(g.an<=w.addr/\w.addr<g.an+2*g.sl/\Cw w.bytes=w.addr)/\w.bytes.length<=200)/\Vol g (K+1) d' (AJ a (l ++ [H7 g a l F lba b]))/\H=rwP g (AJ a (l ++ [H7 g a l F lba b])) 0 d')\/∃ e,e≠0/\r = iv e/\(g.sl<BX l+4\/EP g (AJ a l) F (lba.tdiv g.d)=none)/\∃ d',H=Fw g (AJ a l) 0 d':=by
 obtain⟨g1,g2,g3,g4,g5⟩:=As.1 hg;have hsm:=hv.sm hg;have ha:Bu g a=true:=hv.an;have hring:C7 g l a.seq a.pos g.sl=true:=hv.ring;have hl30:l.length<=30:=hsm.t.1;have hlb:LogB (AJ a l).txns:=⟨by have:=hsm.t.1;omega,fun t ht=>⟨by have:=(hsm.t.2 t ht).1;omega,fun x hx=>by have:=(hsm.t.2 t ht).2 x hx;omega⟩⟩;have hun:=EF l l.length;obtain⟨a1,a2,a3,a4⟩:=Ew ha;have hseq:a.seq+l.length<=K:=hv.seq;obtain⟨Z,hZ⟩:∃ Z,Z=lba.tdiv g.d:=⟨_,rfl⟩;obtain⟨A,hA⟩:∃ A,A=lba.tmod g.d:=⟨_,rfl⟩;have hZ2:0<=Z/\Z<g.z:=by
  rw [hZ,Bn hlba.1];exact⟨DE hlba.1 (by omega),D6 (by omega) hlba.2⟩
 have hA2:0<=A/\A<g.d:=by
  rw [hA];exact⟨Bk _ hlba.1,AY _ (by omega)⟩
 have hneed:=VP g lba hg hlba;have hused:=P4 l (by omega);have hnext:=VN g a l hg ha (by omega);have tsub:SubL [.sl 4 l.length fun i=>(l.map CO).getD i []] [Dl l]:=⟨Bb (f:=CO) l rfl rfl,tv⟩;have asub:∀ (c:Ctx) (v:Value),Rd (.ag (Tj a (.sl 3 a.homes.length fun i=>(a.homes.map EC).getD i []))) c v->Rd (.ag (ED a)) c v:=Bi ⟨ri,ri,ri,ri,ri,ri,Bb (f:=EC) a.homes rfl rfl,tv⟩;refine zT tys_ok Tryz.func34 rfl rfl (Ag rfl) ?_;conv=>whnf
 refine zZ hneed ?_;conv=>whnf
 apply zP tys_ok mixed (.o [0,1,2,3,4,5,6,7,8,9,10,11,12,13] .fin) [36,37,38,39,40,41,42,43,44,45,46,47,48,49] (by kernel_rfl)
 ·conv=>whnf
  (refine zp (args':= [.sl 4 l.length fun i=>(l.map CO).getD i []]) (hused.subA tsub) ⟨(Ab _).symm,rfl⟩ ?_;rintro _ rfl;refine⟨rfl,?_⟩)
  exact tA
 conv=>whnf
 conv=>whnf
 rw [wi (show -9223372036854775808<=g.sl - BX l/\g.sl - BX l<=9223372036854775807 by unfold BX;omega)];by_cases hfull:(4:Int) > g.sl - BX l
 ·rw [decide_eq_true hfull];exact⟨ze 21,ze 21,Fw g (AJ a l) 0 d,fun _ _ h=>h,zR (s:= [0,1,2,3,4,5]) tA, .inr ⟨21,by decide,rfl, .inl (by omega),d,rfl⟩⟩
 rw [decide_eq_false hfull];conv=>whnf
 apply zP tys_ok mixed (.o [0,1,2,3,4,5,6,7,8,9,10,11,12,13,14,15,16,17,18,19] .fin) [8,9,50,51,52,53,54,55,56,57,58,59,60,61,62,63,64,65,66,67] (by kernel_rfl)
 ·conv=>whnf
  (refine zp (args':= [.ag (AT g), .ag (Tj a (.sl 3 a.homes.length fun i=>(a.homes.map EC).getD i [])), .sl 4 l.length fun i=>(l.map CO).getD i []]) (hnext.subA ⟨fun _ _ h=>h,asub,tsub⟩) ⟨(Ab _).symm,(Ab _).symm,rfl⟩ ?_;rintro _ rfl;refine⟨rfl,?_⟩)
  exact tA
 conv=>whnf
 conv=>whnf
 rw [decide_eq_false (show ¬a.seq+(l.length:Int) > 4294967295 by omega)];conv=>whnf
 obtain⟨S,hS⟩:∃ S,S=a.seq+(l.length:Int):=⟨_,rfl⟩;obtain⟨P,hP⟩:∃ P,P=(a.pos+BX l).tmod g.sl:=⟨_,rfl⟩;rw [<-hS,<-hP];have hdiv:IntKind.i64.wrap (([lba].getD (((0:Nat):Int)).toNat 0).tdiv g.d)=Z:=by
  rw [hZ];exact wi (by have:=hZ2;rw [hZ] at this;show -9223372036854775808<=lba.tdiv g.d/\lba.tdiv g.d<=9223372036854775807;omega)
 have hadlen:∀ t,∀ x∈Dg g (AJ a l) F t Z,x.length=0\/x.length=8:=fun t x hx=>by
  have himg:∀ t∈(AJ a l).txns,∀ x∈t.images,Bz g x=true:=fun t ht=>Au.1 (Dx hring t ht).1
  rcases A0.1 hx with q | q
  ·obtain⟨i,hi,rfl⟩:=AK.1 q;exact GT himg (by have:=AP.1 hi;omega)
  ·rw [AC] at q;rw [q];exact GT himg (by decide)
 obtain⟨L,hL⟩:∃ L,L=IP g (AJ a l) F S lba b:=⟨_,rfl⟩;refine zU (Nat × Dk × Bool) (fun x=>([(0, .bp 0 0),(1,iA [lba]),(2,Ev [b]),(7,ze 4),(8,ze P),(9,ze S),(10,aF L x.2.2),(11,ze (x.1:Nat))],Fw g (AJ a l) 0 x.2.1)) (fun x=>(x.1:Int)<=g.z/\Gd (Ay g) x.2.1 F/\(x.2.2=true->(EP g (AJ a l) F Z).isSome=true)/\(x.2.2=true↔Z<(x.1:Int))) (fun x=>g.z.toNat - x.1) (0,d,false) ⟨by show ((0:Nat):Int)<=g.z;omega,h,fun q=>(by cases q),⟨fun q=>(by cases q),fun q=>absurd q (by show ¬Z<((0:Nat):Int);omega)⟩⟩
  (zR (s:= [0,1,2,3,4,5]) tA) ?_
 rintro⟨k,d1,p⟩ ⟨hk,hd1,hz1,hpz⟩;simp only at hk hd1 hz1 hpz;by_cases hkz:(k:Int)<g.z;rotate_left 1
 ·obtain rfl:p=true:=hpz.2 (by omega);obtain⟨t,hT⟩:=BD.1 (hz1 rfl);have htok:=J1 hT;have hL2:L=BU Z (Br g t (Dg g (AJ a l) F t Z) [A] [b] S) (DA g t (Dg g (AJ a l) F t Z) [A] [b] g.d.toNat) [A] [b]:=by
   rw [hL,IP,<-hZ,<-hA,hT]
  have h01:∀ x∈ [b],x.length=8:=fun x hx=>by rw [AC] at hx;rw [hx];exact hb
  have hL3:L.length=3:=by rw [hL2,Es];try rfl
  have hA3:∀ x∈ [A],0<=x/\x<g.d:=fun x hx=>by rw [AC] at hx;rw [hx];exact hA2
  have hLok:∀ x∈L,Bz g x=true:=fun x hx=>by
   rw [hL2] at hx;exact(Jj hg hZ2 (EU hg htok (by omega)) (EI (hadlen t) h01 (show [A].length<= [b].length from Ah 1) _) hA3 h01 (Ah 1) x hx).1
  have hL1:OneTab L:=by
   rw [hL2];exact Il (l:= []) hg List.Pairwise.nil (fun x hx=>by cases hx) hA3
  have hep:0<=a.epoch/\a.epoch<=4294967295:=by
   have:=ha;simp only [Bu,AX,B7,Bx,Ad,decide_eq_true_eq,AF] at this;omega
  have hS1:CH S 0 4294967295=true:=AF.2 (by omega);have hLb:∀ x∈L,x.bytes.length<=45:=fun x hx=>E_ hg (hLok x hx)
  have hrec:=R0 S a.epoch L (by omega) fun x hx=>by have:=hLb x hx;omega
  obtain⟨R,hR⟩:∃ R,R=CI S a.epoch L:=⟨_,rfl⟩;have hRl:R.length=4:=by rw [hR,Ho,hL3]
  have hRok:∀ k:Nat,k<4->ER g (R.getD (k:Int).toNat rc0)=true:=fun k hk=>by
   rw [Ac,hR,Iw _ _ _ (by omega)];split
   ·rename_i q;exact Yi hg hS1 (AF.2 hep) (hLok _ (A6 (d:=⟨0,0, []⟩) q)) q hL3
   ·rw [show k=L.length by omega];exact Yh hg hS1 (AF.2 hep) hL3
  rw [<-hR] at hrec;conv=>whnf
  rw [decide_eq_false hkz];conv=>whnf
  refine zZ hrec ?_;conv=>whnf
  refine zU (Nat × Dk × List Wr) (fun x=>([(0, .bp 0 0),(1,iA [lba]),(2,Ev [b]),(7,ze 4),(8,ze P),(9,ze S),(10,Dm L),(19,LQ R),(20,ze (x.1:Nat))],Fw g (AJ a l) 0 x.2.1)) (fun x=>x.1<=4/\Gw (Ay g) x.2.1 F x.2.2/\x.2.2.length=2*x.1/\∀ w∈x.2.2,(g.an<=w.addr/\w.addr<g.an+2*g.sl/\Cw w.bytes=w.addr)/\w.bytes.length<=200) (fun x=>4 - x.1) (0,d1, []) ⟨by show 0<=4;omega,hd1,rfl,fun w hw=>by cases hw⟩
   (zR (s:= [0,1,2,3,4,5]) tA) ?_
  rintro⟨i,d2,W⟩ ⟨hi,hW,hWl,hWb⟩;simp only at hi hW hWl hWb;conv=>whnf
  refine A8 (fun h6=>?_) (fun h6=>?_) <;> (repeat rw [Ac] at h6) <;> conv=>whnf
  ·have hi4:i<4:=by omega
   obtain⟨Q,hQ⟩:∃ Q,Q=Db g P (i:Nat):=⟨_,rfl⟩;have hQ2:=HT hg (pos:=P) (at_:=(i:Nat)) (by rw [hP];exact⟨Bk _ (by unfold BX;omega),AY _ (by omega)⟩) (by omega);rw [<-hQ] at hQ2;repeat' (refine z_ ?_;conv=>whnf)
   refine⟨by omega,?_⟩;conv=>whnf
   rw [show (IntKind.i64.wrap (P+(i:Nat))).tmod g.sl=Q from hQ.symm];have hl0:=EY g 0 Q hg (Ic (.inl rfl) hQ2);have hl1:=EY g 1 Q hg (Ic (.inr rfl) hQ2);obtain⟨X,hX⟩:∃ X,X=R.getD (i:Int).toNat rc0:=⟨_,rfl⟩;have hXok:ER g X=true:=by rw [hX];exact hRok i hi4
   have hc0:=Hj g X 0 Q hXok (Ic (.inl rfl) hQ2);have hc1:=Hj g X 1 Q hXok (Ic (.inr rfl) hQ2);have hcl:=h.len;have b0:=Fj hg h.len (.inl rfl) hQ2 (c:=0);have b1:=Fj hg h.len (.inr rfl) hQ2 (c:=1);have hw0:=au g (AJ a l) (Ay g) d2 F W (Bg g 0 Q) (BB g X 0 Q) hW (by omega) (by omega) (C5 hXok 0 Q);rw [hX] at hc0 hc1;apply zW (2 ^ 145) tys_ok mixed (.o [0,1,2,3,4,5,7,8,9,10,11,12,13,14,15,6,16,17,18] .fin) (by kernel_rfl);conv=>whnf
   try (refine tI ?_;conv=>whnf)
   refine zZ hl0 ?_;conv=>whnf
   refine zZ hc0 ?_;conv=>whnf
   (rw [<-hX];refine zd [0,1,2,3,4,5] hw0 ?_;rintro _ _ ⟨rfl,d3,hd3,rfl⟩)
   conv=>whnf
   have c0:=Ij (g:=g) (.inl rfl) hQ2 (c:=0);have c1:=Ij (g:=g) (.inr rfl) hQ2 (c:=1);have hW2:∀ w∈(W ++ [⟨Bg g 0 Q,BB g X 0 Q⟩]) ++ [⟨Bg g 1 Q,BB g X 1 Q⟩],(g.an<=w.addr/\w.addr<g.an+2*g.sl/\Cw w.bytes=w.addr)/\w.bytes.length<=200:=fun w hw=>by
    rcases A0.1 hw with q | q
    ·rcases A0.1 q with q | q
     ·exact hWb w q
     ·rw [AC] at q;rw [q];exact⟨⟨c0.1,c0.2,QD hg hXok (.inl rfl) hQ2⟩,C5 hXok 0 Q⟩
    ·rw [AC] at q;rw [q];exact⟨⟨c1.1,c1.2,QD hg hXok (.inr rfl) hQ2⟩,C5 hXok 1 Q⟩
   have hw1:=au g (AJ a l) (Ay g) d3 F (W ++ [⟨Bg g 0 Q,BB g X 0 Q⟩]) (Bg g 1 Q) (BB g X 1 Q) hd3 (by simp;omega) (by omega) (C5 hXok 1 Q);apply zW (2 ^ 145) tys_ok mixed (.o [0,1,2,3,4,5,7,8,9,10,11,12,13,14,15,6,16,17,18] .fin) (by kernel_rfl);conv=>whnf
   try (refine tI ?_;conv=>whnf)
   refine zZ hl1 ?_;conv=>whnf
   refine zZ hc1 ?_;conv=>whnf
   (rw [<-hX];refine zd [0,1,2,3,4,5] hw1 ?_;rintro _ _ ⟨rfl,d4,hd4,rfl⟩)
   conv=>whnf
   conv=>whnf
   exact⟨(i+1,d4,(W ++ [⟨Bg g 0 Q,BB g X 0 Q⟩]) ++ [⟨Bg g 1 Q,BB g X 1 Q⟩]),⟨by show i+1<=4;omega,hd4,by show ((W ++ [_]) ++ [_]).length=2*(i+1);simp;omega,hW2⟩,by show 4 - (i+1)<4 - i;omega,zR (s:= [0,1,2,3,4,5]) ⟨⟨rfl,rfl,rfl,rfl,rfl,rfl,rfl,rfl,AH (by omega),tv⟩,tA,rfl,rfl,rfl,rfl,rfl⟩⟩
  ·have hfl:=bF g (AJ a l) (Ay g) d2 F W hW;refine zd [0,1,2,3,4,5] hfl ?_;rintro _ _ ⟨rfl,d3,hd3,rfl⟩;refine⟨rfl,?_⟩;conv=>whnf
   refine Af ⟨(Ab _).symm,by show l.length+1<=1000000000;omega⟩ ?_;conv=>whnf
   refine zU Nat (fun i=>([(0, .bp 0 0),(1,iA [lba]),(24,ze (i:Nat))],rwQ g a l ⟨S,P,4,L⟩ d3)) (fun i=>i<=1) (fun i=>1 - i) 0 (by omega)
    (zR (s:= [0,1,2,3,4,5,6]) tA) ?_
   intro i hi;conv=>whnf
   refine A8 (fun h7=>?_) (fun h7=>?_) <;> (repeat rw [Ac] at h7) <;> conv=>whnf
   ·have h7:i<1:=h7;obtain rfl:i=0:=by omega
    repeat' (refine z_ ?_;conv=>whnf)
    apply zW (0) tys_ok mixed (.o [0,1,2,3,4,5,6,7,8,9,10,11,12,13,14,15,16] .fin) (by kernel_rfl);conv=>whnf
    try (refine tI ?_;conv=>whnf)
    (refine zZ (Ow _) ?_)
    conv=>whnf
    try (refine tS ?_;conv=>whnf)
    all_goals
     exact⟨1,by omega,by omega,zR (s:= [0,1,2,3,4,5,6]) tA⟩
   ·conv=>whnf
    have hcm:H7 g a l F lba b=⟨S,P,4,L⟩:=by rw [hL,hS,hP];try rfl
    have hv2:=hv.add hg hK (d':=d3) ⟨_,hd3⟩ (x:=⟨S,P,4,L⟩) hS hP (by show (2:Int)<=4;omega) (by show (4:Int)<=g.sl - BX l;omega) (by show (4:Int)=(L.length:Int)+1;omega) hLok hL1;exact⟨ze 0,ze 0,rwQ g a l ⟨S,P,4,L⟩ d3,fun _ _ h=>h,zR (s:= [0,1,2,3,4,5,6]) tA, .inl ⟨rfl,by omega,by rw [<-hZ,hT];try rfl,d3,W,hd3,hWb,by rw [hcm];exact hv2,by rw [hcm];exact Zy g a l _ d3⟩⟩
 by_cases he:(k:Int)=Z;rotate_left 1
 ·cases p with
  | false=>
   conv=>whnf
   rw [decide_eq_true hkz];conv=>whnf
   refine zU Nat (fun i=>([(0, .bp 0 0),(1,iA [lba]),(2,Ev [b]),(7,ze 4),(8,ze P),(9,ze S),(10, .v (.slice none 0 0)),(11,ze (k:Nat)),(12, .v (.slice none 0 0)),(13, .v (.slice none 0 0)),(14,ze (i:Nat))],Fw g (AJ a l) 0 d1)) (fun i=>i<=1) (fun i=>1 - i) 0 (by omega)
    (zR (s:= [0,1,2,3,4,5]) tA) ?_
   intro i hi;conv=>whnf
   refine A8 (fun h6=>?_) (fun h6=>?_) <;> (repeat rw [Ac] at h6) <;> conv=>whnf
   ·have h6:i<1:=h6;obtain rfl:i=0:=by omega
    repeat' (refine z_ ?_;conv=>whnf)
    refine zA tys_ok mixed [0,1,2,3,4,5,6,7,8,9,10,11] (by kernel_rfl) ?_;refine⟨in01,?_⟩;refine⟨by omega,?_⟩;conv=>whnf
    rw [hdiv,show (Z == (k:Int))=false from beq_eq_false_iff_ne.2 fun q=>he q.symm];exact⟨1,by omega,by omega,zR (s:= [0,1,2,3,4,5]) tA⟩
   ·have h6:1<=i:=h6;conv=>whnf
    exact⟨(k+1,d1,false),⟨by show ((k+1:Nat):Int)<=g.z;omega,hd1,hz1,⟨fun q=>by have:=hpz.1 q;show Z<((k+1:Nat):Int);omega,fun q=>hpz.2 (by have:Z<((k+1:Nat):Int):=q;omega)⟩⟩,by show g.z.toNat - (k+1)<g.z.toNat - k;omega,zR (s:= [0,1,2,3,4,5]) ⟨⟨rfl,rfl,rfl,rfl,rfl,rfl,rfl,AH (by omega),tv⟩,tA,rfl,rfl,rfl,rfl,rfl⟩⟩
  | true=>
   conv=>whnf
   rw [decide_eq_true hkz];conv=>whnf
   refine zU Nat (fun i=>([(0, .bp 0 0),(1,iA [lba]),(2,Ev [b]),(7,ze 4),(8,ze P),(9,ze S),(10,Dm L),(11,ze (k:Nat)),(12, .v (.slice none 0 0)),(13, .v (.slice none 0 0)),(14,ze (i:Nat))],Fw g (AJ a l) 0 d1)) (fun i=>i<=1) (fun i=>1 - i) 0 (by omega)
    (zR (s:= [0,1,2,3,4,5]) tA) ?_
   intro i hi;conv=>whnf
   refine A8 (fun h6=>?_) (fun h6=>?_) <;> (repeat rw [Ac] at h6) <;> conv=>whnf
   ·have h6:i<1:=h6;obtain rfl:i=0:=by omega
    repeat' (refine z_ ?_;conv=>whnf)
    refine zA tys_ok mixed [0,1,2,3,4,5,6,7,8,9,10,11] (by kernel_rfl) ?_;refine⟨in01,?_⟩;refine⟨by omega,?_⟩;conv=>whnf
    rw [hdiv,show (Z == (k:Int))=false from beq_eq_false_iff_ne.2 fun q=>he q.symm];exact⟨1,by omega,by omega,zR (s:= [0,1,2,3,4,5]) tA⟩
   ·have h6:1<=i:=h6;conv=>whnf
    exact⟨(k+1,d1,true),⟨by show ((k+1:Nat):Int)<=g.z;omega,hd1,hz1,⟨fun q=>by have:=hpz.1 q;show Z<((k+1:Nat):Int);omega,fun q=>hpz.2 (by have:Z<((k+1:Nat):Int):=q;omega)⟩⟩,by show g.z.toNat - (k+1)<g.z.toNat - k;omega,zR (s:= [0,1,2,3,4,5]) ⟨⟨rfl,rfl,rfl,rfl,rfl,rfl,rfl,AH (by omega),tv⟩,tA,rfl,rfl,rfl,rfl,rfl⟩⟩
 obtain rfl:p=false:=by
  cases p with
  | false=>rfl
  | true=>exact absurd (hpz.1 rfl) (by omega)
 conv=>whnf
 rw [decide_eq_true hkz];conv=>whnf
 refine zU (Nat × Bool) (fun i=>([(0, .bp 0 0),(1,iA [lba]),(2,Ev [b]),(7,ze 4),(8,ze P),(9,ze S),(10, .v (.slice none 0 0)),(11,ze (k:Nat)),(12,bm A i.2),(13,bL b i.2),(14,ze (i.1:Nat))],Fw g (AJ a l) 0 d1)) (fun i=>i.1<=1/\(i.2=true↔i.1=1)) (fun i=>1 - i.1) (0,false) ⟨by show 0<=1;omega,by decide⟩
  (zR (s:= [0,1,2,3,4,5]) tA) ?_
 rintro⟨i,q⟩ ⟨hi,hq⟩;simp only at hi hq;by_cases hi1:i=1;rotate_left 1
 ·obtain rfl:i=0:=by omega
  obtain rfl:q=false:=by
   cases q with
   | false=>rfl
   | true=>exact absurd (hq.1 rfl) (by decide)
  conv=>whnf
  repeat' (refine z_ ?_;conv=>whnf)
  refine zA tys_ok mixed [0,1,2,3,4,5,6,7,8,9,10,11] (by kernel_rfl) ?_;refine⟨in01,?_⟩;refine⟨by omega,?_⟩;conv=>whnf
  rw [hdiv,show (Z == (k:Int))=true from beq_iff_eq.2 he.symm];conv=>whnf
  apply zW (131072) tys_ok mixed (.o [0,1,2,3,4,5,6,7,8,9,10,13,14,15,16] (.two 11 (.two 12 (.o [17,18,19,20,21] .fin) 17 (.two 12 (.o [18,19,20,21] .fin) 18 (.o [12,19,20,21] .fin))) 17 (.two 11 (.two 12 (.o [18,19,20,21] .fin) 18 (.o [12,19,20,21] .fin)) 18 (.o [11,12,19,20,21] .fin)))) (by kernel_rfl);conv=>whnf
  try (refine tI ?_;conv=>whnf)
  try (refine tI ?_;conv=>whnf)
  try (refine tI ?_;conv=>whnf)
  refine Af ?_ ?_;refine Af ?_ ?_;conv=>whnf
  try (refine tJ ?_;conv=>whnf)
  try (refine tK ?_;conv=>whnf)
  try (refine tJ ?_;conv=>whnf)
  try (refine tK ?_;conv=>whnf)
  rotate_left 1;refine Af ?_ ?_;conv=>whnf
  try (refine tJ ?_;conv=>whnf)
  try (refine tK ?_;conv=>whnf)
  try (refine tJ ?_;conv=>whnf)
  try (refine tK ?_;conv=>whnf)
  rotate_left 1;conv=>whnf
  try (refine tJ ?_;conv=>whnf)
  try (refine tK ?_;conv=>whnf)
  try (refine tJ ?_;conv=>whnf)
  try (refine tK ?_;conv=>whnf)
  rotate_left 1;refine Af ?_ ?_;refine Af ?_ ?_;conv=>whnf
  try (refine tJ ?_;conv=>whnf)
  try (refine tK ?_;conv=>whnf)
  try (refine tJ ?_;conv=>whnf)
  try (refine tK ?_;conv=>whnf)
  rotate_left 1;conv=>whnf
  try (refine tJ ?_;conv=>whnf)
  try (refine tK ?_;conv=>whnf)
  try (refine tJ ?_;conv=>whnf)
  try (refine tK ?_;conv=>whnf)
  rotate_left 1;conv=>whnf
  try (refine tJ ?_;conv=>whnf)
  try (refine tK ?_;conv=>whnf)
  try (refine tJ ?_;conv=>whnf)
  try (refine tK ?_;conv=>whnf)
  rotate_left 1;all_goals
   conv=>whnf
   first
   | exact⟨(1,true),⟨by show 1<=1;omega,by decide⟩,by show 1 - 1<1 - 0;omega,zF (zQ (zL 12 7 rfl rfl) (zQ (zI 12 rfl (EJ (L:= [A]) rfl (by rw [hA];rfl))) (zQ (zL 13 9 rfl rfl) (zI 13 rfl (Ei (L:= [b]) rfl rfl))))) (s:= [0,1,2,3,4,5]) tA⟩
   | exact⟨(1,true),⟨by show 1<=1;omega,by decide⟩,by show 1 - 1<1 - 0;omega,zF (zQ (zL 12 8 rfl rfl) (zQ (zI 12 rfl (EJ (L:= [A]) rfl (by rw [hA];rfl))) (zQ (zL 13 9 rfl rfl) (zI 13 rfl (Ei (L:= [b]) rfl rfl))))) (s:= [0,1,2,3,4,5]) tA⟩
   | exact⟨(1,true),⟨by show 1<=1;omega,by decide⟩,by show 1 - 1<1 - 0;omega,zF (zQ (zL 12 9 rfl rfl) (zQ (zI 12 rfl (EJ (L:= [A]) rfl (by rw [hA];rfl))) (zQ (zL 13 7 rfl rfl) (zI 13 rfl (Ei (L:= [b]) rfl rfl))))) (s:= [0,1,2,3,4,5]) tA⟩
   | exact⟨(1,true),⟨by show 1<=1;omega,by decide⟩,by show 1 - 1<1 - 0;omega,zF (zQ (zL 12 9 rfl rfl) (zQ (zI 12 rfl (EJ (L:= [A]) rfl (by rw [hA];rfl))) (zQ (zL 13 8 rfl rfl) (zI 13 rfl (Ei (L:= [b]) rfl rfl))))) (s:= [0,1,2,3,4,5]) tA⟩
   | exact⟨(1,true),⟨by show 1<=1;omega,by decide⟩,by show 1 - 1<1 - 0;omega,zF (zQ (zL 12 7 rfl rfl) (zQ (zI 12 rfl (EJ (L:= [A]) rfl (by rw [hA];rfl))) (zQ (zL 13 8 rfl rfl) (zI 13 rfl (Ei (L:= [b]) rfl rfl))))) (s:= [0,1,2,3,4,5]) tA⟩
   | exact⟨(1,true),⟨by show 1<=1;omega,by decide⟩,by show 1 - 1<1 - 0;omega,zF (zQ (zL 12 8 rfl rfl) (zQ (zI 12 rfl (EJ (L:= [A]) rfl (by rw [hA];rfl))) (zQ (zL 13 7 rfl rfl) (zI 13 rfl (Ei (L:= [b]) rfl rfl))))) (s:= [0,1,2,3,4,5]) tA⟩
   | fail
 subst hi1;obtain rfl:q=true:=hq.2 rfl;have hgat:=Ru g (AJ a l) d1 F (k:Nat) hg hlb ha hd1 hF ⟨by omega,hkz⟩;conv=>whnf
 repeat' (refine z_ ?_;conv=>whnf)
 rw [he] at hgat |-
 cases hT:EP g (AJ a l) F Z with
 | none=>
  rw [hT] at hgat;refine zd [0,1,2,3,4,5] hgat ?_;rintro _ _ ⟨rfl,d2,hd2,rfl⟩;exact⟨ze 14,ze 14,Fw g (AJ a l) 0 d2,fun _ _ h=>h,zR (s:= [0,1,2,3,4,5]) tA, .inr ⟨14,by decide,rfl, .inr (by rw [<-hZ,hT]),d2,rfl⟩⟩
 | some t=>
  rw [hT] at hgat;refine zd [0,1,2,3,4,5] hgat ?_;rintro _ _ ⟨rfl,d2,hd2,rfl⟩;have htok:=J1 hT;have hL2:L=BU Z (Br g t (Dg g (AJ a l) F t Z) [A] [b] S) (DA g t (Dg g (AJ a l) F t Z) [A] [b] g.d.toNat) [A] [b]:=by
   rw [hL,IP,<-hZ,<-hA,hT]
  have h01:∀ x∈ [b],x.length=8:=fun x hx=>by rw [AC] at hx;rw [hx];exact hb
  have hwr:=P3 g t (Dg g (AJ a l) F t Z) [A] [b] S hg htok (by simp [Dg,Kr];omega) (hadlen t) rfl h01 (by show 1<=1000;omega);have him:=Rt g Z (Br g t (Dg g (AJ a l) F t Z) [A] [b] S) (DA g t (Dg g (AJ a l) F t Z) [A] [b] g.d.toNat) A b hg (EU hg htok (by omega)) (EI (hadlen t) h01 (show [A].length<= [b].length from Ah 1) _) hb;conv=>whnf
  apply zW (0) tys_ok mixed (.o [0,1,2,3,4,5,6,7,8,9,10,11,12,13,14] .fin) (by kernel_rfl);conv=>whnf
  refine zZ hwr ?_;conv=>whnf
  try (refine tS ?_;conv=>whnf)
  all_goals
   conv=>whnf
   refine zZ him ?_;conv=>whnf
   refine Af (by rw [Es];show 1+2<=1000000000;omega) ?_;conv=>whnf
   exact⟨(k+1,d2,true),⟨by show ((k+1:Nat):Int)<=g.z;omega,hd2,fun _=>rfl,⟨fun _=>by show Z<((k+1:Nat):Int);omega,fun _=>rfl⟩⟩,by show g.z.toNat - (k+1)<g.z.toNat - k;omega,zF (zQ (zL 10 7 (congrArg (AV.ow 7) (by rw [Ab,Cg])) rfl) (zI 10 rfl (Ya hL2 (by rw [Ab,Cg])))) (s:= [0,1,2,3,4,5]) ⟨⟨rfl,rfl,rfl,rfl,rfl,rfl,rfl,by rw [<-he];exact AH (by omega),tv⟩,tA,rfl,rfl,rfl,rfl,rfl⟩⟩
def ab (b:Bool):List AV:= [.v (.bool b)]
def aO (l:List Bool):AV:= .sl 1 l.length fun i=>ab (l.getD i false)
theorem aa {L:List Bool} {n:Nat} {es:List (List AV)} (hn:n=L.length) (he:es=L.map ab) (c:Ctx) (v:Value) (h:Rd (.sl 1 n fun i=>es.getD i []) c v):Rd (aO L) c v:=Bb (f:=ab) L hn he c v h
theorem Cc {l:List Nat} {m:Nat} (h:(l.all fun z=>Nat.ble (z+1) m)=true):∀ z∈l,z<m:=fun z hz=>Ag (Au.1 h z hz)
section
variable {g:Geo} {t:List Ent} {had:List (List UInt8)} {A:Int} {b:List UInt8} {stamp:Int}
end

end
section
open Go.RowKit Go.Shelf
attribute [local go_sem] Oper.semAt_some

theorem Xo (F:Fence) (n:Nat) (h7:F.fn 255) (hro:F.round=none) (hn:1<=n) (l Bs n₀ b off len cap:Nat) (X0 X1 X2 X3:Nat->Value) (hlen:len<=1000000000) (hb:b<n₀) (hBn:Bs<n₀) (J Jx:List Nat->World->Prop)
  (hY:∀ pre x W,J pre W->pre.length<len->x<len->YieldAt F (n - 1) Tryz.prog l #[.int .i64 (x:Nat), .agg #[X0 x,X1 x,X2 x,X3 x]] W fun e W'=>
   (e = .returned (.bool true)/\J (pre ++ [x]) W'/\Below n₀ W W')\/(e = .returned (.bool false)/\Jx (pre ++ [x]) W'))
  (W:World) (hBs:W.cell? ⟨Bs,0,none⟩=some (.slice (some ⟨b,off,none⟩) len cap)) (hc0:∀ j,j<len->W.cell? ⟨b,off+j*4,none⟩=some (X0 j)) (hc1:∀ j,j<len->W.cell? ⟨b,off+j*4+1,none⟩=some (X1 j)) (hc2:∀ j,j<len->W.cell? ⟨b,off+j*4+2,none⟩=some (X2 j)) (hc3:∀ j,j<len->W.cell? ⟨b,off+j*4+3,none⟩=some (X3 j)) (h0:J [] W) :
  CallsIn F n Tryz.prog 255 #[.func (.yield l) #[] #[], .pointer (some ⟨Bs,0,none⟩)] W fun e W'=>(∃ v,e = .returned v)/\
   ((∃ ys,ys=Ds len len/\J ys W')\/(∃ pre,(∃ k,k<=len/\pre=Ds len k)/\Jx pre W')):=by
 have Hc0:=Lib.hid hc0;have Hc1:=Lib.hid hc1;have Hc2:=Lib.hid hc2;have Hc3:=Lib.hid hc3;clear hc0 hc1 hc2 hc3;refine callsIn_of_wp Tryz.func255 rfl h7 ?_ hro;simp only [Tryz.ntmps255,BV,Ao,Be,Nat.reduceAdd,Nat.reduceSub,Da,C_,DI,Dp,B5,Bt]
 gi_wp2
 gi_loopw [3] (fun i wr=>∃ k:Nat,k<=len/\i = .int .i64 ((len:Int) - 1 - k)/\J (Ds len k) wr/\Below n₀ W wr)
  (fun i _=>(intOf i+1).toNat)
 case atStart=>exact⟨0,Aj _,by simp,h0,Below.refl _ _⟩
 case round=>
  obtain⟨k,hk,rfl,hJs,hnx⟩:=hrel;by_cases hlt:k<len
  ·obtain⟨m,hmk⟩:∃ m,len=k+1+m:=⟨len - (k+1),by omega⟩;rw [show (len:Int) - 1 - k=(m:Int) by omega];obtain⟨fn,tmps,assign,body,hy,hR⟩:=hY _ m wr hJs (by rw [H6];exact hlt) (by omega);have e0:=(hnx.cell (p:=⟨b,off+m*4,none⟩) hb).trans (Hc0.out m (by omega));have e1:=(hnx.cell (p:=⟨b,off+m*4+1,none⟩) hb).trans (Hc1.out m (by omega));have e2:=(hnx.cell (p:=⟨b,off+m*4+2,none⟩) hb).trans (Hc2.out m (by omega));have e3:=(hnx.cell (p:=⟨b,off+m*4+3,none⟩) hb).trans (Hc3.out m (by omega));have eb:=(hnx.cell (p:=⟨Bs,0,none⟩) hBn).trans hBs;have hm:(m:Int)<(len:Int):=by omega
   have Hm:=Lib.hid hmk;clear hmk
   gi_wp2
   refine hR.mono ?_;rintro e W3 (⟨rfl,hJ3,hk3⟩ | ⟨rfl,hJx3⟩)
   ·gi_wp2
    go_roundw
    case rel=>exact⟨k+1,by omega,congrArg (Value.int .i64) (by have:=Hm.out;omega),by rw [FB,show len - 1 - k=m by have:=Hm.out;omega];exact hJ3,hnx.trans hk3⟩
    case measure=>simp [intOf]
   ·gi_wp2
    refine bodyPost_ret (results_none rfl _ _ _) rfl ?_;exact⟨⟨_,rfl⟩, .inr ⟨_,⟨k+1,by omega,by rw [FB,show len - 1 - k=m by have:=Hm.out;omega]⟩,hJx3⟩⟩
  ·obtain rfl:k=len:=by omega
   rw [show ((k:Nat):Int) - 1 - k = -1 by omega]
   gi_wp2
   go_end0
   exact⟨⟨_,rfl⟩, .inl ⟨_,rfl,hJs⟩⟩

theorem Xp (F:Fence) (n:Nat) (h7:F.fn 255) (hro:F.round=none) (l Bs:Nat) (a:Option Addr) (cap:Nat) (J:List Nat->World->Prop) (W:World) (hBs:W.cell? ⟨Bs,0,none⟩=some (.slice a 0 cap)) (h0:J [] W) :
  CallsIn F n Tryz.prog 255 #[.func (.yield l) #[] #[], .pointer (some ⟨Bs,0,none⟩)] W fun e W'=>(∃ v,e = .returned v)/\J [] W':=by
 refine callsIn_of_wp Tryz.func255 rfl h7 ?_ hro;simp only [Tryz.ntmps255,BV,Ao,Be,Nat.reduceAdd,Nat.reduceSub,Da,C_,DI,Dp,B5,Bt]
 gi_wp2
 gi_loopw [3] (fun i wr=>i = .int .i64 (-1)/\J [] wr) (fun _ _=>0)
 case atStart=>exact⟨rfl,h0⟩
 case round=>
  obtain⟨rfl,hJs⟩:=hrel
  gi_wp2
  go_end0
  exact⟨⟨_,rfl⟩,hJs⟩

theorem Sj (F:Fence) (n:Nat) (h7:F.fn 255) (hro:F.round=none) (hn:1<=n) (Bs n₀:Nat) (a:Option Addr) (len cap:Nat) (X0 X1 X2 X3:Nat->Value) (hlen:len<=1000000000) (w:World) (hBs:Bs<n₀) (hn₀:n₀<=w.heap.size)
  (hc:w.cell? ⟨Bs,0,none⟩=some (.slice a len cap)) (hI:0<len->∃ b off,a=some ⟨b,off,none⟩/\b<n₀/\∀ j,j<len->w.cell? ⟨b,off+j*4,none⟩=some (X0 j)/\w.cell? ⟨b,off+j*4+1,none⟩=some (X1 j)/\w.cell? ⟨b,off+j*4+2,none⟩=some (X2 j)/\w.cell? ⟨b,off+j*4+3,none⟩=some (X3 j)) :
  SeqStopsK F n Tryz.prog 255 #[.pointer (some ⟨Bs,0,none⟩)] (fun x:Fin len=> #[Value.int .i64 x.val, .agg #[X0 x,X1 x,X2 x,X3 x]]) (Below n₀) (fun ys=>ys.map Fin.val=Ds len len) (fun pre=>∃ k,k<=len/\pre.map Fin.val=Ds len k) len w:=fun l J Jx W hW _ _ hY h0=>by
 have hc':=(hW.cell (p:=⟨Bs,0,none⟩) (by show Bs<_;omega)).trans hc;rcases Nat.eq_zero_or_pos len with rfl | hp
 ·exact(Xp F n h7 hro l Bs a cap (fun _ W=>J [] W) W hc' h0).mono fun e W' ⟨he,hj⟩=>⟨he, .inl ⟨[],rfl,hj⟩⟩
 ·obtain⟨b,off,rfl,hb,hj⟩:=hI hp;refine(Xo F n h7 hro hn l Bs n₀ b off len cap X0 X1 X2 X3 hlen hb hBs (fun pre W=>∃ q:List (Fin len),q.map Fin.val=pre/\J q W) (fun pre W=>∃ q:List (Fin len),q.map Fin.val=pre/\Jx q W) ?_ W hc' (fun j h=>(hW.cell (p:=⟨b,off+j*4,none⟩) (by show b<_;omega)).trans (hj j h).1) (fun j h=>(hW.cell (p:=⟨b,off+j*4+1,none⟩) (by show b<_;omega)).trans (hj j h).2.1) (fun j h=>(hW.cell (p:=⟨b,off+j*4+2,none⟩) (by show b<_;omega)).trans (hj j h).2.2.1) (fun j h=>(hW.cell (p:=⟨b,off+j*4+3,none⟩) (by show b<_;omega)).trans (hj j h).2.2.2) ⟨[],rfl,h0⟩).mono ?_
  ·rintro pre x W1 ⟨q,hq,hJ⟩ hlt hx;obtain⟨fn,tmps,assign,body,hy,hR⟩:=hY q ⟨x,hx⟩ W1 hJ (by rw [<-hq,Ab] at hlt;exact hlt);refine⟨fn,tmps,assign,body,hy,hR.mono ?_⟩;rintro e W' (⟨he,h1,h2⟩ | ⟨he,h1⟩)
   ·exact .inl ⟨he,⟨_,by simp [hq],h1⟩,h2⟩
   ·exact .inr ⟨he,⟨_,by simp [hq],h1⟩⟩
  ·rintro e W' ⟨he,⟨ys,rfl,q,hq,hJ⟩ | ⟨pre,⟨k,hk,rfl⟩,q,hq,hJ⟩⟩
   ·exact⟨he, .inl ⟨q,hq,hJ⟩⟩
   ·exact⟨he, .inr ⟨q,⟨k,hk,hq⟩,hJ⟩⟩

theorem bktx_is:IsBack Tryz.prog 255 4:=by
 refine⟨enters_of Tryz.func255 (by kernel_rfl) rfl,fun m hm B a len cap X w hlen hc hl hI=>?_⟩;have e:(fun x:Fin len=>(#[Value.int .i64 x.val, .agg (X x.val).toArray]:Array Value))=fun x:Fin len=> #[Value.int .i64 x.val, .agg #[(X x.val).getD 0 undef,(X x.val).getD 1 undef,(X x.val).getD 2 undef,(X x.val).getD 3 undef]]:=by
  funext x;have:=hl x.val;match h:X x.val with
  | [u0,u1,u2,u3]=>rfl
  | []=>rw [h] at this;simp at this
  | [_]=>rw [h] at this;simp at this
  | [_,_]=>rw [h] at this;simp at this
  | [_,_,_]=>rw [h] at this;simp at this
  | _::_::_::_::_::_=>rw [h] at this;simp at this
 rw [e];refine Sj Fence.wide m trivial rfl hm B w.heap.size a len cap (fun j=>(X j).getD 0 undef) (fun j=>(X j).getD 1 undef) (fun j=>(X j).getD 2 undef) (fun j=>(X j).getD 3 undef) hlen w (World.block_lt_of_cell? w _ hc) (Ah _) hc fun hp=>?_
 obtain⟨b,off,h1,h2,h3⟩:=hI hp;refine⟨b,off,h1,h2,fun j hj=>?_⟩;have h4:=hl j;match h:X j with
 | [u0,u1,u2,u3]=>exact⟨h3 j hj 0 u0 (by rw [h];rfl),h3 j hj 1 u1 (by rw [h];rfl),h3 j hj 2 u2 (by rw [h];rfl),h3 j hj 3 u3 (by rw [h];rfl)⟩
 | []=>rw [h] at h4;simp at h4
 | [_]=>rw [h] at h4;simp at h4
 | [_,_]=>rw [h] at h4;simp at h4
 | [_,_,_]=>rw [h] at h4;simp at h4
 | _::_::_::_::_::_=>rw [h] at h4;simp at h4

theorem Xq (F:Fence) (n:Nat) (h7:F.fn 256) (hro:F.round=none) (hn:1<=n) (l Bs n₀ b off len cap:Nat) (X0 X1 X2:Nat->Value) (hlen:len<=1000000000) (hb:b<n₀) (hBn:Bs<n₀) (J Jx:List Nat->World->Prop)
  (hY:∀ pre x W,J pre W->pre.length<len->x<len->YieldAt F (n - 1) Tryz.prog l #[.int .i64 (x:Nat), .agg #[X0 x,X1 x,X2 x]] W fun e W'=>
   (e = .returned (.bool true)/\J (pre ++ [x]) W'/\Below n₀ W W')\/(e = .returned (.bool false)/\Jx (pre ++ [x]) W'))
  (W:World) (hBs:W.cell? ⟨Bs,0,none⟩=some (.slice (some ⟨b,off,none⟩) len cap)) (hc0:∀ j,j<len->W.cell? ⟨b,off+j*3,none⟩=some (X0 j)) (hc1:∀ j,j<len->W.cell? ⟨b,off+j*3+1,none⟩=some (X1 j)) (hc2:∀ j,j<len->W.cell? ⟨b,off+j*3+2,none⟩=some (X2 j)) (h0:J [] W) :
  CallsIn F n Tryz.prog 256 #[.func (.yield l) #[] #[], .pointer (some ⟨Bs,0,none⟩)] W fun e W'=>(∃ v,e = .returned v)/\
   ((∃ ys,ys=Ds len len/\J ys W')\/(∃ pre,(∃ k,k<=len/\pre=Ds len k)/\Jx pre W')):=by
 have Hc0:=Lib.hid hc0;have Hc1:=Lib.hid hc1;have Hc2:=Lib.hid hc2;clear hc0 hc1 hc2;refine callsIn_of_wp Tryz.func256 rfl h7 ?_ hro;simp only [Tryz.ntmps256,BV,Ao,Be,Nat.reduceAdd,Nat.reduceSub,Da,C_,DI,Dp,B5,Bt]
 gi_wp2
 gi_loopw [3] (fun i wr=>∃ k:Nat,k<=len/\i = .int .i64 ((len:Int) - 1 - k)/\J (Ds len k) wr/\Below n₀ W wr)
  (fun i _=>(intOf i+1).toNat)
 case atStart=>exact⟨0,Aj _,by simp,h0,Below.refl _ _⟩
 case round=>
  obtain⟨k,hk,rfl,hJs,hnx⟩:=hrel;by_cases hlt:k<len
  ·obtain⟨m,hmk⟩:∃ m,len=k+1+m:=⟨len - (k+1),by omega⟩;rw [show (len:Int) - 1 - k=(m:Int) by omega];obtain⟨fn,tmps,assign,body,hy,hR⟩:=hY _ m wr hJs (by rw [H6];exact hlt) (by omega);have e0:=(hnx.cell (p:=⟨b,off+m*3,none⟩) hb).trans (Hc0.out m (by omega));have e1:=(hnx.cell (p:=⟨b,off+m*3+1,none⟩) hb).trans (Hc1.out m (by omega));have e2:=(hnx.cell (p:=⟨b,off+m*3+2,none⟩) hb).trans (Hc2.out m (by omega));have eb:=(hnx.cell (p:=⟨Bs,0,none⟩) hBn).trans hBs;have hm:(m:Int)<(len:Int):=by omega
   have Hm:=Lib.hid hmk;clear hmk
   gi_wp2
   refine hR.mono ?_;rintro e W3 (⟨rfl,hJ3,hk3⟩ | ⟨rfl,hJx3⟩)
   ·gi_wp2
    go_roundw
    case rel=>exact⟨k+1,by omega,congrArg (Value.int .i64) (by have:=Hm.out;omega),by rw [FB,show len - 1 - k=m by have:=Hm.out;omega];exact hJ3,hnx.trans hk3⟩
    case measure=>simp [intOf]
   ·gi_wp2
    refine bodyPost_ret (results_none rfl _ _ _) rfl ?_;exact⟨⟨_,rfl⟩, .inr ⟨_,⟨k+1,by omega,by rw [FB,show len - 1 - k=m by have:=Hm.out;omega]⟩,hJx3⟩⟩
  ·obtain rfl:k=len:=by omega
   rw [show ((k:Nat):Int) - 1 - k = -1 by omega]
   gi_wp2
   go_end0
   exact⟨⟨_,rfl⟩, .inl ⟨_,rfl,hJs⟩⟩

theorem Xr (F:Fence) (n:Nat) (h7:F.fn 256) (hro:F.round=none) (l Bs:Nat) (a:Option Addr) (cap:Nat) (J:List Nat->World->Prop) (W:World) (hBs:W.cell? ⟨Bs,0,none⟩=some (.slice a 0 cap)) (h0:J [] W) :
  CallsIn F n Tryz.prog 256 #[.func (.yield l) #[] #[], .pointer (some ⟨Bs,0,none⟩)] W fun e W'=>(∃ v,e = .returned v)/\J [] W':=by
 refine callsIn_of_wp Tryz.func256 rfl h7 ?_ hro;simp only [Tryz.ntmps256,BV,Ao,Be,Nat.reduceAdd,Nat.reduceSub,Da,C_,DI,Dp,B5,Bt]
 gi_wp2
 gi_loopw [3] (fun i wr=>i = .int .i64 (-1)/\J [] wr) (fun _ _=>0)
 case atStart=>exact⟨rfl,h0⟩
 case round=>
  obtain⟨rfl,hJs⟩:=hrel
  gi_wp2
  go_end0
  exact⟨⟨_,rfl⟩,hJs⟩

theorem Sl (F:Fence) (n:Nat) (h7:F.fn 256) (hro:F.round=none) (hn:1<=n) (Bs n₀:Nat) (a:Option Addr) (len cap:Nat) (X0 X1 X2:Nat->Value) (hlen:len<=1000000000) (w:World) (hBs:Bs<n₀) (hn₀:n₀<=w.heap.size)
  (hc:w.cell? ⟨Bs,0,none⟩=some (.slice a len cap)) (hI:0<len->∃ b off,a=some ⟨b,off,none⟩/\b<n₀/\∀ j,j<len->w.cell? ⟨b,off+j*3,none⟩=some (X0 j)/\w.cell? ⟨b,off+j*3+1,none⟩=some (X1 j)/\w.cell? ⟨b,off+j*3+2,none⟩=some (X2 j)) :
  SeqStopsK F n Tryz.prog 256 #[.pointer (some ⟨Bs,0,none⟩)] (fun x:Fin len=> #[Value.int .i64 x.val, .agg #[X0 x,X1 x,X2 x]]) (Below n₀) (fun ys=>ys.map Fin.val=Ds len len) (fun pre=>∃ k,k<=len/\pre.map Fin.val=Ds len k) len w:=fun l J Jx W hW _ _ hY h0=>by
 have hc':=(hW.cell (p:=⟨Bs,0,none⟩) (by show Bs<_;omega)).trans hc;rcases Nat.eq_zero_or_pos len with rfl | hp
 ·exact(Xr F n h7 hro l Bs a cap (fun _ W=>J [] W) W hc' h0).mono fun e W' ⟨he,hj⟩=>⟨he, .inl ⟨[],rfl,hj⟩⟩
 ·obtain⟨b,off,rfl,hb,hj⟩:=hI hp;refine(Xq F n h7 hro hn l Bs n₀ b off len cap X0 X1 X2 hlen hb hBs (fun pre W=>∃ q:List (Fin len),q.map Fin.val=pre/\J q W) (fun pre W=>∃ q:List (Fin len),q.map Fin.val=pre/\Jx q W) ?_ W hc' (fun j h=>(hW.cell (p:=⟨b,off+j*3,none⟩) (by show b<_;omega)).trans (hj j h).1) (fun j h=>(hW.cell (p:=⟨b,off+j*3+1,none⟩) (by show b<_;omega)).trans (hj j h).2.1) (fun j h=>(hW.cell (p:=⟨b,off+j*3+2,none⟩) (by show b<_;omega)).trans (hj j h).2.2) ⟨[],rfl,h0⟩).mono ?_
  ·rintro pre x W1 ⟨q,hq,hJ⟩ hlt hx;obtain⟨fn,tmps,assign,body,hy,hR⟩:=hY q ⟨x,hx⟩ W1 hJ (by rw [<-hq,Ab] at hlt;exact hlt);refine⟨fn,tmps,assign,body,hy,hR.mono ?_⟩;rintro e W' (⟨he,h1,h2⟩ | ⟨he,h1⟩)
   ·exact .inl ⟨he,⟨_,by simp [hq],h1⟩,h2⟩
   ·exact .inr ⟨he,⟨_,by simp [hq],h1⟩⟩
  ·rintro e W' ⟨he,⟨ys,rfl,q,hq,hJ⟩ | ⟨pre,⟨k,hk,rfl⟩,q,hq,hJ⟩⟩
   ·exact⟨he, .inl ⟨q,hq,hJ⟩⟩
   ·exact⟨he, .inr ⟨q,⟨k,hk,hq⟩,hJ⟩⟩

theorem bkim_is:IsBack Tryz.prog 256 3:=by
 refine⟨enters_of Tryz.func256 (by kernel_rfl) rfl,fun m hm B a len cap X w hlen hc hl hI=>?_⟩;have e:(fun x:Fin len=>(#[Value.int .i64 x.val, .agg (X x.val).toArray]:Array Value))=fun x:Fin len=> #[Value.int .i64 x.val, .agg #[(X x.val).getD 0 undef,(X x.val).getD 1 undef,(X x.val).getD 2 undef]]:=by
  funext x;have:=hl x.val;match h:X x.val with
  | [u0,u1,u2]=>rfl
  | []=>rw [h] at this;simp at this
  | [_]=>rw [h] at this;simp at this
  | [_,_]=>rw [h] at this;simp at this
  | _::_::_::_::_=>rw [h] at this;simp at this
 rw [e];refine Sl Fence.wide m trivial rfl hm B w.heap.size a len cap (fun j=>(X j).getD 0 undef) (fun j=>(X j).getD 1 undef) (fun j=>(X j).getD 2 undef) hlen w (World.block_lt_of_cell? w _ hc) (Ah _) hc fun hp=>?_
 obtain⟨b,off,h1,h2,h3⟩:=hI hp;refine⟨b,off,h1,h2,fun j hj=>?_⟩;have h4:=hl j;match h:X j with
 | [u0,u1,u2]=>exact⟨h3 j hj 0 u0 (by rw [h];rfl),h3 j hj 1 u1 (by rw [h];rfl),h3 j hj 2 u2 (by rw [h];rfl)⟩
 | []=>rw [h] at h4;simp at h4
 | [_]=>rw [h] at h4;simp at h4
 | [_,_]=>rw [h] at h4;simp at h4
 | _::_::_::_::_=>rw [h] at h4;simp at h4

end
section
open Go.RowKit
def FP (l:List Img) (z w:Int):Nat->Option Nat
 | 0=>none
 | k+1=>if (l.getD k iz).zone=z/\(l.getD k iz).what=w then some k else FP l z w k
def HK (l:List Tx) (z w:Int):Nat->Option (Nat × Nat)
 | 0=>none
 | k+1=>match FP (l.getD k tz).images z w (l.getD k tz).images.length with
  | some i=>some (k,i)
  | none=>HK l z w k
theorem Tc (l:List Img) (z w:Int):∀ k,Cd l z w k=(FP l z w k).map fun i=>l.getD i iz
 | 0=>rfl
 | k+1=>by
  rw [Cd,FP,Tc l z w k];split <;> rfl
theorem OY (l:List Tx) (z w:Int):∀ k,E9 l z w k=(HK l z w k).map fun p=>((l.getD p.1 tz).images.getD p.2 iz,(l.getD p.1 tz).seq)
 | 0=>rfl
 | k+1=>by
  rw [E9,HK,Tc];cases FP (l.getD k tz).images z w (l.getD k tz).images.length with
  | some i=>rfl
  | none=>exact OY l z w k
theorem MA {l:List Img} {z w:Int}:∀ {k:Nat},FP l z w k=none->∀ j,j<k->¬((l.getD j iz).zone=z/\(l.getD j iz).what=w)
 | k+1,h,j,hj=>by
  rw [FP] at h;split at h
  ·cases h
  ·rename_i hc;rcases Nat.lt_succ_iff_lt_or_eq.1 hj with q | rfl
   ·exact MA h j q
   ·exact hc
theorem NU {l:List Img} {z w:Int} {j:Nat} (h:(l.getD j iz).zone=z/\(l.getD j iz).what=w):∀ (k:Nat),j<k->(∀ i,j<i->i<k->¬((l.getD i iz).zone=z/\(l.getD i iz).what=w))->FP l z w k=some j
 | k+1,hj,hn=>by
  rw [FP];by_cases e:j=k
  ·subst e;rw [if_pos h]
  ·rw [if_neg (hn k (by omega) (by omega))];exact NU h k (by omega) fun i q1 q2=>hn i q1 (by omega)
theorem MB {l:List Img} {z w:Int} {j:Nat}:∀ {k:Nat},FP l z w k=some j->j<k/\(l.getD j iz).zone=z/\(l.getD j iz).what=w
 | k+1,h=>by
  rw [FP] at h;split at h
  ·rename_i hc;obtain rfl:=Option.some.inj h;exact⟨by omega,hc⟩
  ·have:=MB h;exact⟨by omega,this.2⟩
theorem NV {l:List Tx} {z w:Int} {j i:Nat} (h:FP (l.getD j tz).images z w (l.getD j tz).images.length=some i):∀ (k:Nat),j<k->(∀ q,j<q->q<k->FP (l.getD q tz).images z w (l.getD q tz).images.length=none)->HK l z w k=some (j,i)
 | k+1,hj,hn=>by
  rw [HK];by_cases e:j=k
  ·subst e;rw [h]
  ·rw [hn k (by omega) (by omega)];exact NV h k (by omega) fun q q1 q2=>hn q q1 (by omega)
theorem MC {l:List Tx} {z w:Int}:∀ (k:Nat),(∀ q,q<k->FP (l.getD q tz).images z w (l.getD q tz).images.length=none)->HK l z w k=none
 | 0,_=>rfl
 | k+1,hn=>by
  rw [HK,hn k (by omega)];exact MC k fun q hq=>hn q (by omega)
theorem MD {l:List Tx} {z w:Int} {p:Nat × Nat}:∀ {k:Nat},HK l z w k=some p->p.1<k/\p.2<(l.getD p.1 tz).images.length
 | k+1,h=>by
  rw [HK] at h;split at h
  ·rename_i i hi;obtain rfl:=Option.some.inj h;exact⟨Nat.lt_succ_self k,(MB hi).1⟩
  ·have:=MD h;exact⟨by omega,this.2⟩
theorem Xn (a:Option Addr) (len cap:Nat) (w:World) :
  Calls Tryz.prog 220 #[.slice a len cap] w fun e w'=>e = .returned (.func (.func 255) #[] #[.pointer (some ⟨w.heap.size,0,none⟩)])/\w.alloc (.cells #[.slice a len cap] 34)=w':=by
 go_enter Tryz.func220,Tryz.ntmps220
 go_wp2
 go_ret
 exact tA
theorem QK (a:Option Addr) (len cap:Nat) (w:World) :
  Calls Tryz.prog 221 #[.slice a len cap] w fun e w'=>e = .returned (.func (.func 256) #[] #[.pointer (some ⟨w.heap.size,0,none⟩)])/\w.alloc (.cells #[.slice a len cap] 110)=w':=by
 go_enter Tryz.func221,Tryz.ntmps221
 go_wp2
 go_ret
 exact tA
theorem Pd {P:Program} {f g:FuncId} {t:TypeId} (hg:XA P f) (h:∀ a len cap w,Calls P f #[.slice a len cap] w fun e w'=>e = .returned (.func (.func g) #[] #[.pointer (some ⟨w.heap.size,0,none⟩)])/\w.alloc (.cells #[.slice a len cap] t)=w') (x:AV) (Hin:List AB) (hx:∀ c u,Rd x c u->∃ a len cap,u = .slice a len cap):ACalls P false f [x] Hin fun r H=>r = .fn g [.bp Hin.length 0]/\H=Hin ++ [.box t [x]]:=by
 refine⟨hg,fun w0 M0 c us hs hr=>?_⟩;have hr0:=hr;simp only [RdL] at hr;obtain⟨u,_,rfl,hu,rfl⟩:=hr;obtain⟨a,len,cap,rfl⟩:=hx _ _ hu;obtain⟨c',e1,e2,e3,e4⟩:=hs.box t hr0 (by simp [Value.oneCell']);refine(h a len cap c.w).mono ?_;rintro e w' ⟨rfl,rfl⟩;refine⟨_,c',_,_,rfl,by rw [e1],tA,e2,e3,?_,fun e=>by cases e⟩;simp only [Rd,RdL];exact⟨_,rfl,_,_,rfl,by simpa only [Rd] using e4,rfl⟩
theorem Ot {sz n:Nat} {get:Nat->List AV} (c:Ctx) (u:Value) (hu:Rd (.sl sz n get) c u):∃ a len cap,u = .slice a len cap:=by
 simp only [Rd] at hu;obtain⟨a,p,h, -⟩:=hu;exact⟨_,_,_,h⟩
theorem PT (l:List Tx) (z w:Int) (hl:l.length<=1000000) (hi:∀ t∈l,t.images.length<=1000000):Fn Tryz.prog 169 [Dl l,iv z,iv w] fun r=>r=(match HK l z w l.length with | some p=> .tp [iv (p.1:Nat),iv (p.2:Nat), .v (.bool true)] | none=> .tp [iv 0,iv 0, .v (.bool false)]):=by
 refine zS Tryz.func169 rfl ?_;conv=>whnf
 refine(Pd ⟨_,Tryz.func220,rfl,by decide⟩ Xn (Dl l) _ Ot).mono ?_;rintro _ _ ⟨rfl,rfl⟩;conv=>whnf
 refine aRF.back tys_ok bktx_is (B:=5) (len:=l.length) (E:=fun i=>CO (l.getD i ⟨0,0,0, []⟩)) rfl rfl tA (by omega) rfl (by decide) rfl [(4, .rp [iv z]),(5, .rp [iv w])] ⟨.inr ⟨0,_,_,rfl,rfl,rfl,rfl⟩, .inr ⟨1,_,_,rfl,rfl,rfl,rfl⟩,tv⟩ (fun i=>(FP (l.getD i tz).images z w (l.getD i tz).images.length).isSome) ?_ ?_ ?_
 ·intro i hik hh;have hn:FP (l.getD i tz).images z w (l.getD i tz).images.length=none:=by simpa using hh
  have him:=hi _ (A6 (d:=tz) hik);obtain⟨t,ht⟩:∃ t,t=l.getD i tz:=⟨_,rfl⟩;rw [show l.getD i ⟨0,0,0, []⟩=t from ht.symm];rw [<-ht] at hn him;refine⟨rfl,?_⟩;conv=>whnf
  refine(Pd ⟨_,Tryz.func221,rfl,by decide⟩ QK (Dm t.images) _ Ot).mono ?_;rintro _ _ ⟨rfl,rfl⟩;conv=>whnf
  refine aRF.back tys_ok bkim_is (B:=2) (len:=t.images.length) (E:=fun j=>D8 (t.images.getD j ⟨0,0, []⟩)) rfl rfl tA (by omega) rfl (by decide) rfl [(4, .rp [iv z]),(5, .rp [iv w])] ⟨.inl tA, .inl tA,tv⟩ (fun _=>false) ?_ ?_ ?_
  ·intro j hj _;have hnj:=MA hn j hj;refine⟨rfl,?_⟩;conv=>whnf
   by_cases hz:(t.images.getD j ⟨0,0, []⟩).zone=z
   ·rw [show ((t.images.getD j ⟨0,0, []⟩).zone == z)=true from beq_iff_eq.2 hz];conv=>whnf
    rw [show ((t.images.getD j ⟨0,0, []⟩).what == w)=false from beq_eq_false_iff_ne.2 fun e=>hnj ⟨hz,e⟩];conv=>whnf
   ·rw [show ((t.images.getD j ⟨0,0, []⟩).zone == z)=false from beq_eq_false_iff_ne.2 hz];conv=>whnf
  ·intro j hj h;cases h
  ·intro _;conv=>whnf
 ·intro i hik hh;obtain⟨i0,hi0⟩:=BD.1 hh;have him:=hi _ (A6 (d:=tz) hik);obtain⟨t,ht⟩:∃ t,t=l.getD i tz:=⟨_,rfl⟩;rw [show l.getD i ⟨0,0,0, []⟩=t from ht.symm];rw [<-ht] at hi0 him;refine⟨rfl,?_⟩;conv=>whnf
  refine(Pd ⟨_,Tryz.func221,rfl,by decide⟩ QK (Dm t.images) _ Ot).mono ?_;rintro _ _ ⟨rfl,rfl⟩;conv=>whnf
  refine aRF.back tys_ok bkim_is (B:=8) (len:=t.images.length) (E:=fun j=>D8 (t.images.getD j ⟨0,0, []⟩)) rfl rfl tA (by omega) rfl (by decide) rfl [(4, .rp [iv z]),(5, .rp [iv w])] ⟨.inr ⟨0,_,_,rfl,rfl,rfl,rfl⟩, .inr ⟨1,_,_,rfl,rfl,rfl,rfl⟩,tv⟩ (fun j=>decide ((t.images.getD j iz).zone=z/\(t.images.getD j iz).what=w)) ?_ ?_ ?_
  ·intro j hj hnj;have hnj:=of_decide_eq_false hnj;refine⟨rfl,?_⟩;conv=>whnf
   by_cases hz:(t.images.getD j ⟨0,0, []⟩).zone=z
   ·rw [show ((t.images.getD j ⟨0,0, []⟩).zone == z)=true from beq_iff_eq.2 hz];conv=>whnf
    rw [show ((t.images.getD j ⟨0,0, []⟩).what == w)=false from beq_eq_false_iff_ne.2 fun e=>hnj ⟨hz,e⟩];conv=>whnf
   ·rw [show ((t.images.getD j ⟨0,0, []⟩).zone == z)=false from beq_eq_false_iff_ne.2 hz];conv=>whnf
  ·intro j hj hy;have hy:=of_decide_eq_true hy;refine⟨rfl,?_⟩;conv=>whnf
   rw [show ((t.images.getD j ⟨0,0, []⟩).zone == z)=true from beq_iff_eq.2 hy.1];conv=>whnf
   rw [show ((t.images.getD j ⟨0,0, []⟩).what == w)=true from beq_iff_eq.2 hy.2];refine⟨by simp,rfl,fun hord=>?_⟩;refine⟨by simp,rfl,fun hord2=>?_⟩;conv=>whnf
   have hJ:FP (l.getD i tz).images z w (l.getD i tz).images.length=some j:=by
    rw [<-ht];exact NU hy _ hj fun q q1 q2=>of_decide_eq_false (hord q q1 q2)
   rw [NV hJ l.length hik fun q q1 q2=>by simpa using hord2 q q1 q2];exact⟨_,ri,rfl⟩
  ·intro hno;exfalso;have:=MB hi0;exact of_decide_eq_false (hno i0 this.1) this.2
 ·intro hh;have hn:=MC (l:=l) (z:=z) (w:=w) l.length fun q hq=>by simpa using hh q hq
  conv=>whnf
  rw [hn];exact⟨_,ri,rfl⟩
def flatY:AV->Bool
 | .v _=>true
 | .top=>true
 | _=>false
def flatP:AV->Bool
 | .v _=>true
 | .ow _ _=>true
 | .sl _ 0 _=>true
 | _=>false
def flatQ:AV->Bool
 | .v _=>true
 | .ow _ _=>true
 | .ag l=>l.all flatP
 | _=>false
def flatS:List AB->Bool
 | []=>true
 | .row _ _ es::r=>es.flatten.all flatY&&flatS r
 | _::_=>false
theorem Qm {c c':Ctx}:∀ {l:List AV} {us:List Value},l.all flatY=true->RdL l c us->RdL l c' us
 | [],us,_,h=>by simpa only [RdL] using h
 | x::l,us,hf,h=>by
  rw [AX,Ad] at hf;simp only [RdL] at h |-
  obtain⟨u,vs,rfl,h1,h2⟩:=h;refine⟨u,vs,rfl,?_,Qm hf.2 h2⟩;cases x <;> simp [flatY] at hf
  ·simp only [Rd]
  ·simpa only [Rd] using h1
theorem M5 {c c':Ctx} (hr:c'.rho=c.rho) (hl:c'.len=c.len) (hd:c'.dom=c.dom) {x:AV} (hx:flatP x=true) {u:Value} (h:Rd x c u):Rd x c' u:=by
 cases x with
 | v y=>simpa only [Rd] using h
 | ow k n=>
  simp only [Rd] at h |-
  rw [hr,hl,hd];exact h
 | sl sz n get=>
  cases n with
  | zero=>
   simp only [Rd] at h |-
   obtain⟨a,k,h1,h2,h3, -⟩:=h;exact⟨a,k,h1,h2,h3, .inl trivial⟩
  | succ n=>cases hx
 | _=>simp [flatP] at hx
theorem WR {c c':Ctx} (hr:c'.rho=c.rho) (hl:c'.len=c.len) (hd:c'.dom=c.dom) {x:AV} (hx:flatQ x=true) {u:Value} (h:Rd x c u):Rd x c' u:=by
 cases x with
 | v y=>exact M5 hr hl hd rfl h
 | ow k n=>exact M5 hr hl hd rfl h
 | ag l=>
  simp only [Rd] at h |-
  obtain⟨xs,rfl,hxs⟩:=h;refine⟨xs,rfl,?_⟩;simp only [flatQ] at hx;induction l generalizing xs with
  | nil=>simpa only [RdL] using hxs
  | cons y l ih=>
   rw [AX,Ad] at hx;simp only [RdL] at hxs |-
   obtain⟨u,us,rfl,h1,h2⟩:=hxs;exact⟨u,us,rfl,M5 hr hl hd hx.1 h1,ih hx.2 us h2⟩
 | _=>simp [flatQ] at hx
theorem flatS_mem:∀ {R:List AB} {y:AB},flatS R=true->y∈R->∃ t sz es,y = .row t sz es/\es.flatten.all flatY=true
 | .row t sz es::r,y,h,hy=>by
  rw [flatS,Ad] at h;rcases AQ.1 hy with rfl | hy
  ·exact⟨t,sz,es,rfl,h.1⟩
  ·exact flatS_mem h.2 hy
theorem ACalls.fnO {P:Program} {q:Bool} {f:FuncId} {args:List AV} {K:AV->List AB->Prop} (h:ACalls P q f args [] K) (hK:∀ r R,K r R->∀ y∈R,∃ t sz es,y = .row t sz es):FnO P f args K:=by
 refine⟨h.go,fun c0 us hg hd hM hr=>?_⟩;let ce:Ctx:={ c0 with base:=0 };have hce:Ext c0 ce:=⟨rfl,rfl,rfl,Ah _,fun _ _ h=>⟨h,rfl⟩,Ah _,fun _ _=>Ah _,fun _ _ _=>rfl,fun _ _ _ h=>h⟩;have hHS:HS (Fl.all c0.w hg) c0.M ce []:=⟨zj _ hg,rfl,hd,fun _ _=>Iff.rfl,hM,by simp,by simp,by simp⟩;refine(h.calls (Fl.all c0.w hg) c0.M ce us hHS (RdL.ext _ hce hr)).mono ?_;rintro e w' ⟨v,c',r,H',rfl,q1,q2,q3,q4,q5, -⟩;exact⟨v,r,c',H',rfl,q2,q1,q3,q5,hK r H' q2⟩
theorem FnO.lendC {P:Program} {f:FuncId} {args args':List AV} {H:List AB} {K:AV->List AB->Prop} {q:Bool} {k:AV->List AB->Prop} (h:FnO P f args' K) (hs:sealA args H fun a _=>a=args') (hk:∀ r R,K r R->∃ R',ConvH R R'/\(flatQ r=true/\flatS R'=true)/\appK H R' 0 fun d H=>DC (r.shift d) fun r=>k r H):ACalls P q f args H k:=by
 refine⟨h.go,fun w0 M0 c us hs0 hr=>?_⟩;obtain⟨l',H',c',rfl,h2,h3,h4,h5,_⟩:=sealA_sound hs0 hr hs;have hglob:globOk c'.closed.w:=h3.glob;have hc:=h.calls c'.closed us hglob rfl h3.lt h5;have ew:c'.closed.w=c.w:=h2
 suffices hh:Calls P f us.toArray c'.closed.w fun e w'=>∃ v c1 r H1,e = .returned v/\c1.w=w'/\k r H1/\HS w0 M0 c1 H1/\Ext c c1/\Rd r c1 v/\(q=true->Old c.w w') by
  rw [ew] at hh;exact hh
 refine hc.mono ?_;rintro e w' ⟨v,r,c1,R1,rfl,q1,rfl,q21,q31, -⟩;obtain⟨R,hconv,⟨f1,f2⟩,hkk⟩:=hk r R1 q1;obtain⟨c2,ew2,q2,x2⟩:=hconv _ _ _ q21;have q3:Rd r c2 v:=Rd.ext _ x2 q31;have q4:∀ y∈R,∃ t sz es,y = .row t sz es:=fun y hy=>by
  obtain⟨t,sz,es,e, -⟩:=flatS_mem f2 hy;exact⟨t,sz,es,e⟩
 -- the same memory;what the caller holds is not read
 obtain⟨c3,e3⟩:∃ c3:Ctx,c3={ c2 with M:=fun b=>c2.M b\/c.M b }:=⟨_,rfl⟩;have hsub:∀ b,b<c.w.heap.size->c'.M b->c.M b:=fun b hb hm=>by
  by_cases hx:c.M b
  ·exact hx
  ·exact absurd hm (h4.keep b hb hx).1
 have hlow:=q2.low;have q2':HS (Fl.all c.w hs0.glob) c.M c3 R:=by
  subst e3;refine⟨⟨?_,?_,?_,?_,?_⟩,q2.base,q2.dom,fun b hb=>?_,fun b hb=>?_,fun i y hi=>?_,fun i y g hi hl ho=>?_,q2.dis⟩
  ·have:=hlow.os;rw [show (Fl.all c'.closed.w hglob).w=c.w from ew] at this;exact this
  ·have:=hlow.tape;rw [show (Fl.all c'.closed.w hglob).w=c.w from ew] at this;exact this
  ·have:=hlow.output;rw [show (Fl.all c'.closed.w hglob).w=c.w from ew] at this;exact this
  ·have:=hlow.size;rw [show (Fl.all c'.closed.w hglob).w=c.w from ew] at this;exact this
  ·intro b hb;have:=hlow.block b (by show b<c'.closed.w.heap.size;rw [ew];exact hb);rw [show (Fl.all c'.closed.w hglob).w=c.w from ew] at this;exact this
  ·have hb':b<c.w.heap.size:=hb;have:=q2.foreign b (by show b<c'.closed.w.heap.size;rw [ew];exact hb');exact⟨fun hx=>hx.elim (fun hx=>hsub b hb' (this.1 hx)) (fun hx=>hx),fun hx=> .inr hx⟩
  ·have hsz:c.w.heap.size<=c2.w.heap.size:=by
    have:=hlow.size;rw [show (Fl.all c'.closed.w hglob).w=c.w from ew] at this;exact this
   rcases hb with hb | hb
   ·exact q2.lt b hb
   ·exact At (hs0.lt b hb) hsz
  ·obtain⟨t,sz,es,rfl,hfl⟩:=flatS_mem f2 (DK hi);obtain⟨a1,a2,a3,xs,a4,a5,a6⟩:=q2.blk i _ hi;exact⟨a1,a2,a3,xs,a4,Qm hfl a5,a6⟩
  ·have:=q2.own i y g hi hl ho;refine⟨.inl this.1,fun hx=>this.2 ?_⟩;show g<c'.closed.w.heap.size;rw [ew];exact hx
 have q3':Rd r c3 v:=WR (by rw [e3]) (by rw [e3]) (by rw [e3]) f1 q3;have q5:c3.w=c2.w:=by rw [e3]
 obtain⟨p1,p2⟩:=hs0.beside (c':=c3) q2' q4;have h1:=BP (appK_iff hkk);rw [A4,<-hs0.dom] at h1;exact⟨v,c.beside c3,_,_,rfl,by show c3.w=_;rw [q5,ew2],h1,p1,p2,Rd.shift r q3',fun _=>by have:=q2'.low.below.old;rw [q5,ew2] at this;exact this⟩
theorem NR (n:Nat) (l:List AV) (h:l.all flatY=true):(List.replicate n l).flatten.all flatY=true:=by
 induction n with
 | zero=>rfl
 | succ n ih=>rw [Dn,AN,Dj,h,ih];rfl
theorem SubL.tops:∀ (l:List AV),SubL l (List.replicate l.length .top)
 | []=>trivial
 | x::l=>⟨fun _ _ _=>by simp [Rd],SubL.tops l⟩
def GR (x:Gt) (addr stamp:Int):Option (List UInt8):=match BR x addr with
 | some s=>if s.stamp=stamp then some s.pay else none
 | none=>none
theorem Wf {x:Gt} {addr stamp:Int} {b:List UInt8} (h:GR x addr stamp=some b):b.length<=x.bytes.length:=by
 unfold GR BR at h;split at h
 ·rename_i s hs;split at hs
  ·obtain rfl:=Option.some.inj hs;split at h
   ·obtain rfl:=Option.some.inj h;simp [CF];omega
   ·cases h
  ·cases hs
 ·cases h
theorem Gp (b:Bool):∀ (c:Ctx) (v:Value),Rd (.tp [.v (.slice none 0 0), .v (.bool b)]) c v->Rd (.tp [bA [], .v (.bool b)]) c v:=BW ⟨Bh 1 _,ri,tv⟩
theorem Te (x:Gt) (addr stamp:Int) (hl:x.bytes.length<=100000):Fn Tryz.prog 209 [.ag (Dz x),iv addr,iv stamp] fun r=>r = .tp [bA ((GR x addr stamp).getD []), .v (.bool (GR x addr stamp).isSome)]:=by
 have ho:=V1 x.bytes hl;by_cases h0:x.err=0;rotate_left 1
 ·have e:GR x addr stamp=none:=by
   unfold GR BR;rw [if_neg (fun h=>h0 h.1)]
  rw [e];refine zS Tryz.func209 rfl ?_;conv=>whnf
  rw [show (x.err != 0)=true from bne_iff_ne.2 h0];exact⟨_,Gp false,rfl⟩
 by_cases h1:Dd x.bytes=0;rotate_left 1
 ·have e:GR x addr stamp=none:=by
   unfold GR BR;rw [if_neg (fun h=>h1 h.2.1)]
  rw [e];rw [if_neg h1] at ho;refine zS Tryz.func209 rfl ?_;conv=>whnf
  rw [show (x.err != 0)=false from bne_eq_false_iff_eq.2 h0];conv=>whnf
  refine zZ ho ?_;conv=>whnf
  rw [show (Dd x.bytes != 0)=true from bne_iff_ne.2 h1];exact⟨_,Gp false,rfl⟩
 rw [if_pos h1,h1] at ho;by_cases h2:Cw x.bytes=addr;rotate_left 1
 ·have e:GR x addr stamp=none:=by
   unfold GR BR;rw [if_neg (fun h=>h2 h.2.2)]
  rw [e];refine zS Tryz.func209 rfl ?_;conv=>whnf
  rw [show (x.err != 0)=false from bne_eq_false_iff_eq.2 h0];conv=>whnf
  refine zZ ho ?_;conv=>whnf
  rw [show ((⟨Cw x.bytes,Cs x.bytes,CF x.bytes⟩:Sec).addr != addr)=true from bne_iff_ne.2 h2];exact⟨_,Gp false,rfl⟩
 have es:BR x addr=some ⟨Cw x.bytes,Cs x.bytes,CF x.bytes⟩:=by unfold BR;rw [if_pos ⟨h0,h1,h2⟩]
 by_cases h3:Cs x.bytes=stamp
 ·have e:GR x addr stamp=some (CF x.bytes):=by unfold GR;rw [es];simp only;rw [if_pos h3]
  rw [e];refine zS Tryz.func209 rfl ?_;conv=>whnf
  rw [show (x.err != 0)=false from bne_eq_false_iff_eq.2 h0];conv=>whnf
  refine zZ ho ?_;conv=>whnf
  rw [show ((⟨Cw x.bytes,Cs x.bytes,CF x.bytes⟩:Sec).addr != addr)=false from bne_eq_false_iff_eq.2 h2];conv=>whnf
  rw [show ((⟨Cw x.bytes,Cs x.bytes,CF x.bytes⟩:Sec).stamp != stamp)=false from bne_eq_false_iff_eq.2 h3];exact⟨_,ri,rfl⟩
 ·have e:GR x addr stamp=none:=by unfold GR;rw [es];simp only;rw [if_neg h3]
  rw [e];refine zS Tryz.func209 rfl ?_;conv=>whnf
  rw [show (x.err != 0)=false from bne_eq_false_iff_eq.2 h0];conv=>whnf
  refine zZ ho ?_;conv=>whnf
  rw [show ((⟨Cw x.bytes,Cs x.bytes,CF x.bytes⟩:Sec).addr != addr)=false from bne_eq_false_iff_eq.2 h2];conv=>whnf
  rw [show ((⟨Cw x.bytes,Cs x.bytes,CF x.bytes⟩:Sec).stamp != stamp)=true from bne_iff_ne.2 h3];exact⟨_,Gp false,rfl⟩
theorem Sh (x:Gt) (addr:Int) (e:Ent):DD x addr e=match GR x addr e.stamp with
  | some b=>if b.length=8/\((C4 b:Nat):Int)=e.sum then some b else none
  | none=>none:=by
 unfold DD GR;cases BR x addr with
 | none=>rfl
 | some s=>
  simp only;by_cases h:s.stamp=e.stamp
  ·rw [if_pos h];simp only;by_cases h2:s.pay.length=8/\((C4 s.pay:Nat):Int)=e.sum
   ·rw [if_pos h2,if_pos ⟨h,h2⟩]
   ·rw [if_neg h2,if_neg (fun q=>h2 q.2)]
  ·rw [if_neg h,if_neg (fun q=>h q.1)]
theorem U7 (x:Gt) (addr:Int) (e:Ent) (hl:x.bytes.length<=100000):Fn Tryz.prog 171 [.ag (Dz x),iv addr, .ag (Cb e)] fun r=>r = .tp [bA ((DD x addr e).getD []), .v (.bool (DD x addr e).isSome)]:=by
 have hp:=Te x addr e.stamp hl;rw [Sh];cases hq:GR x addr e.stamp with
 | none=>
  rw [hq] at hp;refine zS Tryz.func171 rfl ?_;conv=>whnf
  refine zZ hp ?_;conv=>whnf
  apply zW (0) tys_ok mixed (.o [0,1,2,3,4,5,6,7,8,10,11,9,12,13] .fin) (by kernel_rfl);conv=>whnf
  (skip)
  exact⟨_,Gp false,rfl⟩
 | some b=>
  rw [hq] at hp;replace hp:Fn Tryz.prog 209 [.ag (Dz x),iv addr,iv e.stamp] fun r=>r = .tp [bA b, .v (.bool true)]:=hp
  have hs:=J2 b;simp only;by_cases h8:b.length=8;rotate_left 1
  ·rw [if_neg (fun h=>h8 h.1)];refine zS Tryz.func171 rfl ?_;conv=>whnf
   refine zZ hp ?_;conv=>whnf
   apply zW (0) tys_ok mixed (.o [0,1,2,3,4,5,6,7,8,10,11,9,12,13] .fin) (by kernel_rfl);conv=>whnf
   (rw [show ((b.length:Int) != 8)=true from bne_iff_ne.2 (by omega)])
   conv=>whnf
   all_goals
    exact⟨_,Gp false,rfl⟩
  by_cases hE:((C4 b:Nat):Int)=e.sum
  ·rw [if_pos ⟨h8,hE⟩];refine zS Tryz.func171 rfl ?_;conv=>whnf
   refine zZ hp ?_;conv=>whnf
   apply zW (0) tys_ok mixed (.o [0,1,2,3,4,5,6,7,8,10,11,9,12,13] .fin) (by kernel_rfl);conv=>whnf
   (rw [show ((b.length:Int) != 8)=false from bne_eq_false_iff_eq.2 (by omega)];(conv=>whnf);refine zZ hs ?_)
   conv=>whnf
   all_goals
    rw [show (((C4 b:Nat):Int) != e.sum)=false from bne_eq_false_iff_eq.2 hE];exact⟨_,ri,rfl⟩
  ·rw [if_neg (fun h=>hE h.2)];refine zS Tryz.func171 rfl ?_;conv=>whnf
   refine zZ hp ?_;conv=>whnf
   apply zW (0) tys_ok mixed (.o [0,1,2,3,4,5,6,7,8,10,11,9,12,13] .fin) (by kernel_rfl);conv=>whnf
   (rw [show ((b.length:Int) != 8)=false from bne_eq_false_iff_eq.2 (by omega)];(conv=>whnf);refine zZ hs ?_)
   conv=>whnf
   all_goals
    rw [show (((C4 b:Nat):Int) != e.sum)=true from bne_iff_ne.2 hE];exact⟨_,Gp false,rfl⟩
theorem LA (g:Geo) (x:Gt) (addr root:Int):BG g x addr root=match GR x addr root with
  | some b=>BT g b
  | none=>none:=by
 unfold BG GR;cases BR x addr with
 | none=>rfl
 | some s=>
  simp only;by_cases h:s.stamp=root
  ·rw [if_pos h,if_pos h]
  ·rw [if_neg h,if_neg h]
theorem Q_ {g:Geo} {b:List UInt8} (hg:Bp g=true):(Ea g b=0↔(BT g b).isSome=true):=by
 unfold Ea;rw [hg,if_neg (by decide)];split <;> simp_all
theorem U4 (g:Geo) (x:Gt) (addr root:Int) (hg:Bp g=true) (hl:x.bytes.length<=100000):Fn Tryz.prog 139 [.ag (AT g), .ag (Dz x),iv addr,iv root] fun r=>r = .tp [.ag [Bm ((BG g x addr root).getD [])], .v (.bool (BG g x addr root).isSome)]:=by
 have hp:=Te x addr root hl;have hG:Fn Tryz.prog 51 [.ag (AT g)] fun r=>r = .v (FQ (Bp g)):=DV g.z g.d g.sp g.sl g.an
 rw [hg] at hG;rw [LA];cases hq:GR x addr root with
 | none=>
  rw [hq] at hp;refine zS Tryz.func139 rfl ?_;conv=>whnf
  refine zZ hp ?_;exact⟨_,BW (m:= [.ag [Bm []], .v (.bool false)]) ⟨Bi ⟨Bh 3 _,tv⟩,ri,tv⟩,rfl⟩
 | some b=>
  rw [hq] at hp;replace hp:Fn Tryz.prog 209 [.ag (Dz x),iv addr,iv root] fun r=>r = .tp [bA b, .v (.bool true)]:=hp
  have hbl:=Wf hq;have hr:=L8 g b (by omega);rw [hg,if_pos rfl] at hr;have hz:=Q_ (b:=b) hg;simp only;refine zS Tryz.func139 rfl ?_;conv=>whnf
  refine zZ hp ?_;conv=>whnf
  refine zZ hG ?_;conv=>whnf
  refine zZ hr ?_;conv=>whnf
  cases hR:BT g b with
  | none=>
   rw [hR] at hz;rw [show (Ea g b == 0)=false from beq_eq_false_iff_ne.2 fun e=>by have:=hz.1 e;cases this];exact⟨_,ri,rfl⟩
  | some t=>
   rw [hR] at hz;rw [show (Ea g b == 0)=true from beq_iff_eq.2 (hz.2 rfl)];exact⟨_,ri,rfl⟩
theorem Wl (a:An) (l:List Tx) (z:Int) (hz:0<=z/\z<a.homes.length) (hl:l.length<=1000000) (hi:∀ t∈l,t.images.length<=1000000):Fn Tryz.prog 136 [.ag (ED a),Dl l,iv z] fun r=>r = .tp [iv (Ch a l z),iv 0]:=by
 have hf:=PT l z 255 hl hi;have e:C2 l z 255=_:=OY l z 255 l.length;unfold Ch;rw [e];cases hA:HK l z 255 l.length with
 | none=>
  rw [hA] at hf;refine zS Tryz.func136 rfl ?_;conv=>whnf
  rw [show decide (z<0)=false from decide_eq_false (by omega)];conv=>whnf
  rw [show decide (z>=(a.homes.length:Nat))=false from decide_eq_false (by omega)];conv=>whnf
  refine zZ hf ?_;refine⟨⟨by omega,by omega⟩,?_⟩;exact⟨_,ri,rfl⟩
 | some p=>
  obtain⟨k,i⟩:=p;rw [hA] at hf;obtain⟨hk,hi2⟩:=MD hA;simp only at hk hi2;replace hf:Fn Tryz.prog 169 [Dl l,iv z,iv 255] fun r=>r = .tp [iv (k:Nat),iv (i:Nat), .v (.bool true)]:=hf
  have ixA:(0:Int)<=(k:Nat)/\((k:Nat):Int)<(l.length:Nat):=by omega
  refine zS Tryz.func136 rfl ?_;conv=>whnf
  rw [show decide (z<0)=false from decide_eq_false (by omega)];conv=>whnf
  rw [show decide (z>=(a.homes.length:Nat))=false from decide_eq_false (by omega)];conv=>whnf
  refine zZ hf ?_;refine⟨ixA,?_⟩;exact⟨_,ri,rfl⟩
theorem ACalls.lendBox2 {P:Program} {q:Bool} {f:FuncId} {x:AV} {H:List AB} {K:AV->List AB->Prop} (j k:Nat) {t t':TypeId} {sz':Nat} {ar ar2 cs cs2:List AV} {es':List (List AV)} (hj:H[j]? = some (.box t cs)) (hk:H[k]? = some (.row t' sz' es'))
  (he:cs.map (AV.slIn k es'.length (.sl sz' es'.length fun i=>es'.getD i []))=cs2) (ha:ar.map (AV.slIn k es'.length (.sl sz' es'.length fun i=>es'.getD i []))=ar2) (hc:ACalls P q f [x, .ag ar2] ((H.set k .dead).set j (.box t cs2)) K):ACalls P q f [x, .ag ar] H K:=by
 refine⟨hc.go,fun w0 M0 c us hs hr=>?_⟩;subst he;subst ha;have hjk:j≠k:=by rintro rfl;rw [hj] at hk;cases hk
 obtain⟨c1,e1,s1,x1,r1⟩:=hs.freeze hk;have hj1:(H.set k .dead)[j]? = some (.box t cs):=by rw [AA (Ne.symm hjk)];exact hj
 have h8:∀ (l:List AV) (us:List Value),RdL l c us->RdL (l.map (AV.slIn k es'.length (.sl sz' es'.length fun i=>es'.getD i []))) c1 us:=by
  intro l;induction l with
  | nil=>intro us h;simp only [RdL] at h;subst h;simp [RdL]
  | cons x l ih=>
   intro us h;simp only [RdL] at h;obtain⟨u,vs,rfl,a1,a2⟩:=h;simp only [A3,RdL];refine⟨u,vs,rfl,?_,ih vs a2⟩;unfold AV.slIn;split
   ·rename_i i n;split
    ·rename_i hik;subst hik;split
     ·grind
     ·simp [Rd]
    ·exact Rd.ext _ x1 a1
   ·exact Rd.ext _ x1 a1
 have s2:HS w0 M0 c1 ((H.set k .dead).set j (.box t (cs.map (AV.slIn k es'.length (.sl sz' es'.length fun i=>es'.getD i []))))):=by
  refine s1.recell hj1 rfl ?_;rintro⟨g,xs,h1,h2,_,h4⟩;obtain⟨g0,ys,q1,q2,q3,_⟩:=hs.blk j _ hj;have hg:=x1.box j _ (hs.klt hj) q1;rw [h1] at hg;injection hg with hg
  injection hg with hg
  injection hg with hg
  subst hg;rw [e1,q2] at h2;injection h2 with h2
  have hxy:ys.toArray=xs.toArray:=by injection h2
  have hxy:ys=xs:=by simpa using hxy
  subst hxy;exact⟨g,ys,h1,by rw [e1];exact q2,h8 _ _ q3,h4⟩
 have hr2:RdL [x, .ag (ar.map (AV.slIn k es'.length (.sl sz' es'.length fun i=>es'.getD i [])))] c1 us:=by
  simp only [RdL] at hr;obtain⟨u1,_,rfl,p1,u2,_,rfl,p2,rfl⟩:=hr;simp only [Rd] at p2;obtain⟨zs,rfl,p3⟩:=p2;simp only [RdL];exact⟨u1,_,rfl,Rd.ext _ x1 p1,_,_,rfl,by simp only [Rd];exact⟨zs,rfl,h8 _ _ p3⟩,rfl⟩
 have:=hc.calls w0 M0 c1 us s2 hr2;rw [e1] at this;refine this.mono ?_;rintro e w' ⟨v,c',r,H2,rfl,rfl,q1,q2,q3,q4,q5⟩;exact⟨v,c',r,H2,rfl,rfl,q1,q2,x1.trans q3,q4,q5⟩
end
end Go.Proofs.YtepdhdfoipephaaGreatDoor.A
