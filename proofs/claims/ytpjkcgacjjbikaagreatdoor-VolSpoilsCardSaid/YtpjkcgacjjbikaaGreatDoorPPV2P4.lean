/-
Several texts in one.
-/
import Derived.Test.YtpjkcgacjjbikaaGreatDoorPPV2P3
import Derived.Test.YtpjkcgacjjbikaaGreatDoorPPV2P2
import Derived.Test.YtpjkcgacjjbikaaGreatDoorPPV2P1
import Derived.Maps.OwnSet
set_option maxRecDepth 100000
set_option maxHeartbeats 8000000
set_option linter.unusedSimpArgs false
set_option linter.unusedVariables false
set_option linter.deprecated false
namespace Go.Proofs.YtpjkcgacjjbikaaGreatDoor.A
section
open Go.RowKit
def W6 (h:Hd) (lba:Int) (b:List UInt8):Hd:=
 if decide (FE h.lbas lba<h.lbas.length)&&(h.lbas.getD (FE h.lbas lba) 0 == lba) then ⟨h.id,h.lbas,h.blocks.set (FE h.lbas lba) b⟩
 else ⟨h.id,h.lbas.take (FE h.lbas lba) ++ [lba] ++ h.lbas.drop (FE h.lbas lba),h.blocks.take (FE h.lbas lba) ++ [b] ++ h.blocks.drop (FE h.lbas lba)⟩
def Sg (h:Hd) (lba:Int):Bool:=decide (4<=h.lbas.length)&&!h.lbas.any fun y=>lba == y
theorem FG (es:List (List AV)) (e:List AV) (n i:Nat) (hl:n=es.length) (hi:i=n) (hn:n<=1000000) :
  ACalls Tryz.prog false 281 [.ow 0 n,iv i, .ow 1 1] [.row 3 1 es, .row 3 1 [e]] fun r H=>r = .ow 2 (n+1)/\H=[.dead, .row 3 1 [e], .row 3 1 (es ++ [e])]:=by
 subst hi;exact zp ⟨_,Tryz.func281,rfl,rfl⟩ (fun v n xs ys vb base w ho vc vcur hb hbt hy h1y hn hbase=>Vq v n xs ys vb base w ho vc vcur hb hbt hy h1y hn hbase) es e i hl (by omega)
theorem EW (es:List (List AV)) (e:List AV) (n i:Nat) (hl:n=es.length) (hi:i=n) (hn:n<=1000000) :
  ACalls Tryz.prog false 285 [.ow 0 n,iv i, .ow 1 1] [.row 22 1 es, .row 22 1 [e]] fun r H=>r = .ow 2 (n+1)/\H=[.dead, .row 22 1 [e], .row 22 1 (es ++ [e])]:=by
 subst hi;exact zp ⟨_,Tryz.func285,rfl,rfl⟩ (fun v n xs ys vb base w ho vc vcur hb hbt hy h1y hn hbase=>Vs v n xs ys vb base w ho vc vcur hb hbt hy h1y hn hbase) es e i hl (by omega)
theorem aC {t:TypeId} {sz:Nat} {es:List (List AV)} {H:List AB} (h:H[0]? = some (.row t sz es)):wkH [.row t sz es] H:=by
 cases H with
 | nil=>cases h
 | cons y r=>simp at h;subst h;exact tA
theorem X5 {H:List AB} {l:List Hd} {p:Nat} {h':Hd} {a b m:Nat} (hp:p<l.length) (hab:¬b=a) (hb0:¬0=b) (h0:H[0]? = some (.rowo 78 3 ((l.map D_).set p (Ta h' a b)) m))
  (ha:H[a]? = some (.row 3 1 (h'.lbas.map IH))) (hb:H[b]? = some (.row 22 1 (h'.blocks.map Mh))):∃ H',ConvH H H'/\H'[0]? = some (.row 78 3 ((l.set p h').map D_)):=by
 have hl0:0<H.length:=(Aq.1 h0).1;have c1:=zt 0 a h0 ha rfl;have g1:∀ {x:AB},((H.set a .dead).set 0 x)[0]? = some x:=fun {x}=>by rw [A0 (by simpa using hl0)]
 have g2:∀ {x:AB},((H.set a .dead).set 0 x)[b]? = some (.row 22 1 (h'.blocks.map Mh)):=fun {x}=>by
  rw [A3 hb0,A3 (Ne.symm hab)];exact hb
 have g3:∀ {x y:AB},((((H.set a .dead).set 0 x).set b .dead).set 0 y)[0]? = some y:=fun {x y}=>by rw [A0 (by simpa using hl0)]
 have hM:(l.set p h').map D_=(l.map D_).set p (D_ h'):=CO;refine⟨_,c1.trans (zw (zt 0 b g1 g2 rfl) (zw (zn g3 (es':=(l.set p h').map D_) (m':=0) (by simp) (fun j=>?_) (Sb _)) (ConvH.row (k:=0) (A0 (by simpa using hl0)) (Sb _)))),A0 (by simpa using hl0)⟩
 ·rw [hM,<-List.set_set (a:=D_ h') (b:=Ta h' a b)];refine Lg (by simpa using hp) (fun j hj=>?_) ?_ j
  ·rw [DL (Ne.symm hj)];by_cases hj2:j<l.length
   ·rw [AL (d:=⟨0, [], []⟩) hj2];exact SubL.refl _
   ·rw [show (l.map D_).getD j []=[] by rw [Ac,AE (by simpa using hj2)];try rfl];trivial
  ·rw [AQ (by simpa using hp)];exact Od hab h'
theorem R5 {H:List AB} {y:AV} {t:TypeId} {sz:Nat} {es:List (List AV)} (h:∃ H',ConvH H H'/\H'[0]? = some (.row t sz es)) (hy:y.lt 1=true):WkC 0 [(0,y)] H [(0,y)] [.row t sz es]:=by
 obtain⟨H',c1,c2⟩:=h;exact⟨H',c1, [],tv,tA,wkH_o (aC c2),by show (y.lt 1&&true)=true;rw [hy];try rfl,rfl,rfl⟩
theorem Vw (l:List Hd) (id lba:Int) (b:List UInt8) (hl:l.length<=1000) (hs:∀ h∈l,O0 h) (hok:Ed l=true) (hh:Gb l id=true) (h0:¬lba<0) (h8:b.length=8) (hf:Sg (l.getD (E5 l id) ⟨0, [], []⟩) lba=false) (hend:FE (l.getD (E5 l id) ⟨0, [], []⟩).lbas lba=(l.getD (E5 l id) ⟨0, [], []⟩).lbas.length) :
  ACalls Tryz.prog false 203 [CX l,iv id,iv lba,bA b] [] fun r H=>r = .tp [.ow 0 l.length,iv 0]/\H=[.row 78 3 ((l.set (E5 l id) (W6 (l.getD (E5 l id) ⟨0, [], []⟩) lba b)).map D_)]:=by
 have hc:=HZ l hl (fun h hh=>⟨(hs h hh).1,(hs h hh).2.1⟩);rw [hok] at hc;have ha:=Oe l id (by omega);rw [hh,if_pos rfl] at ha;have hlt:=J_ hh;obtain⟨p,hp⟩:∃ p,p=E5 l id:=⟨_,rfl⟩;rw [<-hp] at ha hlt hf |-
 have ho:=P8.1 (Sc hok hlt);have hfu:=Sf (l.getD p ⟨0, [], []⟩) lba (by omega);rw [show (decide (4<=(l.getD p ⟨0, [], []⟩).lbas.length)&&!(l.getD p ⟨0, [], []⟩).lbas.any fun y=>lba == y)=false from hf] at hfu;obtain⟨d,hd⟩:∃ d,d=(decide (FE (l.getD p ⟨0, [], []⟩).lbas lba<(l.getD p ⟨0, [], []⟩).lbas.length)&&((l.getD p ⟨0, [], []⟩).lbas.getD (FE (l.getD p ⟨0, [], []⟩).lbas lba) 0 == lba)):=⟨_,rfl⟩;have hbs:=VY (l.getD p ⟨0, [], []⟩).lbas lba (by omega) ho.2.2.1;have hq:FE (l.getD p ⟨0, [], []⟩).lbas lba<=(l.getD p ⟨0, [], []⟩).lbas.length:=List.countP_le_length;rw [<-hd] at hbs;have hbs:=hbs.sub (args:= [.sl 1 (l.getD p ⟨0, [], []⟩).lbas.length fun i=>((l.getD p ⟨0, [], []⟩).lbas.map IH).getD i [],iv lba]) ⟨(XT _).1,fun _ _ h=>h,tv⟩;rw [W6,<-hd];obtain⟨q,hq2⟩:∃ q,q=FE (l.getD p ⟨0, [], []⟩).lbas lba:=⟨_,rfl⟩;rw [<-hq2] at hbs hq |-
 have hE:((l.map D_).set p (Ta (l.getD p ⟨0, [], []⟩) 4 5)).getD p []=Ta (l.getD p ⟨0, [], []⟩) 4 5:=AQ (by simpa using hlt);have hL:l.length=((l.map D_).set p (Ta (l.getD p ⟨0, [], []⟩) 4 5)).length:=by simp
 have hlen:=ho.1;rw [<-hp,<-hq2] at hend;have hdf:d=false:=by rw [hd,<-hq2,hend,decide_eq_false (Nat.lt_irrefl _),D1]
 subst hdf;simp only [BU,if_false];have e1:(l.getD p ⟨0, [], []⟩).lbas.take q=(l.getD p ⟨0, [], []⟩).lbas:=Ar (by omega);have e2:(l.getD p ⟨0, [], []⟩).lbas.drop q=[]:=A7 (by omega);have e3:(l.getD p ⟨0, [], []⟩).blocks.take q=(l.getD p ⟨0, [], []⟩).blocks:=Ar (by omega);have e4:(l.getD p ⟨0, [], []⟩).blocks.drop q=[]:=A7 (by omega);rw [e1,e2,e3,e4,AD,AD];refine zH tys_ok Tryz.func203 rfl rfl (Ae rfl) ?_;conv=>whnf
 refine zZ hc ?_;conv=>whnf
 refine zZ ha ?_;conv=>whnf
 refine Aj (fun h3=>?_) (fun h3=>?_) <;> simp only [decide_eq_true_eq,decide_eq_false_iff_not] at h3 <;> conv=>whnf
 ·omega
 refine Aj (fun h4=>?_) (fun h4=>?_) <;> conv=>whnf
 ·rw [h8] at h4;cases h4
 refine⟨by first | omega | (refine⟨rfl,?_,?_⟩ <;> first | omega | (simp only [Aa];done) | (simp only [Aa];omega)) | (simp only [Aa];omega),?_⟩;conv=>whnf
 rw [Ab];refine zZ hfu ?_;conv=>whnf
 refine ACalls.mono (P5 l p hlt hl hs) ?_;rintro _ _ ⟨rfl,rfl⟩;conv=>whnf
 repeat' (refine z_ ?_;conv=>whnf)
 refine⟨⟨by simp,by simpa using hlt⟩,?_⟩;refine⟨⟨rfl,hL,by simpa using hlt⟩,?_⟩;conv=>whnf
 rw [Ab,hE];conv=>whnf
 refine zk hbs ⟨by simp,rfl⟩ ?_;rintro _ rfl;refine⟨rfl,?_⟩;conv=>whnf
 apply zf (8192+2 ^ 137+2 ^ 146) tys_ok mixed (.o [0,1,2,3,4,5,6,7,10,11,12,14,15] (.two 8 (.two 9 (.two 13 (.o [16,17,18,19,20,21,22,23,24] .fin) 16 (.two 13 (.o [17,18,19,20,21,22,23,24] .fin) 17 (.o [13,18,19,20,21,22,23,24] .fin))) 13 (.o [9,16,17,18,19,20,21,22,23,24] .fin)) 13 (.o [8,9,16,17,18,19,20,21,22,23,24] .fin))) [66,67,68,69,70,71,72,73,74,75,76,77,78,79,80,81,82,83,84,85,86,87,88] (by kernel_rfl)
 ·conv=>whnf
  try (refine Ah ⟨rfl,hL,by simpa using hlt⟩ ?_;conv=>whnf;(try rw [Ab]);rw [hE];conv=>whnf)
  refine Ah ?_ ?_
  ·refine Ah ?_ ?_
   ·conv=>whnf
    (refine zY [4,6] (FG ((l.getD p ⟨0, [], []⟩).lbas.map IH) [iv lba] _ q (by simp) hend (by omega)) rfl rfl rfl rfl (by decide) (F4 rfl) tA ?_;rintro _ _ ⟨rfl,rfl⟩)
    refine Ah ?_ ?_
    ·conv=>whnf
     try (refine Ah ⟨rfl,hL,by simpa using hlt⟩ ?_;conv=>whnf;(try rw [Ab]);rw [hE];conv=>whnf)
     refine zZ (Bu b (by omega)) ?_;conv=>whnf
     (refine zY [5,8] (EW ((l.getD p ⟨0, [], []⟩).blocks.map Mh) [bA b] _ q (by simp) (by omega) (by omega)) rfl rfl rfl rfl (by decide) (F4 rfl) tA ?_;rintro _ _ ⟨rfl,rfl⟩)
     conv=>whnf
     try (refine tS ?_;conv=>whnf)
     (first | rw [hE] | rw [AQ (by simpa using hlt)])
     conv=>whnf
     try (refine tS ?_;conv=>whnf)
     (first | rw [hE] | rw [AQ (by simpa using hlt)])
     exact tA
    ·conv=>whnf
     refine zZ (Bu b (by omega)) ?_;refine Ah ?_ ?_
     ·conv=>whnf
      try (refine Ah ⟨rfl,hL,by simpa using hlt⟩ ?_;conv=>whnf;(try rw [Ab]);rw [hE];conv=>whnf)
      (refine zY [5,8] (EW ((l.getD p ⟨0, [], []⟩).blocks.map Mh) [bA b] _ q (by simp) (by omega) (by omega)) rfl rfl rfl rfl (by decide) (F4 rfl) tA ?_;rintro _ _ ⟨rfl,rfl⟩)
      conv=>whnf
      try (refine tS ?_;conv=>whnf)
      (first | rw [hE] | rw [AQ (by simpa using hlt)])
      conv=>whnf
      try (refine tS ?_;conv=>whnf)
      (first | rw [hE] | rw [AQ (by simpa using hlt)])
      exact tA
     ·conv=>whnf
      try (refine Ah ⟨rfl,hL,by simpa using hlt⟩ ?_;conv=>whnf;(try rw [Ab]);rw [hE];conv=>whnf)
      (refine zY [5,8] (EW ((l.getD p ⟨0, [], []⟩).blocks.map Mh) [bA b] _ q (by simp) (by omega) (by omega)) rfl rfl rfl rfl (by decide) (F4 rfl) tA ?_;rintro _ _ ⟨rfl,rfl⟩)
      conv=>whnf
      try (refine tS ?_;conv=>whnf)
      (first | rw [hE] | rw [AQ (by simpa using hlt)])
      conv=>whnf
      try (refine tS ?_;conv=>whnf)
      (first | rw [hE] | rw [AQ (by simpa using hlt)])
      exact tA
   ·conv=>whnf
    try (refine Ah ⟨rfl,hL,by simpa using hlt⟩ ?_;conv=>whnf;(try rw [Ab]);rw [hE];conv=>whnf)
    (refine zY [4,6] (FG ((l.getD p ⟨0, [], []⟩).lbas.map IH) [iv lba] _ q (by simp) hend (by omega)) rfl rfl rfl rfl (by decide) (F4 rfl) tA ?_;rintro _ _ ⟨rfl,rfl⟩)
    conv=>whnf
    refine zZ (Bu b (by omega)) ?_;conv=>whnf
    (refine zY [5,8] (EW ((l.getD p ⟨0, [], []⟩).blocks.map Mh) [bA b] _ q (by simp) (by omega) (by omega)) rfl rfl rfl rfl (by decide) (F4 rfl) tA ?_;rintro _ _ ⟨rfl,rfl⟩)
    conv=>whnf
    try (refine tS ?_;conv=>whnf)
    (first | rw [hE] | rw [AQ (by simpa using hlt)])
    conv=>whnf
    try (refine tS ?_;conv=>whnf)
    (first | rw [hE] | rw [AQ (by simpa using hlt)])
    exact tA
  ·conv=>whnf
   try (refine Ah ⟨rfl,hL,by simpa using hlt⟩ ?_;conv=>whnf;(try rw [Ab]);rw [hE];conv=>whnf)
   (refine zY [4,6] (FG ((l.getD p ⟨0, [], []⟩).lbas.map IH) [iv lba] _ q (by simp) hend (by omega)) rfl rfl rfl rfl (by decide) (F4 rfl) tA ?_;rintro _ _ ⟨rfl,rfl⟩)
   conv=>whnf
   refine zZ (Bu b (by omega)) ?_;conv=>whnf
   (refine zY [5,8] (EW ((l.getD p ⟨0, [], []⟩).blocks.map Mh) [bA b] _ q (by simp) (by omega) (by omega)) rfl rfl rfl rfl (by decide) (F4 rfl) tA ?_;rintro _ _ ⟨rfl,rfl⟩)
   conv=>whnf
   try (refine tS ?_;conv=>whnf)
   (first | rw [hE] | rw [AQ (by simpa using hlt)])
   conv=>whnf
   try (refine tS ?_;conv=>whnf)
   (first | rw [hE] | rw [AQ (by simpa using hlt)])
   exact tA
 refine⟨_, .tp [.ow 0 l.length,iv 0],_,fun _ _ h=>h,R5 (X5 (h':=⟨(l.getD p ⟨0, [], []⟩).id,(l.getD p ⟨0, [], []⟩).lbas ++ [lba],(l.getD p ⟨0, [], []⟩).blocks ++ [b]⟩) (a:=7) (b:=9) hlt (by decide) (by decide) (by
  rw [List.set_set,List.set_set];refine congrArg (fun e=>some (AB.rowo _ _ ((l.map D_).set p e) _)) ?_;show [_,AV.ow 7 _,AV.ow 9 _]=[_,_,_];congr 3
  ·congr 1;simp only [Ai,Ao,AP]
  ·congr 2;simp only [Ai,Ao,AP]) (by
  rw [A2];try rfl) (by
  rw [A2];try rfl)) rfl,rfl,rfl⟩
theorem Xy (l:List Hd) (id lba:Int) (b:List UInt8) (hl:l.length<=1000) (hs:∀ h∈l,O0 h) (hok:Ed l=true) (hh:Gb l id=true) (h0:¬lba<0) (h8:b.length=8) (hf:Sg (l.getD (E5 l id) ⟨0, [], []⟩) lba=false) (hend:FE (l.getD (E5 l id) ⟨0, [], []⟩).lbas lba=(l.getD (E5 l id) ⟨0, [], []⟩).lbas.length):Fn Tryz.prog 203 [CX l,iv id,iv lba,bA b] fun r=>r = .tp [CX (l.set (E5 l id) (W6 (l.getD (E5 l id) ⟨0, [], []⟩) lba b)),iv 0]:=by
 refine(Vw l id lba b hl hs hok hh h0 h8 hf hend).fn ?_;rintro r H ⟨rfl,rfl⟩;refine⟨_,zD _,?_⟩;refine⟨by simp,?_⟩;refine⟨.tp [CX (l.set (E5 l id) (W6 (l.getD (E5 l id) ⟨0, [], []⟩) lba b)),iv 0],Cc ⟨fun c u h=>?_,ri,tv⟩,rfl⟩;exact EN (f:=D_) (d:=⟨0, [], []⟩) (by simp) c u h
def iz:Img:=⟨0,0, []⟩
def Dx (l:List Img) (z w:Int):Nat->Option Img
 | 0=>none
 | k+1=>if (l.getD k iz).zone=z/\(l.getD k iz).what=w then some (l.getD k iz) else Dx l z w k
def F2 (l:List Tx) (z w:Int):Nat->Option (Img × Int)
 | 0=>none
 | k+1=>match Dx (l.getD k tz).images z w (l.getD k tz).images.length with
  | some x=>some (x,(l.getD k tz).seq)
  | none=>F2 l z w k
def CG (l:List Tx) (z w:Int):Option (Img × Int):=F2 l z w l.length
theorem Na {l:List Img} {z w:Int}:∀ {k:Nat} {x:Img},k<=l.length->Dx l z w k=some x->x∈l/\x.zone=z/\x.what=w
 | k+1,x,hk,h=>by
  rw [Dx] at h;split at h
  ·rename_i hc;obtain rfl:=Option.some.inj h;exact⟨A9 (by omega),hc⟩
  ·exact Na (by omega) h
theorem M_ {l:List Tx} {z w:Int}:∀ {k:Nat} {x:Img} {s:Int},k<=l.length->F2 l z w k=some (x,s)->∃ t∈l,t.seq=s/\x∈t.images/\x.zone=z/\x.what=w
 | k+1,x,s,hk,h=>by
  rw [F2] at h;split at h
  ·rename_i y hy;obtain⟨rfl,rfl⟩:=Prod.mk.inj (Option.some.inj h);exact⟨l.getD k tz,A9 (by omega),rfl,Na (Ag _) hy⟩
  ·exact M_ (by omega) h
def Dv (a:An) (l:List Tx) (z:Int):Int:=match CG l z 255 with
 | some p=>p.2
 | none=>(a.homes.getD z.toNat ⟨[],0,0⟩).root
def IK (n:Int):Int:=if 0<=n/\n<=30 then n else 0
def GF (l:List Tx):Nat->Int
 | 0=>0
 | k+1=>GF l k+IK (l.getD k tz).n
def Ea (l:List Tx):Int:=GF l l.length
theorem OE (n:Int):0<=IK n/\IK n<=30:=by
 unfold IK;split <;> omega
theorem GV (l:List Tx):∀ k:Nat,0<=GF l k/\GF l k<=30*k
 | 0=>by simp [GF]
 | k+1=>by
  have:=GV l k;have:=OE (l.getD k tz).n;rw [GF];omega
def Et (g:Geo) (w:Int):Int:=if w = -1 then g.d else w
def D3 (g:Geo) (a:An) (z w:Int):Int:=Cz g z ((a.homes.getD z.toNat ⟨[],0,0⟩).places.getD (Et g w).toNat 0)
def Cy (g:Geo) (x:Gt) (addr root:Int):Option (List Ent):=match D5 x addr with
 | some s=>if s.stamp=root then CT g s.pay else none
 | none=>none
def DE (x:Gt) (addr:Int) (e:Ent):Option (List UInt8):=match D5 x addr with
 | some s=>if s.stamp=e.stamp/\s.pay.length=8/\((DD s.pay:Nat):Int)=e.sum then some s.pay else none
 | none=>none
def GM (a b:List UInt8):List UInt8:=List.zipWith (fun x y=>x ^^^ y) a b
def ez:Ent:=⟨0,0,false⟩
def HT (t:List Ent) (had:List (List UInt8)) (at_:Nat):Nat->Option (List UInt8)
 | 0=>some zero8
 | k+1=>match HT t had at_ k with
  | none=>none
  | some b=>if k=at_\/(t.getD k ez).lost=true then some b else if (had.getD k []).length=0 then none else some (GM b (had.getD k []))
def FL (g:Geo) (t:List Ent) (had:List (List UInt8)) (at_:Nat):List UInt8:=
 if (t.getD at_ ez).lost then []
 else if 0<(had.getD at_ []).length then had.getD at_ []
 else match HT t had at_ (g.d.toNat+1) with
  | none=> []
  | some b=>if ((DD b:Nat):Int)=(t.getD at_ ez).sum then b else []
def flatX:AV->Bool
 | .v _=>true
 | _=>false
def flatO:AV->Bool
 | .v _=>true
 | .ow _ _=>true
 | .tp l=>l.all fun x=>match x with | .v _=>true | .ow _ _=>true | _=>false
 | _=>false
def flatR:List AB->Bool
 | []=>true
 | .row _ _ es::r=>es.flatten.all flatX&&flatR r
 | _::_=>false
theorem PJ {c c':Ctx}:∀ {l:List AV} {us:List Value},l.all flatX=true->RdL l c us->RdL l c' us
 | [],us,_,h=>by simpa only [RdL] using h
 | x::l,us,hf,h=>by
  rw [Bf,Ad] at hf;simp only [RdL] at h |-
  obtain⟨u,vs,rfl,h1,h2⟩:=h;refine⟨u,vs,rfl,?_,PJ hf.2 h2⟩;cases x <;> simp [flatX] at hf;simpa only [Rd] using h1
theorem Oq {c c':Ctx} (hr:c'.rho=c.rho) (hl:c'.len=c.len) (hd:c'.dom=c.dom) {x:AV} (hx:(match x with | .v _=>true | .ow _ _=>true | _=>false)=true) {u:Value} (h:Rd x c u):Rd x c' u:=by
 cases x <;> simp at hx
 ·simpa only [Rd] using h
 ·simp only [Rd] at h |-
  rw [hr,hl,hd];exact h
theorem VD {c c':Ctx} (hr:c'.rho=c.rho) (hl:c'.len=c.len) (hd:c'.dom=c.dom) {x:AV} (hx:flatO x=true) {u:Value} (h:Rd x c u):Rd x c' u:=by
 cases x with
 | v y=>exact Oq hr hl hd rfl h
 | ow k n=>exact Oq hr hl hd rfl h
 | tp l=>
  simp only [Rd] at h |-
  obtain⟨xs,rfl,hxs⟩:=h;refine⟨xs,rfl,?_⟩;simp only [flatO] at hx;induction l generalizing xs with
  | nil=>simpa only [RdL] using hxs
  | cons y l ih=>
   rw [Bf,Ad] at hx;simp only [RdL] at hxs |-
   obtain⟨u,us,rfl,h1,h2⟩:=hxs;exact⟨u,us,rfl,Oq hr hl hd hx.1 h1,ih hx.2 us h2⟩
 | _=>simp [flatO] at hx
theorem flatR_mem:∀ {R:List AB} {y:AB},flatR R=true->y∈R->∃ t sz es,y = .row t sz es/\es.flatten.all flatX=true
 | .row t sz es::r,y,h,hy=>by
  rw [flatR,Ad] at h;rcases AS.1 hy with rfl | hy
  ·exact⟨t,sz,es,rfl,h.1⟩
  ·exact flatR_mem h.2 hy
theorem FnO.lend {P:Program} {f:FuncId} {args args':List AV} {H:List AB} {K:AV->List AB->Prop} {q:Bool} {k:AV->List AB->Prop} (h:FnO P f args' K) (hs:sealA args H fun a _=>a=args') (hk:∀ r R,K r R->(flatO r=true/\flatR R=true)/\appK H R 0 fun d H=>CZ (r.shift d) fun r=>k r H):ACalls P q f args H k:=by
 refine⟨h.go,fun w0 M0 c us hs0 hr=>?_⟩;obtain⟨l',H',c',rfl,h2,h3,h4,h5,_⟩:=sealA_sound hs0 hr hs;have hglob:globOk c'.closed.w:=h3.glob;have hc:=h.calls c'.closed us hglob rfl h3.lt h5;have ew:c'.closed.w=c.w:=h2
 suffices hh:Calls P f us.toArray c'.closed.w fun e w'=>∃ v c1 r H1,e = .returned v/\c1.w=w'/\k r H1/\HS w0 M0 c1 H1/\Ext c c1/\Rd r c1 v/\(q=true->Old c.w w') by
  rw [ew] at hh;exact hh
 refine hc.mono ?_;rintro e w' ⟨v,r,c2,R,rfl,q1,rfl,q2,q3,q4⟩;obtain⟨⟨f1,f2⟩,hkk⟩:=hk r R q1
 -- the same memory;what the caller holds is not read
 obtain⟨c3,e3⟩:∃ c3:Ctx,c3={ c2 with M:=fun b=>c2.M b\/c.M b }:=⟨_,rfl⟩;have hsub:∀ b,b<c.w.heap.size->c'.M b->c.M b:=fun b hb hm=>by
  by_cases hx:c.M b
  ·exact hx
  ·exact absurd hm (h4.keep b hb hx).1
 have hlow:=q2.low;have q2':HS (Fl.all c.w hs0.glob) c.M c3 R:=by
  subst e3;refine⟨⟨?_,?_,?_,?_,?_⟩,q2.base,q2.dom,fun b hb=>?_,fun b hb=>?_,fun i y hi=>?_,fun i y g hi hl ho=>?_,q2.dis⟩
  ·have:=hlow.os;rw [show (Fl.all c'.closed.w hglob).w=c.w from ew] at this;exact this
  ·have:=hlow.tape;rw [show (Fl.all c'.closed.w hglob).w=c.w from ew] at this;exact this
  ·have:=hlow.output;rw [show (Fl.all c'.closed.w hglob).w=c.w from ew] at this;exact this
  ·have:=hlow.size;rw [show (Fl.all c'.closed.w hglob).w=c.w from ew] at this;exact this
  ·intro b hb;have:=hlow.block b (by show b<c'.closed.w.heap.size;rw [ew];exact hb);rw [show (Fl.all c'.closed.w hglob).w=c.w from ew] at this;exact this
  ·have hb':b<c.w.heap.size:=hb;have:=q2.foreign b (by show b<c'.closed.w.heap.size;rw [ew];exact hb');exact⟨fun hx=>hx.elim (fun hx=>hsub b hb' (this.1 hx)) (fun hx=>hx),fun hx=> .inr hx⟩
  ·have hsz:c.w.heap.size<=c2.w.heap.size:=by
    have:=hlow.size;rw [show (Fl.all c'.closed.w hglob).w=c.w from ew] at this;exact this
   rcases hb with hb | hb
   ·exact q2.lt b hb
   ·exact At (hs0.lt b hb) hsz
  ·obtain⟨t,sz,es,rfl,hfl⟩:=flatR_mem f2 (List.mem_of_getElem? hi);obtain⟨a1,a2,a3,xs,a4,a5,a6⟩:=q2.blk i _ hi;exact⟨a1,a2,a3,xs,a4,PJ hfl a5,a6⟩
  ·have:=q2.own i y g hi hl ho;refine⟨.inl this.1,fun hx=>this.2 ?_⟩;show g<c'.closed.w.heap.size;rw [ew];exact hx
 have q3':Rd r c3 v:=VD (by rw [e3]) (by rw [e3]) (by rw [e3]) f1 q3;have q5:c3.w=c2.w:=by rw [e3]
 obtain⟨p1,p2⟩:=hs0.beside (c':=c3) q2' q4;have h1:=B9 (appK_iff hkk);rw [Au,<-hs0.dom] at h1;exact⟨v,c.beside c3,_,_,rfl,by show c3.w=_;exact q5,h1,p1,p2,Rd.shift r q3',fun _=>by have:=q2'.low.below.old;rw [q5] at this;exact this⟩
theorem FnO.subA {P:Program} {f:FuncId} {args args':List AV} {K:AV->List AB->Prop} (h:FnO P f args' K) (hs:SubL args args'):FnO P f args K:=
 ⟨h.go,fun c0 us hg h1 h2 h3=>h.calls c0 us hg h1 h2 (hs.rdl h3)⟩
theorem MG (l:List Tx) (hl:l.length<=1000000):Fn Tryz.prog 144 [Ev l] fun r=>r = iv (Ea l):=by
 refine zT Tryz.func144 rfl ?_;conv=>whnf
 refine zS Nat (fun k=>([(0,Ev l),(3,iv (GF l k)),(6,Ev l),(7,iv (l.length:Nat)),(8,iv k)], [])) (fun k=>k<=l.length) (fun k=>l.length - k) 0 (Ak _)
  (zQ (s:= []) tA) ?_
 intro k hk;conv=>whnf
 refine AJ (fun h6=>?_) (fun h6=>?_) <;> (repeat rw [Ab] at h6) <;> conv=>whnf
 ·have hk':k<l.length:=by omega
  have hb:=GV l k;have hs:GF l (k+1)=GF l k+IK (l.getD (k:Int).toNat ⟨0,0,0, []⟩).n:=rfl;have hn:=OE (l.getD (k:Int).toNat ⟨0,0,0, []⟩).n;repeat' (refine z_ ?_;conv=>whnf)
  refine⟨⟨by omega,by omega⟩,?_⟩;conv=>whnf
  by_cases h0:(l.getD (k:Int).toNat ⟨0,0,0, []⟩).n>=0
  ·rw [show decide ((l.getD (k:Int).toNat ⟨0,0,0, []⟩).n>=0)=true from decide_eq_true h0];conv=>whnf
   by_cases h1:(l.getD (k:Int).toNat ⟨0,0,0, []⟩).n<=30
   ·rw [show decide ((l.getD (k:Int).toNat ⟨0,0,0, []⟩).n<=30)=true from decide_eq_true h1];have hu:IK (l.getD (k:Int).toNat ⟨0,0,0, []⟩).n=(l.getD (k:Int).toNat ⟨0,0,0, []⟩).n:=if_pos ⟨h0,h1⟩;conv=>whnf
    exact⟨k+1,hk',by omega,zQ (s:= []) ⟨⟨rfl,congrArg (fun n:Int=>AV.v (.int .i64 n)) (by rw [hs,hu,wi (by rw [<-hu];omega)]),rfl,rfl,AN (by omega),tv⟩,tv,rfl,rfl,rfl,rfl,rfl⟩⟩
   ·rw [show decide ((l.getD (k:Int).toNat ⟨0,0,0, []⟩).n<=30)=false from decide_eq_false h1];have hu:IK (l.getD (k:Int).toNat ⟨0,0,0, []⟩).n=0:=if_neg fun h=>h1 h.2
    exact⟨k+1,hk',by omega,zQ (s:= []) ⟨⟨rfl,congrArg (fun n:Int=>AV.v (.int .i64 n)) (by rw [hs,hu,Int.add_zero]),rfl,rfl,AN (by omega),tv⟩,tv,rfl,rfl,rfl,rfl,rfl⟩⟩
  ·rw [show decide ((l.getD (k:Int).toNat ⟨0,0,0, []⟩).n>=0)=false from decide_eq_false h0];have hu:IK (l.getD (k:Int).toNat ⟨0,0,0, []⟩).n=0:=if_neg fun h=>h0 h.1
   exact⟨k+1,hk',by omega,zQ (s:= []) ⟨⟨rfl,congrArg (fun n:Int=>AV.v (.int .i64 n)) (by rw [hs,hu,Int.add_zero]),rfl,rfl,AN (by omega),tv⟩,tv,rfl,rfl,rfl,rfl,rfl⟩⟩
 ·have ek:k=l.length:=by omega
  subst ek;exact⟨_,ri,rfl⟩
theorem ST (g:Geo) (a:An) (l:List Tx) (hg:Bq g=true) (ha:B4 g a=true) (hr:CL g l a.seq a.pos g.sl=true) (hl:l.length<=1000000) (hi:∀ t∈l,t.images.length<=1000000/\∀ x∈t.images,x.bytes.length<=100000) (hla:a.label.size<=1000000) (hh:a.homes.length<=1000000) (hs:a.seq+(l.length:Int)<=4294967295):Fn Tryz.prog 73 [.ag (Bl g), .ag (Fh a),Ev l] fun r=>r = .tp [iv ((a.pos+Ea l).tmod g.sl),iv (a.seq+l.length),iv 0]:=by
 obtain⟨g1,g2,g3,g4,g5⟩:=Az.1 hg;have hu:=MG l hl;have hb:=GV l l.length;have hc:=NH g a l hla hh hl hi;rw [hg,ha,hr] at hc;have hp:(1<=a.seq/\a.seq<=4294967295)/\(0<=a.pos/\a.pos<g.sl):=by
  simp only [B4,Bf,BT,BJ,Ad,decide_eq_true_eq,AH] at ha;omega
 have hw:IntKind.i64.wrap (a.seq+(l.length:Int))=a.seq+l.length:=wi (by omega);have ixA:g.sl≠0:=by omega
 refine zT Tryz.func73 rfl ?_;conv=>whnf
 refine zZ hc ?_;conv=>whnf
 apply zJ tys_ok mixed (.o [0,1,2,5,6,8,9,10,11,12,3,4,7,13,14] .fin) [6,7,16,17,18,19,20,21,22,23,24,25,26,27,28] (by kernel_rfl)
 ·conv=>whnf
  refine zZ hu ?_;conv=>whnf
  try (refine Ah (by first | omega | exact ixA | exact ixB | (simp;done)) ?_;conv=>whnf)
  exact tA
 conv=>whnf
 rw [hw];rw [show decide (a.seq+(l.length:Int) > 4294967295)=false from decide_eq_false (by omega)];conv=>whnf
 exact⟨_,ri,by rw [wi (n:=a.pos+Ea l) (by unfold Ea;omega)]⟩
def KY (g:Geo):Int:=1+g.sl+g.z*(2+g.d)
theorem Uq {g:Geo} (hg:Bq g=true):18<=KY g/\KY g<=55/\(3<=g.z*(2+g.d)/\g.z*(2+g.d)<=24):=by
 obtain⟨g1,g2,g3,g4,g5⟩:=Az.1 hg;have h1:g.z*(2+g.d)<=4*6:=Int.mul_le_mul (by omega) (by omega) (by omega) (by omega);have h2:1*3<=g.z*(2+g.d):=Int.mul_le_mul (by omega) (by omega) (by omega) (by omega);unfold KY;omega
def Z3 (n:Int) (l:List Int) (i:Nat):Bool:=decide (0<=l.getD i 0)&&(decide (l.getD i 0<n)&&(decide (i=0) || decide (l.getD (i - 1) 0<l.getD i 0)))
def YG (n:Int) (l:List Int):Bool:=(List.range l.length).all (Z3 n l)
def LH (g:Geo) (s:Stt):Bool:=YG (g.z*g.d) s.lost&&(decide (0<=s.found)&&(decide (0<=s.fixed)&&decide (0<=s.moved)))
def Zu (g:Geo) (d:Dk) (s:Stt):Bool:=Bq g&&((QN d&&decide ((d.cells.length:Int)=A4 g))&&(((Bq g&&B4 g s.a)&&CL g s.txns s.a.seq s.a.pos g.sl)&&(decide (0<=s.cursor)&&(decide (s.cursor<KY g)&&LH g s))))
structure StBig (s:Stt):Prop where
 l:s.a.label.size<=1000000
 h:s.a.homes.length<=1000000
 t:s.txns.length<=1000000/\∀ t∈s.txns,t.images.length<=1000000/\∀ x∈t.images,x.bytes.length<=100000
 o:s.lost.length<=1000000



def sumT:List Tx->Int
 | []=>0
 | t::r=>t.n+sumT r
theorem sumT_app:∀ l m:List Tx,sumT (l ++ m)=sumT l+sumT m
 | [],m=>by simp [sumT]
 | t::r,m=>by
  show t.n+sumT (r ++ m)=_;rw [sumT_app r m,sumT];omega
theorem M8 {l:List Tx} (h:∀ t∈l,0<=t.n/\t.n<=30):∀ k:Nat,k<=l.length->GF l k=sumT (l.take k)
 | 0,_=>by simp [GF,sumT]
 | k+1,hk=>by
  have e:l.take (k+1)=l.take k ++ [l.getD k tz]:=by
   rw [Bg,Af (by omega),Ac,Af (by omega)];try rfl
  have hm:=h _ (A9 (d:=tz) (show k<l.length by omega));rw [GF,M8 h k (by omega),e,sumT_app,IK,if_pos hm];simp [sumT]
theorem S8 {l:List Tx} (h:∀ t∈l,0<=t.n/\t.n<=30):Ea l=sumT l:=by
 have:=M8 h l.length (Ag _);rwa [A5] at this
theorem SE {p n s q:Int} (hs:0<s) (hp:0<=p) (hn:0<=n) (hq:0<=q):((p+n).tmod s+q).tmod s=(p+(n+q)).tmod s:=by
 have h1:0<=(p+n).tmod s:=BE _ (by omega);rw [BP (a:=p+n) (by omega)] at h1 |-
 rw [BP (by omega),BP (by omega),Int.emod_add_emod,Int.add_assoc]
theorem WB {l:List Tx} (h:∀ t∈l,0<=t.n/\t.n<=30):0<=sumT l:=by
 induction l with
 | nil=>simp [sumT]
 | cons t r ih=>
  have:=h t (by simp);have:=ih fun x hx=>h x (Bb _ hx)
  rw [sumT];omega
theorem FV {g:Geo} (hg:Bq g=true):∀ {l:List Tx} {seq pos left:Int},left<=g.sl->CL g l seq pos left=true->(∀ t∈l,0<=t.n/\t.n<=30)/\sumT l<=max left 0
 | [],_,_,left,_,_=>⟨by simp,by simp [sumT];omega⟩
 | t::r,seq,pos,left,hl,h=>by
  obtain⟨g1,g2,g3,g4,g5⟩:=Az.1 hg;simp only [CL,Ad,decide_eq_true_eq] at h;obtain⟨⟨h1,h2,h3,h4,h5,h6,h7⟩,h8⟩:=h;have ih:=FV hg (by omega) h8;refine⟨fun x hx=>?_,?_⟩
  ·rcases AS.1 hx with rfl | hx
   ·omega
   ·exact ih.1 x hx
  ·rw [sumT];have:=ih.2;omega
theorem Kn {g:Geo} (hg:Bq g=true) {x:Tx}:∀ {l:List Tx} {seq pos left:Int},0<=pos->pos<g.sl->left<=g.sl->CL g l seq pos left=true->x.seq=seq+l.length->x.seq<=4294967295->x.pos=(pos+sumT l).tmod g.sl->2<=x.n->x.n<=left - sumT l->x.n=x.images.length+1->x.images.all (BV g)=true->CL g (l ++ [x]) seq pos left=true
 | [],seq,pos,left,h0,h1,_,_,e1,e2,e3,e4,e5,e6,e7=>by
  have e3':x.pos=pos:=by
   rw [e3,show sumT []=0 from rfl,Int.add_zero,BP h0,Int.emod_eq_of_lt h0 h1]
  simp only [AP] at e1;have e1':x.seq=seq:=by omega
  have e5':x.n<=left:=by have:sumT []=0:=rfl;omega
  show (decide (x.seq=seq)&&(decide (x.seq<=4294967295)&&(decide (x.pos=pos)&&(decide (2<=x.n)&&(decide (x.n<=left)&&(decide (x.n=x.images.length+1)&&x.images.all (BV g)))))))&&true=true;rw [decide_eq_true e1',decide_eq_true e2,decide_eq_true e3',decide_eq_true e4,decide_eq_true e5',decide_eq_true e6,e7];try rfl
 | t::r,seq,pos,left,h0,h1,hl,h,e1,e2,e3,e4,e5,e6,e7=>by
  obtain⟨g1,g2,g3,g4,g5⟩:=Az.1 hg;have hh:=h;simp only [CL,Ad,decide_eq_true_eq] at hh;obtain⟨⟨q1,q2,q3,q4,q5,q6,q7⟩,q8⟩:=hh;have hin:=(FV hg (by omega) q8).1;have hnn:=WB hin;have hp0:0<=(pos+t.n).tmod g.sl:=BE _ (by omega);have hp1:(pos+t.n).tmod g.sl<g.sl:=Bo _ (by omega);rw [sumT] at e3 e5;have ih:=Kn hg (x:=x) hp0 hp1 (by omega) q8 (by rw [e1];simp only [Ao];omega) e2 (by rw [e3,SE (by omega) h0 (by omega) hnn]) e4 (by omega) e6 e7;show (_&&CL g (r ++ [x]) (seq+1) ((pos+t.n).tmod g.sl) (left - t.n))=true;rw [ih,BJ];simp only [CL,Ad] at h;simpa using h.1
def E7 (ats:List Int) (bs:List (List UInt8)) (i:Nat):Nat->Option (List UInt8)
 | 0=>none
 | k+1=>if ats.getD k 0=(i:Int) then some (bs.getD k []) else E7 ats bs i k
def G2 (g:Geo) (t:List Ent) (had:List (List UInt8)) (ats:List Int) (bs:List (List UInt8)) (i:Nat):List UInt8:=match E7 ats bs i ats.length with
 | some b=>b
 | none=>FL g t had i
def NZ (g:Geo) (t:List Ent) (had:List (List UInt8)) (ats:List Int) (bs:List (List UInt8)) (stamp:Int) (i:Nat):Ent:=
 let e:Ent:=match E7 ats bs i ats.length with
  | some b=>⟨stamp,(DD b:Nat),false⟩
  | none=>t.getD i ez
 if (G2 g t had ats bs i).length=0 then { e with lost:=true } else e
def ET (g:Geo) (t:List Ent) (had:List (List UInt8)) (ats:List Int) (bs:List (List UInt8)):Nat->List UInt8
 | 0=>zero8
 | k+1=>if (G2 g t had ats bs k).length=0 then ET g t had ats bs k else GM (ET g t had ats bs k) (G2 g t had ats bs k)
def BK (g:Geo) (t:List Ent) (had:List (List UInt8)) (ats:List Int) (bs:List (List UInt8)) (stamp:Int):List Ent:=(List.range g.d.toNat).map (NZ g t had ats bs stamp) ++ [⟨stamp,(DD (ET g t had ats bs g.d.toNat):Nat),false⟩]
def C3 (z:Int) (t:List Ent) (par:List UInt8) (ats:List Int) (bs:List (List UInt8)):List Img:=((List.range ats.length).map fun i=>⟨z,ats.getD i 0,bs.getD i []⟩) ++ [⟨z, -1,par⟩,⟨z,255,Dg t⟩]
theorem IR (b:List UInt8):DD b<=4294967295:=by unfold DD;omega
theorem FP (a b:List UInt8):(GM a b).length=min a.length b.length:=by simp [GM]
theorem Kq {t:List Ent} {had:List (List UInt8)} {at_:Nat} (hh:∀ b∈had,b.length=0\/b.length=8):∀ (k:Nat) (b:List UInt8),HT t had at_ k=some b->b.length=8
 | 0,b,h=>by
  obtain rfl:=Option.some.inj h;rfl
 | k+1,b,h=>by
  rw [HT] at h;cases hk:HT t had at_ k with
  | none=>rw [hk] at h;cases h
  | some c=>
   rw [hk] at h;have ih:=Kq hh k c hk;simp only at h;split at h
   ·grind
   ·split at h
    ·cases h
    ·rename_i h0;obtain rfl:=Option.some.inj h;have hm:(had.getD k []).length=8:=by
      grind
     rw [FP,ih,hm];try rfl
theorem QU {g:Geo} {t:List Ent} {had:List (List UInt8)} (hh:∀ b∈had,b.length=0\/b.length=8) (i:Nat):(FL g t had i).length=0\/(FL g t had i).length=8:=by
 unfold FL;split
 ·grind
 ·split
  ·grind
  ·cases ho:HT t had i (g.d.toNat+1) with
   | none=>exact .inl rfl
   | some b=>
    simp only;split
    ·exact .inr (Kq hh _ _ ho)
    ·grind
section
variable {g:Geo} {t:List Ent} {had:List (List UInt8)} {ats:List Int} {bs:List (List UInt8)}
theorem JG (hb:∀ b∈bs,b.length=8) (hl:ats.length<=bs.length) {i:Nat}:∀ (k:Nat) (b:List UInt8),k<=ats.length->E7 ats bs i k=some b->b.length=8
 | k+1,b,hk,h=>by
  rw [E7] at h;split at h
  ·grind
  ·exact JG hb hl k b (by omega) h
theorem UT (hh:∀ b∈had,b.length=0\/b.length=8) (hb:∀ b∈bs,b.length=8) (hl:ats.length<=bs.length) (i:Nat):(G2 g t had ats bs i).length=0\/(G2 g t had ats bs i).length=8:=by
 unfold G2;cases hp:E7 ats bs i ats.length with
 | none=>exact QU hh i
 | some b=>exact .inr (JG hb hl _ b (Ag _) hp)
theorem Hn (hh:∀ b∈had,b.length=0\/b.length=8) (hb:∀ b∈bs,b.length=8) (hl:ats.length<=bs.length):∀ k:Nat,(ET g t had ats bs k).length=8
 | 0=>rfl
 | k+1=>by
  have ih:=Hn hh hb hl k;rw [ET];split
  ·exact ih
  ·rename_i h0;rcases UT (g:=g) (t:=t) hh hb hl k with q | q
   ·exact absurd q h0
   ·rw [FP,ih,q];try rfl
theorem GT (hg:Bq g=true) (ht:HU g t=true) {stamp:Int} (hs:0<=stamp/\stamp<=4294967295):HU g (BK g t had ats bs stamp)=true:=by
 obtain⟨g1,g2,g3,g4,g5⟩:=Az.1 hg;have hsum:∀ b:List UInt8,Io ((DD b:Nat):Int)=true:=fun b=>AH.2 (by have:=IR b;omega)
 have hst:Io stamp=true:=AH.2 hs;have hl:(BK g t had ats bs stamp).length=g.d.toNat+1:=by simp [BK]
 rw [HU,hg] at ht;simp only [B8,Ad,decide_eq_true_eq,Cn] at ht;obtain⟨⟨t1,t2⟩,t3⟩:=ht;rw [HU,hg,decide_eq_true (by rw [hl];omega)];have hall:(BK g t had ats bs stamp).all Ef=true:=by
  rw [Av];intro x hx;simp only [BK,Ay,AM,AK,A8] at hx;rcases hx with ⟨i,hi,rfl⟩ | rfl
  ·have he:∀ e:Ent,Ef e=true->Ef { e with lost:=true }=true:=fun e h=>h
   have h0:Ef (match E7 ats bs i ats.length with | some b=>(⟨stamp,(DD b:Nat),false⟩:Ent) | none=>t.getD i ez)=true:=by
    cases E7 ats bs i ats.length with
    | some b=>simp only [Ef,hst,hsum,Bool.and_self]
    | none=>exact Av.1 t2 _ (A9 (d:=ez) (by omega))
   unfold NZ
   grind
  ·simp only [Ef,hst,hsum,Bool.and_self]
 rw [hall];have hla:I2 (BK g t had ats bs stamp) g.d.toNat=false:=by
  unfold I2 BK
  grind
 grind
end
theorem Rk {x:Ent} (h:Ef x=true) (r:List UInt8):Ky (Jr x ++ r)=x:=by
 obtain⟨a,s,l⟩:=x;simp only [Ef,Io,Ad,AH] at h;have hn:nums [4,4,1] (rowB [a,s,CV l] [4,4,1] ++ r)=[a,s,CV l]:=nums_rowB [a,s,CV l] [4,4,1] r rfl (fun k h1 _=>by
  match k,h1 with
  | 0,_=>exact⟨.inr (.inr rfl),h.1.1,by show a<4294967296;omega⟩
  | 1,_=>exact⟨.inr (.inr rfl),h.2.1,by show s<4294967296;omega⟩
  | 2,_=>exact⟨.inl rfl,by show 0<=CV l;unfold CV;split <;> decide,by show CV l<256;unfold CV;split <;> decide⟩)
 unfold Ky Jr;rw [hn];cases l <;> rfl
theorem entsOf_tblB:∀ (t:List Ent),(∀ e∈t,Ef e=true)->entsOf t.length (Dg t)=t
 | [],_=>rfl
 | e::t,h=>by
  have e1:Dg (e::t)=Jr e ++ Dg t:=by simp [Dg]
  have e2:(Jr e ++ Dg t).drop 9=Dg t:=by
   rw [List.drop_append_of_le_length (by rw [Jq];exact Ag _),A7 (by rw [Jq];exact Ag _)];try rfl
  show Ky (Dg (e::t))::entsOf t.length ((Dg (e::t)).drop 9)=e::t;rw [e1,e2,Rk (h e (by simp)),entsOf_tblB t fun x hx=>h x (Bb _ hx)]
theorem Iv {g:Geo} {t:List Ent} (ht:HU g t=true):CT g (Dg t)=some t:=by
 have hh:=ht;simp only [HU,Ad,decide_eq_true_eq,Av] at hh;obtain⟨⟨⟨_,t1⟩,t2⟩,_⟩:=hh;have e:(g.d+1).toNat=t.length:=by omega
 unfold CT;rw [e,entsOf_tblB t t2,if_pos ⟨ht,rfl⟩]
def OneTab (l:List Img):Prop:=l.Pairwise fun x y=>x.what=255->y.what=255->x.zone≠y.zone
theorem Hu (z:Int) (t:List Ent) (par:List UInt8) (ats:List Int) (bs:List (List UInt8)):(C3 z t par ats bs).length=ats.length+2:=by simp [C3]
theorem QX {g:Geo} (hg:Bq g=true) {z:Int} (hz:0<=z/\z<g.z) {t:List Ent} (ht:HU g t=true) {par:List UInt8} (hp:par.length=8) {ats:List Int} (ha:∀ a∈ats,0<=a/\a<g.d) {bs:List (List UInt8)} (hb:∀ b∈bs,b.length=8) (hl:ats.length<=bs.length):∀ x∈C3 z t par ats bs,BV g x=true/\x.zone=z:=by
 obtain⟨g1,g2,g3,g4,g5⟩:=Az.1 hg;have hz':CH z 0 (g.z - 1)=true:=AH.2 (by omega);intro x hx;simp only [C3,Ay,AM,AK,AS,Dy,or_false] at hx;rcases hx with ⟨i,hi,rfl⟩ | rfl | rfl
 ·have h1:=ha _ (A9 (d:=0) hi);have h2:=hb _ (A9 (d:= []) (show i<bs.length by omega));refine⟨?_,rfl⟩;simp only [BV,hg,hz',B8];rw [if_neg (by omega),AH.2 (show -1<=ats.getD i 0/\ats.getD i 0<=g.d - 1 by omega),decide_eq_true h2];try rfl
 ·refine⟨?_,rfl⟩;simp only [BV,hg,hz',B8];rw [if_neg (by decide),AH.2 (show (-1:Int)<= -1/\(-1:Int)<=g.d - 1 by omega),decide_eq_true hp];try rfl
 ·refine⟨?_,rfl⟩;simp only [BV,hg,hz',B8];rw [if_pos trivial,Iv ht];try rfl
theorem P4 {g:Geo} (hg:Bq g=true) {l:List Img} {z:Int} (hl:OneTab l) (hz:∀ x∈l,x.zone<z) {t:List Ent} {par:List UInt8} {ats:List Int} (ha:∀ a∈ats,0<=a/\a<g.d) {bs:List (List UInt8)}:OneTab (l ++ C3 z t par ats bs):=by
 obtain⟨g1,g2,g3,g4,g5⟩:=Az.1 hg;have hw:∀ x∈(List.range ats.length).map (fun i=>(⟨z,ats.getD i 0,bs.getD i []⟩:Img)),x.what≠255:=by
  intro x hx;obtain⟨i,hi,rfl⟩:=AM.1 hx;have:=ha _ (A9 (d:=0) (AK.1 hi))
  grind
 refine List.pairwise_append.2 ⟨hl,List.pairwise_append.2 ⟨List.Pairwise.imp_of_mem (R:=fun _ _=>True) (fun hx _ _ h=>absurd h (hw _ hx)) (List.pairwise_of_forall (fun _ _=>trivial)),?_,fun x hx y _ h=>absurd h (hw _ hx)⟩,fun x hx y hy _ _=>?_⟩
 ·grind
 ·have h1:=hz x hx;have h2:y.zone=z:=by
   simp only [C3,Ay,AM,AK,AS,Dy,or_false] at hy
   grind
  omega
@[reducible] def ZQ (g:Geo) (x:AV) (s:Stt) (e:Int):List AV:= [iv g.z,iv g.d,iv g.sp,iv g.sl,iv g.an,x,iv s.a.gen,iv s.a.epoch,iv s.a.pos,iv s.a.seq,iv s.a.last, .v (.string s.a.label),GP s.a.homes,Ev s.txns, .v (.bool s.only),iv s.cursor,iv s.found,iv s.fixed,iv s.moved,iA s.lost,iv e]
@[reducible] def aN (g:Geo) (s:Stt) (e:Int) (d:Dk):List AB:= [.box 132 (ZQ g (.bp 1 0) s e), .box 133 (II (.ow 2 d.cells.length) (.ow 3 d.cache.length) d.reqs d.left), .row 68 3 (d.cells.map BB), .row 152 2 (d.cache.map E9)]
@[reducible] def aO (g:Geo) (s:Stt) (e:Int) (d:Dk):List AB:= [.box 132 (ZQ g (.bp 1 0) s e), .box 133 (II (.ow 2 d.cells.length) (.ow 4 d.cache.length) d.reqs d.left), .row 68 3 (d.cells.map BB), .dead, .row 152 2 (d.cache.map E9)]
@[reducible] def aP (g:Geo) (s:Stt) (e:Int) (d:Dk) (l:List AB):List AB:= .box 132 (ZQ g (.bp 1 0) s e):: .box 133 (II (.ow 2 d.cells.length) (.ow 3 d.cache.length) d.reqs d.left):: .row 68 3 (d.cells.map BB):: .row 152 2 (d.cache.map E9)::l

theorem ACalls.lendBox {P:Program} {q:Bool} {f:FuncId} {x:AV} {H:List AB} {K:AV->List AB->Prop} (j k:Nat) {t t':TypeId} {sz':Nat} {cs cs2:List AV} {es':List (List AV)} (hj:H[j]? = some (.box t cs)) (hk:H[k]? = some (.row t' sz' es'))
  (he:cs.map (AV.slIn k es'.length (.sl sz' es'.length fun i=>es'.getD i []))=cs2) (hc:ACalls P q f [x, .ag cs2] ((H.set k .dead).set j (.box t cs2)) K):ACalls P q f [x, .ag cs] H K:=by
 refine⟨hc.go,fun w0 M0 c us hs hr=>?_⟩;subst he;have hjk:j≠k:=by rintro rfl;rw [hj] at hk;cases hk
 obtain⟨c1,e1,s1,x1,r1⟩:=hs.freeze hk;have hj1:(H.set k .dead)[j]? = some (.box t cs):=by rw [A3 (Ne.symm hjk)];exact hj
 have h8:∀ (l:List AV) (us:List Value),RdL l c us->RdL (l.map (AV.slIn k es'.length (.sl sz' es'.length fun i=>es'.getD i []))) c1 us:=by
  intro l;induction l with
  | nil=>intro us h;simp only [RdL] at h;subst h;simp [RdL]
  | cons x l ih=>
   intro us h;simp only [RdL] at h;obtain⟨u,vs,rfl,a1,a2⟩:=h;simp only [A6,RdL];refine⟨u,vs,rfl,?_,ih vs a2⟩;unfold AV.slIn;split
   ·rename_i i n;split
    ·rename_i hik;subst hik;split
     ·rename_i hn;subst hn;exact r1 u a1
     ·simp [Rd]
    ·exact Rd.ext _ x1 a1
   ·exact Rd.ext _ x1 a1
 have s2:HS w0 M0 c1 ((H.set k .dead).set j (.box t (cs.map (AV.slIn k es'.length (.sl sz' es'.length fun i=>es'.getD i []))))):=by
  refine s1.recell hj1 rfl ?_;rintro⟨g,xs,h1,h2,_,h4⟩;obtain⟨g0,ys,q1,q2,q3,_⟩:=hs.blk j _ hj;have hg:=x1.box j _ (hs.klt hj) q1;rw [h1] at hg;injection hg with hg
  injection hg with hg
  injection hg with hg
  subst hg;rw [e1,q2] at h2;injection h2 with h2
  have hxy:ys.toArray=xs.toArray:=by injection h2
  have hxy:ys=xs:=by simpa using hxy
  subst hxy;exact⟨g,ys,h1,by rw [e1];exact q2,h8 _ _ q3,h4⟩
 have hr2:RdL [x, .ag (cs.map (AV.slIn k es'.length (.sl sz' es'.length fun i=>es'.getD i [])))] c1 us:=by
  simp only [RdL] at hr;obtain⟨u1,_,rfl,p1,u2,_,rfl,p2,rfl⟩:=hr;simp only [Rd] at p2;obtain⟨zs,rfl,p3⟩:=p2;simp only [RdL];exact⟨u1,_,rfl,Rd.ext _ x1 p1,_,_,rfl,by simp only [Rd];exact⟨zs,rfl,h8 _ _ p3⟩,rfl⟩
 have:=hc.calls w0 M0 c1 us s2 hr2;rw [e1] at this;refine this.mono ?_;rintro e w' ⟨v,c',r,H2,rfl,rfl,q1,q2,q3,q4,q5⟩;exact⟨v,c',r,H2,rfl,rfl,q1,q2,x1.trans q3,q4,q5⟩


section
variable {g:Geo} {a:An} {x y:List Gt} {pos seq left:Int}
end



theorem DkOk.big {d:Dk} (h:DkOk d):d.cells.length<=1000000/\d.cache.length<=1000000/\(∀ c∈d.cells,c.bytes.length<=1000000000/\c.old.length<=1000000000)/\(∀ w∈d.cache,w.bytes.length<=1000000000):=
 ⟨by have:=h.n;omega,by have:=h.m;omega,fun c hc=>by have:=(h.c c hc).2;omega,fun w hw=>by have:=(h.w w hw).2;omega⟩
@[reducible] def aU (a:An) (x:AV):List AV:= [iv a.gen,iv a.epoch,iv a.pos,iv a.seq,iv a.last, .v (.string a.label),x]
@[reducible] def aK (s:Stt) (x y:AV):List AV:= [iv s.a.gen,iv s.a.epoch,iv s.a.pos,iv s.a.seq,iv s.a.last, .v (.string s.a.label),x,y, .v (.bool s.only),iv s.cursor,iv s.found,iv s.fixed,iv s.moved,iA s.lost]
@[reducible] def ZZ (g:Geo) (x hm tx:AV) (s:Stt) (e:Int):List AV:= [iv g.z,iv g.d,iv g.sp,iv g.sl,iv g.an,x,iv s.a.gen,iv s.a.epoch,iv s.a.pos,iv s.a.seq,iv s.a.last, .v (.string s.a.label),hm,tx, .v (.bool s.only),iv s.cursor,iv s.found,iv s.fixed,iv s.moved,iA s.lost,iv e]
@[reducible] def aM (g:Geo) (s:Stt) (e:Int) (d:Dk):List AB:= [.box 132 (ZZ g (.bp 1 0) (.ow 4 s.a.homes.length) (.ow 5 s.txns.length) s e), .box 133 (II (.ow 2 d.cells.length) (.ow 3 d.cache.length) d.reqs d.left), .row 68 3 (d.cells.map BB), .row 152 2 (d.cache.map E9), .row 108 3 (s.a.homes.map Mp), .row 170 4 (s.txns.map Ii)]
@[reducible] def rwP (g:Geo) (s:Stt) (e:Int) (d:Dk):List AB:= [.box 132 (ZZ g (.bp 1 0) (.ow 4 s.a.homes.length) (.ow 5 s.txns.length) s e), .box 133 (II (.ow 2 d.cells.length) (.ow 6 d.cache.length) d.reqs d.left), .row 68 3 (d.cells.map BB), .dead, .row 108 3 (s.a.homes.map Mp), .row 170 4 (s.txns.map Ii), .row 152 2 (d.cache.map E9)]
theorem Rh (g:Geo) (s:ByteArray) {n:Nat} (hn:n=g.z.toNat):SubL [iv 1,iv 0,iv 0,iv 1,iv 0, .v (.string s), .sl 3 n fun i=>(List.replicate n (LD g)).getD i []] (Fh (BN g s)):=by
 refine⟨fun _ _ h=>h,fun _ _ h=>h,fun _ _ h=>h,fun _ _ h=>h,fun _ _ h=>h,fun _ _ h=>h,fun c u h=>Rd.sub (by simp [BN,hn]) (fun i hi=>?_) h,tv⟩;rw [BN,Ac,Ac,Cm hi,Cm (by omega)];exact Tz g
theorem Ud (g:Geo) (s:ByteArray) (hs:s.size<=1000000):Fn Tryz.prog 97 [.ag (Bl g), .v (.string s)] fun r=>r = .tp [.ag (Fh (if Bq g then if Em s.data.toList=0 then BN g s else an0 else an0)),iv (if Bq g then Em s.data.toList else 1)]:=by
 have hG:Fn Tryz.prog 118 [.ag (Bl g)] fun r=>r = .v (Ee (Bq g)):=Cw g.z g.d g.sp g.sl g.an
 cases hg:Bq g with
 | false=>
  rw [hg] at hG;refine zT Tryz.func97 rfl ?_;conv=>whnf
  refine zZ hG ?_;exact⟨_,Hy 1,rfl⟩
 | true=>
  rw [hg] at hG;obtain⟨h1,h2,h3,h4,h5⟩:=Az.1 hg;have hL:=G5 s hs;by_cases hl:Em s.data.toList=0
  ·rw [hl] at hL;rw [if_pos rfl,if_pos hl,if_pos rfl,hl];have w1:IntKind.i64.wrap (g.d+1)=g.d+1:=wi (by omega);refine zT Tryz.func97 rfl ?_;conv=>whnf
   refine zZ hG ?_;conv=>whnf
   refine zZ hL ?_;conv=>whnf
   refine zP Nat (fun k=>([(2, .bp 0 0),(4, .bp 1 0),(7, .bp 2 0),(23,iv g.z),(24,iv k)], [.box 24 (Bl g), .box 28 [iv 0,iv 0,iv 0,iv 0,iv 0, .v (.string ⟨#[]⟩), .v (.slice none 0 0)], .box 28 [iv 1,iv 0,iv 0,iv 1,iv 0, .v (.string s), .ow 3 k], .row 108 3 (List.replicate k (LD g))])) (fun k=>k<=g.z.toNat) (fun k=>g.z.toNat - k) 0 (Ak _) ⟨[(1002006,108,3)],tA,tA,tA,rfl,rfl,rfl⟩ ?_;intro k hk;conv=>whnf
   refine AJ (fun t1=>?_) (fun t1=>?_) <;> (repeat rw [Ab] at t1) <;> conv=>whnf
   ·refine zP Nat (fun j=>([(2, .bp 0 0),(4, .bp 1 0),(7, .bp 2 0),(8, .bp 4 0),(23,iv g.z),(24,iv k),(32,iv (g.d+1)),(33,iv j)], [.box 24 (Bl g), .box 28 [iv 0,iv 0,iv 0,iv 0,iv 0, .v (.string ⟨#[]⟩), .v (.slice none 0 0)], .box 28 [iv 1,iv 0,iv 0,iv 1,iv 0, .v (.string s), .ow 3 k], .row 108 3 (List.replicate k (LD g)), .box 108 [.ow 5 j,iv (g.d+1),iv 0], .row 3 1 (Gy j)])) (fun j=>j<=(g.d+1).toNat) (fun j=>(g.d+1).toNat - j) 0 (Ak _) ⟨[(1004000,3,1)],tA,⟨rfl,rfl,rfl,rfl,rfl,rfl,congrArg (fun x=>AV.v (Value.int IntKind.i64 x)) w1,rfl,tv⟩,⟨rfl,rfl,rfl,rfl,by rw [w1];try rfl,rfl,tv⟩,rfl,rfl,rfl⟩ ?_;intro j hj;conv=>whnf
    refine AJ (fun t2=>?_) (fun t2=>?_) <;> (repeat rw [Ab] at t2) <;> conv=>whnf
    ·refine⟨rfl,?_⟩;refine⟨⟨by simp [Gy],by omega⟩,?_⟩;exact⟨j+1,by omega,by omega,(Wk.plain (by repeat' first | exact trivial | exact rfl | refine Ah ?_ ?_ | exact AN (by omega) | exact congrArg (AB.row _ _) (Kp j)) (by repeat' first | exact trivial | exact rfl | refine Ah ?_ ?_ | exact AN (by omega) | exact congrArg (AB.row _ _) (Kp j)) rfl rfl rfl)⟩
    ·have ej:j=(g.d+1).toNat:=by omega
     refine⟨(by simp [Gy]),?_⟩;refine⟨rfl,?_⟩;refine⟨⟨by simp,by omega⟩,?_⟩;conv=>whnf
     have er:AB.row 108 3 (List.replicate (k+1) (LD g)) = .row 108 3 (List.replicate k (LD g) ++ [[AV.sl 1 j fun i=>(Gy j).getD i [],iv (g.d+1),iv 0]]):=by
      rw [List.replicate_succ',LD,<-ej]
     exact⟨k+1,by omega,by omega,(Wk.plain (by repeat' first | exact trivial | exact rfl | refine Ah ?_ ?_ | exact AN (by omega) | exact er) (by repeat' first | exact trivial | exact rfl | refine Ah ?_ ?_ | exact AN (by omega) | exact er) rfl rfl rfl)⟩
   ·refine⟨by simp,?_⟩;exact⟨.tp [.ag (Fh (BN g s)),iv 0],Cc ⟨B5 (Rh g s (by omega)),ri,tv⟩,rfl⟩
  ·obtain⟨e0,he0⟩:∃ e0,Em s.data.toList=e0:=⟨_,rfl⟩;rw [he0] at hL hl;rw [if_pos rfl,if_neg (by rw [he0];exact hl),if_pos rfl,he0];have hb:(e0 != 0)=true:=bne_iff_ne.2 hl;refine zT Tryz.func97 rfl ?_;conv=>whnf
   refine zZ hG ?_;conv=>whnf
   refine zZ hL ?_;conv=>whnf
   rw [hb];exact⟨_,Hy e0,rfl⟩
theorem UA (n:Nat):List.replicate n (Dq ent0)=(List.replicate n ent0).map Dq:=by simp
theorem Ji {α:Type} {n i:Nat} {a d:α} (h:i<n):(List.replicate n a).getD i d=a:=by rw [Ac,Cm h];try rfl
theorem M3 {i:Nat} (h:i<8):zero8.getD i 0=0:=by
 have:i=0\/i=1\/i=2\/i=3\/i=4\/i=5\/i=6\/i=7:=by omega
 rcases this with rfl | rfl | rfl | rfl | rfl | rfl | rfl | rfl <;> rfl
theorem SG (g:Geo) (hg:Bq g=true):Fn Tryz.prog 104 [.ag (Bl g)] fun r=>r = .tp [.ag [BW (E3 g)],iv 0]:=by
 have hG:Fn Tryz.prog 118 [.ag (Bl g)] fun r=>r = .v (Ee (Bq g)):=Cw g.z g.d g.sp g.sl g.an
 rw [hg] at hG;obtain⟨h1,h2,h3,h4,h5⟩:=Az.1 hg;have w1:IntKind.i64.wrap (g.d+1)=((g.d+1).toNat:Int):=by rw [wi (by omega)];omega
 have hS:=IQ zero8;refine zT Tryz.func104 rfl ?_;conv=>whnf
 refine zZ hG ?_;refine⟨⟨rfl,by decide,by decide⟩,?_⟩;conv=>whnf
 refine zR hS.go ?_;refine⟨rfl,?_⟩;conv=>whnf
 refine zU [bA zero8] ⟨fun c v h=>z8 rfl (fun i hi=>?_) h,tv⟩ ?_
 ·have hi':i<8:=hi;rw [Ji (by exact hi'),M3 hi'];try rfl
 refine zZ hS ?_;conv=>whnf
 rw [w1];have hr:=UB (g.d+1).toNat (by omega) 0 (DD zero8:Nat) false (fun i=> [Dq ent0].getD i []) rfl;refine zR hr.go ?_;refine⟨rfl,?_⟩;conv=>whnf
 refine zW hr rfl ?_;rintro _ _ ⟨rfl,rfl⟩;refine⟨by simp,?_⟩;exact⟨.tp [.ag [BW (E3 g)],iv 0],Cc ⟨B5 ⟨Ck (f:=Dq) (E3 g) (by simp [E3]) (UA _),tv⟩,ri,tv⟩,rfl⟩
def K9 (cs:List Cel) (w:Wr):List Cel:=cs.set w.addr.toNat { cs.getD w.addr.toNat cz with bytes:=w.bytes }
def DU (cs:List Cel) (l:List Wr):List Cel:=l.foldl K9 cs
theorem PF (cs:List Cel) (w:Wr):(K9 cs w).length=cs.length:=by simp [K9]
theorem E1 (l:List Wr):∀ cs:List Cel,(DU cs l).length=cs.length:=by
 induction l with
 | nil=>intro cs;rfl
 | cons w l ih=>intro cs;show (DU (K9 cs w) l).length=_;rw [ih,PF]
theorem Ib (cs:List Cel) {l:List Wr} {k:Nat} (h:k<l.length):DU cs (l.take (k+1))=K9 (DU cs (l.take k)) (l.getD k ⟨0, []⟩):=by
 unfold DU;rw [Bg,Cb,Af h];simp [Ac,Af h]
theorem Jj (cs:List Cel) (w:Wr):(K9 cs w).map BB=(cs.map BB).set w.addr.toNat (BB { cs.getD w.addr.toNat cz with bytes:=w.bytes }):=by rw [K9,CO]
def IA (g:Geo):List Cel:=List.replicate (A4 g).toNat cz
def G3 (g:Geo) (c:Int):List Wr:=(List.range g.sl.toNat).map fun i=>⟨A_ g c (i:Nat),B3 g zeroC c (i:Nat)⟩
def Ig (g:Geo) (z:Int):List Wr:=(List.range 2).map fun k=>⟨Be g z (k:Nat),CF (Be g z (k:Nat)) 0 (Dg (E3 g))⟩
def GH (g:Geo) (z:Int):List Wr:=(List.range (CE g).toNat).map fun i=>⟨Cz g z (i:Nat),CF (Cz g z (i:Nat)) 0 zero8⟩
def VA (g:Geo) (s:ByteArray):List Cel:=DU (IA g) (AT g (BN g s))
def On (g:Geo) (s:ByteArray):Nat->List Cel
 | 0=>VA g s
 | c+1=>DU (On g s c) (G3 g (c:Nat))
def GQ (g:Geo) (s:ByteArray):Nat->List Cel
 | 0=>On g s 2
 | z+1=>DU (DU (GQ g s z) (Ig g (z:Nat))) (GH g (z:Nat))
def DJ (g:Geo) (s:ByteArray):Dk:=⟨GQ g s g.z.toNat, [],0, -1⟩
theorem LN (g:Geo):(IA g).length=(A4 g).toNat:=by simp [IA]
theorem V9 (g:Geo) (s:ByteArray):(VA g s).length=(A4 g).toNat:=by rw [VA,E1,LN]
theorem LM (g:Geo) (s:ByteArray):∀ c,(On g s c).length=(A4 g).toNat
 | 0=>V9 g s
 | c+1=>by rw [On,E1,LM g s c]
theorem Ge (g:Geo) (s:ByteArray):∀ z,(GQ g s z).length=(A4 g).toNat
 | 0=>LM g s 2
 | z+1=>by rw [GQ,E1,E1,Ge g s z]
theorem JE {α:Type} {f:Nat->α} {n k:Nat} {d:α} (h:k<n):((List.range n).map f).getD k d=f k:=by
 rw [AL (d:=0) (by simpa using h),Ac,BL h];try rfl
theorem Eo {g:Geo} (hg:Bq g=true):EE g zeroC=true:=by
 simp [EE,hg,EY,zeroC,Ip]
theorem Jk (cs:List Cel) (l m:List Wr):DU cs (l ++ m)=DU (DU cs l) m:=by unfold DU;rw [Cb]
theorem Ol (cs:List Cel) (i a:Nat) (x:Cel) (ha:a<cs.length):(cs.set i x).getD a cz=if i=a then x else cs.getD a cz:=by
 grind
theorem V7 (cs:List Cel) (w:Wr) (a:Nat) (ha:a<cs.length):(K9 cs w).getD a cz=if w.addr.toNat=a then { cs.getD a cz with bytes:=w.bytes } else cs.getD a cz:=by
 unfold K9
 grind
theorem MV {F:List UInt8}:∀ (l:List Wr) (cs:List Cel) (a:Nat),a<cs.length->(∀ w∈l,w.addr.toNat=a->w.bytes=F)->((∃ w∈l,w.addr.toNat=a)\/(cs.getD a cz).bytes=F)->(DU cs l).getD a cz={ cs.getD a cz with bytes:=F }
 | [],cs,a,_,_,h=>by
  rcases h with ⟨w,hw,_⟩ | h
  ·grind
  ·show cs.getD a cz=_;rw [<-h]
 | w::l,cs,a,ha,hF,h=>by
  have hs:=V7 cs w a ha;have ha':a<(K9 cs w).length:=by rw [PF];exact ha
  have ih:=MV (F:=F) l (K9 cs w) a ha' (fun x hx=>hF x (Bb _ hx));show (DU (K9 cs w) l).getD a cz=_
  grind
def Kd (g:Geo):Nat->List Wr
 | 0=> []
 | z+1=>Kd g z ++ (Ig g (z:Nat) ++ GH g (z:Nat))
def Om (g:Geo) (s:ByteArray):List Wr:=AT g (BN g s) ++ (G3 g 0 ++ (G3 g 1 ++ Kd g g.z.toNat))
theorem V8 (g:Geo) (s:ByteArray):∀ z,GQ g s z=DU (IA g) (AT g (BN g s) ++ (G3 g 0 ++ (G3 g 1 ++ Kd g z)))
 | 0=>by
  show DU (DU (VA g s) (G3 g 0)) (G3 g 1)=_;rw [VA,<-Jk,<-Jk,Kd,AD]
 | z+1=>by
  rw [GQ,V8 g s z,<-Jk,<-Jk,Kd]
  grind
def FM (g:Geo) (s:ByteArray) (a:Int):List UInt8:=
 if a<g.an then Dr (BN g s) a else if a<g.an+g.sl then B3 g zeroC 0 (a - g.an) else if a<g.an+2*g.sl then B3 g zeroC 1 (a - g.an - g.sl)
 else if a<g.an+2*g.sl+2*g.z then CF a 0 (Dg (E3 g)) else CF a 0 zero8
theorem H0 {g:Geo} (hg:Bq g=true):∀ (n:Nat) (w:Wr),(n:Int)<=g.z->(w∈Kd g n↔(∃ z k:Nat,z<n/\k<2/\w=⟨Be g z k,CF (Be g z k) 0 (Dg (E3 g))⟩)\/∃ z i:Nat,z<n/\i<(CE g).toNat/\w=⟨Cz g z i,CF (Cz g z i) 0 zero8⟩)
 | 0,w,_=>by simp [Kd]
 | n+1,w,h=>by
  rw [Kd,Ay,Ay,H0 hg n w (by omega)];simp only [Ig,GH,AM,AK]
  grind
theorem Sh {g:Geo} {s:ByteArray} {a:Int} (h:a<g.an):FM g s a=Dr (BN g s) a:=if_pos h
theorem Jl {g:Geo} {s:ByteArray} {c:Int} {i:Nat} (hc:c=0\/c=1) (hi:(i:Int)<g.sl):FM g s (A_ g c i)=B3 g zeroC c i:=by
 unfold FM A_
 grind
theorem PG {g:Geo} {s:ByteArray} {z k:Nat} (h0:0<=g.sl) (hz:(z:Int)<g.z) (hk:k<2):FM g s (Be g z k)=CF (Be g z k) 0 (Dg (E3 g)):=by
 unfold FM;have:Be g z k=g.an+2*g.sl+2*z+k:=rfl
 grind
theorem MW {g:Geo} {s:ByteArray} {z i:Nat} (h0:0<=g.sl) (h1:0<=g.z) (h2:0<=CE g):FM g s (Cz g z i)=CF (Cz g z i) 0 zero8:=by
 unfold FM;have:Cz g z i=g.an+2*g.sl+2*g.z+z*CE g+i:=rfl;have:0<=(z:Int)*CE g:=Db (by omega) h2
 grind
theorem Pj {g:Geo} (hg:Bq g=true):0<CE g:=by
 obtain⟨g1,g2,g3,g4,g5⟩:=Az.1 hg;unfold CE;omega
theorem V6 {g:Geo} {s:ByteArray} (hg:Bq g=true):∀ w∈Om g s,0<=w.addr/\w.bytes=FM g s w.addr:=by
 obtain⟨g1,g2,g3,g4,g5⟩:=Az.1 hg;have hp:=Pj hg;intro w hw;simp only [Om,Ay,H0 hg g.z.toNat w (by omega)] at hw;rcases hw with hw | hw | hw | ⟨z,k,h1,h2,rfl⟩ | ⟨z,i,h1,h2,rfl⟩
 ·simp only [AT,AM,AK] at hw;obtain⟨i,hi,rfl⟩:=hw;exact⟨by show (0:Int)<=(i:Nat);omega,(Sh (by show ((i:Nat):Int)<g.an;omega)).symm⟩
 ·simp only [G3,AM,AK] at hw;obtain⟨i,hi,rfl⟩:=hw;exact⟨by show 0<=A_ g 0 i;unfold A_;omega,(Jl (.inl rfl) (by omega)).symm⟩
 ·simp only [G3,AM,AK] at hw;obtain⟨i,hi,rfl⟩:=hw;exact⟨by show 0<=A_ g 1 i;unfold A_;omega,(Jl (.inr rfl) (by omega)).symm⟩
 ·exact⟨by show 0<=Be g z k;unfold Be;omega,(PG (by omega) (by omega) h2).symm⟩
 ·have:0<=(z:Int)*CE g:=Db (by omega) (by omega);exact⟨by show 0<=Cz g z i;unfold Cz;omega,(MW (by omega) (by omega) (by omega)).symm⟩
theorem V5 {g:Geo} {s:ByteArray} (hg:Bq g=true) {a:Int} (h0:0<=a) (h:a<A4 g):∃ w∈Om g s,w.addr=a:=by
 obtain⟨g1,g2,g3,g4,g5⟩:=Az.1 hg;have hp:=Pj hg;by_cases h1:a<g.an
 ·refine⟨⟨a,Dr (BN g s) a⟩,?_,rfl⟩;simp only [Om,Ay,AT,AM,AK];exact .inl ⟨a.toNat,by omega,by rw [Int.toNat_of_nonneg h0]⟩
 ·have hlog:∀ (c:Int) (i:Nat),(c=0\/c=1)->(i:Int)<g.sl->∃ w∈Om g s,w.addr=A_ g c i:=fun c i hc hi=>by
   refine⟨⟨A_ g c i,B3 g zeroC c i⟩,?_,rfl⟩;simp only [Om,Ay,G3,AM,AK];rcases hc with rfl | rfl
   ·exact .inr (.inl ⟨i,by omega,rfl⟩)
   ·exact .inr (.inr (.inl ⟨i,by omega,rfl⟩))
  by_cases h2:a<g.an+g.sl
  ·obtain⟨w,hw,e⟩:=hlog 0 (a - g.an).toNat (.inl rfl) (by omega);exact⟨w,hw,by rw [e];unfold A_;omega⟩
  ·by_cases h3:a<g.an+2*g.sl
   ·obtain⟨w,hw,e⟩:=hlog 1 (a - g.an - g.sl).toNat (.inr rfl) (by omega);exact⟨w,hw,by rw [e];unfold A_;omega⟩
   ·by_cases h4:a<g.an+2*g.sl+2*g.z
    ·refine⟨⟨Be g (((a - (g.an+2*g.sl)).toNat / 2:Nat)) ((a - (g.an+2*g.sl)).toNat % 2:Nat),CF (Be g (((a - (g.an+2*g.sl)).toNat / 2:Nat)) ((a - (g.an+2*g.sl)).toNat % 2:Nat)) 0 (Dg (E3 g))⟩,?_,by show Be g _ _=a;unfold Be;omega⟩;simp only [Om,Ay,H0 hg g.z.toNat _ (by omega)];exact .inr (.inr (.inr (.inl ⟨_,_,by omega,by omega,rfl⟩)))
    ·have hq:a - (g.an+2*g.sl+2*g.z)=((a - (g.an+2*g.sl+2*g.z)).toNat:Int):=by omega
     generalize hX:(a - (g.an+2*g.sl+2*g.z)).toNat=X at hq;have hP:CE g=((CE g).toNat:Int):=by omega
     have hX2:X<g.z.toNat*(CE g).toNat:=by
      have:(X:Int)<g.z*CE g:=by unfold A4 at h;omega
      rw [hP,show g.z=(g.z.toNat:Int) by omega] at this
      exact_mod_cast this
     generalize hPn:(CE g).toNat=p at hP hX2;have hp0:0<p:=by omega
     have hdm:(X / p)*p+X % p=X:=Nat.div_add_mod' X p;refine⟨⟨Cz g ((X / p:Nat)) ((X % p:Nat)),CF (Cz g ((X / p:Nat)) ((X % p:Nat))) 0 zero8⟩,?_,?_⟩
     ·simp only [Om,Ay,H0 hg g.z.toNat _ (by omega)];exact .inr (.inr (.inr (.inr ⟨X / p,X % p,Nat.div_lt_of_lt_mul (by rw [Nat.mul_comm];exact hX2),by rw [hPn];exact Nat.mod_lt _ hp0,rfl⟩)))
     ·show Cz g _ _=a;unfold Cz;rw [hP];have:((X / p:Nat):Int)*(p:Int)+((X % p:Nat):Int)=(X:Int):=by exact_mod_cast hdm
      omega
theorem PE {g:Geo} {s:ByteArray} (hg:Bq g=true) {a:Int} (h0:0<=a) (h:a<A4 g):(DJ g s).cells.getD a.toNat cz=⟨0,FM g s a, []⟩:=by
 have hl:a.toNat<(IA g).length:=by rw [LN];omega
 obtain⟨w,hw,e⟩:=V5 (s:=s) hg h0 h;have hall:=V6 (s:=s) hg;show (GQ g s g.z.toNat).getD a.toNat cz=_;rw [V8];refine(MV (F:=FM g s a) (Om g s) (IA g) a.toNat hl (fun x hx hxa=>?_) (.inl ⟨w,hw,by rw [e]⟩)).trans ?_
 ·grind
 ·have:(IA g).getD a.toNat cz=cz:=by
   unfold IA
   grind
  rw [this];try rfl
structure Holds (d:Dk) (n:Int) (F:Int->List UInt8):Prop where
 len:(d.cells.length:Int)=n
 cache:d.cache=[]
 cell:∀ a:Int,0<=a->a<n->(d.cells.getD a.toNat cz).state=0/\(d.cells.getD a.toNat cz).bytes=F a
theorem Holds.got {d:Dk} {n:Int} {F:Int->List UInt8} (h:Holds d n F) {a:Int} (h0:0<=a) (h1:a<n):Oi d a=⟨0,F a⟩:=by
 obtain⟨e1,e2⟩:=h.cell a h0 h1;have hg:d.got a=((d.cells.getD a.toNat cz).bytes,0):=by
  unfold Dk.got;rw [h.cache];simp only [Tl];rw [show (d.cells.getD a.toNat ⟨0, [], []⟩)=d.cells.getD a.toNat cz from rfl,if_pos e1]
 rw [Oi,hg,e2]
theorem Ia {g:Geo} {s:ByteArray} (hg:Bq g=true):Holds (DJ g s) (A4 g) (FM g s):=by
 have hc:=Eg hg;obtain⟨g1,g2,g3,g4,g5⟩:=Az.1 hg;refine⟨?_,rfl,fun a h0 h1=>by rw [PE hg h0 h1];exact tA⟩;show ((GQ g s g.z.toNat).length:Int)=_;rw [Ge];omega
def Dk.tick (k:Nat) (d:Dk):Dk:=⟨d.cells,d.cache,min (d.reqs+k) 1048576,if d.left<0 then d.left else d.left - k⟩
structure Lv (d:Dk) (k:Nat):Prop where
 r:0<=d.reqs/\d.reqs<=1048576
 l:d.left<0\/(k:Int)<=d.left
theorem Lv.le {d:Dk} {k j:Nat} (h:Lv d k) (hj:j<=k):Lv d j:=⟨h.r,by have:=h.l;omega⟩
theorem Lj {d:Dk} (h:0<=d.reqs/\d.reqs<=1048576) (_h0:d.left≠0) (hl:d.left<0\/1<=d.left):d.req=d.tick 1:=by
 unfold Dk.req Dk.tick;rw [wi (by omega)]
 grind
theorem FT {d:Dk} (a b:Nat) (_hr:d.reqs<=1048576) (h:d.left<0\/(a:Int)<=d.left):(d.tick a).tick b=d.tick (a+b):=by
 unfold Dk.tick
 grind
theorem MB {d:Dk} (hr:d.reqs<=1048576):d.tick 0=d:=by
 unfold Dk.tick;obtain⟨c,ca,r,l⟩:=d
 grind
theorem IP {d:Dk} {a b:Nat} (h:Lv d (a+b)):Lv (d.tick a) b:=by
 have:=h.r;have:=h.l;refine⟨?_,?_⟩
 ·show 0<=min _ _/\min _ _<=_;omega
 ·show (if d.left<0 then d.left else d.left - a)<0\/(b:Int)<=(if d.left<0 then d.left else d.left - a);omega
theorem Jy {d:Dk}:∀ (k:Nat),Lv d k->d.adv k=d.tick k
 | 0,h=>(MB h.r.2).symm
 | k+1,h=>by
  have ih:=Jy k (h.le (by omega));have h1:=IP (a:=k) (b:=1) h;have h2:=h1.l;show (if (d.adv k).left=0 then d.adv k else (d.adv k).req)=_;rw [ih,if_neg (by omega),Lj h1.r (by omega) (by omega),FT k 1 h.r.2 (by have:=h.l;omega)]
def free (cs:List Cel) (w:Wr):Bool:=decide ((cs.getD w.addr.toNat cz).state≠2)
theorem Qo {d:Dk} {w:Wr} (h:Lv d 1) (hc:d.cache.length<2000):d.write w.addr w.bytes=if free d.cells w then (⟨d.cells,d.cache ++ [w],(d.tick 1).reqs,(d.tick 1).left⟩,0) else (d.tick 1,7):=by
 have:=h.l;unfold Dk.write free;rw [if_neg (by omega),Lj h.r (by omega) (by omega)];by_cases h2:(d.cells.getD w.addr.toNat cz).state=2
 ·rw [if_pos (.inl h2),if_neg (by simpa using h2)]
 ·rw [if_neg (by rintro(h3 | h3);exact h2 h3;omega),if_pos (by simpa using h2)];try rfl
theorem writes_go:∀ (l:List Wr) (d:Dk) (n:Nat),Lv d l.length->d.cache.length+l.length<=2000->l.foldl Fa (d,n,false)=(⟨d.cells,d.cache ++ l.filter (free d.cells),(d.tick l.length).reqs,(d.tick l.length).left⟩,n+(l.filter (free d.cells)).length,false)
 | [],d,n,h,_=>by
  show (d,n,false)=_;rw [show ([]:List Wr).length=0 from rfl,MB h.r.2];simp_all
 | w::l,d,n,h,hc=>by
  have hl:(w::l).length=l.length+1:=rfl;rw [hl] at h hc |-
  have hw:=Qo (w:=w) (h.le (show 1<=l.length+1 by omega)) (by omega);have h1:Lv (d.tick 1) l.length:=IP (by rw [CN];exact h);have ht:=FT (d:=d) 1 l.length h.r.2 (by have:=h.l;omega);rw [CN] at ht;show l.foldl Fa (Fa (d,n,false) w)=_;have hs:Fa (d,n,false) w=(match d.write w.addr w.bytes with | (d,e)=>if e=8 then (d,n,true) else (d,n+(if e=0 then 1 else 0),false)):=by
   unfold Fa;rw [if_neg (by simp)]
  rw [hs,hw];cases hf:free d.cells w with
  | true=>
   simp only [if_true];rw [if_neg (by decide)];have hgo:=writes_go l ⟨d.cells,d.cache ++ [w],(d.tick 1).reqs,(d.tick 1).left⟩ (n+1) ⟨h1.r,h1.l⟩ (by simp;omega);have e1:((⟨d.cells,d.cache ++ [w],(d.tick 1).reqs,(d.tick 1).left⟩:Dk).tick l.length).reqs=(d.tick (l.length+1)).reqs/\((⟨d.cells,d.cache ++ [w],(d.tick 1).reqs,(d.tick 1).left⟩:Dk).tick l.length).left=(d.tick (l.length+1)).left:=by rw [<-ht];exact tA
   grind
  | false=>
   simp only [BU,if_false];rw [if_neg (by decide),if_neg (by decide)];rw [writes_go l (d.tick 1) (n+0) h1 (by show d.cache.length+_<=_;omega),ht];simp only [List.filter_cons,hf,BU,if_false,BS];rfl
theorem O1 {d:Dk} {l:List Wr} (h:Lv d l.length) (hc:d.cache.length+l.length<=2000):d.writes l=(⟨d.cells,d.cache ++ l.filter (free d.cells),(d.tick l.length).reqs,(d.tick l.length).left⟩,(l.filter (free d.cells)).length,false):=by
 rw [Dk.writes,writes_go l d 0 h hc,Au]
def EH (cs:List Cel) (w:Wr):List Cel:=if (cs.getD w.addr.toNat cz).state=2 then cs else cs.set w.addr.toNat ⟨0,w.bytes,(cs.getD w.addr.toNat cz).bytes⟩
def C7 (cs:List Cel) (l:List Wr):List Cel:=l.foldl EH cs
theorem Gf (cs:List Cel) (w:Wr):(EH cs w).length=cs.length:=by unfold EH;split <;> simp
theorem finL_len:∀ (l:List Wr) (cs:List Cel),(C7 cs l).length=cs.length
 | [],_=>rfl
 | w::l,cs=>by show (C7 (EH cs w) l).length=_;rw [finL_len l,Gf]
theorem TG (d:Dk) (w:Wr):d.fin w={ d with cells:=EH d.cells w }:=by unfold Dk.fin EH;split <;> rfl
theorem allFin_cells:∀ (l:List Wr) (d:Dk),d.allFin l={ d with cells:=C7 d.cells l }
 | [],_=>rfl
 | w::l,d=>by
  show (d.fin w).allFin l=_;rw [allFin_cells l,TG];try rfl
theorem F3 (cs:List Cel) (w:Wr) (a:Nat) (ha:a<cs.length):(EH cs w).getD a cz=if w.addr.toNat=a/\(cs.getD a cz).state≠2 then ⟨0,w.bytes,(cs.getD a cz).bytes⟩ else cs.getD a cz:=by
 grind [EH]
theorem finL_miss:∀ (l:List Wr) (cs:List Cel) (a:Nat),a<cs.length->(∀ w∈l,w.addr.toNat≠a)->(C7 cs l).getD a cz=cs.getD a cz
 | [],_,_,_,_=>rfl
 | w::l,cs,a,ha,h=>by
  have hs:=F3 cs w a ha;rw [if_neg (fun e=>h w (by simp) e.1)] at hs;show (C7 (EH cs w) l).getD a cz=_;rw [finL_miss l (EH cs w) a (by rw [Gf];exact ha) (fun x hx=>h x (Bb _ hx)),hs]
theorem finL_stuck:∀ (l:List Wr) (cs:List Cel) (a:Nat),a<cs.length->(cs.getD a cz).state=2->(C7 cs l).getD a cz=cs.getD a cz
 | [],_,_,_,_=>rfl
 | w::l,cs,a,ha,h=>by
  have hs:=F3 cs w a ha;rw [if_neg (fun e=>e.2 h)] at hs;show (C7 (EH cs w) l).getD a cz=_;rw [finL_stuck l (EH cs w) a (by rw [Gf];exact ha) (by rw [hs];exact h),hs]
theorem finL_any:∀ (l:List Wr) (cs:List Cel) (a:Nat),a<cs.length->(C7 cs l).getD a cz=cs.getD a cz\/(cs.getD a cz).state≠2/\((C7 cs l).getD a cz).state=0/\∃ w∈l,w.addr.toNat=a/\((C7 cs l).getD a cz).bytes=w.bytes
 | [],_,_,_=> .inl rfl
 | w::l,cs,a,ha=>by
  have hs:=F3 cs w a ha;have ih:=finL_any l (EH cs w) a (by rw [Gf];exact ha);by_cases e:w.addr.toNat=a/\(cs.getD a cz).state≠2
  ·rw [if_pos e] at hs;rcases ih with ih | ⟨h1,h2,x,hx,h3,h4⟩
   ·refine .inr ⟨e.2,?_,w,by simp,e.1,?_⟩
    ·show ((C7 (EH cs w) l).getD a cz).state=0;rw [ih,hs]
    ·show ((C7 (EH cs w) l).getD a cz).bytes=_;rw [ih,hs]
   ·exact .inr ⟨e.2,h2,x,Bb _ hx,h3,h4⟩
  ·rw [if_neg e] at hs;rcases ih with ih | ⟨h1,h2,x,hx,h3,h4⟩
   ·exact .inl (ih.trans hs)
   ·exact .inr ⟨by rw [hs] at h1;exact h1,h2,x,Bb _ hx,h3,h4⟩
theorem LZ {F:List UInt8}:∀ (l:List Wr) (cs:List Cel) (a:Nat),a<cs.length->(cs.getD a cz).state≠2->(∀ w∈l,w.addr.toNat=a->w.bytes=F)->(∃ w∈l,w.addr.toNat=a)\/((cs.getD a cz).state=0/\(cs.getD a cz).bytes=F)->((C7 cs l).getD a cz).state=0/\((C7 cs l).getD a cz).bytes=F
 | [],cs,a,_,_,_,h=>by
  grind [C7]
 | w::l,cs,a,ha,h2,hF,h=>by
  have hs:=F3 cs w a ha;have ha':a<(EH cs w).length:=by rw [Gf];exact ha
  show ((C7 (EH cs w) l).getD a cz).state=0/\((C7 (EH cs w) l).getD a cz).bytes=F;by_cases e:w.addr.toNat=a
  ·rw [if_pos ⟨e,h2⟩,hF w (by simp) e] at hs;exact LZ l (EH cs w) a ha' (by rw [hs];show (0:Int)≠2;decide) (fun x hx=>hF x (Bb _ hx)) (.inr (by rw [hs];exact tA))
  ·rw [if_neg (fun q=>e q.1)] at hs;refine LZ l (EH cs w) a ha' (by rw [hs];exact h2) (fun x hx=>hF x (Bb _ hx)) ?_
   grind
theorem finL_free:∀ (l:List Wr) (cs cs0:List Cel),(∀ a,(cs.getD a cz).state=2↔(cs0.getD a cz).state=2)->C7 cs (l.filter (free cs0))=C7 cs l
 | [],_,_,_=>rfl
 | w::l,cs,cs0,h=>by
  have hstep:∀ a,((EH cs w).getD a cz).state=2↔(cs0.getD a cz).state=2:=fun a=>by
   rw [<-h a];by_cases ha:a<cs.length
   ·rw [F3 cs w a ha]
    grind
   ·rw [Ac,Ac,AE (by rw [Gf];omega),AE (by omega)]
  show _=C7 (EH cs w) l;rw [List.filter_cons];by_cases hf:free cs0 w=true
  ·rw [if_pos hf];exact finL_free l (EH cs w) cs0 hstep
  ·rw [if_neg hf];have:EH cs w=cs:=by
    unfold EH;rw [if_pos];simp only [free,decide_eq_true_eq,Decidable.not_not] at hf
    grind
   rw [this];exact finL_free l cs cs0 h
theorem IZ {d:Dk} {l:List Wr} (h:Lv d (l.length+1)) (hc:d.cache=[]) (hl:l.length<=2000):d.putAll l=(⟨C7 d.cells l, [],(d.tick (l.length+1)).reqs,(d.tick (l.length+1)).left⟩,(l.filter (free d.cells)).length,false):=by
 have hw:=O1 (h.le (show l.length<=l.length+1 by omega)) (by rw [hc];simpa using hl);have h1:=IP (a:=l.length) (b:=1) h;have h2:=h1.l;rw [hc,Br] at hw;unfold Dk.putAll;rw [hw];simp only [BU,if_false];rw [if_neg (by show ¬(d.tick l.length).left=0;omega)];have ht:=FT (d:=d) l.length 1 h.r.2 (by have:=h.l;omega);simp only [Prod.mk.injEq,and_true];unfold Dk.flush;rw [allFin_cells];have h3:Lv ⟨d.cells,l.filter (free d.cells),(d.tick l.length).reqs,(d.tick l.length).left⟩ 1:=⟨h1.r,h1.l⟩;have hr:=Lj (d:=⟨d.cells,l.filter (free d.cells),(d.tick l.length).reqs,(d.tick l.length).left⟩) h3.r (by show (d.tick l.length).left≠0;omega) (by show (d.tick l.length).left<0\/1<=(d.tick l.length).left;omega);rw [hr,<-ht];show (⟨C7 d.cells (l.filter (free d.cells)), [],_,_⟩:Dk)=_;rw [finL_free l d.cells d.cells fun _=>Iff.rfl];try rfl
structure Gw (n:Int) (d:Dk) (F:Int->List UInt8) (l:List Wr):Prop where
 ok:DkOk d
 left:d.left = -1
 len:(d.cells.length:Int)=n
 cache:d.cache=l
 cell:∀ a:Int,0<=a->a<n->(d.cells.getD a.toNat cz).state=0/\(d.cells.getD a.toNat cz).bytes=F a
 old:∀ a:Int,0<=a->a<n->(d.cells.getD a.toNat cz).old=F (-1 - a)
abbrev Gd (n:Int) (d:Dk) (F:Int->List UInt8):Prop:=Gw n d F []
def Yu (F:Int->List UInt8) (w:Wr) (a:Int):List UInt8:=if 0<=a then (if w.addr=a then w.bytes else F a) else if w.addr = -1 - a then F w.addr else F a
def M9 (F:Int->List UInt8) (l:List Wr):Int->List UInt8:=l.foldl Yu F
theorem KW {F:Int->List UInt8} (l:List Wr) (w:Wr):M9 F (l ++ [w])=Yu (M9 F l) w:=by
 unfold M9;rw [Cb];try rfl
theorem Gw.req {n:Int} {d:Dk} {F:Int->List UInt8} {l:List Wr} (h:Gw n d F l):Gw n d.req F l:=
 ⟨h.ok.req,by unfold Dk.req;rw [h.left];try rfl,h.len,h.cache,h.cell,h.old⟩
theorem Gd.got {n:Int} {d:Dk} {F:Int->List UInt8} (h:Gd n d F) {a:Int} (h0:0<=a) (h1:a<n):d.got a=(F a,0):=by
 have:=Holds.got ⟨h.len,h.cache,h.cell⟩ h0 h1;unfold Oi at this;injection this with e1 e2
 exact Prod.ext e2 e1
theorem Gd.read {n:Int} {d:Dk} {F:Int->List UInt8} (h:Gd n d F) {a:Int} (h0:0<=a) (h1:a<n):d.read a=(d.req,F a,0):=by
 unfold Dk.read;rw [if_neg (by rw [h.left];decide),h.got h0 h1]
theorem Gw.write {n:Int} {d:Dk} {F:Int->List UInt8} {l:List Wr} (h:Gw n d F l) (hl:l.length<2000) {a:Int} (h0:0<=a) (h1:a<n) {b:List UInt8} (hb:b.length<=200):(d.write a b).2=0/\Gw n (d.write a b).1 F (l ++ [⟨a,b⟩]):=by
 have hw:=h.ok.write (a:=a) (b:=b) (by rw [<-h.len] at h1;omega) hb;have e:d.write a b=({ d.req with cache:=d.cache ++ [⟨a,b⟩] },0):=by
  unfold Dk.write;rw [if_neg (by rw [h.left];decide),if_neg];rintro(h2 | h2)
  ·have:=(h.cell a h0 h1).1;unfold cz at this;omega
  ·rw [h.cache] at h2;omega
 rw [e] at hw |-
 exact⟨rfl,hw,h.req.left,h.len,by rw [h.cache],h.cell,h.old⟩
theorem Ot {cs:List Cel} {F:Int->List UInt8} {a:Int} (h0:0<=a) (h1:a.toNat<cs.length) (hc:(cs.getD a.toNat cz).state=0/\(cs.getD a.toNat cz).bytes=F a):∀ (n:Nat) (l:List Wr),l.length=n->(∀ w∈l,0<=w.addr)->((C7 cs l).getD a.toNat cz).state=0/\((C7 cs l).getD a.toNat cz).bytes=M9 F l a
 | 0,l,hn,_=>by
  obtain rfl:=AG.1 hn;exact hc
 | n+1,l,hn,hw=>by
  rcases Dd l with rfl | ⟨m,w,rfl⟩
  ·cases hn
  ·have ih:=Ot h0 h1 hc n m (by simpa using hn) (fun x hx=>hw x (by simp [hx]));have hwa:=hw w (by simp);have e:C7 cs (m ++ [w])=EH (C7 cs m) w:=by unfold C7;rw [Cb];try rfl
   have e2:=F3 (C7 cs m) w a.toNat (by rw [finL_len];exact h1);rw [De,e,e2,KW];unfold Yu;rw [if_pos h0];by_cases hA:w.addr=a
   ·rw [if_pos hA,if_pos ⟨by rw [hA],by rw [ih.1];decide⟩];exact tA
   ·rw [if_neg hA,if_neg (fun h=>hA (by have:=h.1;omega))];exact ih
theorem Sl {cs:List Cel} {F:Int->List UInt8} {a:Int} (h0:0<=a) (h1:a.toNat<cs.length) (hc:(cs.getD a.toNat cz).state=0/\(cs.getD a.toNat cz).bytes=F a) (ho:(cs.getD a.toNat cz).old=F (-1 - a)):∀ (n:Nat) (l:List Wr),l.length=n->(∀ w∈l,0<=w.addr)->((C7 cs l).getD a.toNat cz).old=M9 F l (-1 - a)
 | 0,l,hn,_=>by
  obtain rfl:=AG.1 hn;exact ho
 | n+1,l,hn,hw=>by
  rcases Dd l with rfl | ⟨m,w,rfl⟩
  ·cases hn
  ·have ih:=Sl h0 h1 hc ho n m (by simpa using hn) (fun x hx=>hw x (by simp [hx]));have iu:=Ot h0 h1 hc n m (by simpa using hn) (fun x hx=>hw x (by simp [hx]));have hwa:=hw w (by simp);have e:C7 cs (m ++ [w])=EH (C7 cs m) w:=by unfold C7;rw [Cb];try rfl
   have e2:=F3 (C7 cs m) w a.toNat (by rw [finL_len];exact h1);rw [De,e,e2,KW];unfold Yu;rw [if_neg (show ¬(0:Int)<= -1 - a by omega),show -1 - (-1 - a)=a by omega];by_cases hA:w.addr=a
   ·rw [if_pos hA,if_pos ⟨by rw [hA],by rw [iu.1];decide⟩,hA];exact iu.2
   ·rw [if_neg hA,if_neg (fun h=>hA (by have:=h.1;omega))];exact ih
theorem Gw.flush {n:Int} {d:Dk} {F:Int->List UInt8} {l:List Wr} (h:Gw n d F l):Gd n d.flush (M9 F l):=by
 have e:d.flush=⟨C7 d.cells l, [],d.req.reqs,d.req.left⟩:=by
  unfold Dk.flush;rw [allFin_cells,h.cache];try rfl
 have ho:=h.ok.flush;rw [e] at ho |-
 have hl:=h.len;have hw0:∀ w∈l,0<=w.addr:=fun w hw=>by
  rw [<-h.cache] at hw;exact(h.ok.w w hw).1.1
 exact⟨ho,h.req.left,by show ((C7 d.cells l).length:Int)=n;rw [finL_len];exact h.len,rfl,fun a h0 h1=>Ot h0 (by omega) (h.cell a h0 h1) _ l rfl hw0,fun a h0 h1=>Sl h0 (by omega) (h.cell a h0 h1) (h.old a h0 h1) _ l rfl hw0⟩
theorem OF {F:Int->List UInt8} {a:Int} (h0:0<=a):∀ (n:Nat) (l:List Wr),l.length=n->(∀ w∈l,w.addr≠a)->M9 F l a=F a
 | 0,l,hn,_=>by
  obtain rfl:=AG.1 hn;rfl
 | n+1,l,hn,h=>by
  rcases Dd l with rfl | ⟨m,w,rfl⟩
  ·rfl
  ·have ih:=OF (F:=F) h0 n m (by simpa using hn) (fun x hx=>h x (by simp [hx]));rw [De,KW];unfold Yu;rw [if_pos h0,if_neg (h w (by simp))];exact ih
def Vt (g:Geo) (a:An) (seq:Int) (x:Img):List Wr:=if x.what=255 then [⟨Be g x.zone 0,CF (Be g x.zone 0) seq x.bytes⟩,⟨Be g x.zone 1,CF (Be g x.zone 1) seq x.bytes⟩] else [⟨D3 g a x.zone x.what,CF (D3 g a x.zone x.what) seq x.bytes⟩]
def L9 (g:Geo) (a:An) (seq:Int):List Img->List Wr
 | []=> []
 | x::r=>Vt g a seq x ++ L9 g a seq r
def Eu (a:An) (seq:Int) (x:Img):An:=if x.what=255 then { a with homes:=a.homes.set x.zone.toNat { a.homes.getD x.zone.toNat ⟨[],0,0⟩ with root:=seq } } else a
def Eh (a:An) (seq:Int) (l:List Img):An:=l.foldl (fun a x=>Eu a seq x) a
theorem Qs (a:An) (seq:Int) (x:Img):(Eu a seq x).homes.length=a.homes.length:=by unfold Eu;split <;> simp
theorem OG (seq:Int):∀ (l:List Img) (a:An),(Eh a seq l).homes.length=a.homes.length
 | [],_=>rfl
 | x::r,a=>by
  show (Eh (Eu a seq x) seq r).homes.length=_;rw [OG seq r,Qs]
theorem SA {g:Geo} {a:An} {seq:Int} {x:Img} (ha:B4 g a=true) (hs:0<=seq/\seq<=4294967295):B4 g (Eu a seq x)=true:=by
 unfold Eu;split
 ·by_cases hi:x.zone.toNat<a.homes.length
  ·simp only [B4,Ad,decide_eq_true_eq,Av] at ha |-
   obtain⟨q1,q2,q3,q4,q5,q6,q7⟩:=ha;refine⟨q1,q2,q3,q4,q5,by rw [AY];exact q6,fun y hy=>?_⟩;rcases Cg hy with h | rfl
   ·exact q7 y h
   ·have hh:=q7 _ (A9 (d:=(⟨[],0,0⟩:Hm)) hi);simp only [EG,Ad] at hh |-
    exact⟨hh.1,hh.2.1,AH.2 hs,hh.2.2.2⟩
  ·rw [List.set_eq_of_length_le (by omega)];exact ha
 ·exact ha
theorem KX {g:Geo} {seq:Int} (hs:0<=seq/\seq<=4294967295):∀ (l:List Img) {a:An},B4 g a=true->B4 g (Eh a seq l)=true
 | [],_,h=>h
 | x::r,_,h=>KX hs r (SA h hs)
def OL (g:Geo) (a:An) (x:Tx):An:={ Eh a x.seq x.images with gen:=a.gen+1,pos:=(x.pos+x.n).tmod g.sl,seq:=a.seq+1,last:=max a.last a.seq }
theorem IL (seq:Int):∀ (l:List Img) (a:An),(Eh a seq l).gen=a.gen/\(Eh a seq l).epoch=a.epoch/\(Eh a seq l).pos=a.pos/\(Eh a seq l).seq=a.seq/\(Eh a seq l).last=a.last/\(Eh a seq l).label=a.label
 | [],_=>tA
 | x::r,a=>by
  obtain⟨h1,h2,h3,h4,h5,h6⟩:=IL seq r (Eu a seq x);have e:(Eu a seq x).gen=a.gen/\(Eu a seq x).epoch=a.epoch/\(Eu a seq x).pos=a.pos/\(Eu a seq x).seq=a.seq/\(Eu a seq x).last=a.last/\(Eu a seq x).label=a.label:=by unfold Eu;split <;> exact tA
  obtain⟨e1,e2,e3,e4,e5,e6⟩:=e;exact⟨h1.trans e1,h2.trans e2,h3.trans e3,h4.trans e4,h5.trans e5,h6.trans e6⟩
theorem U0 {g:Geo} {a:An} {x:Tx} (hg:Bq g=true) (ha:B4 g a=true) (h1:a.gen<4294967295) (h2:a.seq<4294967295) (hx:x.seq=a.seq) (hp:0<=x.pos) (hn:0<=x.n):B4 g (OL g a x)=true:=by
 obtain⟨g1,g2,g3,g4,g5⟩:=Az.1 hg;have hh:=ha;simp only [B4,Bf,BT,BJ,Ad,decide_eq_true_eq,AH] at hh;obtain⟨⟨w1,w2,w3,w4⟩,q2,q3,q4,q5,q6,q7⟩:=hh;have hu:=KX (g:=g) (seq:=x.seq) (by omega) x.images ha;obtain⟨_,e2,_,_,_,e6⟩:=IL x.seq x.images a;simp only [B4,Bf,BT,BJ,Ad,decide_eq_true_eq,AH] at hu |-
 obtain⟨_,_,_,_,u5,u6,u7⟩:=hu;have hm0:0<=(x.pos+x.n).tmod g.sl:=BE _ (by omega);have hm1:(x.pos+x.n).tmod g.sl<g.sl:=Bo _ (by omega);refine⟨⟨?_,?_,?_,?_⟩,?_,?_,?_,u5,u6,u7⟩
 ·show 0<=a.gen+1/\a.gen+1<=_;omega
 ·show 0<=(Eh a x.seq x.images).epoch/\(Eh a x.seq x.images).epoch<=_;rw [e2];exact w2
 ·show 0<=a.seq+1/\a.seq+1<=_;omega
 ·show 0<=max a.last a.seq/\max a.last a.seq<=_;omega
 ·show 1<=a.seq+1;omega
 ·show a.seq+1 - 1<=max a.last a.seq;omega
 ·show 0<=(x.pos+x.n).tmod g.sl/\(x.pos+x.n).tmod g.sl<=g.sl - 1;omega
theorem OneTab.eq:∀ {l:List Img} (_:OneTab l) {x y:Img},x∈l->y∈l->x.what=255->y.what=255->x.zone=y.zone->x=y
 | w::l,h,x,y,hx,hy,h1,h2,h3=>by
  obtain⟨q1,q2⟩:=List.pairwise_cons.1 h;rcases AS.1 hx with ex | mx
  ·rcases AS.1 hy with ey | my
   ·rw [ex,ey]
   ·rw [ex] at h1 h3;exact absurd h3 (q1 y my h1 h2)
  ·rcases AS.1 hy with ey | my
   ·rw [ey] at h2 h3;exact absurd h3.symm (q1 x mx h2 h1)
   ·exact OneTab.eq q2 mx my h1 h2 h3
theorem L8 {g:Geo} {a:An} {seq:Int} {w:Wr}:∀ {l:List Img},w∈L9 g a seq l↔∃ x∈l,w∈Vt g a seq x
 | []=>by simp [L9]
 | x::r=>by
  rw [L9,Ay,L8];simp
theorem JN {g:Geo} {x:Img} (h:BV g x=true):(0<=x.zone/\x.zone<g.z)/\(x.what≠255-> -1<=x.what/\x.what<g.d/\x.bytes.length=8):=by
 simp only [BV,Ad,AH] at h;refine⟨by omega,fun hw=>?_⟩;have h2:=h.2.2;rw [if_neg hw,Ad,AH,decide_eq_true_eq] at h2;omega
theorem Sa {g:Geo} {a:An} (ha:B4 g a=true) {z:Int} (hz:0<=z/\z<g.z):z.toNat<a.homes.length/\EG g (a.homes.getD z.toNat ⟨[],0,0⟩)=true:=by
 simp only [B4,Ad,decide_eq_true_eq,Av] at ha;obtain⟨_,_,_,_,_,q6,q7⟩:=ha;have hi:z.toNat<a.homes.length:=by omega
 exact⟨hi,q7 _ (A9 (d:=(⟨[],0,0⟩:Hm)) hi)⟩
theorem Mn {g:Geo} (hg:Bq g=true) {a:An} (ha:B4 g a=true) {z w:Int} (hz:0<=z/\z<g.z) (hw : -1<=w/\w<g.d):∃ s,D3 g a z w=Cz g z s/\0<=s/\s<CE g:=by
 obtain⟨g1,g2,g3,g4,g5⟩:=Az.1 hg;obtain⟨hi,hh⟩:=Sa ha hz;simp only [EG,Ad,decide_eq_true_eq,AH] at hh;obtain⟨p1,p2,p3,p4⟩:=hh;have hat:0<=Et g w/\Et g w<=g.d:=by unfold Et;split <;> omega
 refine⟨_,rfl,?_⟩;have hk:(Et g w).toNat<(a.homes.getD z.toNat ⟨[],0,0⟩).places.length:=by omega
 have hp:=Av.1 p4 (Et g w).toNat (by simpa using hk);simp only [Ad,AH] at hp;unfold CE;omega
theorem KF {g:Geo} (hg:Bq g=true) {z s:Int} (hz:0<=z/\z<g.z) (hs:0<=s/\s<CE g):g.an+2*g.sl+2*g.z<=Cz g z s/\Cz g z s<A4 g:=by
 obtain⟨g1,g2,g3,g4,g5⟩:=Az.1 hg;have hp:=Hk hg;have h1:=Hz hg (z:=z) (by omega);have h2:z*CE g+CE g<=g.z*CE g:=by
  have:=Ce (show z+1<=g.z by omega) (show 0<=CE g by omega);rw [Int.add_mul,Int.one_mul] at this;exact this
 unfold Cz A4;omega
theorem Qx {g:Geo} (hg:Bq g=true) {z k:Int} (hz:0<=z/\z<g.z) (hk:0<=k/\k<=1):g.an+2*g.sl<=Be g z k/\Be g z k<g.an+2*g.sl+2*g.z/\Be g z k<A4 g:=by
 obtain⟨g1,g2,g3,g4,g5⟩:=Az.1 hg;have hp:=Hk hg;have h1:=Hz hg (z:=g.z) (by omega);unfold Be A4;omega

def GS (l:List (List UInt8)):AV:= .sl 1 l.length fun i=> [bA (l.getD i [])]
theorem Kh (g:Geo) (A:Int) (hA:0<=A/\A<g.d):Fn Tryz.prog 227 [.ag (Bl g),iA [A]] fun r=>r = .v (.bool true):=by
 refine zT Tryz.func227 rfl ?_;conv=>whnf
 refine zC 2 ?_;conv=>whnf
 refine Ah ⟨by decide,by show (0:Int)<1;decide⟩ ?_;conv=>whnf
 rw [show [A].getD (Int.toNat 0) 0=A from rfl];rw [show decide (A<0)=false from decide_eq_false (by omega)];conv=>whnf
 rw [show decide (A>=g.d)=false from decide_eq_false (by omega)];conv=>whnf
 repeat' (refine z_ ?_;conv=>whnf)
 exact⟨_,ri,rfl⟩
theorem Sy (b:List UInt8):Fn Tryz.prog 306 [bA b] fun r=>r = .v (.bool (((b.length:Nat):Int) != 8)):=by
 refine zT Tryz.func306 rfl ?_;exact⟨_,ri,rfl⟩
theorem Yx (l:List (List UInt8))  (hl:l.length<=1000000):Fn Tryz.prog 316 [GS l, .v (.func (.func 306) #[] #[])] fun r=>r = iv (Mo (fun b=>(((b.length:Nat):Int) != 8)) l):=by
 refine zT Tryz.func316 rfl ?_;conv=>whnf
 refine zP Nat (fun k=>([(0,GS l),(1, .v (.func (.func 306) #[] #[])),(7,iv l.length),(8,iv k)], [])) (fun k=>k<=l.length/\(l.take k).any (fun b=>(((b.length:Nat):Int) != 8))=false) (fun k=>l.length - k) 0 ⟨Ak _,by simp⟩ ⟨[],tv,tA,tv,rfl,rfl,rfl⟩ ?_;rintro k ⟨hk,hI⟩;conv=>whnf
 refine Aj (fun h2=>?_) (fun h2=>?_) <;> simp at h2 <;> conv=>whnf
 ·refine⟨by first | omega | (refine⟨rfl,?_,?_⟩ <;> first | omega | (simp only [Aa];done) | (simp only [Aa];omega)) | (simp only [Aa];omega),?_⟩;conv=>whnf
  refine zZ (Sy (l.getD k [])) ?_;conv=>whnf
  refine Aj (fun h3=>?_) (fun h3=>?_) <;> conv=>whnf
  ·exact⟨_,ri,by rw [DT (d:= []) h2 hI (by first | exact h3 | (rw [Ab] at h3;exact h3) | simpa using h3)]⟩
  ·refine⟨k+1,⟨by omega,BY (d:= []) h2 hI (by first | exact h3 | (rw [Ab] at h3;exact h3) | simpa using h3)⟩,by omega, [],tv,⟨rfl,rfl,rfl,AN (by omega),tv⟩,tv,rfl,rfl,rfl⟩
 ·exact⟨_,ri,by rw [Ar h2] at hI;rw [CW hI]⟩
theorem Yy (l:List (List UInt8))  (hl:l.length<=1000000):Fn Tryz.prog 244 [GS l, .v (.func (.func 306) #[] #[])] fun r=>r = .v (.bool (l.any (fun b=>(((b.length:Nat):Int) != 8)))):=by
 refine zT Tryz.func244 rfl ?_;conv=>whnf
 refine zZ (Yx l  hl) ?_;exact⟨_,ri,by rw [Fc]⟩

theorem J5 (l:List (List UInt8)) (hl:l.length<=1000000) (h:∀ b∈l,b.length=8):Fn Tryz.prog 228 [GS l] fun r=>r = .v (.bool true):=by
 have hc:=Yy l hl;have e:(l.any fun b=>(((b.length:Nat):Int) != 8))=false:=by
  rw [List.any_eq_false];intro b hb;rw [h b hb];decide
 rw [e] at hc;refine zT Tryz.func228 rfl ?_;conv=>whnf
 refine zZ hc ?_;exact⟨_,ri,rfl⟩
theorem Su (b:List UInt8):Fn Tryz.prog 243 [bA b] fun r=>r = .v (.bool ((((b.length:Nat):Int) != 0)&&(((b.length:Nat):Int) != 8))):=by
 refine zT Tryz.func243 rfl ?_;conv=>whnf
 by_cases h:((b.length:Nat):Int)=0
 ·rw [show (((b.length:Nat):Int) != 0)=false from bne_eq_false_iff_eq.2 h];exact⟨_,ri,rfl⟩
 ·rw [show (((b.length:Nat):Int) != 0)=true from bne_iff_ne.2 h];exact⟨_,ri,by rw [B8]⟩
theorem Yn (l:List (List UInt8))  (hl:l.length<=1000000):Fn Tryz.prog 316 [GS l, .v (.func (.func 243) #[] #[])] fun r=>r = iv (Mo (fun b=>((((b.length:Nat):Int) != 0)&&(((b.length:Nat):Int) != 8))) l):=by
 refine zT Tryz.func316 rfl ?_;conv=>whnf
 refine zP Nat (fun k=>([(0,GS l),(1, .v (.func (.func 243) #[] #[])),(7,iv l.length),(8,iv k)], [])) (fun k=>k<=l.length/\(l.take k).any (fun b=>((((b.length:Nat):Int) != 0)&&(((b.length:Nat):Int) != 8)))=false) (fun k=>l.length - k) 0 ⟨Ak _,by simp⟩ ⟨[],tv,tA,tv,rfl,rfl,rfl⟩ ?_;rintro k ⟨hk,hI⟩;conv=>whnf
 refine Aj (fun h2=>?_) (fun h2=>?_) <;> simp at h2 <;> conv=>whnf
 ·refine⟨by first | omega | (refine⟨rfl,?_,?_⟩ <;> first | omega | (simp only [Aa];done) | (simp only [Aa];omega)) | (simp only [Aa];omega),?_⟩;conv=>whnf
  refine zZ (Su (l.getD k [])) ?_;conv=>whnf
  refine Aj (fun h3=>?_) (fun h3=>?_) <;> conv=>whnf
  ·exact⟨_,ri,by rw [DT (d:= []) h2 hI (by first | exact h3 | (rw [Ab] at h3;exact h3) | simpa using h3)]⟩
  ·refine⟨k+1,⟨by omega,BY (d:= []) h2 hI (by first | exact h3 | (rw [Ab] at h3;exact h3) | simpa using h3)⟩,by omega, [],tv,⟨rfl,rfl,rfl,AN (by omega),tv⟩,tv,rfl,rfl,rfl⟩
 ·exact⟨_,ri,by rw [Ar h2] at hI;rw [CW hI]⟩
theorem Yo (l:List (List UInt8))  (hl:l.length<=1000000):Fn Tryz.prog 244 [GS l, .v (.func (.func 243) #[] #[])] fun r=>r = .v (.bool (l.any (fun b=>((((b.length:Nat):Int) != 0)&&(((b.length:Nat):Int) != 8))))):=by
 refine zT Tryz.func244 rfl ?_;conv=>whnf
 refine zZ (Yn l  hl) ?_;exact⟨_,ri,by rw [Fc]⟩

@[reducible] def zlH (g:Geo) (t:List Ent) (had:List (List UInt8)):List AB:= [.box 348 [iv g.d,BW t,GS had]]
theorem Sw (g:Geo) (t:List Ent) (had:List (List UInt8)) (hg:Bq g=true) (ht:HU g t=true) (htl:t.length<=1000) (hh:(had.length:Int)=g.d+1) (h8:∀ b∈had,b.length=8):ACalls Tryz.prog false 168 [.ag (Bl g), .ag [BW t],GS had] [] fun r H=>r = .tp [.bp 0 0,iv 0]/\H=zlH g t had:=by
 obtain⟨g1,g2,g3,g4,g5⟩:=Az.1 hg;have hc:=MC g t (by omega);rw [ht] at hc;have hz:=Yo had (by omega);have e:(had.any fun b=>((((b.length:Nat):Int) != 0)&&(((b.length:Nat):Int) != 8)))=false:=by
  rw [List.any_eq_false];intro b hb;rw [h8 b hb];decide
 rw [e] at hz;refine zV tys_ok Tryz.func168 rfl rfl (Ae rfl) ?_;conv=>whnf
 refine zZ hc ?_;conv=>whnf
 rw [show (((had.length:Nat):Int) != IntKind.i64.wrap (g.d+1))=false from bne_eq_false_iff_eq.2 (by rw [wi (by omega)];exact hh)];conv=>whnf
 refine zZ hz ?_;exact⟨_, .tp [.bp 0 0,iv 0],zlH g t had,fun _ _ h=>h,zQ (s:= [2]) tA,rfl,rfl⟩
theorem Sv (g:Geo) (t:List Ent) (had:List (List UInt8)) (i:Nat) (ht:i<t.length) (hi:i<had.length) (h8:∀ b∈had,b.length=8) (hlo:(t.getD i ez).lost=false):ACalls Tryz.prog false 169 [.bp 0 0,iv (i:Nat)] (zlH g t had) fun r H=>r = .tp [bA (had.getD i []), .v (.bool true)]/\H=zlH g t had:=by
 have hb:=h8 _ (A9 (d:=([]:List UInt8)) hi);have hc:=Bu (had.getD i []) (by omega);have ixA:(0:Int)<=(i:Nat)/\((i:Nat):Int)<(t.length:Nat):=by omega
 have ixB:(0:Int)<=(i:Nat)/\((i:Nat):Int)<(had.length:Nat):=by omega
 refine zV tys_ok Tryz.func169 rfl rfl (Ae rfl) ?_;refine⟨ixA,?_⟩;conv=>whnf
 rw [Ab,show (t.getD i ⟨0,0,false⟩).lost=false from hlo];refine⟨ixB,?_⟩;conv=>whnf
 rw [show decide ((((had.getD (((i:Nat):Int)).toNat []).length:Nat):Int) > 0)=true from decide_eq_true (by rw [Ab];omega)];refine⟨ixB,?_⟩;conv=>whnf
 refine zZ hc ?_;exact⟨_, .tp [bA (had.getD i []), .v (.bool true)],zlH g t had,fun _ _ h=>h,zQ (s:= [0]) tA,rfl,rfl⟩
def FF (L b:List UInt8) (k:Nat):List UInt8:=GM (L.take k) (b.take k) ++ L.drop k
theorem Tp {L b:List UInt8} (h:L.length<=b.length) (k:Nat):(FF L b k).length=L.length:=by
 simp only [FF,Ai,FP,As,Al];omega
theorem Tq {L b:List UInt8} {k:Nat} (h:k<L.length) (h2:L.length<=b.length):(FF L b k).getD k 0=L.getD k 0:=by
 have e:(GM (L.take k) (b.take k)).length=k:=by rw [FP,As,As];omega
 rw [FF,Ac,AR (by omega),e,BG,Ct,BS,<-Ac]
theorem To {L b:List UInt8} {k:Nat} (h:k<L.length) (h2:L.length<=b.length):(FF L b k).set k (L.getD k 0 ^^^ b.getD k 0)=FF L b (k+1):=by
 have e:(GM (L.take k) (b.take k)).length=k:=by rw [FP,As,As];omega
 have e2:GM (L.take (k+1)) (b.take (k+1))=GM (L.take k) (b.take k) ++ [L.getD k 0 ^^^ b.getD k 0]:=by
  rw [Bg,Bg,Af h,Af (by omega),GM,List.zipWith_append (by rw [As,As];omega),Ac,Ac,Af h,Af (show k<b.length by omega)];try rfl
 rw [FF,FF,C8 _ _ (by omega),e,BG,BA h,e2,AC];try rfl
theorem Ts {L b:List UInt8} (h:L.length=b.length):FF L b L.length=GM L b:=by
 rw [FF,List.drop_length,AD,A5,h,A5]
theorem Ss {l:List UInt8} {k:Nat} (h:k<l.length):(l.map Fg).getD k []=Fg (l.getD k 0):=AL h
theorem Uh (L b:List UInt8) (h:L.length=b.length) (hl:L.length<=1000000):ACalls Tryz.prog false 309 [.ow 0 L.length,bA b] [.row 5 1 (L.map Fg)] fun r H=>r = .tp []/\H=[.row 5 1 ((GM L b).map Fg)]:=by
 refine zV tys_ok Tryz.func309 rfl rfl (Ae rfl) ?_;conv=>whnf
 refine zS Nat (fun k=>([(0, .ow 0 L.length),(6,bA b),(7,iv (b.length:Nat)),(8,iv (k:Nat))], [.row 5 1 ((FF L b k).map Fg)])) (fun k=>k<=b.length) (fun k=>b.length - k) 0 (Ak _)
  (zQ (s:= [0]) tA) ?_
 intro k hk;conv=>whnf
 refine AJ (fun h6=>?_) (fun h6=>?_) <;> (repeat rw [Ab] at h6) <;> conv=>whnf
 ·have hk':k<b.length:=by omega
  have hml:=Tp (L:=L) (b:=b) (by omega) k;repeat' (refine z_ ?_;conv=>whnf)
  refine⟨⟨by omega,by omega⟩,?_⟩;conv=>whnf
  repeat' (refine z_ ?_;conv=>whnf)
  refine⟨⟨by omega,by omega⟩,?_⟩;refine⟨⟨rfl,by rw [Aa,hml],by omega⟩,?_⟩;rw [Ab,Ss (by omega),Tq (by omega) (by omega)];refine⟨⟨by omega,by omega⟩,?_⟩;refine⟨⟨rfl,by rw [Aa,hml],by omega⟩,?_⟩;rw [Ab,Ss (by omega)];refine⟨k+1,hk',by omega,zQ (s:= [0]) ⟨⟨rfl,rfl,rfl,AN (by omega),tv⟩,⟨?_,tv⟩,rfl,rfl,rfl,rfl,rfl⟩⟩;have e:((FF L b k).map Fg).set k (Fg (L.getD k 0 ^^^ b.getD k 0))=(FF L b (k+1)).map Fg:=by rw [<-CO,To (by omega) (by omega)]
  have ex:=Ur (L.getD k 0) (b.getD k 0).toNat (b.getD k 0).toNat_lt;rw [UInt8.ofNat_toNat] at ex;rw [<-e];show some (AB.row _ _ _)=some (AB.row _ _ _);rw [show Fg (L.getD k 0 ^^^ b.getD k 0)=[AV.v (.int .u8 ((L.getD k 0 ^^^ b.getD k 0).toNat:Nat))] from rfl,<-ex]
 ·have ek:k=b.length:=by omega
  subst ek;exact⟨_, .tp [], [.row 5 1 ((GM L b).map Fg)],fun _ _ h=>h,zQ (s:= [0]) ⟨tA,⟨congrArg (fun z=>some (AB.row 5 1 (List.map Fg z))) (show FF L b b.length=GM L b by rw [<-h];exact Ts h),tv⟩,rfl,rfl,rfl,rfl,rfl⟩,rfl,rfl⟩
theorem Sx (l:List (List UInt8)) (hl:l.length<=1000000) (h:∀ b∈l,b.length=8):Fn Tryz.prog 308 [iv 8,GS l] fun r=>r = .v (.bool true):=by
 refine zT Tryz.func308 rfl ?_;conv=>whnf
 refine zS Nat (fun k=>([(0,iv 8),(7,GS l),(8,iv (l.length:Nat)),(9,iv (k:Nat))], [])) (fun k=>k<=l.length) (fun k=>l.length - k) 0 (Ak _)
  (zQ (s:= []) tA) ?_
 intro k hk;conv=>whnf
 refine AJ (fun h6=>?_) (fun h6=>?_) <;> (repeat rw [Ab] at h6) <;> conv=>whnf
 ·have hk':k<l.length:=by omega
  have h8:=h _ (A9 (d:=([]:List UInt8)) hk');repeat' (refine z_ ?_;conv=>whnf)
  refine⟨⟨by omega,by omega⟩,?_⟩;conv=>whnf
  repeat' (refine z_ ?_;conv=>whnf)
  rw [show (((l.getD (k:Int).toNat []).length:Int) != 8)=false from bne_eq_false_iff_eq.2 (by rw [Ab,h8];try rfl)];exact⟨k+1,hk',by omega,zQ (s:= []) ⟨⟨rfl,rfl,rfl,AN (by omega),tv⟩,tv,rfl,rfl,rfl,rfl,rfl⟩⟩
 ·exact⟨_,ri,rfl⟩
def K4 (l:List (List UInt8)):List UInt8:=l.foldl GM zero8
theorem xorL_len:∀ (l:List (List UInt8)) (a:List UInt8),a.length=8->(∀ b∈l,b.length=8)->(l.foldl GM a).length=8
 | [],_,h,_=>h
 | b::l,a,h,hl=>xorL_len l _ (by rw [FP,h,hl b (by simp)];rfl) fun c hc=>hl c (by simp [hc])
theorem W5 (l:List (List UInt8)) (hl:l.length<=1000000) (h:∀ b∈l,b.length=8):Fn Tryz.prog 231 [GS l,iv 8] fun r=>r = .tp [bA (K4 l),iv 0]:=by
 have ha:=Sx l hl h;refine zT Tryz.func231 rfl ?_;conv=>whnf
 refine zZ ha ?_;refine⟨⟨rfl,by decide,by decide⟩,?_⟩;conv=>whnf
 refine zS Nat (fun k=>([(0,GS l),(6, .ow 0 8),(23,GS l),(24,iv (l.length:Nat)),(25,iv (k:Nat))], [.row 5 1 ((K4 (l.take k)).map Fg)])) (fun k=>k<=l.length) (fun k=>l.length - k) 0 (Ak _)
  (zQ (s:= [0]) tA) ?_
 intro k hk;conv=>whnf
 refine AJ (fun h6=>?_) (fun h6=>?_) <;> (repeat rw [Ab] at h6) <;> conv=>whnf
 ·have hk':k<l.length:=by omega
  have h8:=h _ (A9 (d:=([]:List UInt8)) hk');have hx:(K4 (l.take k)).length=8:=xorL_len _ _ rfl fun b hb=>h b (Bv hb)
  have hi:=Uh (K4 (l.take k)) (l.getD k []) (by omega) (by omega);rw [hx] at hi;have hs:GM (K4 (l.take k)) (l.getD k [])=K4 (l.take (k+1)):=by
   unfold K4;rw [Bg,Cb,Ac,Af hk'];try rfl
  rw [hs] at hi;repeat' (refine z_ ?_;conv=>whnf)
  refine⟨⟨by omega,by omega⟩,?_⟩;conv=>whnf
  rw [Ab];repeat' (refine z_ ?_;conv=>whnf)
  refine hi.mono ?_;rintro _ _ ⟨rfl,rfl⟩;exact⟨k+1,hk',by omega,zQ (s:= [0]) ⟨⟨rfl,rfl,rfl,rfl,AN (by omega),tv⟩,tA,rfl,rfl,rfl,rfl,rfl⟩⟩
 ·have ek:k=l.length:=by omega
  subst ek;have hx:(K4 l).length=8:=xorL_len _ _ rfl h;rw [A5];refine⟨(by rw [Aa,hx]),?_⟩;exact⟨.tp [bA (K4 l),iv 0],Cc (m:= [bA (K4 l),iv 0]) ⟨N8 hx.symm rfl,ri,tv⟩,rfl⟩
theorem PN (stamp:Int) (b:List UInt8) (hs:0<=stamp/\stamp<=4294967295) (hb:b.length=8):Fn Tryz.prog 230 [iv stamp,bA b] fun r=>r = .tp [.ag (Dq ⟨stamp,(DD b:Nat),false⟩),iv 0]:=by
 have h1:=IQ b;refine zT Tryz.func230 rfl ?_;conv=>whnf
 rw [show decide (stamp<0)=false from decide_eq_false (by omega)];conv=>whnf
 rw [show decide (stamp > 4294967295)=false from decide_eq_false (by omega)];conv=>whnf
 rw [show ((b.length:Int) != 8)=false from bne_eq_false_iff_eq.2 (by rw [hb];try rfl)];conv=>whnf
 refine zZ h1 ?_;exact⟨_,ri,rfl⟩
theorem VH (l:List Ent) (hl:l.length<=1000000000):ACalls Tryz.prog false 307 [BW l] [] fun r H=>r = .ow 0 l.length/\H=[.row 189 3 (l.map Dq)]:=by
 refine zH tys_ok Tryz.func307 rfl rfl (by show 1<=_;decide) ?_;refine Ah (fun h=>?_) ?_
 ·conv=>whnf
  have h0:=AG.1 h;subst h0;exact⟨_, .ow 0 0, [.row 189 3 []],fun _ _ h=>h,zM ⟨[(0,189,3)],tA,tA,tA,rfl,rfl,rfl⟩,rfl,rfl⟩
 ·refine⟨⟨rfl,by omega⟩,?_⟩;exact⟨.ow 0 l.length, .ow 0 l.length, [.row 189 3 (l.map Dq)],fun _ _ h=>by rwa [Au] at h,zM ⟨[],tv,tA,⟨(congrArg (AB.row _ _) (JF (d:=(⟨0,0,false⟩:Ent)) Dq l)).symm,tv⟩,rfl,rfl,rfl⟩,rfl,rfl⟩
theorem SD (t:List Ent) (ht:t.length<=1000000):ACalls Tryz.prog false 229 [.ag [BW t]] [] fun r H=>r = .ag [.ow 0 t.length]/\H=[.row 189 3 (t.map Dq)]:=by
 have h1:=VH t (by omega);refine zV tys_ok Tryz.func229 rfl rfl (Ae rfl) ?_;conv=>whnf
 refine zW h1 rfl ?_;rintro _ _ ⟨rfl,rfl⟩;exact⟨.ag [.ow 2 t.length], .ag [.ow 0 t.length], [.row 189 3 (t.map Dq)],fun _ _ h=>h,zQ (s:= [2]) tA,rfl,rfl⟩
section
variable (g:Geo) (t:List Ent) (had:List (List UInt8)) (ats:List Int) (bs:List (List UInt8)) (stamp:Int)
def FK (i:Nat):List Ent:=(List.range i).map (NZ g t had ats bs stamp) ++ t.drop i
theorem Pn {i:Nat} (h:i<=t.length):(FK g t had ats bs stamp i).length=t.length:=by simp [FK];omega
theorem Ln {i:Nat} (h:i<t.length) (e:Ent):(FK g t had ats bs stamp i).set i e=(List.range i).map (NZ g t had ats bs stamp) ++ e::t.drop (i+1):=by
 rw [FK,C8 _ _ (by simp),Aa,C5,BG,BA h];try rfl
theorem Y6 {i:Nat} (h:i<t.length):(FK g t had ats bs stamp i).set i (t.getD i ez)=FK g t had ats bs stamp i:=by
 rw [Ln g t had ats bs stamp h,FK,BA h,Ac,Af h];try rfl
theorem MJ {i:Nat} (h:i<t.length):(FK g t had ats bs stamp i).set i (NZ g t had ats bs stamp i)=FK g t had ats bs stamp (i+1):=by
 rw [Ln g t had ats bs stamp h,FK,BD,A2,AC];try rfl
end
inductive TrJ where
 | fin
 | jump (k:Nat)
 | one (i:Nat) (r:TrJ)
 | non
 | alt (i:Nat) (a:TrJ) (r:TrJ)
def TrJ.o (l:List Nat) (t:TrJ):TrJ:=l.foldr .one t
abbrev Seg:=List Nat × Nat × TrJ
def segGet:List Seg->Nat->Option Seg
 | [],_=>none
 | x::_,0=>some x
 | _::r,k+1=>segGet r k
def TrJ.depth (sg:List Seg):TrJ->Nat
 | .fin=>0
 | .jump k=>match segGet sg k with | some s=>s.2.1 | none=>0
 | .one _ r=>r.depth sg+1
 | .non=>0
 | .alt _ a r=>max (a.depth sg+1) (r.depth sg)
def TrJ.alts:TrJ->List Nat
 | .alt i _ r=>i::r.alts
 | _=> []
def eqB:List Bool->List Bool->Bool
 | [], []=>true
 | a::l,b::m=>(a == b)&&eqB l m
 | _,_=>false
theorem eqB_eq:∀ {l m:List Bool},eqB l m=true->l=m
 | [], [],_=>rfl
 | a::l,b::m,h=>by
  simp only [eqB,Ad,beq_iff_eq] at h;rw [h.1,eqB_eq h.2]
 | [],_::_,h=>by simp [eqB] at h
 | _::_, [],h=>by simp [eqB] at h
def eqN:List Nat->List Nat->Bool
 | [], []=>true
 | a::l,b::m=>Nat.beq a b&&eqN l m
 | _,_=>false
theorem eqN_eq:∀ {l m:List Nat},eqN l m=true->l=m
 | [], [],_=>rfl
 | a::l,b::m,h=>by
  simp only [eqN,Ad] at h;rw [Am h.1,eqN_eq h.2]
 | [],_::_,h=>by simp [eqN] at h
 | _::_, [],h=>by simp [eqN] at h
def No (n:Nat) (s:List Nat):Array Bool:=s.foldl (fun l i=>l.setIfInBounds i true) (Array.replicate n false)
abbrev Sts:=List (Fr × List AB)
def sget:Sts->Nat->Fr × List AB
 | [],_=>([], [])
 | x::_,0=>x
 | _::r,k+1=>sget r k
section
variable {P:Program} {ops:Array Oper} {B:List Nat} {Q:Exit->Act->World->Prop} {mk:Nat}
def FA (ops:Array Oper) (B:List Nat) (mk:Nat) (sg:List Seg) (me:Nat):TrJ->Bool->Array Bool->Bool
 | .fin,f,l=>f&&(Region.ready .any ops l).isEmpty
 | .jump k,f,l=>f&&Nat.blt me k&&(match segGet sg k with | some s=>eqB l.toList (No ops.size s.1).toList | none=>false)
 | .one i r,f,l=>f&&(match ops[i]? with
   | none=>false
   | some o=>match isEff o.op with
    | true=>(match Region.ready .any ops l with | [j]=>Nat.beq i j | _=>false)&&(qM mk i o.op || !Jc ops B mk i)
    | false=>match mk.testBit i with
     | true=>(match Region.ready .any ops l with | [j]=>Nat.beq i j | _=>false)&&(qM mk i o.op || !Jc ops B mk i)
     | false=>Region.free .any ops l i&&(Region.ready .any ops l).contains i)&&FA ops B mk sg me r true (l.setIfInBounds i true)
 | .non,f,_=>!f
 | .alt i a r,f,l=>(!f || eqN (Region.ready .any ops l) (i::r.alts))&&KA ops B mk i&&FA ops B mk sg me a true (l.setIfInBounds i true)&&FA ops B mk sg me r false l
def Pp (P:Program) (T:Tys) (n mk:Nat) (ops:Array Oper) (ds:List Nat) (st:Sts) (K:Fr->List AB->Prop):TrJ->Fr->List AB->Prop
 | .fin,fr,H=>K fr H
 | .jump k,fr,H=>canonK ds fr fun l=>l=(sget st k).1/\H=(sget st k).2
 | .one i r,fr,H=>Ew P T n mk ops i fr H fun fr H=>Pp P T n mk ops ds st K r fr H
 | .non,_,_=>True
 | .alt i a r,fr,H=>(Ew P T n mk ops i fr H fun fr H=>Pp P T n mk ops ds st K a fr H)/\Pp P T n mk ops ds st K r fr H
def NR (P:Program) (T:Tys) (n mk:Nat) (ops:Array Oper) (ds:List Nat) (st:Sts) (K:Fr->List AB->Prop):List Seg->Nat->Prop
 | [],_=>True
 | s::r,k=>Pp P T n mk ops ds st K s.2.2 (sget st k).1 (sget st k).2/\NR P T n mk ops ds st K r (k+1)
def J8 (ops:Array Oper) (B:List Nat) (mk:Nat) (sg:List Seg):List Seg->Nat->Bool
 | [],_=>true
 | s::r,k=>FA ops B mk sg k s.2.2 true (No ops.size s.1)&&Nat.ble (s.2.2.depth sg) s.2.1&&J8 ops B mk sg r (k+1)
variable {T:Tys} {w0:Fl} {M0:Ms} {n d0:Nat} {ce:Ctx}
theorem Lo {ds:List Nat} {st:Sts} {K:Fr->List AB->Prop}:∀ {sg:List Seg} {k0 k:Nat} {s:Seg},NR P T n mk ops ds st K sg k0->segGet sg k=some s->Pp P T n mk ops ds st K s.2.2 (sget st (k0+k)).1 (sget st (k0+k)).2
 | [],_,_,_,_,h=>by simp [segGet] at h
 | x::r,k0,0,s,h,hs=>by
  simp only [segGet,Option.some.injEq] at hs;subst hs;exact h.1
 | x::r,k0,k+1,s,h,hs=>by
  have:=Lo (k:=k) h.2 hs;rw [show k0+(k+1)=k0+1+k by omega];exact this
theorem Lf {sg0:List Seg}:∀ {sg:List Seg} {k0 k:Nat} {s:Seg},J8 ops B mk sg0 sg k0=true->segGet sg k=some s->FA ops B mk sg0 (k0+k) s.2.2 true (No ops.size s.1)=true/\s.2.2.depth sg0<=s.2.1
 | [],_,_,_,_,h=>by simp [segGet] at h
 | x::r,k0,0,s,h,hs=>by
  simp only [segGet,Option.some.injEq] at hs;subst hs;simp only [J8,Ad] at h;exact⟨h.1.1,Ae h.1.2⟩
 | x::r,k0,k+1,s,h,hs=>by
  simp only [J8,Ad] at h;have:=Lf (k:=k) h.2 hs;rw [show k0+(k+1)=k0+1+k by omega];exact this
theorem segGet_lt:∀ {sg:List Seg} {k:Nat} {s:Seg},segGet sg k=some s->k<sg.length
 | [],_,_,h=>by simp [segGet] at h
 | _::_,0,_,_=>by simp
 | _::r,k+1,s,h=>by
  have:=segGet_lt (sg:=r) (k:=k) h;simp;omega
def Yl (P:Program) (T:Tys) (ops:Array Oper) (B:List Nat) (mk n:Nat) (Q:Exit->Act->World->Prop) (w0:Fl) (M0:Ms) (ce:Ctx) (st:Sts) (sg:List Seg) (k:Nat):Prop:=
 ∀ (s:Seg) (m:Nat) (c:Ctx) (a:Act),segGet sg k=some s->s.2.1<=m->Cl ops (No ops.size s.1)->HS w0 M0 c (sget st k).2->FR w0 c n (sget st k).1 a->Ext ce c->HeldM P ops B mk Q m (No ops.size s.1) a c.w
theorem ED (hT:TOk P T) (hB:FJ ops B=true) (hns:Region.noSelect ops=true) {ds:List Nat} {st:Sts} {sg:List Seg} {K:Fr->List AB->Prop} (hq:∀ a w,DK w0 M0 ce n K a w->Q .normal a w) (hpan:∀ c a w,¬Q (.panic c) a w) {me:Nat} (hseg:∀ k,me<k->Yl P T ops B mk n Q w0 M0 ce st sg k) :
  ∀ (r:TrJ) (m:Nat) (l:Array Bool) (c:Ctx) (fr:Fr) (H:List AB) (a:Act),Cl ops l->HS w0 M0 c H->FR w0 c n fr a->Ext ce c->Pp P T n mk ops ds st K r fr H->
   (FA ops B mk sg me r true l=true->r.depth sg<=m->HeldM P ops B mk Q m l a c.w)/\
   (FA ops B mk sg me r false l=true->r.depth sg<=m+1->∀ j∈r.alts,j∈Region.ready .any ops l->wpOp P ops Q j (fun a' w'=>(Jc ops B mk j=true->Old c.w w')/\HeldM P ops B mk Q m (l.setIfInBounds j true) a' w') a c.w)
 | .fin,m,l,c,fr,H,a,hcl,hs,hf,he,h=>by
  refine⟨fun hd hm=>?_,fun _ _ j hj=>by simp [TrJ.alts] at hj⟩;simp only [FA,B8,List.isEmpty_iff] at hd;cases m with
  | zero=>exact⟨hd,hq _ _ ⟨c,fr,H,rfl,h,hs,hf,he⟩⟩
  | succ m=>exact⟨fun _=>hq _ _ ⟨c,fr,H,rfl,h,hs,hf,he⟩,by rw [hd];simp⟩
 | .jump k,m,l,c,fr,H,a,hcl,hs,hf,he,h=>by
  refine⟨fun hd hm=>?_,fun _ _ j hj=>by simp [TrJ.alts] at hj⟩;simp only [FA,B8,Ad] at hd;simp only [TrJ.depth] at hm;obtain⟨hlt,hd⟩:=hd;cases hg:segGet sg k with
  | none=>rw [hg] at hd;simp at hd
  | some s=>
   rw [hg] at hd hm;simp only at hd hm;have hl:l=No ops.size s.1:=Array.ext' (eqB_eq hd);obtain⟨e1,e2⟩:=canonK_iff h;subst hl;refine hseg k (At (Bw me) (Ae hlt)) s m c a hg hm hcl (e2 ▸ hs) (e1 ▸ hf.canon _) he
 | .non,m,l,c,fr,H,a,hcl,hs,hf,he,h=>by
  refine⟨fun hd hm=>by simp [FA] at hd,fun _ _ j hj=>by simp [TrJ.alts] at hj⟩
 | .alt i x r,m,l,c,fr,H,a,hcl,hs,hf,he,h=>by
  obtain⟨h1,h2⟩:=h;have key:∀ m,TrJ.depth sg (.alt i x r)<=m+1->KA ops B mk i=true->FA ops B mk sg me x true (l.setIfInBounds i true)=true->i∈Region.ready .any ops l->wpOp P ops Q i (fun a' w'=>(Jc ops B mk i=true->Old c.w w')/\HeldM P ops B mk Q m (l.setIfInBounds i true) a' w') a c.w:=by
   intro m hm hk hx hr;simp only [TrJ.depth] at hm;unfold KA at hk;split at hk
   ·rename_i o ho;refine EI hT ho hk hs hf he (fun c' fr' H' a' q1 q2 q3 q4=>(ED hT hB hns hq hpan hseg x m _ c' fr' H' a' (hcl.set hr) q1 q2 q3 q4).1 hx (by omega)) h1
   ·cases hk
  refine⟨fun hd hm=>?_,fun hd hm j hj hr=>?_⟩
  ·simp only [FA,Bool.not_true,Bool.false_or,Ad] at hd;obtain⟨⟨⟨hr,hi⟩,hx⟩,hy⟩:=hd;have hr':=eqN_eq hr;cases m with
   | zero=>simp only [TrJ.depth] at hm;omega
   | succ m=>
    refine⟨fun h0=>(by rw [hr'] at h0;cases h0),fun j hj=>?_⟩;have hj0:=hj;rw [hr',AS] at hj;rcases hj with rfl | hj
    ·exact key m hm hi hx hj0
    ·refine(ED hT hB hns hq hpan hseg r m l c fr H a hcl hs hf he h2).2 hy ?_ j hj hj0;simp only [TrJ.depth] at hm;omega
  ·simp only [FA,Bool.not_false,Bool.true_or,B8,Ad] at hd;obtain⟨⟨hi,hx⟩,hy⟩:=hd;simp only [TrJ.alts,AS] at hj;rcases hj with rfl | hj
   ·exact key m hm hi hx hr
   ·refine(ED hT hB hns hq hpan hseg r m l c fr H a hcl hs hf he h2).2 hy ?_ j hj hr;simp only [TrJ.depth] at hm;omega
 | .one i r,m,l,c,fr,H,a,hcl,hs,hf,he,h=>by
  refine⟨fun hd hm=>?_,fun _ _ j hj=>by simp [TrJ.alts] at hj⟩;cases m with
  | zero=>simp [TrJ.depth] at hm
  | succ m=>
   simp only [TrJ.depth,Nat.add_le_add_iff_right] at hm;simp only [FA,B8,Ad] at hd;obtain⟨hd1,hd2⟩:=hd;simp only [Pp] at h;cases ho:ops[i]? with
   | none=>rw [ho] at hd1;simp at hd1
   | some o=>
    rw [ho] at hd1;simp only at hd1;have only:(match Region.ready .any ops l with | [j]=>Nat.beq i j | _=>false)=true->(qM mk i o.op || !Jc ops B mk i)=true->HeldM P ops B mk Q (m+1) l a c.w:=by
     intro hr hmq;have hr':Region.ready .any ops l=[i]:=by
      split at hr
      ·rename_i j hj;rw [hj,Am hr]
      ·cases hr
     have hri:i∈Region.ready .any ops l:=by rw [hr'];simp
     refine⟨fun h0=>(by rw [hr'] at h0;cases h0),fun j hj=>?_⟩;rw [hr',A8] at hj;subst hj;exact EI hT ho hmq hs hf he (fun c' fr' H' a' q1 q2 q3 q4=>(ED hT hB hns hq hpan hseg r m _ c' fr' H' a' (hcl.set hri) q1 q2 q3 q4).1 hd2 hm) h
    cases hE:isEff o.op with
    | true=>
     rw [hE] at hd1;simp only [Ad] at hd1;exact only hd1.1 hd1.2
    | false=>
     rw [hE] at hd1;dsimp only at hd1;cases hM:mk.testBit i with
     | true=>
      rw [hM] at hd1;simp only [Ad] at hd1;exact only hd1.1 hd1.2
     | false=>
     rw [hM] at hd1;simp only [Ad] at hd1;obtain⟨hfree,hr⟩:=hd1;have hri:i∈Region.ready .any ops l:=by simpa using hr
     simp only [Ew,DI] at h;rw [show ops.toList[i]? = some o by simpa using ho] at h;simp only at h;have step:∀ v fr2,YieldsIf P ops (fun w'=>pureOp o.op=true\/Old c.w w') o v a->FR w0 c n fr2 (a.put o.dst v)->Pp P T n mk ops ds st K r fr2 H->HeldM P ops B mk Q (m+1) l a c.w:=by
      intro v fr2 hy hf2 h2;exact HeldM.first1 hB ho hM hE (Region.noSelect_spec hns) (fun c a w h=>(hpan _ _ _ h).elim) m l a c.w hcl (Region.free_spec ho hfree) hri hy
       ((ED hT hB hns hq hpan hseg r m _ c fr2 H _ (hcl.set hri) hs hf2 he h2).1 hd2 hm)
     rcases Dj hf h with ⟨hw,fr',hf',h⟩ | ⟨hw,fr',hf',h⟩
     ·unfold GX at h;rw [hE] at h;obtain⟨rr,v,h1,h2,h3⟩:=(Gg hT hs hf' h).y;obtain⟨fr2,h4,h5⟩:=Cr hf' h3 h1;exact step v fr2 (.inl ⟨hw,h2⟩) h5 h4
     ·obtain⟨fr2,h4,h5⟩:=Cr (v:=undef) hf' (by simp [Rd]) h;exact step undef fr2 (.inr ⟨hw,rfl⟩) h5 h4
theorem Le (hT:TOk P T) (hB:FJ ops B=true) (hns:Region.noSelect ops=true) {ds:List Nat} {st:Sts} {sg:List Seg} {K:Fr->List AB->Prop} (hq:∀ a w,DK w0 M0 ce n K a w->Q .normal a w) (hpan:∀ c a w,¬Q (.panic c) a w) (hok:J8 ops B mk sg sg 0=true) (h:NR P T n mk ops ds st K sg 0):∀ (z k:Nat),sg.length<=z+k->Yl P T ops B mk n Q w0 M0 ce st sg k
 | 0,k,hz,s,m,c,a,hg,_,_,_,_,_=>by
  have:=segGet_lt hg;omega
 | z+1,k,hz,s,m,c,a,hg,hm,hcl,hs,hf,he=>by
  obtain⟨h1,h2⟩:=Lf hok hg;have h3:=Lo h hg;rw [Au] at h1 h3;exact(ED hT hB hns hq hpan (fun k' hk'=>Le hT hB hns hq hpan hok h z k' (by omega)) s.2.2 m _ c _ _ a hcl hs hf he h3).1 h1 (by omega)
def Yh (ops:Array Oper) (mk:Nat) (sg:List Seg):Bool:=FJ ops (JZ ops)&&Region.noSelect ops&&(match sg with | ([],d,_)::_=>Nat.ble d ops.size | _=>false)&&J8 ops (JZ ops) mk sg sg 0
theorem aDraw.dag (mk:Nat) (hT:TOk P T) (hm:P.follows .mixedOrders=true) {id:Nat} {K:Fr->List AB->Prop} {fr:Fr} {H:List AB} (sg:List Seg) (ds:List Nat) (st:Sts) {F:Fr} {H2:List AB} (hok:Yh ops mk sg=true)
  (h:NR P T n mk ops (ds ++ slots fr) ((fr,H)::st) (fun fr' H'=>canonK (ds ++ slots fr) fr' fun l=>l=F/\H'=H2) sg 0) (hk:K F H2):aDraw P T n d0 id ops K fr H:=by
 simp only [Yh,Ad] at hok;obtain⟨⟨⟨hB,hns⟩,hlen⟩,hok⟩:=hok;refine⟨fun w0 M0 ce c a hs hf he hd Q hQ=>?_⟩;refine wp_mono (Q:=fun e a w=>e = .normal/\DK w0 M0 ce n (fun fr' H'=>canonK (ds ++ slots fr) fr' fun l=>l=F/\H'=H2) a w) ?_ ?_
 ·refine wp_region_any hm (HeldM.any (B:=JZ ops) (mk:=mk) _ _ _ _ ?_);have hb:=(Below.refl c.w.heap.size c.w).drew;obtain⟨h1,h2⟩:=hs.grow hb;have hcl:Cl ops (Array.replicate ops.size false):=by
   intro j o hj hlj;rcases BR j ops.size with h' | h'
   ·simp [h'] at hlj
   ·simp [Bz h'] at hj
  cases sg with
  | nil=>simp at hlen
  | cons s sg=>
   obtain⟨s1,d,tr⟩:=s;cases s1 with
   | cons _ _=>simp at hlen
   | nil=>
    exact Le (w0:=w0) (M0:=M0) (ce:=ce) (st:=(fr,H)::st) hT hB hns (fun a w hl=>⟨rfl,hl⟩) (fun c a w h=>by cases h.1) hok h _ 0 (Ag _) ([],d,tr) _ { c with w:=c.w.drew } a rfl (Ae hlen) hcl h1 (hf.ext h2) (he.trans h2)
 ·rintro e a w ⟨rfl,c',fr',H',rfl,h1,h2,h3,h4⟩;obtain⟨e1,rfl⟩:=canonK_iff h1;exact hQ c' F H' a hk h2 (e1 ▸ h3.canon _) h4
end
theorem RU {d:Dk} (hd:DkOk d) (hl:d.left<0) (k:Nat):Lv d k:=⟨hd.r, .inl hl⟩
theorem OI (k:Nat) (d:Dk) (l:List Int):B6 (d.tick k) l=B6 d l:=rfl
theorem finL_two:∀ (l:List Wr) (cs:List Cel) (a:Nat),((C7 cs l).getD a cz).state=2↔(cs.getD a cz).state=2:=fun l cs a=>by
 by_cases ha:a<cs.length
 ·by_cases h:(cs.getD a cz).state=2
  ·rw [finL_stuck l cs a ha h]
  ·rcases finL_any l cs a ha with e | ⟨_,e,_⟩
   ·rw [e]
   ·omega
 ·rw [Ac,Ac,AE (by rw [finL_len];omega),AE (by omega)]
theorem V3 (l:List Wr) (cs:List Cel):free (C7 cs l)=free cs:=by
 funext w;unfold free;rw [Bool.eq_iff_iff,decide_eq_true_eq,decide_eq_true_eq];exact not_congr (finL_two l cs _)
def Lu (g:Geo) (w:List Wr):Nat:=g.an.toNat+2*g.sl.toNat+(if w=[] then 0 else w.length+1)+(g.an.toNat+1)
theorem N_ {g:Geo} {d:Dk} {a:An} {j:Nat} {L:List Tx} {w:List Wr} (hg:Bq g=true) (hd:DkOk d) (hn:(d.cells.length:Int)=A4 g) (hc:d.cache=[]) (hl:d.left<0) (hp:FW g (B6 d (Dl g))=some (a,j)) (hs:G_ g a (B6 d (BI g 0)) (B6 d (BI g 1))=(L,w,0)) (h1:a.gen≠4294967295) (h2:a.epoch≠4294967295) (hw1:∀ z∈w,Ww d.cells.length z) (hw2:w.length<=900) :
  JJ g d=(⟨C7 (C7 d.cells w) (AT g (DV a L.length)), [],(d.tick (Lu g w)).reqs,d.left⟩,if ((AT g (DV a L.length)).filter (free d.cells)).length=0 then 14 else 0,if ((AT g (DV a L.length)).filter (free d.cells)).length=0 then st0 else Bk (DV a L.length) L):=by
 obtain⟨g1,g2,g3,g4,g5⟩:=Az.1 hg;have hao:=KI hg _ hp;have hlv:∀ k,d.live k:=fun k=> .inl hl
 have htl:∀ k,(d.tick k).left=d.left:=fun k=>if_pos hl
 have hr:=hd.r;unfold JJ;rw [if_pos (hlv _),hp];simp only;unfold QR;rw [Jy _ (RU hd hl _),if_pos (show (d.tick g.an.toNat).live _ from .inl (by rw [htl];exact hl)),OI,OI,hs];rw [Jy _ (show Lv (d.tick g.an.toNat) (2*g.sl.toNat) from IP (RU hd hl _)),FT _ _ hr.2 (.inl hl)];unfold QQ;simp only [ne_eq,not_true,if_false];have hm:(d.tick (g.an.toNat+2*g.sl.toNat)).mend w=(⟨C7 d.cells w, [],(d.tick (g.an.toNat+2*g.sl.toNat+(if w=[] then 0 else w.length+1))).reqs,d.left⟩,false):=by
  unfold Dk.mend;by_cases hw:w=[]
  ·subst hw;rw [if_pos rfl,if_pos rfl,BS];simp only [Prod.mk.injEq,and_true];show (d.tick _:Dk)=_;unfold Dk.tick;rw [hc,if_pos hl];try rfl
  ·rw [if_neg hw,if_neg hw,IZ (IP (RU hd hl _)) hc (by omega),FT _ _ hr.2 (.inl hl)];simp only [htl];rfl
 rw [hm];simp only [BU,if_false];unfold QP;rw [if_neg (by rintro(h | h);exact h1 h;exact h2 h)];obtain⟨K,hK⟩:∃ K,K=g.an.toNat+2*g.sl.toNat+(if w=[] then 0 else w.length+1):=⟨_,rfl⟩;rw [<-hK];have hrk:0<=(d.tick K).reqs/\(d.tick K).reqs<=1048576:=by show 0<=min _ _/\min _ _<=_;omega
 have hlen:=EZ g (DV a L.length);rw [IZ (d:=⟨C7 d.cells w, [],(d.tick K).reqs,d.left⟩) ⟨hrk, .inl hl⟩ rfl (by omega)];simp only [BU,if_false,V3,hlen];have e1:((⟨C7 d.cells w, [],(d.tick K).reqs,d.left⟩:Dk).tick (g.an.toNat+1)).left=d.left:=if_pos hl;have e2:((⟨C7 d.cells w, [],(d.tick K).reqs,d.left⟩:Dk).tick (g.an.toNat+1)).reqs=(d.tick (Lu g w)).reqs:=by
  show min ((d.tick K).reqs+((g.an.toNat+1:Nat):Int)) _=min _ _;show min (min (d.reqs+(K:Nat)) 1048576+((g.an.toNat+1:Nat):Int)) 1048576=min (d.reqs+(Lu g w:Nat)) 1048576;unfold Lu;omega
 grind
theorem Lm (g:Geo) (l:List Gt):∀ k,(E6 g l k=none->∀ i,i<k->DF g (l.getD i ⟨0, []⟩) (i:Nat)=none)/\∀ a j,E6 g l k=some (a,j)->j<k/\DF g (l.getD j ⟨0, []⟩) (j:Nat)=some a/\∀ i b,i<k->DF g (l.getD i ⟨0, []⟩) (i:Nat)=some b->b.gen<=a.gen
 | 0=>⟨fun _ i hi=>by omega,fun a j h=>by cases h⟩
 | k+1=>by
  obtain⟨ih1,ih2⟩:=Lm g l k;rw [Iw,Pi];cases hS:DF g (l.getD k ⟨0, []⟩) (k:Nat) with
  | none=>
   grind
  | some c=>
   grind
theorem Rz {g:Geo} {d:Dk} {i:Nat} (hi:i<g.an.toNat):(B6 d (Dl g)).getD i ⟨0, []⟩=Oi d (i:Nat):=by
 rw [B6,AL (d:=0) (by rw [Es];exact hi),Nr hi]
theorem Q8 {g:Geo} {a:An} {i:Nat} (hg:Bq g=true) (ha:B4 g a=true) (hi:(i:Int)<=65535):DF g ⟨0,Dr a i⟩ i=some a:=by
 obtain⟨e1,e2,e3,e4⟩:=H8 (Np hg ha (i:=(i:Nat)) ⟨by omega,hi⟩);unfold DF;rw [if_pos ⟨rfl,e1,e2⟩];show (match DH g (C0 (Dr a i)) with | some a_1=>if a_1.gen=Cu (Dr a i) then some a_1 else none | none=>none)=_;rw [show C0 (Dr a i)=Jv a from e4,SX hg ha,show Cu (Dr a i)=a.gen from e3];simp
section
variable {g:Geo} {a:An} {fill:UInt8} {sizes:List Int}
end
theorem Hq {g:Geo} {c s:Int} (hc:c=0\/c=1) (hs:0<=s/\s<g.sl):g.an<=A_ g c s/\A_ g c s<g.an+2*g.sl:=by
 unfold A_
 grind
section
variable {g:Geo} {s:ByteArray} {a:An} {fill:UInt8} {sizes:List Int}
theorem Ju {b:An} (hg:Bq g=true) (hb:B4 g b=true) (i:Int):(Dr b i).length<=200:=by
 have:=Kb hg hb;rw [Dr,EB];omega
end
theorem KG {cs:List Cel} {n:Nat} (h:cs.length=n) {k:Nat} (hk:k<n):(cs.map BB).getD k []=BB (cs.getD k cz):=AL (by omega)
theorem RA {g:Geo} (hg:Bq g=true):HU g (E3 g)=true:=by
 obtain⟨g1,g2,g3,g4,g5⟩:=Az.1 hg;have hz:=IR zero8;simp only [HU,hg,E3,Bm,Ad,decide_eq_true_eq,B8];refine⟨⟨by omega,?_⟩,?_⟩
 ·rw [Av];intro e he;rw [AW he];simp [Ef,ent0,Io,CH];exact decide_eq_true (by omega)
 ·have:I2 (List.replicate (g.d+1).toNat ent0) g.d.toNat=false:=by
   unfold I2;rw [Cm (by omega)];try rfl
  rw [this];try rfl
theorem Uw {g:Geo} (hg:Bq g=true) {a:Int} (ha:0<=a/\a<=65535):XX a 0 (Dg (E3 g)):=by
 obtain⟨g1,g2,g3,g4,g5⟩:=Az.1 hg;refine⟨ha.1,ha.2,CB _,by decide,?_⟩;rw [ER,E3,Bm];omega
theorem TA (g:Geo) (s:ByteArray) (hg:Bq g=true) (hs:Em s.data.toList=0) (hl:s.size<=1000000):Fn Tryz.prog 42 [.ag (Bl g), .v (.string s)] fun r=>r = .tp [.ag (Me (DJ g s)),iv 0]:=by
 obtain⟨g1,g2,g3,g4,g5⟩:=Az.1 hg;have hcg:=Eg hg;have hp:=Hk hg;have hN:1<=(A4 g).toNat/\(A4 g).toNat<=300:=by
  have:g.z*CE g<=4*7:=Int.mul_le_mul (by omega) (by omega) (by omega) (by omega);unfold A4 at hcg |-
  omega
 have hcN:A4 g=((A4 g).toNat:Int):=by omega
 have hao:=JV hg hs;have hA:=Ud g s hl;rw [hg,if_pos rfl,if_pos hs,if_pos rfl,hs] at hA;have hC:=T7 g hg;rw [hcN] at hC;have hD:=VK (A4 g).toNat hN;refine zT Tryz.func42 rfl ?_;conv=>whnf
 refine zZ hA ?_;conv=>whnf
 refine zZ hC ?_;conv=>whnf
 refine zW hD rfl ?_;rintro _ _ ⟨rfl,rfl⟩;conv=>whnf
 refine zS Nat (fun k=>([(2, .bp 0 0),(4, .bp 1 0),(5,ze 0),(6, .bp 2 0),(10, .bp 3 0),(51,ze g.an),(52,ze k)], [.box 24 (Bl g), .box 38 [nilV,nilV,ze 0,ze 0], .box 28 (Fh (BN g s)), .box 38 [.ow 4 (A4 g).toNat,nilV,ze 0,ze (-1)], .row 68 3 ((DU (IA g) ((AT g (BN g s)).take k)).map BB)])) (fun k=>k<=g.an.toNat) (fun k=>g.an.toNat - k) 0 (Ak _)
  ?_ ?_
 ·refine zI (zO (z7 (k:=3) rfl (es':=(IA g).map BB) (by simp [IA]) fun i=>?_)) (s:= [0,1,2,4,3]) tA;rw [IA,List.map_replicate];by_cases hi:i<(A4 g).toNat
  ·rw [Ji hi,Ji hi];exact⟨fun _ _ h=>h,Bt 1 _,Bt 1 _,tv⟩
  ·rw [Ac,Ac,AE (by simpa using hi),AE (by simpa using hi)];exact SubL.refl _
 ·intro k hk;conv=>whnf
  refine AJ (fun h6=>?_) (fun h6=>?_) <;> (repeat rw [Ab] at h6) <;> conv=>whnf
  ·have hk':k<(AT g (BN g s)).length:=by rw [EZ];omega
   have hsx:=Ib (IA g) hk';rw [K3 (by omega)] at hsx;have hlx:(DU (IA g) ((AT g (BN g s)).take k)).length=(A4 g).toNat:=by rw [E1,LN]
   generalize DU (IA g) ((AT g (BN g s)).take k)=cs at hsx hlx |-
   have hga:=F1 g k hg (by omega);have hnc:=Pu g (BN g s) k hg hao (by omega);have hE:(cs.map BB).getD (k:Int).toNat []=BB (cs.getD (k:Int).toNat cz):=KG hlx (by omega);repeat' (refine z_ ?_;conv=>whnf)
   refine zZ hga ?_;conv=>whnf
   apply zX (0) tys_ok mixed (.o [0,1,2,3,4,5,6,7,8,9,10,11,12] .fin) (by kernel_rfl);conv=>whnf
   refine zZ hnc ?_;conv=>whnf
   try (refine tI ?_;conv=>whnf)
   try (refine tS ?_;conv=>whnf)
   (first | rw [hE] | skip)
   conv=>whnf
   exact⟨k+1,by omega,by omega,zQ (s:= [0,1,2,3,4]) ⟨⟨rfl,rfl,rfl,rfl,rfl,rfl,AN (by omega),tv⟩,⟨rfl,rfl,rfl,rfl,congrArg (fun l=>some (AB.row _ _ l)) (by rw [hsx,Jj];try rfl),tv⟩,rfl,rfl,rfl,rfl,rfl⟩⟩
  ·have ek:k=(AT g (BN g s)).length:=by rw [EZ];omega
   rw [ek,A5];refine zS Nat (fun c=>([(2, .bp 0 0),(4, .bp 1 0),(5,ze 0),(6, .bp 2 0),(10, .bp 3 0),(74,ze c)], [.box 24 (Bl g), .box 38 [nilV,nilV,ze 0,ze 0], .box 28 (Fh (BN g s)), .box 38 [.ow 4 (A4 g).toNat,nilV,ze 0,ze (-1)], .row 68 3 ((On g s c).map BB)])) (fun c=>c<=2) (fun c=>2 - c) 0 (Ak _)
    (zQ (s:= [0,1,2,3,4]) tA) ?_
   intro c hc;conv=>whnf
   refine AJ (fun h7=>?_) (fun h7=>?_) <;> (repeat rw [Ab] at h7) <;> conv=>whnf
   ·have hc01:(c:Int)=0\/(c:Int)=1:=by omega
    repeat' (refine z_ ?_;conv=>whnf)
    refine zS Nat (fun i=>([(2, .bp 0 0),(4, .bp 1 0),(5,ze 0),(6, .bp 2 0),(10, .bp 3 0),(15,ze c),(74,ze c),(78,ze g.sl),(79,ze i)], [.box 24 (Bl g), .box 38 [nilV,nilV,ze 0,ze 0], .box 28 (Fh (BN g s)), .box 38 [.ow 4 (A4 g).toNat,nilV,ze 0,ze (-1)], .row 68 3 ((DU (On g s c) ((G3 g c).take i)).map BB)])) (fun i=>i<=g.sl.toNat) (fun i=>g.sl.toNat - i) 0 (Ak _)
     (zQ (s:= [0,1,2,3,4]) tA) ?_
    intro i hi;conv=>whnf
    refine AJ (fun h8=>?_) (fun h8=>?_) <;> (repeat rw [Ab] at h8) <;> conv=>whnf
    ·have hlw:(G3 g c).length=g.sl.toNat:=by simp [G3]
     have hi':i<(G3 g c).length:=by omega
     have hsx:=Ib (On g s c) hi';rw [show (G3 g c).getD i ⟨0, []⟩=⟨A_ g c (i:Nat),B3 g zeroC c (i:Nat)⟩ from JE (by omega)] at hsx;have hlx:(DU (On g s c) ((G3 g c).take i)).length=(A4 g).toNat:=by rw [E1,LM]
     generalize DU (On g s c) ((G3 g c).take i)=cs at hsx hlx |-
     have hla:=QS g c i hg hc01 (by omega);have hin:=Ez (n:=(A4 g).toNat) hg hcN.symm hc01 (s:=i) (by omega);have hrc:=Ll g zeroC c i (by decide);rw [Eo hg,show IG g c i=true by simp only [IG,Ad,AH];omega] at hrc;have hE:(cs.map BB).getD (A_ g c i).toNat []=BB (cs.getD (A_ g c i).toNat cz):=KG hlx (by omega);repeat' (refine z_ ?_;conv=>whnf)
     refine zZ hla ?_;conv=>whnf
     apply zX (0) tys_ok mixed (.o [0,1,2,3,4,5,6,7,8,9,10,11,12,13] .fin) (by kernel_rfl);conv=>whnf
     (refine zU [.ag (Bl g), .ag (Hi zeroC),ze c,ze i] (by repeat' (first | exact trivial | exact fun _ _ h=>h | exact Bt _ _ | refine Ah ?_ ?_ | refine B5 ?_)) ?_;refine zZ hrc ?_)
     conv=>whnf
     try (refine tI ?_;conv=>whnf)
     try (refine tS ?_;conv=>whnf)
     (first | rw [hE] | skip)
     conv=>whnf
     exact⟨i+1,by omega,by omega,zQ (s:= [0,1,2,3,4]) ⟨⟨rfl,rfl,rfl,rfl,rfl,rfl,rfl,rfl,AN (by omega),tv⟩,⟨rfl,rfl,rfl,rfl,congrArg (fun l=>some (AB.row _ _ l)) (by rw [hsx,Jj];try rfl),tv⟩,rfl,rfl,rfl,rfl,rfl⟩⟩
    ·have ei:i=(G3 g c).length:=by simp [G3];omega
     repeat' (refine z_ ?_;conv=>whnf)
     exact⟨c+1,by omega,by omega,zQ (s:= [0,1,2,3,4]) ⟨⟨rfl,rfl,rfl,rfl,rfl,AN (by omega),tv⟩,⟨rfl,rfl,rfl,rfl,by rw [ei,A5];try rfl,tv⟩,rfl,rfl,rfl,rfl,rfl⟩⟩
   ·have ec:c=2:=by omega
    subst ec;have hT:=SG g hg;have hB:=J4 g (E3 g) (by rw [E3,Bm];omega);rw [RA hg] at hB;refine zZ hT ?_;conv=>whnf
    refine zZ hB ?_;conv=>whnf
    refine zS Nat (fun z=>([(2, .bp 0 0),(4, .bp 1 0),(5,ze 0),(6, .bp 2 0),(10, .bp 3 0),(21,bA (Dg (E3 g))),(116,ze g.z),(117,ze z)], [.box 24 (Bl g), .box 38 [nilV,nilV,ze 0,ze 0], .box 28 (Fh (BN g s)), .box 38 [.ow 4 (A4 g).toNat,nilV,ze 0,ze (-1)], .row 68 3 ((GQ g s z).map BB)])) (fun z=>z<=g.z.toNat) (fun z=>g.z.toNat - z) 0 (Ak _)
     (zQ (s:= [0,1,2,3,4]) tA) ?_
    intro z hz;conv=>whnf
    refine AJ (fun h9=>?_) (fun h9=>?_) <;> (repeat rw [Ab] at h9) <;> conv=>whnf
    ·have htb:∀ k:Nat,k<2->0<=Be g z k/\Be g z k<((A4 g).toNat:Int):=fun k hk=>by unfold Be;omega
     have hmul:(z:Int)*CE g<=(g.z - 1)*CE g:=Ce (by omega) (by omega);have hz0:0<=(z:Int)*CE g:=Db (by omega) (by omega);have hsb:∀ k:Nat,(k:Int)<CE g->0<=Cz g z k/\Cz g z k<((A4 g).toNat:Int):=fun k hk=>by
      rw [<-hcN];unfold Cz A4;rw [Int.sub_mul,Int.one_mul] at hmul;omega
     repeat' (refine z_ ?_;conv=>whnf)
     refine zS Nat (fun k=>([(2, .bp 0 0),(4, .bp 1 0),(5,ze 0),(6, .bp 2 0),(10, .bp 3 0),(21,bA (Dg (E3 g))),(23,ze z),(116,ze g.z),(117,ze z),(120,ze k)], [.box 24 (Bl g), .box 38 [nilV,nilV,ze 0,ze 0], .box 28 (Fh (BN g s)), .box 38 [.ow 4 (A4 g).toNat,nilV,ze 0,ze (-1)], .row 68 3 ((DU (GQ g s z) ((Ig g z).take k)).map BB)])) (fun k=>k<=2) (fun k=>2 - k) 0 (Ak _)
      (zQ (s:= [0,1,2,3,4]) tA) ?_
     intro k hk;conv=>whnf
     refine AJ (fun h10=>?_) (fun h10=>?_) <;> (repeat rw [Ab] at h10) <;> conv=>whnf
     ·have hlw:(Ig g z).length=2:=by simp [Ig]
      have hk':k<(Ig g z).length:=by omega
      have hsx:=Ib (GQ g s z) hk';rw [show (Ig g z).getD k ⟨0, []⟩=⟨Be g z (k:Nat),CF (Be g z (k:Nat)) 0 (Dg (E3 g))⟩ from JE (by omega)] at hsx;have hlx:(DU (GQ g s z) ((Ig g z).take k)).length=(A4 g).toNat:=by rw [E1,Ge]
      generalize DU (GQ g s z) ((Ig g z).take k)=cs at hsx hlx |-
      have hgt:=JS g z k hg (by omega) (by omega);have hin:=htb k (by omega);have hmk:=IS (Be g z k) 0 (Dg (E3 g)) (Uw hg (by omega));have hE:(cs.map BB).getD (Be g z k).toNat []=BB (cs.getD (Be g z k).toNat cz):=KG hlx (by omega);repeat' (refine z_ ?_;conv=>whnf)
      refine zZ hgt ?_;conv=>whnf
      apply zX (0) tys_ok mixed (.o [0,1,2,3,4,5,6,7,8,9,10,11,12] .fin) (by kernel_rfl);conv=>whnf
      refine zZ hmk ?_;conv=>whnf
      try (refine tI ?_;conv=>whnf)
      try (refine tS ?_;conv=>whnf)
      (first | rw [hE] | skip)
      conv=>whnf
      exact⟨k+1,by omega,by omega,zQ (s:= [0,1,2,3,4]) ⟨⟨rfl,rfl,rfl,rfl,rfl,rfl,rfl,rfl,rfl,AN (by omega),tv⟩,⟨rfl,rfl,rfl,rfl,congrArg (fun l=>some (AB.row _ _ l)) (by rw [hsx,Jj];try rfl),tv⟩,rfl,rfl,rfl,rfl,rfl⟩⟩
     ·have ek:k=(Ig g z).length:=by simp [Ig];omega
      rw [ek,A5];have hpr:=H_ g hg;repeat' (refine z_ ?_;conv=>whnf)
      refine zZ hpr ?_;conv=>whnf
      refine zS Nat (fun i=>([(2, .bp 0 0),(4, .bp 1 0),(5,ze 0),(6, .bp 2 0),(10, .bp 3 0),(21,bA (Dg (E3 g))),(23,ze z),(116,ze g.z),(117,ze z),(144,ze (CE g)),(145,ze i)], [.box 24 (Bl g), .box 38 [nilV,nilV,ze 0,ze 0], .box 28 (Fh (BN g s)), .box 38 [.ow 4 (A4 g).toNat,nilV,ze 0,ze (-1)], .row 68 3 ((DU (DU (GQ g s z) (Ig g z)) ((GH g z).take i)).map BB)])) (fun i=>i<=(CE g).toNat) (fun i=>(CE g).toNat - i) 0 (Ak _)
       (zQ (s:= [0,1,2,3,4]) tA) ?_
      intro i hi;conv=>whnf
      refine AJ (fun h11=>?_) (fun h11=>?_) <;> (repeat rw [Ab] at h11) <;> conv=>whnf
      ·have hlw:(GH g z).length=(CE g).toNat:=by simp [GH]
       have hi':i<(GH g z).length:=by omega
       have hsx:=Ib (DU (GQ g s z) (Ig g z)) hi';rw [show (GH g z).getD i ⟨0, []⟩=⟨Cz g z (i:Nat),CF (Cz g z (i:Nat)) 0 zero8⟩ from JE (by omega)] at hsx;have hlx:(DU (DU (GQ g s z) (Ig g z)) ((GH g z).take i)).length=(A4 g).toNat:=by rw [E1,E1,Ge]
       generalize DU (DU (GQ g s z) (Ig g z)) ((GH g z).take i)=cs at hsx hlx |-
       have hgt:=P9 g z i hg (by omega) (by omega);have hin:=hsb i (by omega);have hmk:=IS (Cz g z i) 0 zero8 ⟨hin.1,by omega,CB _,by decide,by decide⟩;have hE:(cs.map BB).getD (Cz g z i).toNat []=BB (cs.getD (Cz g z i).toNat cz):=KG hlx (by omega);repeat' (refine z_ ?_;conv=>whnf)
       refine zZ hgt ?_;conv=>whnf
       apply zX (0) tys_ok mixed (.o [0,1,2,3,4,5,6,7,8,9,10,11,12] .fin) (by kernel_rfl);conv=>whnf
       (try (refine Ah ⟨rfl,by decide,by decide⟩ ?_;conv=>whnf);refine zR hmk.go ?_;(conv=>whnf);refine Ah rfl ?_;(conv=>whnf);refine zU [.ag [ze (Cz g z i),ze 0,bA zero8]] ⟨B5 ⟨ri,ri,fun c v h=>z8 rfl (fun i hi=>by have hi':i<8:=hi;rw [Ji (by exact hi'),M3 hi'];try rfl) h,tv⟩,tv⟩ ?_;refine zZ hmk ?_)
       conv=>whnf
       try (refine tI ?_;conv=>whnf)
       try (refine tS ?_;conv=>whnf)
       (first | rw [hE] | skip)
       conv=>whnf
       all_goals exact⟨i+1,by omega,by omega,zQ (s:= [0,1,2,3,4]) ⟨⟨rfl,rfl,rfl,rfl,rfl,rfl,rfl,rfl,rfl,rfl,AN (by omega),tv⟩,⟨rfl,rfl,rfl,rfl,congrArg (fun l=>some (AB.row _ _ l)) (by rw [hsx,Jj];try rfl),tv⟩,rfl,rfl,rfl,rfl,rfl⟩⟩
      ·have ei:i=(GH g z).length:=by simp [GH];omega
       repeat' (refine z_ ?_;conv=>whnf)
       exact⟨z+1,by omega,by omega,zQ (s:= [0,1,2,3,4]) ⟨⟨rfl,rfl,rfl,rfl,rfl,rfl,rfl,AN (by omega),tv⟩,⟨rfl,rfl,rfl,rfl,by rw [ei,A5];try rfl,tv⟩,rfl,rfl,rfl,rfl,rfl⟩⟩
    ·have ez:z=g.z.toNat:=by omega
     subst ez;refine⟨(by rw [Aa,Ge]),?_⟩;exact⟨.tp [.ag (Me (DJ g s)),iv 0],Cc ⟨B5 ⟨Ck (f:=BB) (GQ g s g.z.toNat) (by rw [Ge]) rfl,Bt 2 _,ri,ri,tv⟩,ri,tv⟩,rfl⟩
section
variable {g:Geo} {s:ByteArray} {a b:An} {fill:UInt8} {sizes:List Int} {d:Dk}
theorem LE {F:Int->List UInt8} {n:Int} (h:Holds d n F) (l:List Int) (hl:∀ x∈l,0<=x/\x<n):B6 d l=l.map fun x=>⟨0,F x⟩:=by
 unfold B6;refine Du fun x hx=>?_
 exact h.got (hl x hx).1 (hl x hx).2
theorem MQ (hg:Bq g=true) {c:Int} (hc:c=0\/c=1):∀ x∈BI g c,0<=x/\x<A4 g:=fun x hx=>by
 obtain⟨g1,g2,g3,g4,g5⟩:=Az.1 hg;have hcg:=Eg hg;simp only [BI,AM,AK] at hx;obtain⟨i,hi,rfl⟩:=hx;have:=Hq (g:=g) hc (s:=(i:Nat)) (by omega);omega
theorem T0 {F:Int->List UInt8} (hg:Bq g=true) {c:An} (h:Holds d (A4 g) F) {r:Int} {l:Int}:Holds ⟨C7 d.cells (AT g c), [],r,l⟩ (A4 g) (fun x=>if x<g.an then Dr c x else F x):=by
 obtain⟨g1,g2,g3,g4,g5⟩:=Az.1 hg;have hcg:=Eg hg;refine⟨by rw [<-h.len];show ((C7 d.cells _).length:Int)=_;rw [finL_len],rfl,fun x h0 h1=>?_⟩;obtain⟨e1,e2⟩:=h.cell x h0 h1;have hlt:x.toNat<d.cells.length:=by have:=h.len;omega
 show ((C7 d.cells _).getD x.toNat cz).state=0/\((C7 d.cells _).getD x.toNat cz).bytes=_;have hmem:∀ w∈AT g c,∃ i:Nat,i<g.an.toNat/\w=⟨(i:Nat),Dr c (i:Nat)⟩:=fun w hw=>by
  simp only [AT,AM,AK] at hw
  grind
 by_cases hx:x<g.an
 ·rw [if_pos hx];refine LZ _ _ _ hlt (by rw [e1];decide) (fun w hw hwa=>?_) (.inl ⟨⟨x,Dr c x⟩,?_,rfl⟩)
  ·grind
  ·simp only [AT,AM,AK]
   grind
 ·rw [if_neg hx,finL_miss _ _ _ hlt (fun w hw e=>?_)]
  ·grind
  ·grind
theorem V4 {n:Int} {F:Int->List UInt8} (h:Holds d n F) (l:List Wr) (hl:∀ w∈l,0<=w.addr/\w.addr<n):l.filter (free d.cells)=l:=by
 rw [List.filter_eq_self];intro w hw;unfold free;rw [(h.cell w.addr (hl w hw).1 (hl w hw).2).1];try rfl
end






section
variable {g:Geo} {s:ByteArray} {b:An} {fill:UInt8} {sizes:List Int} {D:Dk}
end
theorem StSm.big {S:Stt} (h:StSm S):StBig S:=
 ⟨by have:=h.l;omega,by have:=h.h.1;omega,⟨by have:=h.t.1;omega,fun t ht=>⟨by have:=(h.t.2 t ht).1;omega,fun x hx=>by have:=(h.t.2 t ht).2 x hx;omega⟩⟩,by have:=h.o;omega⟩
structure Vol (g:Geo) (K:Int) (d:Dk) (s:Stt):Prop where
 gd:∃ F,Gd (A4 g) d F
 an:B4 g s.a=true
 ring:CL g s.txns s.a.seq s.a.pos g.sl=true
 rest:s.only=false/\s.cursor=0/\s.found=0/\s.fixed=0/\s.moved=0/\s.lost=[]
 gen:s.a.gen<=K
 seq:s.a.seq+s.txns.length<=K
 one:∀ t∈s.txns,OneTab t.images
theorem Jt {g:Geo} {a:An} (ha:B4 g a=true):(0<=a.gen/\a.gen<=4294967295)/\(1<=a.seq/\a.seq<=4294967295)/\(0<=a.pos/\a.pos<g.sl)/\(a.homes.length:Int)=g.z:=by
 simp only [B4,Bf,BT,BJ,Ad,decide_eq_true_eq,AH] at ha;omega
theorem Ko {g:Geo}:∀ {l:List Tx} {seq pos a b:Int},a<=b->CL g l seq pos a=true->CL g l seq pos b=true
 | [],_,_,_,_,_,_=>rfl
 | t::r,seq,pos,a,b,hab,h=>by
  simp only [CL,Ad,decide_eq_true_eq] at h |-
  obtain⟨⟨h1,h2,h3,h4,h5,h6,h7⟩,h8⟩:=h;exact⟨⟨h1,h2,h3,h4,by omega,h6,h7⟩,Ko (by omega) h8⟩
theorem Ft {g:Geo}:∀ {l:List Tx} {seq pos left:Int},CL g l seq pos left=true->∀ t∈l,t.images.all (BV g)=true/\t.n=t.images.length+1/\2<=t.n/\t.n<=max left 0
 | t::r,seq,pos,left,h,x,hx=>by
  simp only [CL,Ad,decide_eq_true_eq] at h;obtain⟨⟨h1,h2,h3,h4,h5,h6,h7⟩,h8⟩:=h;rcases AS.1 hx with rfl | hx
  ·grind
  ·have:=Ft h8 x hx
   grind
theorem JO {g:Geo} (hg:Bq g=true) {x:Img} (h:BV g x=true):x.bytes.length<=45:=by
 obtain⟨g1,g2,g3,g4,g5⟩:=Az.1 hg;by_cases hw:x.what=255
 ·simp only [BV,Ad] at h;have h2:=h.2.2;rw [if_pos hw] at h2;by_cases hl:x.bytes.length=9*(g.d+1).toNat
  ·omega
  ·rw [SW (.inl hl)] at h2;cases h2
 ·have:=(JN h).2 hw;omega
theorem Vol.st {g:Geo} {K:Int} {d:Dk} {s:Stt} (hg:Bq g=true) (h:Vol g K d s):Zu g d s=true:=by
 obtain⟨F,hF⟩:=h.gd;obtain⟨r1,r2,r3,r4,r5,r6⟩:=h.rest;have hu:=Uq hg;have hh:LH g s=true:=by
  unfold LH;rw [r3,r4,r5,r6];try rfl
 unfold Zu;rw [hg,Ps.2 hF.ok,decide_eq_true hF.len,h.an,h.ring,r2,hh,decide_eq_true (show (0:Int)<KY g by omega)];try rfl
theorem Vol.sm {g:Geo} {K:Int} {d:Dk} {s:Stt} (hg:Bq g=true) (h:Vol g K d s):StSm s:=by
 obtain⟨g1,g2,g3,g4,g5⟩:=Az.1 hg;have hr:=Ft h.ring;have hin:=FV hg (CB _) h.ring;have hlen:(s.txns.length:Int)<=30:=by
  have:∀ l:List Tx,(∀ t∈l,2<=t.n)->2*(l.length:Int)<=sumT l:=by
   intro l;induction l with
   | nil=>intro _;simp [sumT]
   | cons t r ih=>
    intro hl;have h1:=hl t (by simp);have h2:=ih fun x hx=>hl x (Bb _ hx)
    rw [sumT,Ao];omega
  grind
 refine⟨⟨(DB hg h.an 0 (Ak _)).2.1,fun x hx=>K2 hg h.an x hx⟩,(DB hg h.an 0 (Ak _)).2.2.2.1,⟨by omega,fun t ht=>?_⟩,by rw [h.rest.2.2.2.2.2];simp⟩;obtain⟨q1,q2,q3,q4⟩:=hr t ht;refine⟨by omega,fun i hi=>?_⟩;have:=JO hg (Av.1 q1 i hi);omega
theorem Vol.add {g:Geo} {K:Int} {d d':Dk} {s:Stt} (hg:Bq g=true) (h:Vol g K d s) (hK:K<=4294967294) (hd:∃ F,Gd (A4 g) d' F) {x:Tx} (e1:x.seq=s.a.seq+s.txns.length) (e3:x.pos=(s.a.pos+Ea s.txns).tmod g.sl) (e4:2<=x.n) (e5:x.n<=g.sl - Ea s.txns) (e6:x.n=x.images.length+1) (e7:∀ y∈x.images,BV g y=true) (e8:OneTab x.images):Vol g (K+1) d' { s with txns:=s.txns ++ [x] }:=by
 obtain⟨a1,a2,a3,a4⟩:=Jt h.an;have hin:=FV hg (CB _) h.ring;rw [S8 hin.1] at e3 e5;have hs:=h.seq;refine⟨hd,h.an,Kn hg a3.1 a3.2 (CB _) h.ring e1 (by omega) e3 e4 e5 e6 (Av.2 e7),h.rest,by have:=h.gen;show s.a.gen<=K+1;omega,?_,fun t ht=>?_⟩
 ·grind
 ·rcases Ay.1 ht with q | q
  ·exact h.one t q
  ·grind
theorem Vol.home {g:Geo} {K:Int} {d d':Dk} {s:Stt} (hg:Bq g=true) {x:Tx} {r:List Tx} (hx:s.txns=x::r) (h:Vol g K d s) (hK:K<=4294967294) (hd:∃ F,Gd (A4 g) d' F):Vol g (K+1) d' { s with a:=OL g s.a x,txns:=r }:=by
 obtain⟨a1,a2,a3,a4⟩:=Jt h.an;have hs:=h.seq;have hgn:=h.gen;have hr:=h.ring;rw [hx,Ao] at hs;rw [hx] at hr;have hin:=(FV hg (CB _) hr).1 x (by simp);simp only [CL,Ad,decide_eq_true_eq] at hr;obtain⟨⟨h1,h2,h3,h4,h5,h6,h7⟩,h8⟩:=hr;refine⟨hd,U0 hg h.an (by omega) (by omega) h1 (by omega) (by omega),?_,h.rest,by show s.a.gen+1<=K+1;omega,?_,fun t ht=>h.one t (by rw [hx];exact Bb _ ht)⟩
 ·show CL g r (s.a.seq+1) ((x.pos+x.n).tmod g.sl) g.sl=true;rw [h3];exact Ko (by omega) h8
 ·show s.a.seq+1+(r.length:Int)<=K+1;omega
theorem Oy {g:Geo} {a:An} {w:Wr} (hw:w∈AT g a):∃ i:Nat,(i:Int)<g.an/\w=⟨(i:Nat),Dr a (i:Nat)⟩:=by
 simp only [AT,AM,AK] at hw
 grind
def Uy (g:Geo) (a:An) (x:Tx) (F:Int->List UInt8):Int->List UInt8:=M9 (M9 F (L9 g a x.seq x.images)) (AT g (OL g a x))

theorem PB {g:Geo} {lb:ByteArray} (hg:Bq g=true) {d:Dk} (h:Holds d (A4 g) (FM g lb)) {c:Int} (hc:c=0\/c=1):B6 d (BI g c)=FQ g [] 0 c g.sl.toNat:=by
 rw [LE h _ (MQ hg hc)];unfold BI FQ;rw [List.map_map];refine Du fun i hi=>?_
 have hi:=AK.1 hi;show (⟨0,FM g lb (A_ g c (i:Nat))⟩:Gt)=_;rw [Jl hc (by omega)];try rfl
theorem OW {g:Geo} {lb:ByteArray} (hg:Bq g=true) {b:An} (hp:b.pos=0) (hl:¬b.seq - 1<b.last) {d:Dk} (h:Holds d (A4 g) (FM g lb)):G_ g b (B6 d (BI g 0)) (B6 d (BI g 1))=([], [],0):=by
 obtain⟨g1,g2,g3,g4,g5⟩:=Az.1 hg;have hok:LogOk g [] 0:=⟨by simp,by simp,fun s i k _ h=>(nomatch (show (none:Option (Nat × Int))=some (i,k) from h)),fun s _=>Eo hg⟩;rw [WH,PB hg h (.inl rfl),PB hg h (.inr rfl),RG hg hok (.inl rfl),RG hg hok (.inr rfl)];obtain⟨n,hn⟩:∃ n,g.sl.toNat=n+1:=⟨g.sl.toNat - 1,by omega⟩;have hz:GI g [] 0 (fun _=>false) 0=some zeroC:=by
  unfold GI;rw [if_pos (by omega)];try rfl
 have hs:Ex g 0 0=0:=by
  show (IntKind.i64.wrap 0).tmod g.sl=0;rw [show IntKind.i64.wrap 0=0 from rfl,Int.zero_tmod]
 have h0:Ff zeroC b b.seq 0 0 g.sl=false:=decide_eq_false fun h=>h.1 rfl
 have hr:(Y4 g b (GI g [] 0 fun _=>false) (GI g [] 0 fun _=>false) 0 b.seq g.sl 0 0).2.1=2:=by
  show (FD (GI g [] 0 (fun _=>false) (Ex g 0 0)) (GI g [] 0 (fun _=>false) (Ex g 0 0)) (JH (GI g [] 0 (fun _=>false) (Ex g 0 0)) b b.seq 0 0 g.sl) (JH (GI g [] 0 (fun _=>false) (Ex g 0 0)) b b.seq 0 0 g.sl)).2.2=2;rw [hs,hz];show (FD (some zeroC) (some zeroC) (Ff zeroC b b.seq 0 0 g.sl) (Ff zeroC b b.seq 0 0 g.sl)).2.2=2;rw [h0];try rfl
 have ht:(W8 g b (GI g [] 0 fun _=>false) (GI g [] 0 fun _=>false) 0 b.seq g.sl).1=2:=by
  unfold W8;simp only;rw [if_pos (by rw [hr];decide)];exact hr
 unfold U3;rw [hn,hp,Lh];split
 ·simp only;rw [ht,if_neg (by decide),if_pos (by decide),LY hl]
 ·exact LY hl
theorem Rg {g:Geo} {lb:ByteArray} (hg:Bq g=true) (hb:B4 g (BN g lb)=true) (x:Int):(FM g lb x).length<=200:=by
 unfold FM;split
 ·exact Ju hg hb x
 ·split
  ·exact Cd (Eo hg) _ _
  ·split
   ·exact Cd (Eo hg) _ _
   ·split
    ·rw [EB,ER];unfold E3;rw [Bm];have:=(Az.1 hg).2.1;omega
    ·rw [EB];decide
theorem X9 {g:Geo} {lb:ByteArray} (hg:Bq g=true) (hb:B4 g (BN g lb)=true):DkOk (DJ g lb):=by
 have hcb:=Gh hg;have h:=Ia (g:=g) (s:=lb) hg;have hlen:=h.len;refine⟨by omega,by rw [h.cache];simp,by show (0:Int)<=0/\(0:Int)<=_;decide,by show (-1:Int)<= -1/\(-1:Int)<=_;decide,fun c hc=>?_,fun w hw=>by rw [h.cache] at hw;cases hw⟩;obtain⟨i,hi,rfl⟩:=List.getElem_of_mem hc;have hci:=PE (g:=g) (s:=lb) hg (a:=((i:Nat):Int)) (by omega) (by omega);have e:(DJ g lb).cells.getD ((i:Nat):Int).toNat cz=(DJ g lb).cells[i]:=by
  rw [Ab,Ac,Af hi];try rfl
 rw [e] at hci;rw [hci];exact⟨⟨CB _,by show (0:Int)<=2;decide⟩,Rg hg hb _,by simp⟩
theorem US {g:Geo} {lb:ByteArray} (hg:Bq g=true) (hb:B4 g (BN g lb)=true) {d:Dk} (h:Holds d (A4 g) (FM g lb)):FW g (B6 d (Dl g))=some (BN g lb,(Z_ (FW g (B6 d (Dl g))))):=by
 obtain⟨g1,g2,g3,g4,g5⟩:=Az.1 hg;have hcg:=Eg hg;have hsp:=Lm g (B6 d (Dl g)) (B6 d (Dl g)).length;rw [DC,Es] at hsp;have hsay:∀ i,i<g.an.toNat->DF g ((B6 d (Dl g)).getD i ⟨0, []⟩) (i:Nat)=some (BN g lb):=fun i hi=>by
  rw [Rz hi,h.got (by omega) (by omega),Sh (by omega)];exact Q8 hg hb (by omega)
 have hpk:FW g (B6 d (Dl g))=E6 g (B6 d (Dl g)) g.an.toNat:=by rw [FW,DC,Es]
 rw [hpk];cases hP:E6 g (B6 d (Dl g)) g.an.toNat with
 | none=>
  have:=hsp.1 hP 0 (by omega);rw [hsay 0 (by omega)] at this;cases this
 | some q=>
  obtain⟨a0,j⟩:=q;obtain⟨q1,q2,q3⟩:=hsp.2 a0 j hP;rw [hsay j q1] at q2;cases q2;rfl
structure LogB (l:List Tx):Prop where
 n:l.length<=1000000
 i:∀ t∈l,t.images.length<=1000000/\∀ x∈t.images,x.bytes.length<=1000000000
def Fj (g:Geo) (s:Stt) (F:Int->List UInt8) (z:Int):Option (List Ent):=match CG s.txns z 255 with
 | some p=>CT g p.1.bytes
 | none=>match Cy g ⟨0,F (Be g z 0)⟩ (Be g z 0) (Dv s.a s.txns z) with
  | some t=>some t
  | none=>Cy g ⟨0,F (Be g z 1)⟩ (Be g z 1) (Dv s.a s.txns z)
def G1 (g:Geo) (s:Stt) (F:Int->List UInt8) (t:List Ent) (z w:Int):List UInt8:=match CG s.txns z w with
 | some p=>p.1.bytes
 | none=>(DE ⟨0,F (D3 g s.a z w)⟩ (D3 g s.a z w) (t.getD (Et g w).toNat ez)).getD []
def Mr (b:List UInt8):List AV:= [bA b]
theorem ConvF.sealTp {fr:Fr} {H:List AB} (i k:Nat) {x z:AV} {t:TypeId} {sz:Nat} {es:List (List AV)} (hx:fget fr i = .tp [x, .ow k es.length,z]) (hk:hget H k=some (.row t sz es)):ConvF fr H ((i, .tp [x, .sl sz es.length fun j=>es.getD j [],z])::fr) (H.set k .dead):=fun _ _ c _ _ hs hf=>by
 rw [hget_eq] at hk;obtain⟨c1,e1,s1,x1,r1⟩:=hs.freeze hk;refine⟨c1,e1,s1,(hf.ext x1).cons i _ ?_,x1⟩;have h0:=hf.get i;have h1:=(hf.ext x1).get i;rw [hx] at h0 h1;simp only [Rd] at h0 h1;obtain⟨us,e,h0⟩:=h0;obtain⟨us',e',h1⟩:=h1;have eu:us'=us:=by
  have:=e.symm.trans e';injection this with this
  simpa using this.symm
 subst eu;obtain⟨y1,l1,rfl,a1,y2,l2,rfl,a2,y3,l3,rfl,a3,rfl⟩:=h0;obtain⟨z1,m1,q1,b1,z2,m2,q2,b2,z3,m3,q3,b3,q4⟩:=h1;subst q2 q3 q4;simp only [List.cons.injEq,and_true] at q1;obtain⟨rfl,rfl,rfl⟩:=q1;simp only [Rd];exact⟨_,e,_,_,rfl,b1,_,_,rfl,r1 _ a2,_,_,rfl,b3,rfl⟩
theorem FO {L:List (List UInt8)} {n:Nat} {es:List (List AV)} (hn:n=L.length) (he:es=L.map Mr) (c:Ctx) (v:Value) (h:Rd (.sl 1 n fun i=>es.getD i []) c v):Rd (GS L) c v:=Ck (f:=Mr) L hn he c v h
def T4 (g:Geo) (s:Stt) (F:Int->List UInt8) (t:List Ent) (z:Int) (k:Nat):List (List UInt8):=(List.range k).map fun i=>G1 g s F t z (i:Nat)
def CY (g:Geo) (s:Stt) (F:Int->List UInt8) (t:List Ent) (z:Int):List (List UInt8):=T4 g s F t z g.d.toNat ++ [G1 g s F t z (-1)]
theorem KE {g:Geo} {s:Stt} {F:Int->List UInt8} {z:Int} {t:List Ent} (h:Fj g s F z=some t):HU g t=true:=by
 have hr:∀ {b:List UInt8} {t:List Ent},CT g b=some t->HU g t=true:=fun {b t} h=>by
  unfold CT at h;split at h
  ·rename_i hh;obtain rfl:=Option.some.inj h;exact hh.1
  ·cases h
 have ho:∀ {x:Gt} {a r:Int} {t:List Ent},Cy g x a r=some t->HU g t=true:=fun {x a r t} h=>by
  unfold Cy at h;split at h
  ·split at h
   ·exact hr h
   ·cases h
  ·cases h
 unfold Fj at h;split at h
 ·exact hr h
 ·split at h
  ·rename_i hh;obtain rfl:=Option.some.inj h;exact ho hh
  ·exact ho h
theorem Jb {g:Geo} {t:List Ent} (h:HU g t=true):(t.length:Int)=g.d+1:=by
 unfold HU at h
 grind
theorem Ja {g:Geo} {s:Stt} {F:Int->List UInt8} {t:List Ent} {z w:Int} (hi:∀ t∈s.txns,∀ x∈t.images,BV g x=true) (hw:w≠255):(G1 g s F t z w).length=0\/(G1 g s F t z w).length=8:=by
 unfold G1;split
 ·rename_i p hp;obtain⟨x,q⟩:=p;obtain⟨t',ht, -,hx, -,e⟩:=M_ (Ag _) hp;exact .inr ((JN (hi t' ht x hx)).2 (by rw [e];exact hw)).2.2
 ·unfold DE;split
  ·split
   ·rename_i h;exact .inr h.2.1
   ·exact .inl rfl
  ·exact .inl rfl
theorem Ga {L:List Int} {n:Nat} {es:List (List AV)} (hn:n=L.length) (he:es=L.map fun x=> [AV.v (.int .i64 x)]) (c:Ctx) (v:Value) (h:Rd (.sl 1 n fun i=>es.getD i []) c v):Rd (iA L) c v:=Ck (f:=fun x=> [AV.v (.int .i64 x)]) L hn he c v h
def Hs (g:Geo) (s:Stt) (F:Int->List UInt8) (seq lba:Int) (b:List UInt8):List Img:=match Fj g s F (lba.tdiv g.d) with
 | some t=>C3 (lba.tdiv g.d) (BK g t (CY g s F t (lba.tdiv g.d)) [lba.tmod g.d] [b] seq) (ET g t (CY g s F t (lba.tdiv g.d)) [lba.tmod g.d] [b] g.d.toNat) [lba.tmod g.d] [b]
 | none=> []
theorem WN {L L':List Img} {n:Nat} (e:L=L') (hn:n=L'.length) (c:Ctx) (v:Value) (h:Rd (.sl 3 n fun j=>((List.range L'.length).map fun i=>GO (L'.getD i ⟨0,0, []⟩)).getD j []) c v):Rd (EU L) c v:=by
 subst e;refine z8 hn (fun i hi=>?_) h;have:i<L.length:=by omega
 simp [this]
theorem WS {g:Geo} {seq epoch:Int} {x:Img} (hg:Bq g=true) (h2:CH seq 0 4294967295=true) (h3:CH epoch 0 4294967295=true) (h7:BV g x=true) {k n:Nat} (hk:k<n) (hn:n=3):EE g ⟨1,seq,epoch,(k:Nat),n+1,x⟩=true:=by
 simp only [EE,hg,EY,In,h2,h3,h7,B8,BJ];simp only [if_neg (show ¬(1:Int)=0 by omega),if_true,Ad,AH];omega
theorem WR {g:Geo} {seq epoch:Int} (hg:Bq g=true) (h2:CH seq 0 4294967295=true) (h3:CH epoch 0 4294967295=true) {n:Nat} (hn:n=3):EE g ⟨2,seq,epoch,(n:Nat),n+1,noImg⟩=true:=by
 subst hn;simp only [EE,hg,EY,In,h2,h3,B8];simp only [if_neg (show ¬(2:Int)=0 by omega),if_neg (show ¬(2:Int)=1 by omega),if_true,Ad,AH,beq_iff_eq,Ip,noImg];simp
@[reducible] def rwQ (g:Geo) (a:An) (l:List Tx) (x:Tx) (d:Dk):List AB:= [.box 132 (ZZ g (.bp 1 0) (.ow 4 a.homes.length) (.ow 5 (l.length+1)) (Bk a l) 0), .box 133 (II (.ow 2 d.cells.length) (.ow 6 d.cache.length) d.reqs d.left), .row 68 3 (d.cells.map BB), .dead, .row 108 3 (a.homes.map Mp), .row 170 4 (l.map Ii ++ [Ii x]), .row 152 2 (d.cache.map E9)]
def FN (g:Geo) (a:An) (l:List Tx) (F:Int->List UInt8) (lba:Int) (b:List UInt8):Tx:=⟨a.seq+(l.length:Int),(a.pos+Ea l).tmod g.sl,4,Hs g (Bk a l) F (a.seq+(l.length:Int)) lba b⟩
theorem in01:(0:Int)<=((0:Nat):Int)/\((0:Nat):Int)<((1:Nat):Int):=by decide
def ai (A:Int) (p:Bool):AV:=match p with
 | true=>iA [A]
 | false=> .v (.slice none 0 0)
def aG (b:List UInt8) (p:Bool):AV:=match p with
 | true=>GS [b]
 | false=> .v (.slice none 0 0)
def Z8 (L:List Img) (p:Bool):AV:=match p with
 | true=>EU L
 | false=> .v (.slice none 0 0)
theorem PY {g:Geo} (hg:Bq g=true) {r:Rc} (hr:EE g r=true) {c s:Int} (hc:c=0\/c=1) (hs:0<=s/\s<g.sl):Ca (B3 g r c s)=A_ g c s:=by
 have hb:=G4 hg (Lq hc hs);have h1:=NT hr;have h2:=EC hr;exact(H8 (a:=A_ g c s) (s:=r.seq) (p:=Ej r) ⟨hb.1,by omega,h1.1,h1.2,by omega⟩).2.1
def Zh (b:Bool):List AV:= [.v (.bool b)]
def ZG (l:List Bool):AV:= .sl 1 l.length fun i=>Zh (l.getD i false)
theorem Zg {L:List Bool} {n:Nat} {es:List (List AV)} (hn:n=L.length) (he:es=L.map Zh) (c:Ctx) (v:Value) (h:Rd (.sl 1 n fun i=>es.getD i []) c v):Rd (ZG L) c v:=Ck (f:=Zh) L hn he c v h
theorem BF {l:List Nat} {m:Nat} (h:(l.all fun z=>Nat.ble (z+1) m)=true):∀ z∈l,z<m:=fun z hz=>Ae (Av.1 h z hz)
theorem W0 (g:Geo) (t:List Ent) (had:List (List UInt8)) (hg:Bq g=true) (ht:HU g t=true) (hh:(had.length:Int)=g.d+1) (h8:∀ b∈had,b.length=8) (hlo:∀ i,i<t.length->(t.getD i ez).lost=false):Fn Tryz.prog 226 [.ag (Bl g), .ag [BW t],GS had] fun r=>r = .tp [GS had,ZG (List.replicate had.length true),iv 0]:=by
 obtain⟨g1,g2,g3,g4,g5⟩:=Az.1 hg;have htl:=Jb ht;have hb:=Sw g t had hg ht (by omega) hh h8;have hd1:IntKind.i64.wrap (g.d+1)=g.d+1:=wi (by omega);refine zT Tryz.func226 rfl ?_;conv=>whnf
 refine zW hb rfl ?_;rintro _ _ ⟨rfl,rfl⟩;conv=>whnf
 rw [hd1];refine zS Nat (fun k=>([(6, .ow 3 k),(7, .ow 4 k),(9, .bp 2 0),(25,iv (g.d+1)),(26,iv (k:Nat))], [.box 24 (Bl g), .box 145 [BW t], .box 348 [iv g.d,BW t,GS had], .row 22 1 ((had.take k).map Mr), .row 4 1 ((List.replicate k true).map Zh)])) (fun k=>k<=had.length) (fun k=>had.length - k) 0 (Ak _)
  ⟨_,_,zq _ _, [(6,22,1),(7,4,1)],tA, [0,1,2,3,4],tA,tA,rfl,rfl,rfl,rfl,rfl⟩ ?_
 intro k hk;by_cases hkn:k<had.length
 ·have hkk:=Sv g t had k (by omega) hkn h8 (hlo k (by omega));have e1:(had.take k).map Mr ++ [Mr (had.getD k [])]=(had.take (k+1)).map Mr:=by
   rw [Bg,Af hkn,A2,Ac,Af hkn];try rfl
  have e2:(List.replicate k true).map Zh ++ [Zh true]=(List.replicate (k+1) true).map Zh:=by
   rw [List.replicate_succ',A2];try rfl
  conv=>whnf
  rw [show decide ((k:Int)<g.d+1)=true from decide_eq_true (by omega)];conv=>whnf
  repeat' (refine z_ ?_;conv=>whnf)
  refine ze9 [2] hkk ?_;rintro _ _ ⟨rfl,rfl⟩;conv=>whnf
  repeat' (refine z_ ?_;conv=>whnf)
  refine⟨rfl,?_⟩;conv=>whnf
  refine Ah ⟨by rw [Aa,As];omega,by omega⟩ ?_;refine⟨rfl,?_⟩;refine⟨⟨by rw [Aa,Bm],by omega⟩,?_⟩;exact⟨k+1,by omega,by omega,zQ (s:= [0,1,2,3,4]) ⟨⟨rfl,rfl,rfl,rfl,AN (by omega),tv⟩,⟨rfl,rfl,rfl,congrArg (fun es=>some (AB.row 22 1 es)) e1,congrArg (fun es=>some (AB.row 4 1 es)) e2,tv⟩,rfl,rfl,rfl,rfl,rfl⟩⟩
 ·have ek:k=had.length:=by omega
  subst ek;conv=>whnf
  rw [show decide (((had.length:Nat):Int)<g.d+1)=false from decide_eq_false (by omega)];conv=>whnf
  repeat' (refine z_ ?_;conv=>whnf)
  rw [A5];refine⟨(by rw [Aa]),?_⟩;refine⟨(by rw [Aa,Bm]),?_⟩;exact⟨.tp [GS had,ZG (List.replicate had.length true),iv 0],Cc (m:= [GS had,ZG (List.replicate had.length true),iv 0]) ⟨FO rfl rfl,Zg (by rw [Bm]) rfl,ri,tv⟩,rfl⟩
theorem WE (A p:Int):Fn Tryz.prog 153 [iA [A],iv p] fun r=>r = iv (if A=p then 0 else -1):=by
 refine zT Tryz.func153 rfl ?_;conv=>whnf
 refine zC 2 ?_;conv=>whnf
 refine Ah ⟨by decide,by show (0:Int)<1;decide⟩ ?_;conv=>whnf
 rw [show [A].getD (Int.toNat 0) 0=A from rfl];by_cases h:A=p
 ·rw [show (p == A)=true from beq_iff_eq.2 h.symm,if_pos h];exact⟨_,ri,rfl⟩
 ·rw [show (p == A)=false from beq_eq_false_iff_ne.2 (Ne.symm h),if_neg h];conv=>whnf
  repeat' (refine z_ ?_;conv=>whnf)
  exact⟨_,ri,rfl⟩
section
variable {g:Geo} {t:List Ent} {had:List (List UInt8)} {A:Int} {b:List UInt8} {stamp:Int}
theorem XV (A:Int) (b:List UInt8) (i:Nat):E7 [A] [b] i 1=if A=(i:Int) then some b else none:=rfl
theorem X_ (h8:∀ b∈had,b.length=8) (hlo:∀ i,i<t.length->(t.getD i ez).lost=false) {i:Nat} (hi:i<t.length) (hi2:i<had.length):G2 g t had [A] [b] i=if A=(i:Int) then b else had.getD i []:=by
 unfold G2;show (match E7 [A] [b] i 1 with | some b=>b | none=>FL g t had i)=_;rw [XV];by_cases h:A=(i:Int)
 ·rw [if_pos h,if_pos h]
 ·rw [if_neg h,if_neg h];show FL g t had i=_;unfold FL;rw [hlo i hi,if_neg (by decide),if_pos (by rw [h8 _ (A9 hi2)];decide)]
theorem XZ (h8:∀ b∈had,b.length=8) (hb:b.length=8) (hlo:∀ i,i<t.length->(t.getD i ez).lost=false) {i:Nat} (hi:i<t.length) (hi2:i<had.length):(G2 g t had [A] [b] i).length=8:=by
 rw [X_ h8 hlo hi hi2];split
 ·exact hb
 ·exact h8 _ (A9 hi2)
theorem Z2 (h8:∀ b∈had,b.length=8) (hb:b.length=8) (hlo:∀ i,i<t.length->(t.getD i ez).lost=false) {i:Nat} (hi:i<t.length) (hi2:i<had.length):NZ g t had [A] [b] stamp i=if A=(i:Int) then ⟨stamp,(DD b:Nat),false⟩ else t.getD i ez:=by
 unfold NZ;rw [if_neg (by rw [XZ h8 hb hlo hi hi2];decide)];show (match E7 [A] [b] i 1 with | some b=>_ | none=>_)=_;rw [XV];by_cases h:A=(i:Int)
 ·rw [if_pos h,if_pos h]
 ·rw [if_neg h,if_neg h]
def GG (g:Geo) (t:List Ent) (had:List (List UInt8)) (A:Int) (b:List UInt8) (k:Nat):List (List UInt8):=(List.range k).map (G2 g t had [A] [b])
theorem ON {n:Nat} (h:∀ i:Nat,i<n->(G2 g t had [A] [b] i).length=8):∀ k,k<=n->K4 (GG g t had A b k)=ET g t had [A] [b] k
 | 0,_=>rfl
 | k+1,hk=>by
  have ih:=ON h k (by omega);unfold K4 GG at ih |-
  rw [BD,A2,Cb,ih,ET,if_neg (by rw [h k (by omega)];decide)];try rfl
end
theorem Qz (g:Geo) (t:List Ent) (had:List (List UInt8)) (A:Int) (b:List UInt8) (stamp:Int) (hg:Bq g=true) (ht:HU g t=true) (hh:(had.length:Int)=g.d+1) (h8:∀ b∈had,b.length=8) (hlo:∀ i,i<t.length->(t.getD i ez).lost=false) (hA:0<=A/\A<g.d) (hb:b.length=8) (hs:0<=stamp/\stamp<=4294967295) :
  Fn Tryz.prog 145 [.ag (Bl g), .ag [BW t],GS had,iA [A],GS [b],iv stamp] fun r=>r = .tp [.ag [BW (BK g t had [A] [b] stamp)],bA (ET g t had [A] [b] g.d.toNat),iv 0]:=by
 obtain⟨g1,g2,g3,g4,g5⟩:=Az.1 hg;have htl:=Jb ht;have hz:=W0 g t had hg ht hh h8 hlo;have hr:=Kh g A hA;have hw:=J5 [b] (show 1<=1000000 by decide) (fun x hx=>by rw [A8] at hx;rw [hx];exact hb);have htw:=SD t (by omega);have hB8:∀ i:Nat,i<g.d.toNat->(G2 g t had [A] [b] i).length=8:=fun i hi=>XZ h8 hb hlo (by omega) (by omega)
 have em:=PN stamp b hs hb;refine zT Tryz.func145 rfl ?_;conv=>whnf
 refine zZ hz ?_;conv=>whnf
 refine zZ hr ?_;conv=>whnf
 rw [show decide (stamp<0)=false from decide_eq_false (by omega)];conv=>whnf
 rw [show decide (stamp > 4294967295)=false from decide_eq_false (by omega)];conv=>whnf
 refine zZ hw ?_;conv=>whnf
 refine zW htw rfl ?_;rintro _ _ ⟨rfl,rfl⟩;conv=>whnf
 refine zS Nat (fun i=>([(3,iA [A]),(4,GS [b]),(5,iv stamp),(6, .bp 0 0),(12, .bp 2 0),(15,GS had),(16,ZG (List.replicate had.length true)),(17, .ow 4 i),(62,iv g.d),(63,iv (i:Nat))], [.box 24 (Bl g), .box 145 [BW t], .box 145 [.ow 3 t.length], .row 189 3 ((FK g t had [A] [b] stamp i).map Dq), .row 22 1 ((GG g t had A b i).map Mr)])) (fun i=>i<=g.d.toNat) (fun i=>g.d.toNat - i) 0 (Ak _)
  ⟨_,_,zq _ _, [(17,22,1)],tA, [0,1,2,3,4],tA,tA,rfl,rfl,rfl,rfl,rfl⟩ ?_
 intro i hi;by_cases hin:i<g.d.toNat
 ·have hit:i<t.length:=by omega
  have hih:i<had.length:=by omega
  have hE:=Z2 (g:=g) (A:=A) (b:=b) (stamp:=stamp) h8 hb hlo hit hih;have hN:=X_ (g:=g) (A:=A) (b:=b) h8 hlo hit hih;have hix:=WE A (i:Nat);have hlo2:=Pn g t had [A] [b] stamp (Nat.le_of_lt hit);have hsl:(GG g t had A b i).length=i:=by simp [GG]
  have hs2:(GG g t had A b i).map Mr ++ [Mr (G2 g t had [A] [b] i)]=(GG g t had A b (i+1)).map Mr:=by simp [GG,BD]
  by_cases hq:A=(i:Int)
  ·rw [if_pos hq] at hE hN hix;rw [hN] at hs2;conv=>whnf
   rw [show decide ((i:Int)<g.d)=true from decide_eq_true (by omega)];conv=>whnf
   repeat' (refine z_ ?_;conv=>whnf)
   refine zZ hix ?_;conv=>whnf
   repeat' (refine z_ ?_;conv=>whnf)
   have ixA:(0:Int)<=0/\(0:Int)<(([b]:List (List UInt8)).length:Nat):=in01;apply zX (0) tys_ok mixed (.o [0,1,2,3,4,5,6,7,8,9,10,11,12,13] .fin) (by kernel_rfl);conv=>whnf
   try (refine tI ?_;conv=>whnf)
   refine zZ em ?_;conv=>whnf
   try (refine tI ?_;conv=>whnf)
   try (refine tS ?_;conv=>whnf)
   all_goals rw [show ((FK g t had [A] [b] stamp i).map Dq).getD (((i:Nat):Int)).toNat []=Dq ((FK g t had [A] [b] stamp i).getD i ez) by rw [Ab];exact AL (by omega)]
   all_goals
    conv=>whnf
    repeat' (refine z_ ?_;conv=>whnf)
    refine⟨in01,?_⟩;refine⟨rfl,?_⟩;refine⟨⟨by rw [Aa,hsl],by omega⟩,?_⟩;exact⟨i+1,by omega,by omega,zQ (s:= [0,1,2,3,4]) ⟨⟨rfl,rfl,rfl,rfl,rfl,rfl,rfl,rfl,rfl,AN (by omega),tv⟩,⟨rfl,rfl,rfl,congrArg (fun z=>some (AB.row 189 3 z)) (show ((FK g t had [A] [b] stamp i).map Dq).set (((i:Nat):Int)).toNat (Dq ⟨stamp,(DD b:Nat),false⟩)=(FK g t had [A] [b] stamp (i+1)).map Dq by rw [Ab,<-CO,<-hE,MJ g t had [A] [b] stamp hit]),congrArg (fun z=>some (AB.row 22 1 z)) hs2,tv⟩,rfl,rfl,rfl,rfl,rfl⟩⟩
  ·rw [if_neg hq] at hE hN hix;rw [hN] at hs2;conv=>whnf
   rw [show decide ((i:Int)<g.d)=true from decide_eq_true (by omega)];conv=>whnf
   repeat' (refine z_ ?_;conv=>whnf)
   refine zZ hix ?_;conv=>whnf
   repeat' (refine z_ ?_;conv=>whnf)
   refine Ah ⟨by omega,by rw [Bm];omega⟩ ?_;conv=>whnf
   rw [show (List.replicate had.length true).getD ((i:Nat):Int).toNat false=true by rw [Ab,Ac,List.getElem?_replicate,if_pos hih];try rfl];conv=>whnf
   repeat' (refine z_ ?_;conv=>whnf)
   refine⟨⟨by omega,by omega⟩,?_⟩;refine⟨rfl,?_⟩;conv=>whnf
   rw [Ab];refine⟨⟨by rw [Aa,hsl],by omega⟩,?_⟩;exact⟨i+1,by omega,by omega,zQ (s:= [0,1,2,3,4]) ⟨⟨rfl,rfl,rfl,rfl,rfl,rfl,rfl,rfl,rfl,AN (by omega),tv⟩,⟨rfl,rfl,rfl,congrArg (fun z=>some (AB.row 189 3 z)) (show (FK g t had [A] [b] stamp i).map Dq=(FK g t had [A] [b] stamp (i+1)).map Dq by rw [<-MJ g t had [A] [b] stamp hit,hE,Y6 g t had [A] [b] stamp hit]),congrArg (fun z=>some (AB.row 22 1 z)) hs2,tv⟩,rfl,rfl,rfl,rfl,rfl⟩⟩
 ·have ei:i=g.d.toNat:=by omega
  subst ei;conv=>whnf
  rw [show decide (((g.d.toNat:Nat):Int)<g.d)=false from decide_eq_false (by omega)];conv=>whnf
  repeat' (refine z_ ?_;conv=>whnf)
  have hsl:(GG g t had A b g.d.toNat).length=g.d.toNat:=by simp [GG]
  have hxa:=W5 (GG g t had A b g.d.toNat) (by omega) (fun x hx=>by
   obtain⟨i,hi,rfl⟩:=AM.1 hx;exact hB8 i (AK.1 hi))
  rw [ON hB8 _ (Ag _)] at hxa;refine Fn.shut (args':= [.sl 1 g.d.toNat fun i=>((GG g t had A b g.d.toNat).map Mr).getD i [],iv 8]) (hxa.subA ⟨FO hsl.symm rfl,fun _ _ h=>h,tv⟩) ⟨by rw [Aa,hsl],rfl,?_⟩;rintro _ rfl;conv=>whnf
  have hp8:(ET g t had [A] [b] g.d.toNat).length=8:=Hn (g:=g) (t:=t) (had:=had) (ats:= [A]) (bs:= [b]) (fun x hx=> .inr (h8 x hx)) (fun x hx=>by rw [A8] at hx;rw [hx];exact hb) (Ag 1) _;have he:=PN stamp (ET g t had [A] [b] g.d.toNat) hs hp8;apply zX (0) tys_ok mixed (.o [0,1,2,3,4,5,6,7,8,9,10,11] .fin) (by kernel_rfl);conv=>whnf
  refine zZ he ?_;conv=>whnf
  try (refine tI ?_;conv=>whnf)
  try (refine tS ?_;conv=>whnf)
  have hdl:g.d.toNat<t.length:=by omega
  have hlo2:=Pn g t had [A] [b] stamp (Nat.le_of_lt hdl);have eW:(FK g t had [A] [b] stamp g.d.toNat).set g.d.toNat ⟨stamp,(DD (ET g t had [A] [b] g.d.toNat):Nat),false⟩=BK g t had [A] [b] stamp:=by
   rw [Ln g t had [A] [b] stamp hdl,BK,A7 (by omega)]
  have hgl:((FK g t had [A] [b] stamp g.d.toNat).map Dq).getD g.d.toNat []=Dq ((FK g t had [A] [b] stamp g.d.toNat).getD g.d.toNat ez):=AL (by omega);have eR:((FK g t had [A] [b] stamp g.d.toNat).map Dq).set g.d.toNat (Dq ⟨stamp,(DD (ET g t had [A] [b] g.d.toNat):Nat),false⟩)=(BK g t had [A] [b] stamp).map Dq:=by rw [<-CO,eW]
  have eN:(BK g t had [A] [b] stamp).length=t.length:=by simp [BK];omega
  all_goals
   refine⟨⟨rfl,by rw [Aa,hlo2],hdl⟩,?_⟩;rw [hgl];refine⟨(by rw [AY,Aa,hlo2]),?_⟩;exact⟨.tp [.ag [BW (BK g t had [A] [b] stamp)],bA (ET g t had [A] [b] g.d.toNat),iv 0],Cc ⟨B5 ⟨Ck (f:=Dq) (BK g t had [A] [b] stamp) eN.symm eR,tv⟩,ri,ri,tv⟩,rfl⟩
theorem OR (g:Geo) (z:Int) (t:List Ent) (par:List UInt8) (A:Int) (b:List UInt8) (hg:Bq g=true) (hz:0<=z/\z<g.z) (ht:HU g t=true) (hp:par.length=8) (hA:0<=A/\A<g.d) (hb:b.length=8) :
  Fn Tryz.prog 146 [.ag (Bl g),iv z, .ag [BW t],bA par,iA [A],GS [b]] fun r=>r = .tp [EU (C3 z t par [A] [b]),iv 0]:=by
 obtain⟨g1,g2,g3,g4,g5⟩:=Az.1 hg;have htl:=Jb ht;have h1:=Bu par (by omega);have h2:=Bu b (by omega);have h3:=J4 g t (by omega);rw [ht,if_pos rfl] at h3;have hr:=Kh g A hA;have hw:=J5 [b] (show 1<=1000000 by decide) (fun x hx=>by rw [A8] at hx;rw [hx];exact hb);have hwp:=J5 [par] (show 1<=1000000 by decide) (fun x hx=>by rw [A8] at hx;rw [hx];exact hp);refine zT Tryz.func146 rfl ?_;conv=>whnf
 refine zZ h3 ?_;conv=>whnf
 rw [show decide (z<0)=false from decide_eq_false (by omega)];conv=>whnf
 rw [show decide (z>=g.z)=false from decide_eq_false (by omega)];conv=>whnf
 refine zZ hr ?_;conv=>whnf
 refine zZ hw ?_;conv=>whnf
 refine zk (args':= [.sl 1 1 fun i=>([Mr par]:List (List AV)).getD i []]) (hwp.subA ⟨FO (L:= [par]) rfl rfl,tv⟩) tA ?_;rintro _ rfl;refine⟨rfl,?_⟩;conv=>whnf
 refine zS Nat (fun k=>([(1,iv z),(3,bA par),(5,GS [b]),(14,bA (Dg t)),(16, .ow 2 k),(61,iA [A]),(62,iv 1),(63,iv (k:Nat))], [.box 24 (Bl g), .box 145 [BW t], .row 139 3 ((([⟨z,A,b⟩]:List Img).take k).map GO)])) (fun k=>k<=1) (fun k=>1 - k) 0 (by decide)
  ⟨_,_,zq _ _, [(16,139,3)],tA, [0,1,3],tA,tA,rfl,rfl,rfl,rfl,rfl⟩ ?_
 intro k hk;by_cases hk1:k=1
 ·subst hk1;conv=>whnf
  repeat' (refine z_ ?_;conv=>whnf)
  refine zZ h1 ?_;refine⟨rfl,?_⟩;refine⟨⟨rfl,by decide⟩,?_⟩;refine⟨rfl,?_⟩;exact⟨.tp [EU (C3 z t par [A] [b]),iv 0],Cc ⟨Ck (f:=GO) (C3 z t par [A] [b]) rfl rfl,ri,tv⟩,rfl⟩
 ·obtain rfl:k=0:=by omega
  conv=>whnf
  repeat' (refine z_ ?_;conv=>whnf)
  refine⟨in01,?_⟩;conv=>whnf
  repeat' (refine z_ ?_;conv=>whnf)
  refine⟨in01,?_⟩;conv=>whnf
  refine zZ h2 ?_;refine⟨rfl,?_⟩;refine⟨⟨rfl,by decide⟩,?_⟩;exact⟨1,by omega,by omega,zQ (s:= [0,1,2]) tA⟩
end
section
open Go.RowKit Go.Shelf
attribute [local go_sem] Oper.semAt_some

theorem V_ (F:Fence) (n:Nat) (h7:F.fn 314) (hro:F.round=none) (hn:1<=n) (l Bs n₀ b off len cap:Nat) (X0 X1 X2 X3:Nat->Value) (hlen:len<=1000000000) (hb:b<n₀) (hBn:Bs<n₀) (J Jx:List Nat->World->Prop)
  (hY:∀ pre x W,J pre W->pre.length<len->x<len->YieldAt F (n - 1) Tryz.prog l #[.int .i64 (x:Nat), .agg #[X0 x,X1 x,X2 x,X3 x]] W fun e W'=>
   (e = .returned (.bool true)/\J (pre ++ [x]) W'/\Below n₀ W W')\/(e = .returned (.bool false)/\Jx (pre ++ [x]) W'))
  (W:World) (hBs:W.cell? ⟨Bs,0,none⟩=some (.slice (some ⟨b,off,none⟩) len cap)) (hc0:∀ j,j<len->W.cell? ⟨b,off+j*4,none⟩=some (X0 j)) (hc1:∀ j,j<len->W.cell? ⟨b,off+j*4+1,none⟩=some (X1 j)) (hc2:∀ j,j<len->W.cell? ⟨b,off+j*4+2,none⟩=some (X2 j)) (hc3:∀ j,j<len->W.cell? ⟨b,off+j*4+3,none⟩=some (X3 j)) (h0:J [] W) :
  CallsIn F n Tryz.prog 314 #[.func (.yield l) #[] #[], .pointer (some ⟨Bs,0,none⟩)] W fun e W'=>(∃ v,e = .returned v)/\
   ((∃ ys,ys=CQ len len/\J ys W')\/(∃ pre,(∃ k,k<=len/\pre=CQ len k)/\Jx pre W')):=by
 have Hc0:=Lib.hid hc0;have Hc1:=Lib.hid hc1;have Hc2:=Lib.hid hc2;have Hc3:=Lib.hid hc3;clear hc0 hc1 hc2 hc3;refine callsIn_of_wp Tryz.func314 rfl h7 ?_ hro;simp only [Tryz.ntmps314,B7,Ao,AP,Nat.reduceAdd,Nat.reduceSub,CD,CC,Do,CK,Br,Bi]
 gi_wp2
 gi_loopw [3] (fun i wr=>∃ k:Nat,k<=len/\i = .int .i64 ((len:Int) - 1 - k)/\J (CQ len k) wr/\Below n₀ W wr)
  (fun i _=>(intOf i+1).toNat)
 case atStart=>exact⟨0,Ak _,by simp,h0,Below.refl _ _⟩
 case round=>
  obtain⟨k,hk,rfl,hJs,hnx⟩:=hrel;by_cases hlt:k<len
  ·obtain⟨m,hmk⟩:∃ m,len=k+1+m:=⟨len - (k+1),by omega⟩;rw [show (len:Int) - 1 - k=(m:Int) by omega];obtain⟨fn,tmps,assign,body,hy,hR⟩:=hY _ m wr hJs (by rw [G9];exact hlt) (by omega);have e0:=(hnx.cell (p:=⟨b,off+m*4,none⟩) hb).trans (Hc0.out m (by omega));have e1:=(hnx.cell (p:=⟨b,off+m*4+1,none⟩) hb).trans (Hc1.out m (by omega));have e2:=(hnx.cell (p:=⟨b,off+m*4+2,none⟩) hb).trans (Hc2.out m (by omega));have e3:=(hnx.cell (p:=⟨b,off+m*4+3,none⟩) hb).trans (Hc3.out m (by omega));have eb:=(hnx.cell (p:=⟨Bs,0,none⟩) hBn).trans hBs;have hm:(m:Int)<(len:Int):=by omega
   have Hm:=Lib.hid hmk;clear hmk
   gi_wp2
   refine hR.mono ?_;rintro e W3 (⟨rfl,hJ3,hk3⟩ | ⟨rfl,hJx3⟩)
   ·gi_wp2
    go_roundw
    case rel=>exact⟨k+1,by omega,congrArg (Value.int .i64) (by have:=Hm.out;omega),by rw [EJ,show len - 1 - k=m by have:=Hm.out;omega];exact hJ3,hnx.trans hk3⟩
    case measure=>simp [intOf]
   ·gi_wp2
    refine bodyPost_ret (results_none rfl _ _ _) rfl ?_;exact⟨⟨_,rfl⟩, .inr ⟨_,⟨k+1,by omega,by rw [EJ,show len - 1 - k=m by have:=Hm.out;omega]⟩,hJx3⟩⟩
  ·obtain rfl:k=len:=by omega
   rw [show ((k:Nat):Int) - 1 - k = -1 by omega]
   gi_wp2
   go_end0
   exact⟨⟨_,rfl⟩, .inl ⟨_,rfl,hJs⟩⟩

theorem Wa (F:Fence) (n:Nat) (h7:F.fn 314) (hro:F.round=none) (l Bs:Nat) (a:Option Addr) (cap:Nat) (J:List Nat->World->Prop) (W:World) (hBs:W.cell? ⟨Bs,0,none⟩=some (.slice a 0 cap)) (h0:J [] W) :
  CallsIn F n Tryz.prog 314 #[.func (.yield l) #[] #[], .pointer (some ⟨Bs,0,none⟩)] W fun e W'=>(∃ v,e = .returned v)/\J [] W':=by
 refine callsIn_of_wp Tryz.func314 rfl h7 ?_ hro;simp only [Tryz.ntmps314,B7,Ao,AP,Nat.reduceAdd,Nat.reduceSub,CD,CC,Do,CK,Br,Bi]
 gi_wp2
 gi_loopw [3] (fun i wr=>i = .int .i64 (-1)/\J [] wr) (fun _ _=>0)
 case atStart=>exact⟨rfl,h0⟩
 case round=>
  obtain⟨rfl,hJs⟩:=hrel
  gi_wp2
  go_end0
  exact⟨⟨_,rfl⟩,hJs⟩

theorem Ru (F:Fence) (n:Nat) (h7:F.fn 314) (hro:F.round=none) (hn:1<=n) (Bs n₀:Nat) (a:Option Addr) (len cap:Nat) (X0 X1 X2 X3:Nat->Value) (hlen:len<=1000000000) (w:World) (hBs:Bs<n₀) (hn₀:n₀<=w.heap.size)
  (hc:w.cell? ⟨Bs,0,none⟩=some (.slice a len cap)) (hI:0<len->∃ b off,a=some ⟨b,off,none⟩/\b<n₀/\∀ j,j<len->w.cell? ⟨b,off+j*4,none⟩=some (X0 j)/\w.cell? ⟨b,off+j*4+1,none⟩=some (X1 j)/\w.cell? ⟨b,off+j*4+2,none⟩=some (X2 j)/\w.cell? ⟨b,off+j*4+3,none⟩=some (X3 j)) :
  SeqStopsK F n Tryz.prog 314 #[.pointer (some ⟨Bs,0,none⟩)] (fun x:Fin len=> #[Value.int .i64 x.val, .agg #[X0 x,X1 x,X2 x,X3 x]]) (Below n₀) (fun ys=>ys.map Fin.val=CQ len len) (fun pre=>∃ k,k<=len/\pre.map Fin.val=CQ len k) len w:=fun l J Jx W hW _ _ hY h0=>by
 have hc':=(hW.cell (p:=⟨Bs,0,none⟩) (by show Bs<_;omega)).trans hc;rcases Da len with rfl | hp
 ·exact(Wa F n h7 hro l Bs a cap (fun _ W=>J [] W) W hc' h0).mono fun e W' ⟨he,hj⟩=>⟨he, .inl ⟨[],rfl,hj⟩⟩
 ·obtain⟨b,off,rfl,hb,hj⟩:=hI hp;refine(V_ F n h7 hro hn l Bs n₀ b off len cap X0 X1 X2 X3 hlen hb hBs (fun pre W=>∃ q:List (Fin len),q.map Fin.val=pre/\J q W) (fun pre W=>∃ q:List (Fin len),q.map Fin.val=pre/\Jx q W) ?_ W hc' (fun j h=>(hW.cell (p:=⟨b,off+j*4,none⟩) (by show b<_;omega)).trans (hj j h).1) (fun j h=>(hW.cell (p:=⟨b,off+j*4+1,none⟩) (by show b<_;omega)).trans (hj j h).2.1) (fun j h=>(hW.cell (p:=⟨b,off+j*4+2,none⟩) (by show b<_;omega)).trans (hj j h).2.2.1) (fun j h=>(hW.cell (p:=⟨b,off+j*4+3,none⟩) (by show b<_;omega)).trans (hj j h).2.2.2) ⟨[],rfl,h0⟩).mono ?_
  ·rintro pre x W1 ⟨q,hq,hJ⟩ hlt hx;obtain⟨fn,tmps,assign,body,hy,hR⟩:=hY q ⟨x,hx⟩ W1 hJ (by rw [<-hq,Aa] at hlt;exact hlt);refine⟨fn,tmps,assign,body,hy,hR.mono ?_⟩;rintro e W' (⟨he,h1,h2⟩ | ⟨he,h1⟩)
   ·exact .inl ⟨he,⟨_,by simp [hq],h1⟩,h2⟩
   ·exact .inr ⟨he,⟨_,by simp [hq],h1⟩⟩
  ·rintro e W' ⟨he,⟨ys,rfl,q,hq,hJ⟩ | ⟨pre,⟨k,hk,rfl⟩,q,hq,hJ⟩⟩
   ·exact⟨he, .inl ⟨q,hq,hJ⟩⟩
   ·exact⟨he, .inr ⟨q,⟨k,hk,hq⟩,hJ⟩⟩

theorem bktx_is:IsBack Tryz.prog 314 4:=by
 refine⟨enters_of Tryz.func314 (by kernel_rfl) rfl,fun m hm B a len cap X w hlen hc hl hI=>?_⟩;have e:(fun x:Fin len=>(#[Value.int .i64 x.val, .agg (X x.val).toArray]:Array Value))=fun x:Fin len=> #[Value.int .i64 x.val, .agg #[(X x.val).getD 0 undef,(X x.val).getD 1 undef,(X x.val).getD 2 undef,(X x.val).getD 3 undef]]:=by
  funext x;have:=hl x.val;match h:X x.val with
  | [u0,u1,u2,u3]=>rfl
  | []=>rw [h] at this;simp at this
  | [_]=>rw [h] at this;simp at this
  | [_,_]=>rw [h] at this;simp at this
  | [_,_,_]=>rw [h] at this;simp at this
  | _::_::_::_::_::_=>rw [h] at this;simp at this
 rw [e];refine Ru Fence.wide m trivial rfl hm B w.heap.size a len cap (fun j=>(X j).getD 0 undef) (fun j=>(X j).getD 1 undef) (fun j=>(X j).getD 2 undef) (fun j=>(X j).getD 3 undef) hlen w (World.block_lt_of_cell? w _ hc) (Ag _) hc fun hp=>?_
 obtain⟨b,off,h1,h2,h3⟩:=hI hp;refine⟨b,off,h1,h2,fun j hj=>?_⟩;have h4:=hl j;match h:X j with
 | [u0,u1,u2,u3]=>exact⟨h3 j hj 0 u0 (by rw [h];rfl),h3 j hj 1 u1 (by rw [h];rfl),h3 j hj 2 u2 (by rw [h];rfl),h3 j hj 3 u3 (by rw [h];rfl)⟩
 | []=>rw [h] at h4;simp at h4
 | [_]=>rw [h] at h4;simp at h4
 | [_,_]=>rw [h] at h4;simp at h4
 | [_,_,_]=>rw [h] at h4;simp at h4
 | _::_::_::_::_::_=>rw [h] at h4;simp at h4

theorem Wb (F:Fence) (n:Nat) (h7:F.fn 315) (hro:F.round=none) (hn:1<=n) (l Bs n₀ b off len cap:Nat) (X0 X1 X2:Nat->Value) (hlen:len<=1000000000) (hb:b<n₀) (hBn:Bs<n₀) (J Jx:List Nat->World->Prop)
  (hY:∀ pre x W,J pre W->pre.length<len->x<len->YieldAt F (n - 1) Tryz.prog l #[.int .i64 (x:Nat), .agg #[X0 x,X1 x,X2 x]] W fun e W'=>
   (e = .returned (.bool true)/\J (pre ++ [x]) W'/\Below n₀ W W')\/(e = .returned (.bool false)/\Jx (pre ++ [x]) W'))
  (W:World) (hBs:W.cell? ⟨Bs,0,none⟩=some (.slice (some ⟨b,off,none⟩) len cap)) (hc0:∀ j,j<len->W.cell? ⟨b,off+j*3,none⟩=some (X0 j)) (hc1:∀ j,j<len->W.cell? ⟨b,off+j*3+1,none⟩=some (X1 j)) (hc2:∀ j,j<len->W.cell? ⟨b,off+j*3+2,none⟩=some (X2 j)) (h0:J [] W) :
  CallsIn F n Tryz.prog 315 #[.func (.yield l) #[] #[], .pointer (some ⟨Bs,0,none⟩)] W fun e W'=>(∃ v,e = .returned v)/\
   ((∃ ys,ys=CQ len len/\J ys W')\/(∃ pre,(∃ k,k<=len/\pre=CQ len k)/\Jx pre W')):=by
 have Hc0:=Lib.hid hc0;have Hc1:=Lib.hid hc1;have Hc2:=Lib.hid hc2;clear hc0 hc1 hc2;refine callsIn_of_wp Tryz.func315 rfl h7 ?_ hro;simp only [Tryz.ntmps315,B7,Ao,AP,Nat.reduceAdd,Nat.reduceSub,CD,CC,Do,CK,Br,Bi]
 gi_wp2
 gi_loopw [3] (fun i wr=>∃ k:Nat,k<=len/\i = .int .i64 ((len:Int) - 1 - k)/\J (CQ len k) wr/\Below n₀ W wr)
  (fun i _=>(intOf i+1).toNat)
 case atStart=>exact⟨0,Ak _,by simp,h0,Below.refl _ _⟩
 case round=>
  obtain⟨k,hk,rfl,hJs,hnx⟩:=hrel;by_cases hlt:k<len
  ·obtain⟨m,hmk⟩:∃ m,len=k+1+m:=⟨len - (k+1),by omega⟩;rw [show (len:Int) - 1 - k=(m:Int) by omega];obtain⟨fn,tmps,assign,body,hy,hR⟩:=hY _ m wr hJs (by rw [G9];exact hlt) (by omega);have e0:=(hnx.cell (p:=⟨b,off+m*3,none⟩) hb).trans (Hc0.out m (by omega));have e1:=(hnx.cell (p:=⟨b,off+m*3+1,none⟩) hb).trans (Hc1.out m (by omega));have e2:=(hnx.cell (p:=⟨b,off+m*3+2,none⟩) hb).trans (Hc2.out m (by omega));have eb:=(hnx.cell (p:=⟨Bs,0,none⟩) hBn).trans hBs;have hm:(m:Int)<(len:Int):=by omega
   have Hm:=Lib.hid hmk;clear hmk
   gi_wp2
   refine hR.mono ?_;rintro e W3 (⟨rfl,hJ3,hk3⟩ | ⟨rfl,hJx3⟩)
   ·gi_wp2
    go_roundw
    case rel=>exact⟨k+1,by omega,congrArg (Value.int .i64) (by have:=Hm.out;omega),by rw [EJ,show len - 1 - k=m by have:=Hm.out;omega];exact hJ3,hnx.trans hk3⟩
    case measure=>simp [intOf]
   ·gi_wp2
    refine bodyPost_ret (results_none rfl _ _ _) rfl ?_;exact⟨⟨_,rfl⟩, .inr ⟨_,⟨k+1,by omega,by rw [EJ,show len - 1 - k=m by have:=Hm.out;omega]⟩,hJx3⟩⟩
  ·obtain rfl:k=len:=by omega
   rw [show ((k:Nat):Int) - 1 - k = -1 by omega]
   gi_wp2
   go_end0
   exact⟨⟨_,rfl⟩, .inl ⟨_,rfl,hJs⟩⟩

theorem Wc (F:Fence) (n:Nat) (h7:F.fn 315) (hro:F.round=none) (l Bs:Nat) (a:Option Addr) (cap:Nat) (J:List Nat->World->Prop) (W:World) (hBs:W.cell? ⟨Bs,0,none⟩=some (.slice a 0 cap)) (h0:J [] W) :
  CallsIn F n Tryz.prog 315 #[.func (.yield l) #[] #[], .pointer (some ⟨Bs,0,none⟩)] W fun e W'=>(∃ v,e = .returned v)/\J [] W':=by
 refine callsIn_of_wp Tryz.func315 rfl h7 ?_ hro;simp only [Tryz.ntmps315,B7,Ao,AP,Nat.reduceAdd,Nat.reduceSub,CD,CC,Do,CK,Br,Bi]
 gi_wp2
 gi_loopw [3] (fun i wr=>i = .int .i64 (-1)/\J [] wr) (fun _ _=>0)
 case atStart=>exact⟨rfl,h0⟩
 case round=>
  obtain⟨rfl,hJs⟩:=hrel
  gi_wp2
  go_end0
  exact⟨⟨_,rfl⟩,hJs⟩

theorem Rw (F:Fence) (n:Nat) (h7:F.fn 315) (hro:F.round=none) (hn:1<=n) (Bs n₀:Nat) (a:Option Addr) (len cap:Nat) (X0 X1 X2:Nat->Value) (hlen:len<=1000000000) (w:World) (hBs:Bs<n₀) (hn₀:n₀<=w.heap.size)
  (hc:w.cell? ⟨Bs,0,none⟩=some (.slice a len cap)) (hI:0<len->∃ b off,a=some ⟨b,off,none⟩/\b<n₀/\∀ j,j<len->w.cell? ⟨b,off+j*3,none⟩=some (X0 j)/\w.cell? ⟨b,off+j*3+1,none⟩=some (X1 j)/\w.cell? ⟨b,off+j*3+2,none⟩=some (X2 j)) :
  SeqStopsK F n Tryz.prog 315 #[.pointer (some ⟨Bs,0,none⟩)] (fun x:Fin len=> #[Value.int .i64 x.val, .agg #[X0 x,X1 x,X2 x]]) (Below n₀) (fun ys=>ys.map Fin.val=CQ len len) (fun pre=>∃ k,k<=len/\pre.map Fin.val=CQ len k) len w:=fun l J Jx W hW _ _ hY h0=>by
 have hc':=(hW.cell (p:=⟨Bs,0,none⟩) (by show Bs<_;omega)).trans hc;rcases Da len with rfl | hp
 ·exact(Wc F n h7 hro l Bs a cap (fun _ W=>J [] W) W hc' h0).mono fun e W' ⟨he,hj⟩=>⟨he, .inl ⟨[],rfl,hj⟩⟩
 ·obtain⟨b,off,rfl,hb,hj⟩:=hI hp;refine(Wb F n h7 hro hn l Bs n₀ b off len cap X0 X1 X2 hlen hb hBs (fun pre W=>∃ q:List (Fin len),q.map Fin.val=pre/\J q W) (fun pre W=>∃ q:List (Fin len),q.map Fin.val=pre/\Jx q W) ?_ W hc' (fun j h=>(hW.cell (p:=⟨b,off+j*3,none⟩) (by show b<_;omega)).trans (hj j h).1) (fun j h=>(hW.cell (p:=⟨b,off+j*3+1,none⟩) (by show b<_;omega)).trans (hj j h).2.1) (fun j h=>(hW.cell (p:=⟨b,off+j*3+2,none⟩) (by show b<_;omega)).trans (hj j h).2.2) ⟨[],rfl,h0⟩).mono ?_
  ·rintro pre x W1 ⟨q,hq,hJ⟩ hlt hx;obtain⟨fn,tmps,assign,body,hy,hR⟩:=hY q ⟨x,hx⟩ W1 hJ (by rw [<-hq,Aa] at hlt;exact hlt);refine⟨fn,tmps,assign,body,hy,hR.mono ?_⟩;rintro e W' (⟨he,h1,h2⟩ | ⟨he,h1⟩)
   ·exact .inl ⟨he,⟨_,by simp [hq],h1⟩,h2⟩
   ·exact .inr ⟨he,⟨_,by simp [hq],h1⟩⟩
  ·rintro e W' ⟨he,⟨ys,rfl,q,hq,hJ⟩ | ⟨pre,⟨k,hk,rfl⟩,q,hq,hJ⟩⟩
   ·exact⟨he, .inl ⟨q,hq,hJ⟩⟩
   ·exact⟨he, .inr ⟨q,⟨k,hk,hq⟩,hJ⟩⟩

theorem bkim_is:IsBack Tryz.prog 315 3:=by
 refine⟨enters_of Tryz.func315 (by kernel_rfl) rfl,fun m hm B a len cap X w hlen hc hl hI=>?_⟩;have e:(fun x:Fin len=>(#[Value.int .i64 x.val, .agg (X x.val).toArray]:Array Value))=fun x:Fin len=> #[Value.int .i64 x.val, .agg #[(X x.val).getD 0 undef,(X x.val).getD 1 undef,(X x.val).getD 2 undef]]:=by
  funext x;have:=hl x.val;match h:X x.val with
  | [u0,u1,u2]=>rfl
  | []=>rw [h] at this;simp at this
  | [_]=>rw [h] at this;simp at this
  | [_,_]=>rw [h] at this;simp at this
  | _::_::_::_::_=>rw [h] at this;simp at this
 rw [e];refine Rw Fence.wide m trivial rfl hm B w.heap.size a len cap (fun j=>(X j).getD 0 undef) (fun j=>(X j).getD 1 undef) (fun j=>(X j).getD 2 undef) hlen w (World.block_lt_of_cell? w _ hc) (Ag _) hc fun hp=>?_
 obtain⟨b,off,h1,h2,h3⟩:=hI hp;refine⟨b,off,h1,h2,fun j hj=>?_⟩;have h4:=hl j;match h:X j with
 | [u0,u1,u2]=>exact⟨h3 j hj 0 u0 (by rw [h];rfl),h3 j hj 1 u1 (by rw [h];rfl),h3 j hj 2 u2 (by rw [h];rfl)⟩
 | []=>rw [h] at h4;simp at h4
 | [_]=>rw [h] at h4;simp at h4
 | [_,_]=>rw [h] at h4;simp at h4
 | _::_::_::_::_=>rw [h] at h4;simp at h4

end
section
open Go.RowKit
def EV (l:List Img) (z w:Int):Nat->Option Nat
 | 0=>none
 | k+1=>if (l.getD k iz).zone=z/\(l.getD k iz).what=w then some k else EV l z w k
def FI (l:List Tx) (z w:Int):Nat->Option (Nat × Nat)
 | 0=>none
 | k+1=>match EV (l.getD k tz).images z w (l.getD k tz).images.length with
  | some i=>some (k,i)
  | none=>FI l z w k
theorem Sj (l:List Img) (z w:Int):∀ k,Dx l z w k=(EV l z w k).map fun i=>l.getD i iz
 | 0=>rfl
 | k+1=>by
  rw [Dx,EV,Sj l z w k];split <;> rfl
theorem Jo (l:List Tx) (z w:Int):∀ k,F2 l z w k=(FI l z w k).map fun p=>((l.getD p.1 tz).images.getD p.2 iz,(l.getD p.1 tz).seq)
 | 0=>rfl
 | k+1=>by
  rw [F2,FI,Sj];cases EV (l.getD k tz).images z w (l.getD k tz).images.length with
  | some i=>rfl
  | none=>exact Jo l z w k
theorem LV {l:List Img} {z w:Int}:∀ {k:Nat},EV l z w k=none->∀ j,j<k->¬((l.getD j iz).zone=z/\(l.getD j iz).what=w)
 | k+1,h,j,hj=>by
  rw [EV] at h;split at h
  ·cases h
  ·rename_i hc;rcases Nat.lt_succ_iff_lt_or_eq.1 hj with q | rfl
   ·exact LV h j q
   ·exact hc
theorem Nc {l:List Img} {z w:Int} {j:Nat} (h:(l.getD j iz).zone=z/\(l.getD j iz).what=w):∀ (k:Nat),j<k->(∀ i,j<i->i<k->¬((l.getD i iz).zone=z/\(l.getD i iz).what=w))->EV l z w k=some j
 | k+1,hj,hn=>by
  rw [EV];by_cases e:j=k
  ·subst e;rw [if_pos h]
  ·rw [if_neg (hn k (by omega) (by omega))];exact Nc h k (by omega) fun i q1 q2=>hn i q1 (by omega)
theorem LW {l:List Img} {z w:Int} {j:Nat}:∀ {k:Nat},EV l z w k=some j->j<k/\(l.getD j iz).zone=z/\(l.getD j iz).what=w
 | k+1,h=>by
  rw [EV] at h;split at h
  ·rename_i hc;obtain rfl:=Option.some.inj h;exact⟨by omega,hc⟩
  ·have:=LW h;exact⟨by omega,this.2⟩
theorem Nd {l:List Tx} {z w:Int} {j i:Nat} (h:EV (l.getD j tz).images z w (l.getD j tz).images.length=some i):∀ (k:Nat),j<k->(∀ q,j<q->q<k->EV (l.getD q tz).images z w (l.getD q tz).images.length=none)->FI l z w k=some (j,i)
 | k+1,hj,hn=>by
  rw [FI];by_cases e:j=k
  ·subst e;rw [h]
  ·rw [hn k (by omega) (by omega)];exact Nd h k (by omega) fun q q1 q2=>hn q q1 (by omega)
theorem LX {l:List Tx} {z w:Int}:∀ (k:Nat),(∀ q,q<k->EV (l.getD q tz).images z w (l.getD q tz).images.length=none)->FI l z w k=none
 | 0,_=>rfl
 | k+1,hn=>by
  rw [FI,hn k (by omega)];exact LX k fun q hq=>hn q (by omega)
theorem Hw {l:List Tx} {z w:Int} {p:Nat × Nat}:∀ {k:Nat},FI l z w k=some p->p.1<k/\p.2<(l.getD p.1 tz).images.length
 | k+1,h=>by
  rw [FI] at h;split at h
  ·rename_i i hi;obtain rfl:=Option.some.inj h;exact⟨Bw k,(LW hi).1⟩
  ·have:=Hw h;exact⟨by omega,this.2⟩
theorem VZ (a:Option Addr) (len cap:Nat) (w:World) :
  Calls Tryz.prog 239 #[.slice a len cap] w fun e w'=>e = .returned (.func (.func 314) #[] #[.pointer (some ⟨w.heap.size,0,none⟩)])/\w.alloc (.cells #[.slice a len cap] 29)=w':=by
 go_enter Tryz.func239,Tryz.ntmps239
 go_wp2
 go_ret
 exact tA
theorem Qc (a:Option Addr) (len cap:Nat) (w:World) :
  Calls Tryz.prog 240 #[.slice a len cap] w fun e w'=>e = .returned (.func (.func 315) #[] #[.pointer (some ⟨w.heap.size,0,none⟩)])/\w.alloc (.cells #[.slice a len cap] 160)=w':=by
 go_enter Tryz.func240,Tryz.ntmps240
 go_wp2
 go_ret
 exact tA
theorem Ov {P:Program} {f g:FuncId} {t:TypeId} (hg:Ql P f) (h:∀ a len cap w,Calls P f #[.slice a len cap] w fun e w'=>e = .returned (.func (.func g) #[] #[.pointer (some ⟨w.heap.size,0,none⟩)])/\w.alloc (.cells #[.slice a len cap] t)=w') (x:AV) (Hin:List AB) (hx:∀ c u,Rd x c u->∃ a len cap,u = .slice a len cap):ACalls P false f [x] Hin fun r H=>r = .fn g [.bp Hin.length 0]/\H=Hin ++ [.box t [x]]:=by
 refine⟨hg,fun w0 M0 c us hs hr=>?_⟩;have hr0:=hr;simp only [RdL] at hr;obtain⟨u,_,rfl,hu,rfl⟩:=hr;obtain⟨a,len,cap,rfl⟩:=hx _ _ hu;obtain⟨c',e1,e2,e3,e4⟩:=hs.box t hr0 (by simp [Value.oneCell']);refine(h a len cap c.w).mono ?_;rintro e w' ⟨rfl,rfl⟩;refine⟨_,c',_,_,rfl,by rw [e1],tA,e2,e3,?_,fun e=>by cases e⟩;simp only [Rd,RdL];exact⟨_,rfl,_,_,rfl,by simpa only [Rd] using e4,rfl⟩
theorem NB {sz n:Nat} {get:Nat->List AV} (c:Ctx) (u:Value) (hu:Rd (.sl sz n get) c u):∃ a len cap,u = .slice a len cap:=by
 simp only [Rd] at hu;obtain⟨a,p,h, -⟩:=hu;exact⟨_,_,_,h⟩
theorem Lr (l:List Tx) (z w:Int) (hl:l.length<=1000000) (hi:∀ t∈l,t.images.length<=1000000):Fn Tryz.prog 164 [Ev l,iv z,iv w] fun r=>r=(match FI l z w l.length with | some p=> .tp [iv (p.1:Nat),iv (p.2:Nat), .v (.bool true)] | none=> .tp [iv 0,iv 0, .v (.bool false)]):=by
 refine zT Tryz.func164 rfl ?_;conv=>whnf
 refine(Ov ⟨_,Tryz.func239,rfl,by decide⟩ VZ (Ev l) _ NB).mono ?_;rintro _ _ ⟨rfl,rfl⟩;conv=>whnf
 refine aRF.back tys_ok bktx_is (B:=5) (len:=l.length) (E:=fun i=>Ii (l.getD i ⟨0,0,0, []⟩)) rfl rfl tA (by omega) rfl (by decide) rfl [(4, .rp [iv z]),(5, .rp [iv w])] ⟨.inr ⟨0,_,_,rfl,rfl,rfl,rfl⟩, .inr ⟨1,_,_,rfl,rfl,rfl,rfl⟩,tv⟩ (fun i=>(EV (l.getD i tz).images z w (l.getD i tz).images.length).isSome) ?_ ?_ ?_
 ·intro i hik hh;have hn:EV (l.getD i tz).images z w (l.getD i tz).images.length=none:=by simpa using hh
  have him:=hi _ (A9 (d:=tz) hik);obtain⟨t,ht⟩:∃ t,t=l.getD i tz:=⟨_,rfl⟩;rw [show l.getD i ⟨0,0,0, []⟩=t from ht.symm];rw [<-ht] at hn him;refine⟨rfl,?_⟩;conv=>whnf
  refine(Ov ⟨_,Tryz.func240,rfl,by decide⟩ Qc (EU t.images) _ NB).mono ?_;rintro _ _ ⟨rfl,rfl⟩;conv=>whnf
  refine aRF.back tys_ok bkim_is (B:=2) (len:=t.images.length) (E:=fun j=>GO (t.images.getD j ⟨0,0, []⟩)) rfl rfl tA (by omega) rfl (by decide) rfl [(4, .rp [iv z]),(5, .rp [iv w])] ⟨.inl tA, .inl tA,tv⟩ (fun _=>false) ?_ ?_ ?_
  ·intro j hj _;have hnj:=LV hn j hj;refine⟨rfl,?_⟩;conv=>whnf
   by_cases hz:(t.images.getD j ⟨0,0, []⟩).zone=z
   ·rw [show ((t.images.getD j ⟨0,0, []⟩).zone == z)=true from beq_iff_eq.2 hz];conv=>whnf
    rw [show ((t.images.getD j ⟨0,0, []⟩).what == w)=false from beq_eq_false_iff_ne.2 fun e=>hnj ⟨hz,e⟩];conv=>whnf
   ·rw [show ((t.images.getD j ⟨0,0, []⟩).zone == z)=false from beq_eq_false_iff_ne.2 hz];conv=>whnf
  ·intro j hj h;cases h
  ·intro _;conv=>whnf
 ·intro i hik hh;obtain⟨i0,hi0⟩:=CA.1 hh;have him:=hi _ (A9 (d:=tz) hik);obtain⟨t,ht⟩:∃ t,t=l.getD i tz:=⟨_,rfl⟩;rw [show l.getD i ⟨0,0,0, []⟩=t from ht.symm];rw [<-ht] at hi0 him;refine⟨rfl,?_⟩;conv=>whnf
  refine(Ov ⟨_,Tryz.func240,rfl,by decide⟩ Qc (EU t.images) _ NB).mono ?_;rintro _ _ ⟨rfl,rfl⟩;conv=>whnf
  refine aRF.back tys_ok bkim_is (B:=8) (len:=t.images.length) (E:=fun j=>GO (t.images.getD j ⟨0,0, []⟩)) rfl rfl tA (by omega) rfl (by decide) rfl [(4, .rp [iv z]),(5, .rp [iv w])] ⟨.inr ⟨0,_,_,rfl,rfl,rfl,rfl⟩, .inr ⟨1,_,_,rfl,rfl,rfl,rfl⟩,tv⟩ (fun j=>decide ((t.images.getD j iz).zone=z/\(t.images.getD j iz).what=w)) ?_ ?_ ?_
  ·intro j hj hnj;have hnj:=of_decide_eq_false hnj;refine⟨rfl,?_⟩;conv=>whnf
   by_cases hz:(t.images.getD j ⟨0,0, []⟩).zone=z
   ·rw [show ((t.images.getD j ⟨0,0, []⟩).zone == z)=true from beq_iff_eq.2 hz];conv=>whnf
    rw [show ((t.images.getD j ⟨0,0, []⟩).what == w)=false from beq_eq_false_iff_ne.2 fun e=>hnj ⟨hz,e⟩];conv=>whnf
   ·rw [show ((t.images.getD j ⟨0,0, []⟩).zone == z)=false from beq_eq_false_iff_ne.2 hz];conv=>whnf
  ·intro j hj hy;have hy:=of_decide_eq_true hy;refine⟨rfl,?_⟩;conv=>whnf
   rw [show ((t.images.getD j ⟨0,0, []⟩).zone == z)=true from beq_iff_eq.2 hy.1];conv=>whnf
   rw [show ((t.images.getD j ⟨0,0, []⟩).what == w)=true from beq_iff_eq.2 hy.2];refine⟨by simp,rfl,fun hord=>?_⟩;refine⟨by simp,rfl,fun hord2=>?_⟩;conv=>whnf
   have hJ:EV (l.getD i tz).images z w (l.getD i tz).images.length=some j:=by
    rw [<-ht];exact Nc hy _ hj fun q q1 q2=>of_decide_eq_false (hord q q1 q2)
   rw [Nd hJ l.length hik fun q q1 q2=>by simpa using hord2 q q1 q2];exact⟨_,ri,rfl⟩
  ·intro hno;exfalso;have:=LW hi0;exact of_decide_eq_false (hno i0 this.1) this.2
 ·intro hh;have hn:=LX (l:=l) (z:=z) (w:=w) l.length fun q hq=>by simpa using hh q hq
  conv=>whnf
  rw [hn];exact⟨_,ri,rfl⟩
def flatY:AV->Bool
 | .v _=>true
 | .top=>true
 | _=>false
def flatP:AV->Bool
 | .v _=>true
 | .ow _ _=>true
 | .sl _ 0 _=>true
 | _=>false
def flatQ:AV->Bool
 | .v _=>true
 | .ow _ _=>true
 | .ag l=>l.all flatP
 | _=>false
def flatS:List AB->Bool
 | []=>true
 | .row _ _ es::r=>es.flatten.all flatY&&flatS r
 | _::_=>false
theorem PI {c c':Ctx}:∀ {l:List AV} {us:List Value},l.all flatY=true->RdL l c us->RdL l c' us
 | [],us,_,h=>by simpa only [RdL] using h
 | x::l,us,hf,h=>by
  rw [Bf,Ad] at hf;simp only [RdL] at h |-
  obtain⟨u,vs,rfl,h1,h2⟩:=h;refine⟨u,vs,rfl,?_,PI hf.2 h2⟩;cases x <;> simp [flatY] at hf
  ·simp only [Rd]
  ·simpa only [Rd] using h1
theorem LS {c c':Ctx} (hr:c'.rho=c.rho) (hl:c'.len=c.len) (hd:c'.dom=c.dom) {x:AV} (hx:flatP x=true) {u:Value} (h:Rd x c u):Rd x c' u:=by
 cases x with
 | v y=>simpa only [Rd] using h
 | ow k n=>
  simp only [Rd] at h |-
  rw [hr,hl,hd];exact h
 | sl sz n get=>
  cases n with
  | zero=>
   simp only [Rd] at h |-
   obtain⟨a,k,h1,h2,h3, -⟩:=h;exact⟨a,k,h1,h2,h3, .inl trivial⟩
  | succ n=>cases hx
 | _=>simp [flatP] at hx
theorem VC {c c':Ctx} (hr:c'.rho=c.rho) (hl:c'.len=c.len) (hd:c'.dom=c.dom) {x:AV} (hx:flatQ x=true) {u:Value} (h:Rd x c u):Rd x c' u:=by
 cases x with
 | v y=>exact LS hr hl hd rfl h
 | ow k n=>exact LS hr hl hd rfl h
 | ag l=>
  simp only [Rd] at h |-
  obtain⟨xs,rfl,hxs⟩:=h;refine⟨xs,rfl,?_⟩;simp only [flatQ] at hx;induction l generalizing xs with
  | nil=>simpa only [RdL] using hxs
  | cons y l ih=>
   rw [Bf,Ad] at hx;simp only [RdL] at hxs |-
   obtain⟨u,us,rfl,h1,h2⟩:=hxs;exact⟨u,us,rfl,LS hr hl hd hx.1 h1,ih hx.2 us h2⟩
 | _=>simp [flatQ] at hx
theorem flatS_mem:∀ {R:List AB} {y:AB},flatS R=true->y∈R->∃ t sz es,y = .row t sz es/\es.flatten.all flatY=true
 | .row t sz es::r,y,h,hy=>by
  rw [flatS,Ad] at h;rcases AS.1 hy with rfl | hy
  ·exact⟨t,sz,es,rfl,h.1⟩
  ·exact flatS_mem h.2 hy
theorem ACalls.fnO {P:Program} {q:Bool} {f:FuncId} {args:List AV} {K:AV->List AB->Prop} (h:ACalls P q f args [] K) (hK:∀ r R,K r R->∀ y∈R,∃ t sz es,y = .row t sz es):FnO P f args K:=by
 refine⟨h.go,fun c0 us hg hd hM hr=>?_⟩;let ce:Ctx:={ c0 with base:=0 };have hce:Ext c0 ce:=⟨rfl,rfl,rfl,Ag _,fun _ _ h=>⟨h,rfl⟩,Ag _,fun _ _=>Ag _,fun _ _ _=>rfl,fun _ _ _ h=>h⟩;have hHS:HS (Fl.all c0.w hg) c0.M ce []:=⟨zb _ hg,rfl,hd,fun _ _=>Iff.rfl,hM,by simp,by simp,by simp⟩;refine(h.calls (Fl.all c0.w hg) c0.M ce us hHS (RdL.ext _ hce hr)).mono ?_;rintro e w' ⟨v,c',r,H',rfl,q1,q2,q3,q4,q5, -⟩;exact⟨v,r,c',H',rfl,q2,q1,q3,q5,hK r H' q2⟩
theorem FnO.lendC {P:Program} {f:FuncId} {args args':List AV} {H:List AB} {K:AV->List AB->Prop} {q:Bool} {k:AV->List AB->Prop} (h:FnO P f args' K) (hs:sealA args H fun a _=>a=args') (hk:∀ r R,K r R->∃ R',ConvH R R'/\(flatQ r=true/\flatS R'=true)/\appK H R' 0 fun d H=>CZ (r.shift d) fun r=>k r H):ACalls P q f args H k:=by
 refine⟨h.go,fun w0 M0 c us hs0 hr=>?_⟩;obtain⟨l',H',c',rfl,h2,h3,h4,h5,_⟩:=sealA_sound hs0 hr hs;have hglob:globOk c'.closed.w:=h3.glob;have hc:=h.calls c'.closed us hglob rfl h3.lt h5;have ew:c'.closed.w=c.w:=h2
 suffices hh:Calls P f us.toArray c'.closed.w fun e w'=>∃ v c1 r H1,e = .returned v/\c1.w=w'/\k r H1/\HS w0 M0 c1 H1/\Ext c c1/\Rd r c1 v/\(q=true->Old c.w w') by
  rw [ew] at hh;exact hh
 refine hc.mono ?_;rintro e w' ⟨v,r,c1,R1,rfl,q1,rfl,q21,q31, -⟩;obtain⟨R,hconv,⟨f1,f2⟩,hkk⟩:=hk r R1 q1;obtain⟨c2,ew2,q2,x2⟩:=hconv _ _ _ q21;have q3:Rd r c2 v:=Rd.ext _ x2 q31;have q4:∀ y∈R,∃ t sz es,y = .row t sz es:=fun y hy=>by
  obtain⟨t,sz,es,e, -⟩:=flatS_mem f2 hy;exact⟨t,sz,es,e⟩
 -- the same memory;what the caller holds is not read
 obtain⟨c3,e3⟩:∃ c3:Ctx,c3={ c2 with M:=fun b=>c2.M b\/c.M b }:=⟨_,rfl⟩;have hsub:∀ b,b<c.w.heap.size->c'.M b->c.M b:=fun b hb hm=>by
  by_cases hx:c.M b
  ·exact hx
  ·exact absurd hm (h4.keep b hb hx).1
 have hlow:=q2.low;have q2':HS (Fl.all c.w hs0.glob) c.M c3 R:=by
  subst e3;refine⟨⟨?_,?_,?_,?_,?_⟩,q2.base,q2.dom,fun b hb=>?_,fun b hb=>?_,fun i y hi=>?_,fun i y g hi hl ho=>?_,q2.dis⟩
  ·have:=hlow.os;rw [show (Fl.all c'.closed.w hglob).w=c.w from ew] at this;exact this
  ·have:=hlow.tape;rw [show (Fl.all c'.closed.w hglob).w=c.w from ew] at this;exact this
  ·have:=hlow.output;rw [show (Fl.all c'.closed.w hglob).w=c.w from ew] at this;exact this
  ·have:=hlow.size;rw [show (Fl.all c'.closed.w hglob).w=c.w from ew] at this;exact this
  ·intro b hb;have:=hlow.block b (by show b<c'.closed.w.heap.size;rw [ew];exact hb);rw [show (Fl.all c'.closed.w hglob).w=c.w from ew] at this;exact this
  ·have hb':b<c.w.heap.size:=hb;have:=q2.foreign b (by show b<c'.closed.w.heap.size;rw [ew];exact hb');exact⟨fun hx=>hx.elim (fun hx=>hsub b hb' (this.1 hx)) (fun hx=>hx),fun hx=> .inr hx⟩
  ·have hsz:c.w.heap.size<=c2.w.heap.size:=by
    have:=hlow.size;rw [show (Fl.all c'.closed.w hglob).w=c.w from ew] at this;exact this
   rcases hb with hb | hb
   ·exact q2.lt b hb
   ·exact At (hs0.lt b hb) hsz
  ·obtain⟨t,sz,es,rfl,hfl⟩:=flatS_mem f2 (List.mem_of_getElem? hi);obtain⟨a1,a2,a3,xs,a4,a5,a6⟩:=q2.blk i _ hi;exact⟨a1,a2,a3,xs,a4,PI hfl a5,a6⟩
  ·have:=q2.own i y g hi hl ho;refine⟨.inl this.1,fun hx=>this.2 ?_⟩;show g<c'.closed.w.heap.size;rw [ew];exact hx
 have q3':Rd r c3 v:=VC (by rw [e3]) (by rw [e3]) (by rw [e3]) f1 q3;have q5:c3.w=c2.w:=by rw [e3]
 obtain⟨p1,p2⟩:=hs0.beside (c':=c3) q2' q4;have h1:=B9 (appK_iff hkk);rw [Au,<-hs0.dom] at h1;exact⟨v,c.beside c3,_,_,rfl,by show c3.w=_;rw [q5,ew2],h1,p1,p2,Rd.shift r q3',fun _=>by have:=q2'.low.below.old;rw [q5,ew2] at this;exact this⟩
theorem SubL.tops:∀ (l:List AV),SubL l (List.replicate l.length .top)
 | []=>trivial
 | x::l=>⟨fun _ _ _=>by simp [Rd],SubL.tops l⟩
def FX (x:Gt) (addr stamp:Int):Option (List UInt8):=match D5 x addr with
 | some s=>if s.stamp=stamp then some s.pay else none
 | none=>none
theorem UG {x:Gt} {addr stamp:Int} {b:List UInt8} (h:FX x addr stamp=some b):b.length<=x.bytes.length:=by
 unfold FX D5 at h;split at h
 ·rename_i s hs;split at hs
  ·obtain rfl:=Option.some.inj hs;split at h
   ·obtain rfl:=Option.some.inj h;simp [C0];omega
   ·cases h
  ·cases hs
 ·cases h
theorem Fx (b:Bool):∀ (c:Ctx) (v:Value),Rd (.tp [.v (.slice none 0 0), .v (.bool b)]) c v->Rd (.tp [bA [], .v (.bool b)]) c v:=Cc ⟨Bt 1 _,ri,tv⟩
theorem Sm (x:Gt) (addr stamp:Int) (hl:x.bytes.length<=100000):Fn Tryz.prog 238 [.ag (DZ x),iv addr,iv stamp] fun r=>r = .tp [bA ((FX x addr stamp).getD []), .v (.bool (FX x addr stamp).isSome)]:=by
 have ho:=Lc x.bytes hl;by_cases h0:x.err=0;rotate_left 1
 ·have e:FX x addr stamp=none:=by
   unfold FX D5;rw [if_neg (fun h=>h0 h.1)]
  rw [e];refine zT Tryz.func238 rfl ?_;conv=>whnf
  rw [show (x.err != 0)=true from bne_iff_ne.2 h0];exact⟨_,Fx false,rfl⟩
 by_cases h1:DO x.bytes=0;rotate_left 1
 ·have e:FX x addr stamp=none:=by
   unfold FX D5;rw [if_neg (fun h=>h1 h.2.1)]
  rw [e];rw [if_neg h1] at ho;refine zT Tryz.func238 rfl ?_;conv=>whnf
  rw [show (x.err != 0)=false from bne_eq_false_iff_eq.2 h0];conv=>whnf
  refine zZ ho ?_;conv=>whnf
  rw [show (DO x.bytes != 0)=true from bne_iff_ne.2 h1];exact⟨_,Fx false,rfl⟩
 rw [if_pos h1,h1] at ho;by_cases h2:Ca x.bytes=addr;rotate_left 1
 ·have e:FX x addr stamp=none:=by
   unfold FX D5;rw [if_neg (fun h=>h2 h.2.2)]
  rw [e];refine zT Tryz.func238 rfl ?_;conv=>whnf
  rw [show (x.err != 0)=false from bne_eq_false_iff_eq.2 h0];conv=>whnf
  refine zZ ho ?_;conv=>whnf
  rw [show ((⟨Ca x.bytes,Cu x.bytes,C0 x.bytes⟩:Sec).addr != addr)=true from bne_iff_ne.2 h2];exact⟨_,Fx false,rfl⟩
 have es:D5 x addr=some ⟨Ca x.bytes,Cu x.bytes,C0 x.bytes⟩:=by unfold D5;rw [if_pos ⟨h0,h1,h2⟩]
 by_cases h3:Cu x.bytes=stamp
 ·have e:FX x addr stamp=some (C0 x.bytes):=by unfold FX;rw [es];simp only;rw [if_pos h3]
  rw [e];refine zT Tryz.func238 rfl ?_;conv=>whnf
  rw [show (x.err != 0)=false from bne_eq_false_iff_eq.2 h0];conv=>whnf
  refine zZ ho ?_;conv=>whnf
  rw [show ((⟨Ca x.bytes,Cu x.bytes,C0 x.bytes⟩:Sec).addr != addr)=false from bne_eq_false_iff_eq.2 h2];conv=>whnf
  rw [show ((⟨Ca x.bytes,Cu x.bytes,C0 x.bytes⟩:Sec).stamp != stamp)=false from bne_eq_false_iff_eq.2 h3];exact⟨_,ri,rfl⟩
 ·have e:FX x addr stamp=none:=by unfold FX;rw [es];simp only;rw [if_neg h3]
  rw [e];refine zT Tryz.func238 rfl ?_;conv=>whnf
  rw [show (x.err != 0)=false from bne_eq_false_iff_eq.2 h0];conv=>whnf
  refine zZ ho ?_;conv=>whnf
  rw [show ((⟨Ca x.bytes,Cu x.bytes,C0 x.bytes⟩:Sec).addr != addr)=false from bne_eq_false_iff_eq.2 h2];conv=>whnf
  rw [show ((⟨Ca x.bytes,Cu x.bytes,C0 x.bytes⟩:Sec).stamp != stamp)=true from bne_iff_ne.2 h3];exact⟨_,Fx false,rfl⟩
theorem Rt (x:Gt) (addr:Int) (e:Ent):DE x addr e=match FX x addr e.stamp with
  | some b=>if b.length=8/\((DD b:Nat):Int)=e.sum then some b else none
  | none=>none:=by
 unfold DE FX;cases D5 x addr with
 | none=>rfl
 | some s=>
  simp only;by_cases h:s.stamp=e.stamp
  ·rw [if_pos h];simp only;by_cases h2:s.pay.length=8/\((DD s.pay:Nat):Int)=e.sum
   ·rw [if_pos h2,if_pos ⟨h,h2⟩]
   ·rw [if_neg h2,if_neg (fun q=>h2 q.2)]
  ·rw [if_neg h,if_neg (fun q=>h q.1)]
theorem Nh (x:Gt) (addr:Int) (e:Ent) (hl:x.bytes.length<=100000):Fn Tryz.prog 166 [.ag (DZ x),iv addr, .ag (Dq e)] fun r=>r = .tp [bA ((DE x addr e).getD []), .v (.bool (DE x addr e).isSome)]:=by
 have hp:=Sm x addr e.stamp hl;rw [Rt];cases hq:FX x addr e.stamp with
 | none=>
  rw [hq] at hp;refine zT Tryz.func166 rfl ?_;conv=>whnf
  refine zZ hp ?_;conv=>whnf
  apply zX (0) tys_ok mixed (.o [0,1,2,3,4,5,6,7,8,10,11,9,12,13] .fin) (by kernel_rfl);conv=>whnf
  (skip)
  exact⟨_,Fx false,rfl⟩
 | some b=>
  rw [hq] at hp;replace hp:Fn Tryz.prog 238 [.ag (DZ x),iv addr,iv e.stamp] fun r=>r = .tp [bA b, .v (.bool true)]:=hp
  have hs:=IQ b;simp only;by_cases h8:b.length=8;rotate_left 1
  ·rw [if_neg (fun h=>h8 h.1)];refine zT Tryz.func166 rfl ?_;conv=>whnf
   refine zZ hp ?_;conv=>whnf
   apply zX (0) tys_ok mixed (.o [0,1,2,3,4,5,6,7,8,10,11,9,12,13] .fin) (by kernel_rfl);conv=>whnf
   (rw [show ((b.length:Int) != 8)=true from bne_iff_ne.2 (by omega)])
   conv=>whnf
   all_goals
    exact⟨_,Fx false,rfl⟩
  by_cases hE:((DD b:Nat):Int)=e.sum
  ·rw [if_pos ⟨h8,hE⟩];refine zT Tryz.func166 rfl ?_;conv=>whnf
   refine zZ hp ?_;conv=>whnf
   apply zX (0) tys_ok mixed (.o [0,1,2,3,4,5,6,7,8,10,11,9,12,13] .fin) (by kernel_rfl);conv=>whnf
   (rw [show ((b.length:Int) != 8)=false from bne_eq_false_iff_eq.2 (by omega)];(conv=>whnf);refine zZ hs ?_)
   conv=>whnf
   all_goals
    rw [show (((DD b:Nat):Int) != e.sum)=false from bne_eq_false_iff_eq.2 hE];exact⟨_,ri,rfl⟩
  ·rw [if_neg (fun h=>hE h.2)];refine zT Tryz.func166 rfl ?_;conv=>whnf
   refine zZ hp ?_;conv=>whnf
   apply zX (0) tys_ok mixed (.o [0,1,2,3,4,5,6,7,8,10,11,9,12,13] .fin) (by kernel_rfl);conv=>whnf
   (rw [show ((b.length:Int) != 8)=false from bne_eq_false_iff_eq.2 (by omega)];(conv=>whnf);refine zZ hs ?_)
   conv=>whnf
   all_goals
    rw [show (((DD b:Nat):Int) != e.sum)=true from bne_iff_ne.2 hE];exact⟨_,Fx false,rfl⟩
theorem K_ (g:Geo) (x:Gt) (addr root:Int):Cy g x addr root=match FX x addr root with
  | some b=>CT g b
  | none=>none:=by
 unfold Cy FX;cases D5 x addr with
 | none=>rfl
 | some s=>
  simp only;by_cases h:s.stamp=root
  ·rw [if_pos h,if_pos h]
  ·rw [if_neg h,if_neg h]
theorem Qv {g:Geo} {b:List UInt8} (hg:Bq g=true):(D4 g b=0↔(CT g b).isSome=true):=by
 unfold D4;rw [hg,if_neg (by decide)];split <;> simp_all
theorem Nf (g:Geo) (x:Gt) (addr root:Int) (hg:Bq g=true) (hl:x.bytes.length<=100000):Fn Tryz.prog 163 [.ag (Bl g), .ag (DZ x),iv addr,iv root] fun r=>r = .tp [.ag [BW ((Cy g x addr root).getD [])], .v (.bool (Cy g x addr root).isSome)]:=by
 have hp:=Sm x addr root hl;have hG:Fn Tryz.prog 118 [.ag (Bl g)] fun r=>r = .v (Ee (Bq g)):=Cw g.z g.d g.sp g.sl g.an
 rw [hg] at hG;rw [K_];cases hq:FX x addr root with
 | none=>
  rw [hq] at hp;refine zT Tryz.func163 rfl ?_;conv=>whnf
  refine zZ hp ?_;exact⟨_,Cc (m:= [.ag [BW []], .v (.bool false)]) ⟨B5 ⟨Bt 3 _,tv⟩,ri,tv⟩,rfl⟩
 | some b=>
  rw [hq] at hp;replace hp:Fn Tryz.prog 238 [.ag (DZ x),iv addr,iv root] fun r=>r = .tp [bA b, .v (.bool true)]:=hp
  have hbl:=UG hq;have hr:=IN g b (by omega);rw [hg,if_pos rfl] at hr;have hz:=Qv (b:=b) hg;simp only;refine zT Tryz.func163 rfl ?_;conv=>whnf
  refine zZ hp ?_;conv=>whnf
  refine zZ hG ?_;conv=>whnf
  refine zZ hr ?_;conv=>whnf
  cases hR:CT g b with
  | none=>
   rw [hR] at hz;rw [show (D4 g b == 0)=false from beq_eq_false_iff_ne.2 fun e=>by have:=hz.1 e;cases this];exact⟨_,ri,rfl⟩
  | some t=>
   rw [hR] at hz;rw [show (D4 g b == 0)=true from beq_iff_eq.2 (hz.2 rfl)];exact⟨_,ri,rfl⟩
theorem MM (l:List Tx) (z w:Int) (hl:l.length<=1000000) (hi:∀ t∈l,t.images.length<=1000000/\∀ x∈t.images,x.bytes.length<=1000000000):Fn Tryz.prog 90 [Ev l,iv z,iv w] fun r=>r=(match CG l z w with | some p=> .tp [bA p.1.bytes,iv p.2, .v (.bool true)] | none=> .tp [bA [],iv 0, .v (.bool false)]):=by
 have hf:=Lr l z w hl (fun t ht=>(hi t ht).1);have e:CG l z w=_:=Jo l z w l.length;rw [e];cases hA:FI l z w l.length with
 | none=>
  rw [hA] at hf;refine zT Tryz.func90 rfl ?_;conv=>whnf
  refine zZ hf ?_;exact⟨_,Cc (m:= [bA [],iv 0, .v (.bool false)]) ⟨Bt 1 _,ri,ri,tv⟩,rfl⟩
 | some p=>
  obtain⟨k,i⟩:=p;rw [hA] at hf;obtain⟨hk,hi2⟩:=Hw hA;simp only at hk hi2;have hm:=hi _ (A9 (d:=tz) hk);have hc:=Bu ((l.getD k tz).images.getD i iz).bytes (hm.2 _ (A9 hi2));replace hf:Fn Tryz.prog 164 [Ev l,iv z,iv w] fun r=>r = .tp [iv (k:Nat),iv (i:Nat), .v (.bool true)]:=hf
  have ixA:(0:Int)<=(k:Nat)/\((k:Nat):Int)<(l.length:Nat):=by omega
  have ixB:(0:Int)<=(i:Nat)/\((i:Nat):Int)<((l.getD k tz).images.length:Nat):=⟨Int.natCast_nonneg _,Int.ofNat_lt.2 hi2⟩;refine zT Tryz.func90 rfl ?_;conv=>whnf
  refine zZ hf ?_;conv=>whnf
  apply zJ tys_ok mixed (.o [0,1,2,3,4,5,6,7,8,10,11,12,13,14,9,15,16,17] .fin) [6,7,8,22,23,24,25,26,27,28,29,30,31,32,33,34,35,36] (by kernel_rfl)
  ·conv=>whnf
   try (refine Ah (by first | omega | exact ixA | exact ixB | (simp;done)) ?_;conv=>whnf)
   try (refine Ah (by first | omega | exact ixA | exact ixB | (simp;done)) ?_;conv=>whnf)
   try (refine Ah (by first | omega | exact ixA | exact ixB | (simp;done)) ?_;conv=>whnf)
   refine zZ hc ?_;exact tA
  exact⟨_,ri,rfl⟩
theorem Po (a:An) (l:List Tx) (z:Int) (hz:0<=z/\z<a.homes.length) (hl:l.length<=1000000) (hi:∀ t∈l,t.images.length<=1000000):Fn Tryz.prog 161 [.ag (Fh a),Ev l,iv z] fun r=>r = .tp [iv (Dv a l z),iv 0]:=by
 have hf:=Lr l z 255 hl hi;have e:CG l z 255=_:=Jo l z 255 l.length;unfold Dv;rw [e];cases hA:FI l z 255 l.length with
 | none=>
  rw [hA] at hf;refine zT Tryz.func161 rfl ?_;conv=>whnf
  rw [show decide (z<0)=false from decide_eq_false (by omega)];conv=>whnf
  rw [show decide (z>=(a.homes.length:Nat))=false from decide_eq_false (by omega)];conv=>whnf
  refine zZ hf ?_;refine⟨⟨by omega,by omega⟩,?_⟩;exact⟨_,ri,rfl⟩
 | some p=>
  obtain⟨k,i⟩:=p;rw [hA] at hf;obtain⟨hk,hi2⟩:=Hw hA;simp only at hk hi2;replace hf:Fn Tryz.prog 164 [Ev l,iv z,iv 255] fun r=>r = .tp [iv (k:Nat),iv (i:Nat), .v (.bool true)]:=hf
  have ixA:(0:Int)<=(k:Nat)/\((k:Nat):Int)<(l.length:Nat):=by omega
  refine zT Tryz.func161 rfl ?_;conv=>whnf
  rw [show decide (z<0)=false from decide_eq_false (by omega)];conv=>whnf
  rw [show decide (z>=(a.homes.length:Nat))=false from decide_eq_false (by omega)];conv=>whnf
  refine zZ hf ?_;refine⟨ixA,?_⟩;exact⟨_,ri,rfl⟩
theorem ACalls.lendBox2 {P:Program} {q:Bool} {f:FuncId} {x:AV} {H:List AB} {K:AV->List AB->Prop} (j k:Nat) {t t':TypeId} {sz':Nat} {ar ar2 cs cs2:List AV} {es':List (List AV)} (hj:H[j]? = some (.box t cs)) (hk:H[k]? = some (.row t' sz' es'))
  (he:cs.map (AV.slIn k es'.length (.sl sz' es'.length fun i=>es'.getD i []))=cs2) (ha:ar.map (AV.slIn k es'.length (.sl sz' es'.length fun i=>es'.getD i []))=ar2) (hc:ACalls P q f [x, .ag ar2] ((H.set k .dead).set j (.box t cs2)) K):ACalls P q f [x, .ag ar] H K:=by
 refine⟨hc.go,fun w0 M0 c us hs hr=>?_⟩;subst he;subst ha;have hjk:j≠k:=by rintro rfl;rw [hj] at hk;cases hk
 obtain⟨c1,e1,s1,x1,r1⟩:=hs.freeze hk;have hj1:(H.set k .dead)[j]? = some (.box t cs):=by rw [A3 (Ne.symm hjk)];exact hj
 have h8:∀ (l:List AV) (us:List Value),RdL l c us->RdL (l.map (AV.slIn k es'.length (.sl sz' es'.length fun i=>es'.getD i []))) c1 us:=by
  intro l;induction l with
  | nil=>intro us h;simp only [RdL] at h;subst h;simp [RdL]
  | cons x l ih=>
   intro us h;simp only [RdL] at h;obtain⟨u,vs,rfl,a1,a2⟩:=h;simp only [A6,RdL];refine⟨u,vs,rfl,?_,ih vs a2⟩;unfold AV.slIn;split
   ·rename_i i n;split
    ·rename_i hik;subst hik;split
     ·grind
     ·simp [Rd]
    ·exact Rd.ext _ x1 a1
   ·exact Rd.ext _ x1 a1
 have s2:HS w0 M0 c1 ((H.set k .dead).set j (.box t (cs.map (AV.slIn k es'.length (.sl sz' es'.length fun i=>es'.getD i []))))):=by
  refine s1.recell hj1 rfl ?_;rintro⟨g,xs,h1,h2,_,h4⟩;obtain⟨g0,ys,q1,q2,q3,_⟩:=hs.blk j _ hj;have hg:=x1.box j _ (hs.klt hj) q1;rw [h1] at hg;injection hg with hg
  injection hg with hg
  injection hg with hg
  subst hg;rw [e1,q2] at h2;injection h2 with h2
  have hxy:ys.toArray=xs.toArray:=by injection h2
  have hxy:ys=xs:=by simpa using hxy
  subst hxy;exact⟨g,ys,h1,by rw [e1];exact q2,h8 _ _ q3,h4⟩
 have hr2:RdL [x, .ag (ar.map (AV.slIn k es'.length (.sl sz' es'.length fun i=>es'.getD i [])))] c1 us:=by
  simp only [RdL] at hr;obtain⟨u1,_,rfl,p1,u2,_,rfl,p2,rfl⟩:=hr;simp only [Rd] at p2;obtain⟨zs,rfl,p3⟩:=p2;simp only [RdL];exact⟨u1,_,rfl,Rd.ext _ x1 p1,_,_,rfl,by simp only [Rd];exact⟨zs,rfl,h8 _ _ p3⟩,rfl⟩
 have:=hc.calls w0 M0 c1 us s2 hr2;rw [e1] at this;refine this.mono ?_;rintro e w' ⟨v,c',r,H2,rfl,rfl,q1,q2,q3,q4,q5⟩;exact⟨v,c',r,H2,rfl,rfl,q1,q2,x1.trans q3,q4,q5⟩
theorem Kj {a s:Int} {p:List UInt8} (h:p.length<=96):(CF a s p).length<=200:=by rw [EB];omega
theorem Gw.puts {n:Int} {d:Dk} {F:Int->List UInt8} {W l:List Wr} (h:Gw n d F W) (hl:∀ w∈l,(0<=w.addr/\w.addr<n)/\w.bytes.length<=200) (hn:W.length+l.length<=2000):∀ k:Nat,k<=l.length->(d.writes (l.take k)).2.1=k/\(d.writes (l.take k)).2.2=false/\Gw n (d.writes (l.take k)).1 F (W ++ l.take k)
 | 0,_=>⟨rfl,rfl,by rw [List.take_zero,AD];exact h⟩
 | k+1,hk=>by
  obtain⟨q1,q2,q3⟩:=Gw.puts h hl hn k (by omega);have hx:=KC (d:=d) (l:=l) (k:=k) (by omega) q2;have hm:=hl _ (A9 (d:=(⟨0, []⟩:Wr)) (show k<l.length by omega));obtain⟨e0,hw⟩:=q3.write (by rw [Ai,As];omega) hm.1.1 hm.1.2 hm.2;rw [hx,e0];refine⟨by simp only [q1];rfl,rfl,?_⟩;have e:l.take (k+1)=l.take k ++ [l.getD k ⟨0, []⟩]:=by
   rw [Bg,Af (by omega),Ac,Af (by omega)];try rfl
  rw [e,<-AC];exact hw
theorem Gd.putAll {n:Int} {d:Dk} {F:Int->List UInt8} {l:List Wr} (h:Gd n d F) (hl:∀ w∈l,(0<=w.addr/\w.addr<n)/\w.bytes.length<=200) (hn:l.length<=2000):(d.writes l).2.1=l.length/\(d.putAll l).2.1=l.length/\(d.putAll l).2.2=false/\Gd n (d.putAll l).1 (M9 F l):=by
 obtain⟨q1,q2,q3⟩:=Gw.puts h hl (by simpa using hn) l.length (Ag _);rw [A5] at q1 q2 q3;have e:=FC q2;rw [if_neg (by rw [q3.left];decide)] at e;rw [e];exact⟨q1,q1,rfl,by simpa using q3.flush⟩
theorem Qh {g:Geo} {a:An} (hg:Bq g=true) (ha:B4 g a=true):∀ w∈AT g a,(0<=w.addr/\w.addr<A4 g)/\w.bytes.length<=200:=fun w hw=>by
 obtain⟨g1,g2,g3,g4,g5⟩:=Az.1 hg;have hcb:=Eg hg;obtain⟨i,hi,rfl⟩:=Oy hw;exact⟨⟨by show 0<=((i:Nat):Int);omega,by show ((i:Nat):Int)<A4 g;omega⟩,Ju hg ha _⟩
@[reducible] def rwZ (g:Geo) (s:Stt) (d:Dk):List AB:= [.box 132 (ZQ g (.bp 1 0) s 0), .box 133 (II (.ow 2 d.cells.length) (.ow 6 d.cache.length) d.reqs d.left), .row 68 3 (d.cells.map BB), .dead, .dead, .dead, .row 152 2 (d.cache.map E9)]
theorem NC {k:Nat} {m:Nat} {x:AV} {n:Nat} (h:n=m):AV.slIn k m x (.ow k n)=x:=by
 subst h;simp [AV.slIn]

def Fe (d:Dk) (a:Int) (c:Cel):Dk:={ d with cells:=d.cells.set a.toNat c }
def Dk.fault (d:Dk) (kind a frm bit bits:Int):Dk × Int:=
 if CH a 0 ((d.cells.length:Int) - 1)=false then (d,1) else if 0<d.cache.length then (d,9) else
 let c:=d.cells.getD a.toNat cz
 if kind=11 then (Fe d a { c with state:=if c.state=0 then 1 else c.state },0)
 else if kind=12 then (Fe d a { c with state:=2 },0)
 else if kind=13 then (if bit<0\/bits<0 then (d,1) else (Fe d a { c with bytes:=MX c.bytes bit bits },0))
 else if kind=14 then (Fe d a { c with bytes:=c.old },0)
 else if kind=15 then (if CH frm 0 ((d.cells.length:Int) - 1)=false then (d,1) else (Fe d a { c with bytes:=(d.cells.getD frm.toNat cz).bytes },0))
 else (d,1)
theorem VU {d:Dk} {a:Int} (ha:0<=a/\a<d.cells.length):(d.cells.map BB).getD a.toNat []=BB (d.cells.getD a.toNat cz):=AL (by omega)
theorem VT {d:Dk} {a:Int} (ha:0<=a/\a<d.cells.length):Fe d a (d.cells.getD a.toNat cz)=d:=by
 unfold Fe;obtain⟨c,w,r,l⟩:=d;simp only [Dk.mk.injEq,and_true];simp only at ha;rw [Ac,Af (by omega),BC,List.set_getElem_self]
structure Q4 where
 a:Int
 b:Int
 c:Int
 d:Int
theorem XJ {d:Dk} {a:Int} {c:Cel} (h:DkOk d) (hc:(0<=c.state/\c.state<=2)/\c.bytes.length<=200/\c.old.length<=200):DkOk (Fe d a c):=by
 refine⟨by simpa [Fe] using h.n,h.m,h.r,h.l,fun x hx=>?_,fun w hw=>by simpa [Fe] using h.w w hw⟩;rcases Cg hx with hx | rfl
 ·exact h.c x hx
 ·exact hc
theorem Se {d:Dk} (h:DkOk d) (i:Nat):(0<=(d.cells.getD i cz).state/\(d.cells.getD i cz).state<=2)/\(d.cells.getD i cz).bytes.length<=200/\(d.cells.getD i cz).old.length<=200:=by
 by_cases hi:i<d.cells.length
 ·exact h.c _ (A9 (d:=cz) hi)
 ·rw [Ac,AE (by omega)];exact⟨⟨CB _,show (0:Int)<=2 by decide⟩,by simp [cz],by simp [cz]⟩
theorem DkOk.fault {d:Dk} (h:DkOk d) (kind a frm bit bits:Int):DkOk (d.fault kind a frm bit bits).1/\(d.fault kind a frm bit bits).1.cells.length=d.cells.length/\(d.fault kind a frm bit bits).1.cache=d.cache/\(d.fault kind a frm bit bits).1.left=d.left/\(d.fault kind a frm bit bits).1.reqs=d.reqs:=by
 have hc:=Se h a.toNat;have hf:=Se h frm.toNat;have go:∀ c:Cel,((0<=c.state/\c.state<=2)/\c.bytes.length<=200/\c.old.length<=200)->DkOk (Fe d a c)/\(Fe d a c).cells.length=d.cells.length/\(Fe d a c).cache=d.cache/\(Fe d a c).left=d.left/\(Fe d a c).reqs=d.reqs:=fun c h1=>⟨XJ h h1,by simp [Fe],rfl,rfl,rfl⟩
 have st:DkOk d/\d.cells.length=d.cells.length/\d.cache=d.cache/\d.left=d.left/\d.reqs=d.reqs:=⟨h,rfl,rfl,rfl,rfl⟩;unfold Dk.fault;split
 ·exact st
 ·split
  ·exact st
  ·simp only;split
   ·refine go _ ⟨?_,hc.2⟩;simp only;split
    ·exact⟨by decide,by decide⟩
    ·exact hc.1
   ·split
    ·exact go _ ⟨⟨show (0:Int)<=2 by decide,CB 2⟩,hc.2⟩
    ·split
     ·split
      ·exact st
      ·exact go _ ⟨hc.1,by simp only [G7];exact hc.2.1,hc.2.2⟩
     ·split
      ·exact go _ ⟨hc.1,hc.2.2,hc.2.2⟩
      ·split
       ·split
        ·exact st
        ·exact go _ ⟨hc.1,hf.2.1,hc.2.2⟩
       ·exact st
end
section
open Go.RowKit Go.ChangeShapes Go.WideShapes Go.ChangeAt Go.Deep
section
variable {H:Type} {enc:TypeId × Value->H} {w:World}
end
end
section
open Go.RowKit
structure Q2 where
 a:Int
 b:Int
section
open Go.ChangeShapes Go.WideShapes Go.ChangeAt Go.Deep
variable {H:Type} {enc:TypeId × Value->H} {w:World}
end
structure Md where
 a:An
 l:List Tx
 F:Int->List UInt8
 m:List (List UInt8)
def aI (g:Geo) (M:Md) (lba:Int) (b:List UInt8) (M':Md):Prop:=
 (Ea M.l+4<=g.sl/\(Fj g (Bk M.a M.l) M.F (lba.tdiv g.d)).isSome=true/\∃ W:List Wr,(∀ w∈W,(g.an<=w.addr/\w.addr<g.an+2*g.sl/\Ca w.bytes=w.addr)/\w.bytes.length<=200)/\M'=⟨M.a,M.l ++ [FN g M.a M.l M.F lba b],M9 M.F W,M.m.set lba.toNat b⟩)
 \/((g.sl<Ea M.l+4\/Fj g (Bk M.a M.l) M.F (lba.tdiv g.d)=none)/\M'=M)
def a8 (g:Geo) (M:Md):Md:=match M.l with
 | []=>M
 | x::r=>⟨OL g M.a x,r,Uy g M.a x M.F,M.m⟩
def Kz (n:Int) (F:Int->List UInt8) (q:Int):List UInt8:=if -n<=q/\q<n then F q else []
structure Vo (g:Geo) (K:Int) (M:Md):Prop where
 an:B4 g M.a=true
 ring:CL g M.l M.a.seq M.a.pos g.sl=true
 gen:M.a.gen<=K
 seq:M.a.seq+M.l.length<=K
 one:∀ t∈M.l,OneTab t.images
 fb:∀ q,(M.F q).length<=200
 m:(M.m.length:Int)=g.z*g.d
theorem Vo.vol {g:Geo} {K:Int} {M:Md} (h:Vo g K M) {d:Dk} (hd:Gd (A4 g) d M.F):Vol g K d (Bk M.a M.l):=⟨⟨_,hd⟩,h.an,h.ring,tA,h.gen,h.seq,h.one⟩
theorem Vo.of {g:Geo} {K:Int} {M:Md} {d:Dk} (h:Vol g K d (Bk M.a M.l)) (hf:∀ q,(M.F q).length<=200) (hm:(M.m.length:Int)=g.z*g.d):Vo g K M:=⟨h.an,h.ring,h.gen,h.seq,h.one,hf,hm⟩
theorem Qr {F:Int->List UInt8} {n:Nat} (hF:∀ q,(F q).length<=n) {W:List Wr} (hW:∀ w∈W,w.bytes.length<=n) (q:Int):(M9 F W q).length<=n:=by
 induction W generalizing F with
 | nil=>exact hF q
 | cons w W ih=>
  refine ih (F:=Yu F w) (fun q=>?_) fun x hx=>hW x (Bb _ hx)
  unfold Yu;split
  ·split
   ·exact hW w List.mem_cons_self
   ·exact hF q
  ·split
   ·exact hF _
   ·exact hF q
theorem Ux {g:Geo} (hg:Bq g=true) {a:An} {x:Tx} (ha:B4 g (OL g a x)=true) {F:Int->List UInt8} (hF:∀ q,(F q).length<=200) (hx:∀ y∈x.images,BV g y=true) (q:Int):(Uy g a x F q).length<=200:=by
 unfold Uy;refine Qr (Qr hF fun w hw=>?_) (fun w hw=>(Qh hg ha w hw).2) q;obtain⟨y,hy,hw⟩:=L8.1 hw;have:=JO hg (hx y hy);unfold Vt at hw;split at hw
 ·simp only [AS,Dy,or_false] at hw;rcases hw with rfl | rfl <;> exact Kj (by omega)
 ·rw [A8] at hw;rw [hw];exact Kj (by omega)
theorem Vo.ck {g:Geo} (hg:Bq g=true) {K:Int} {M:Md} (h:Vo g K M) (hK:K<=4294967294) {d d':Dk} (hd:Gd (A4 g) d M.F) (hd':Gd (A4 g) d' (a8 g M).F):Vo g (K+1) (a8 g M):=by
 obtain⟨a,l,F,m⟩:=M;cases l with
 | nil=>exact⟨h.an,h.ring,by have q:a.gen<=K:=h.gen;show a.gen<=K+1;omega,by have q:a.seq+(([]:List Tx).length:Int)<=K:=h.seq;show a.seq+(([]:List Tx).length:Int)<=K+1;omega,h.one,h.fb,h.m⟩
 | cons x r=>
  have hv:=h.vol hd;have h2:=hv.home hg (x:=x) (r:=r) rfl hK (d':=d') ⟨_,hd'⟩;have hi:=(Ft h.ring x (List.mem_cons_self)).1;exact Vo.of (d:=d') h2 (Ux hg h2.an h.fb (Av.1 hi)) h.m
theorem Gd.clip {n:Int} {d:Dk} {F:Int->List UInt8} (h:Gd n d F):Gd n d (Kz n F)/\∀ q,(Kz n F q).length<=200:=by
 have hl:=h.len;refine⟨⟨h.ok,h.left,h.len,h.cache,fun q h0 h1=>?_,fun q h0 h1=>?_⟩,fun q=>?_⟩
 ·have:=h.cell q h0 h1;unfold Kz;rw [if_pos ⟨by omega,h1⟩];exact this
 ·have:=h.old q h0 h1;unfold Kz;rw [if_pos ⟨by omega,by omega⟩];exact this
 ·unfold Kz;split
  ·rename_i hq;by_cases h0:0<=q
   ·have hc:=(h.cell q h0 hq.2).2;rw [<-hc];exact(h.ok.c _ (A9 (by omega))).2.1
   ·have hc:=h.old (-1 - q) (by omega) (by omega);rw [show -1 - (-1 - q)=q by omega] at hc;rw [<-hc];exact(h.ok.c _ (A9 (by omega))).2.2
  ·simp
structure Gc (n:Int) (d:Dk) (F:Int->List UInt8) (l:List Wr):Prop where
 ok:DkOk d
 len:(d.cells.length:Int)=n
 cache:d.cache=l
 cell:∀ a:Int,0<=a->a<n->(d.cells.getD a.toNat cz).state=0/\(d.cells.getD a.toNat cz).bytes=F a
theorem Gw.gc {n:Int} {d:Dk} {F:Int->List UInt8} {l:List Wr} (h:Gw n d F l):Gc n d F l:=⟨h.ok,h.len,h.cache,h.cell⟩
theorem Gc.write {n:Int} {d:Dk} {F:Int->List UInt8} {l:List Wr} (h:Gc n d F l) (hl:l.length<2000) {a:Int} (h0:0<=a) (h1:a<n) {b:List UInt8} (hb:b.length<=200):(d.left=0/\d.write a b=(d,8))\/(d.left≠0/\(d.write a b).2=0/\Gc n (d.write a b).1 F (l ++ [⟨a,b⟩])):=by
 by_cases hz:d.left=0
 ·exact .inl ⟨hz,by unfold Dk.write;rw [if_pos hz]⟩
 ·have hw:=h.ok.write (a:=a) (b:=b) (by rw [<-h.len] at h1;omega) hb;have e:d.write a b=({ d.req with cache:=d.cache ++ [⟨a,b⟩] },0):=by
   unfold Dk.write;rw [if_neg hz,if_neg];rintro(h2 | h2)
   ·have:=(h.cell a h0 h1).1;unfold cz at this;omega
   ·rw [h.cache] at h2;omega
  rw [e] at hw |-
  exact .inr ⟨hz,rfl,hw,h.len,by rw [h.cache],h.cell⟩
theorem Gc.puts {n:Int} {d:Dk} {F:Int->List UInt8} {W l:List Wr} (h:Gc n d F W) (hl:∀ w∈l,(0<=w.addr/\w.addr<n)/\w.bytes.length<=200) (hn:W.length+l.length<=2000):∀ k:Nat,k<=l.length->(d.writes (l.take k)).2.2=false->(d.writes (l.take k)).2.1=k/\Gc n (d.writes (l.take k)).1 F (W ++ l.take k)
 | 0,_,_=>⟨rfl,by rw [List.take_zero,AD];exact h⟩
 | k+1,hk,hv=>by
  have hx0:=F8 d (l:=l) (k:=k) (by omega);have hv0:(d.writes (l.take k)).2.2=false:=by
   cases hc:(d.writes (l.take k)).2.2 with
   | false=>rfl
   | true=>
    rw [hx0] at hv;unfold Fa at hv;rw [hc] at hv;simp only [if_true] at hv;rw [hc] at hv;cases hv
  obtain⟨q1,q3⟩:=Gc.puts h hl hn k (by omega) hv0;have hx:=KC (d:=d) (l:=l) (k:=k) (by omega) hv0;have hm:=hl _ (A9 (d:=(⟨0, []⟩:Wr)) (show k<l.length by omega));rcases q3.write (by rw [Ai,As];omega) hm.1.1 hm.1.2 hm.2 with ⟨-,e8⟩ | ⟨-,e0,hw⟩
  ·rw [hx,e8] at hv;cases hv
  ·rw [hx,e0];have e:l.take (k+1)=l.take k ++ [l.getD k ⟨0, []⟩]:=by
    rw [Bg,Af (by omega),Ac,Af (by omega)];try rfl
   refine⟨by simp only [q1];rfl,?_⟩;rw [e,<-AC];exact hw
theorem Gc.flush {n:Int} {d:Dk} {F:Int->List UInt8} {l:List Wr} (h:Gc n d F l):Gc n d.flush (M9 F l) []:=by
 have e:d.flush=⟨C7 d.cells l, [],d.req.reqs,d.req.left⟩:=by
  unfold Dk.flush;rw [allFin_cells,h.cache];try rfl
 have ho:=h.ok.flush;rw [e] at ho |-
 refine⟨ho,by show ((C7 d.cells l).length:Int)=n;rw [finL_len];exact h.len,rfl,fun a h0 h1=>?_⟩;have hl:=h.len;refine Ot h0 (by omega) (h.cell a h0 h1) _ l rfl fun w hw=>?_
 rw [<-h.cache] at hw;exact(h.ok.w w hw).1.1
theorem Gc.putAll {n:Int} {d:Dk} {F:Int->List UInt8} {l:List Wr} (h:Gc n d F []) (hl:∀ w∈l,(0<=w.addr/\w.addr<n)/\w.bytes.length<=200) (hn:l.length<=2000) (hv:(d.putAll l).2.2=false):(d.putAll l).2.1=l.length/\Gc n (d.putAll l).1 (M9 F l) []:=by
 cases hw:(d.writes l).2.2 with
 | true=>rw [Hj hw] at hv;cases hv
 | false=>
  have hp:=Gc.puts h hl (by simpa using hn) l.length (Ag _);rw [A5] at hp;obtain⟨q1,q2⟩:=hp hw;have e:=FC hw;by_cases h0:(d.writes l).1.left=0
  ·rw [if_pos h0] at e;rw [e] at hv;cases hv
  ·rw [if_neg h0] at e;rw [e];exact⟨q1,by simpa using q2.flush⟩

theorem MH (g:Geo) (w:Int) (hw : -1<=w/\w<g.d):Fn Tryz.prog 242 [.ag (Bl g),iv w] fun r=>r = .tp [iv (Et g w), .v (.bool true)]:=by
 unfold Et;by_cases h:w = -1
 ·rw [if_pos h];refine zT Tryz.func242 rfl ?_;conv=>whnf
  rw [show (w == -1)=true by simpa using h];exact⟨_,ri,rfl⟩
 ·rw [if_neg h];refine zT Tryz.func242 rfl ?_;conv=>whnf
  rw [show (w == -1)=false by simpa using h];refine zz tys_ok mixed [0,1,2,3,4,5,6,7,8,9,10] (by kernel_rfl) ?_;conv=>whnf
  rw [show decide (w>=0)=true from decide_eq_true (by omega)];conv=>whnf
  rw [show decide (w<g.d)=true from decide_eq_true (by omega)];exact⟨_,ri,rfl⟩
theorem Mj {g:Geo} {a:An} (hg:Bq g=true) (ha:B4 g a=true):a.label.size<=1000000/\a.homes.length<=1000/\∀ h∈a.homes,h.places.length<=1000000:=by
 have:=DB hg ha 0 (Ak _);exact⟨by have:=this.2.2.2.1;omega,by have:=this.2.1;omega,fun h hh=>K2 hg ha h hh⟩
theorem S_ (g:Geo) (a:An) (z w:Int) (hg:Bq g=true) (ha:B4 g a=true) (hz:0<=z/\z<g.z) (hw : -1<=w/\w<g.d):Fn Tryz.prog 241 [.ag (Bl g), .ag (Fh a),iv z,iv w] fun r=>r = iv 0:=by
 obtain⟨s1,s2, -⟩:=Mj hg ha;have c1:=Gj g a s1 (by omega);rw [hg,ha] at c1;have c2:=MH g w hw;refine zT Tryz.func241 rfl ?_;conv=>whnf
 refine zZ c1 ?_;conv=>whnf
 refine zZ c2 ?_;conv=>whnf
 rw [show decide (z<0)=false from decide_eq_false (by omega)];conv=>whnf
 rw [show decide (z>=g.z)=false from decide_eq_false (by omega)];exact⟨_,ri,rfl⟩
theorem Pl (g:Geo) (a:An) (z w:Int) (hg:Bq g=true) (ha:B4 g a=true) (hz:0<=z/\z<g.z) (hw : -1<=w/\w<g.d):Fn Tryz.prog 165 [.ag (Bl g), .ag (Fh a),iv z,iv w] fun r=>r = .tp [iv (D3 g a z w),iv 0]:=by
 obtain⟨g1,g2,g3,g4,g5⟩:=Az.1 hg;obtain⟨hi,hh⟩:=Sa ha hz;simp only [EG,Ad,decide_eq_true_eq,AH] at hh;obtain⟨p1,p2,p3,p4⟩:=hh;have hat:0<=Et g w/\Et g w<=g.d:=by unfold Et;split <;> omega
 have hk:(Et g w).toNat<(a.homes.getD z.toNat ⟨[],0,0⟩).places.length:=by omega
 have hp:=Av.1 p4 (Et g w).toNat (by simpa using hk);simp only [Ad,AH] at hp;have c1:=S_ g a z w hg ha hz hw;have c2:=MH g w hw;have c3:=P9 g z ((a.homes.getD z.toNat ⟨[],0,0⟩).places.getD (Et g w).toNat 0) hg hz (by unfold CE;omega);refine zT Tryz.func165 rfl ?_;conv=>whnf
 refine zZ c1 ?_;conv=>whnf
 refine zZ c2 ?_;conv=>whnf
 apply zJ tys_ok mixed (.o [0,1,2,3,4,5,6,7,8,9,10,11,12,13,14,15] .fin) [8,9,27,28,29,30,31,32,33,34,35,36,37,38,39,40] (by kernel_rfl)
 ·conv=>whnf
  try (refine Ah (by first | omega | exact ixA | exact ixB | (simp;done)) ?_;conv=>whnf)
  try (refine Ah (by first | omega | exact ixA | exact ixB | (simp;done)) ?_;conv=>whnf)
  refine zZ c3 ?_;exact tA
 exact⟨_,ri,rfl⟩
@[reducible] def txZ:List AV:= [iv 0,iv 0,iv 0, .v (.slice none 0 0)]
theorem JT (g:Geo) (lba:Int) (hg:Bq g=true) (h:0<=lba/\lba<g.z*g.d):Fn Tryz.prog 88 [.ag (Bl g),iv lba] fun r=>r = .tp [iv (lba.tdiv g.d),iv (lba.tmod g.d),iv 0]:=by
 obtain⟨h1,h2,h3,h4,h5⟩:=Az.1 hg;have hG:Fn Tryz.prog 118 [.ag (Bl g)] fun r=>r = .v (Ee (Bq g)):=Cw g.z g.d g.sp g.sl g.an
 rw [hg] at hG;have hp:g.z*g.d<=16:=Int.le_trans (Ce h1.2 (by omega)) (by omega);have hw:IntKind.i64.wrap (IntKind.i64.wrap (g.z*g.d) - 1)=g.z*g.d - 1:=by rw [wi (n:=g.z*g.d) (by omega),wi (by omega)]
 have hn:=Hv lba 0 (IntKind.i64.wrap (IntKind.i64.wrap (g.z*g.d) - 1));rw [show CH lba 0 (IntKind.i64.wrap (IntKind.i64.wrap (g.z*g.d) - 1))=true from AH.2 (by rw [hw];omega)] at hn;have hq:lba.tdiv g.d=lba / g.d:=Bp h.1;have hq2:0<=lba / g.d/\lba / g.d<=lba:=⟨Dh h.1 (by omega),Int.ediv_le_self _ h.1⟩;refine zT Tryz.func88 rfl ?_;conv=>whnf
 refine zZ hG ?_;conv=>whnf
 refine zZ hn ?_;conv=>whnf
 have hd0:g.d≠0:=by omega
 refine zz tys_ok mixed [0,1,2,3,4,5,6,7,8,9,10] (by kernel_rfl) ?_;refine⟨hd0,?_⟩;refine⟨hd0,?_⟩;exact⟨_,ri,by rw [wi (n:=lba.tdiv g.d) (by omega)]⟩
theorem Nk (g:Geo) (w:Int):Fn Tryz.prog 167 [.ag (Bl g),iv w] fun r=>r = iv (Et g w):=by
 unfold Et;by_cases h:w = -1
 ·rw [if_pos h];refine zT Tryz.func167 rfl ?_;conv=>whnf
  rw [show (w == -1)=true by simpa using h];exact⟨_,ri,rfl⟩
 ·rw [if_neg h];refine zT Tryz.func167 rfl ?_;conv=>whnf
  rw [show (w == -1)=false by simpa using h];exact⟨_,ri,rfl⟩
theorem Sd (g:Geo) (s:Stt) (d:Dk) (F:Int->List UInt8) (a:Int) (h:Gd (A4 g) d F) (ha:0<=a/\a<A4 g) :
  ACalls Tryz.prog false 162 [.bp 0 0,iv a] (GB g s d) fun r H=>r = .ag (DZ ⟨0,F a⟩)/\∃ d',Gd (A4 g) d' F/\H=GB g s d':=by
 have hr:=Og g s d a h.ok (by rw [h.len];exact ha);rw [h.read ha.1 ha.2] at hr;exact hr.mono fun r H hh=>⟨hh.1,d.req,h.req,hh.2⟩
theorem XE (g:Geo) (s:Stt) (d:Dk) (F:Int->List UInt8) (z:Int) (hg:Bq g=true) (hl:LogB s.txns) (ha:B4 g s.a=true) (h:Gd (A4 g) d F) (hF:∀ a,(F a).length<=100000) (hz:0<=z/\z<g.z) (hB:∀ p,CG s.txns z 255=some p->p.1.bytes.length<=100000) (t:List Ent) (ht:Fj g s F z=some t) :
    ACalls Tryz.prog false 89 [.bp 0 0,iv z] (GB g s d) fun r H=>r = .tp [.ag [BW t],iv 0]/\∃ d',Gd (A4 g) d' F/\H=GB g s d':=by
  have hf:=MM s.txns z 255 hl.n hl.i;unfold Fj at ht;cases hL:CG s.txns z 255 with
  | some p=>
    obtain⟨x,q⟩:=p;rw [hL] at hf ht;simp only at hf ht;have hr:=IN g x.bytes (hB _ hL);rw [hg,if_pos rfl,ht] at hr;refine zV tys_ok Tryz.func89 rfl rfl (Ae rfl) ?_;conv=>whnf
    refine zZ hf ?_;conv=>whnf
    refine zZ hr ?_;exact⟨.tp [.ag [BW t],iv 0], .tp [.ag [BW t],iv 0],GB g s d,fun _ _ h=>h,zQ (s:= [0,1,2,3]) tA,rfl,d,h,rfl⟩
  | none=>
    rw [hL] at hf ht;simp only at hf ht;have hR:=Po s.a s.txns z (by have:=(Sa ha hz).1;omega) hl.n (fun t ht=>(hl.i t ht).1);refine zV tys_ok Tryz.func89 rfl rfl (Ae rfl) ?_;conv=>whnf
    refine zZ hf ?_;conv=>whnf
    apply zJ tys_ok mixed (.o [0,1,2,3,4,5,6,7,8,9,10,11,12,13,14,15,16] .fin) [11,12,41,42,43,44,45,46,47,48,49,50,51,52,53,54,55] (by kernel_rfl)
    · conv=>whnf
      refine zZ hR ?_;exact tA
    conv=>whnf
    have htab:∀ k:Nat,k<2->g.an+2*g.sl<=Be g z (k:Nat)/\Be g z (k:Nat)<A4 g:=fun k hk=>by have:=Qx hg hz (k:=(k:Nat)) (by omega);omega
    refine zS (Nat × Dk) (fun x=>([(0, .bp 0 0),(1,iv z),(4, .bp 4 0),(11,iv (Dv s.a s.txns z)),(56,iv (x.1:Nat))],GB g s x.2 ++ ([.box 145 [.v (.slice none 0 0)]]:List AB))) (fun x=>x.1<=2/\Gd (A4 g) x.2 F/\∀ j:Nat,j<x.1->Cy g ⟨0,F (Be g z (j:Nat))⟩ (Be g z (j:Nat)) (Dv s.a s.txns z)=none) (fun x=>2 - x.1) (0,d) ⟨Ak _,h,fun j hj=>absurd hj (Ap j)⟩
      (zQ (s:= [0,1,2,3,4]) tA) ?_
    rintro⟨k,d1⟩ ⟨hk,hd1,hno⟩;simp only at hk hd1 hno;conv=>whnf
    refine AJ (fun h6=>?_) (fun h6=>?_) <;> (repeat rw [Ab] at h6) <;> conv=>whnf
    · have hk2:k<2:=by omega
      have hta:=JS g z (k:Nat) hg hz (by omega);obtain⟨q1,q2⟩:=htab k hk2;have hz2:=Az.1 hg;have hrd:=Sd g s d1 F (Be g z (k:Nat)) hd1 (by omega);have hto:=Nf g ⟨0,F (Be g z (k:Nat))⟩ (Be g z (k:Nat)) (Dv s.a s.txns z) hg (hF _);repeat' (refine z_ ?_;conv=>whnf)
      refine zZ hta ?_;conv=>whnf
      repeat' (refine z_ ?_;conv=>whnf)
      refine ze9 [0,1,2,3] hrd ?_;rintro _ _ ⟨rfl,d2,hd2,rfl⟩;conv=>whnf
      repeat' (refine z_ ?_;conv=>whnf)
      have hGk:∀ u,Cy g ⟨0,F (Be g z (k:Nat))⟩ (Be g z (k:Nat)) (Dv s.a s.txns z)=some u->u=t:=fun u hu=>by
        match k,hk2 with
        | 0,_=>
          have hu:Cy g ⟨0,F (Be g z 0)⟩ (Be g z 0) (Dv s.a s.txns z)=some u:=hu;rw [hu] at ht;exact Option.some.inj ht
        | 1,_=>
          have h0:Cy g ⟨0,F (Be g z 0)⟩ (Be g z 0) (Dv s.a s.txns z)=none:=hno 0 (by decide);have hu:Cy g ⟨0,F (Be g z 1)⟩ (Be g z 1) (Dv s.a s.txns z)=some u:=hu;rw [h0] at ht;simp only at ht;exact Option.some.inj (hu.symm.trans ht)
      apply zX (0) tys_ok mixed (.o [0,1,2,3,4,5,6] (.two 7 (.o [8,9,10,11,12,13] .fin) 11 (.o [7,8,9,10,12,13] .fin))) (by kernel_rfl);refine Ah ?_ ?_;conv=>whnf
      refine zZ hto ?_;conv=>whnf
      try (refine tS ?_;conv=>whnf)
      rotate_left 1;conv=>whnf
      refine zZ hto ?_;conv=>whnf
      try (refine tS ?_;conv=>whnf)
      rotate_left 1;all_goals
        cases hT:Cy g ⟨0,F (Be g z (k:Nat))⟩ (Be g z (k:Nat)) (Dv s.a s.txns z)
      all_goals
        conv=>whnf
        first
        | exact⟨(k+1,d2),⟨by show k+1<=2;omega,hd2,fun j hj=>by by_cases e:j=k;exact e ▸ hT;exact hno j (by have:j<k+1:=hj;omega)⟩,by show 2 - (k+1)<2 - k;omega,zQ (s:= [0,1,2,3,4]) ⟨⟨rfl,rfl,rfl,rfl,AN (by omega),tv⟩,tA,rfl,rfl,rfl,rfl,rfl⟩⟩
        | (rename_i u
           have e:=hGk _ hT;subst e;exact⟨.tp [.ag [BW u],iv 0], .tp [.ag [BW u],iv 0],GB g s d2,fun _ _ h=>h,zQ (s:= [0,1,2,3]) tA,rfl,d2,hd2,rfl⟩)
    · have ek:k=2:=by omega
      subst ek;have h0:Cy g ⟨0,F (Be g z 0)⟩ (Be g z 0) (Dv s.a s.txns z)=none:=hno 0 (by decide);have h1:Cy g ⟨0,F (Be g z 1)⟩ (Be g z 1) (Dv s.a s.txns z)=none:=hno 1 (by decide);rw [h0] at ht;simp only at ht;rw [h1] at ht;cases ht
end
section
open Go.RowKit Go.Maps
theorem Fn.at {P:Program} {f:FuncId} {args:List AV} {K:AV->Prop} (h:Fn P f args K) {c0:Ctx} (hd:c0.dom=0) (hM:∀ b,c0.M b->b<c0.w.heap.size) (hg:globOk c0.w) {W:World} (hB:Below c0.w.heap.size c0.w W) {us:List Value} (hr:RdL args { c0 with w:=W } us) :
  Calls P f us.toArray W fun e w'=>∃ v r,e = .returned v/\K r/\Below W.heap.size W w'/\Rd r { c0 with w:=w' } v:=
 h.2 { c0 with w:=W } us hd (fun b hb=>At (hM b hb) hB.size) (hg.keep hB.size hB.block) hr
theorem MI {w w':World} {P:Program} {k:TypeId} {R:Value->Option (DataW Unit × List MemPlace)} {b n:Nat} {D:DataW Unit} (h:w.ownsMap P k R b n D) (hB:Below w.heap.size w w'):w'.ownsMap P k R b n D:=by
 have hl:=h.lt;obtain⟨es,clock,hb,r⟩:=h;exact⟨es,clock,(hB.block b hl).trans hb,r⟩
theorem und_map:Tryz.prog.underlying 319=some (.map 3 4):=by kernel_rfl
theorem und_int:Tryz.prog.underlying 3=some (.int .i64):=by kernel_rfl
theorem und_bool:Tryz.prog.underlying 4=some .bool:=by kernel_rfl
theorem SR (g:Geo) (A:Int) (hg:Bq g=true) (h:0<=A/\A<g.z*g.d):Fn Tryz.prog 143 [.ag (Bl g),iA [A]] fun r=>r = .tp [iv 4,iv 0]:=by
 refine⟨⟨_,Tryz.func143,rfl,by decide⟩,fun c0 us hd hM hgl hr=>?_⟩;obtain⟨u1,u2,rfl,h1,h2⟩:=Zx hr;have hu1:u1 = .agg #[.int .i64 g.z, .int .i64 g.d, .int .i64 g.sp, .int .i64 g.sl, .int .i64 g.an]:=by
  simp only [Bl,Rd,RdL] at h1;obtain⟨xs,rfl,a1,_,rfl,rfl,a2,_,rfl,rfl,a3,_,rfl,rfl,a4,_,rfl,rfl,a5,_,rfl,rfl,rfl⟩:=h1;rfl
 have hs:=Qw h2;obtain⟨a,k,rfl⟩:=hs.form;subst hu1;have hC:Fn Tryz.prog 118 [.ag (Bl g)] fun r=>r = .v (Ee (Bq g)):=Cw g.z g.d g.sp g.sl g.an
 rw [hg] at hC;have hS:=JT g A hg h;have hX:=P1 [] A (by decide);have hkb:k<=maxLen:=hs.cap.2.2;obtain⟨b,o,rfl, -,hx⟩:=Ob hs (k:=0) (show 0<1 by decide);have rg:∀ W,Rd (.ag (Bl g)) { c0 with w:=W } (.agg #[.int .i64 g.z, .int .i64 g.d, .int .i64 g.sp, .int .i64 g.sl, .int .i64 g.an]):=fun W=>by
  simp [Rd,RdL,Bl]
 have cC:∀ W,Below c0.w.heap.size c0.w W->Calls Tryz.prog 118 #[.agg #[.int .i64 g.z, .int .i64 g.d, .int .i64 g.sp, .int .i64 g.sl, .int .i64 g.an]] W fun e w'=>e = .returned (.int .i64 0)/\Below W.heap.size W w':=fun W hB=>(hC.at hd hM hgl hB (us:= [_]) (by simpa [RdL] using rg W)).mono fun e w' ⟨v,r,h1,h2,h3,h4⟩=>by
  subst h2;simp only [Rd] at h4;subst h4;exact⟨h1,h3⟩
 have cS:∀ W,Below c0.w.heap.size c0.w W->Calls Tryz.prog 88 #[.agg #[.int .i64 g.z, .int .i64 g.d, .int .i64 g.sp, .int .i64 g.sl, .int .i64 g.an], .int .i64 A] W fun e w'=>e = .returned (.tuple #[.int .i64 (A.tdiv g.d), .int .i64 (A.tmod g.d), .int .i64 0])/\Below W.heap.size W w':=fun W hB=>(hS.at hd hM hgl hB (us:= [_,_]) (by simpa [RdL,Rd] using rg W)).mono fun e w' ⟨v,r,h1,h2,h3,h4⟩=>by
  subst h2;simp only [Rd,RdL] at h4;obtain⟨xs,rfl,a1,_,rfl,rfl,a2,_,rfl,rfl,a3,_,rfl,rfl,rfl⟩:=h4;exact⟨h1,h3⟩
 have cX:∀ W v,Below c0.w.heap.size c0.w W->Rd (iA []) { c0 with w:=W } v->Calls Tryz.prog 80 #[v, .int .i64 A] W fun e w'=>e = .returned (.bool false)/\Below W.heap.size W w':=fun W v hB hv=>(hX.at hd hM hgl hB (us:= [v,_]) (by simpa [RdL,Rd] using hv)).mono fun e w' ⟨v,r,h1,h2,h3,h4⟩=>by
  subst h2;simp only [Rd] at h4;subst h4;exact⟨h1,h3⟩
 have hmm:=@run_makeMap Tryz.prog;clear hC hS hX hr h2 h1 hs rg
 go_enter Tryz.func143,Tryz.ntmps143
 go_wp2_with fail
 have hB1:Below c0.w.heap.size c0.w (c0.w.alloc (.cells #[.int .i64 g.z, .int .i64 g.d, .int .i64 g.sp, .int .i64 g.sl, .int .i64 g.an] 24)):=(Below.refl _ _).alloc (Ag _) _;((with_reducible refine(cC _ hB1).mono ?_);rintro e w1 ⟨rfl,hBa⟩);have hs1:c0.w.heap.size+1<=w1.heap.size:=by have:=hBa.size;simpa using this
 have hBw:=Lib.hid (hB1.trans (hBa.mono (by simp)));have hbk:=Lib.hid ((hBa.block c0.w.heap.size (by simp)).trans (heap_alloc_new _ _));clear hB1 hBa cC
 go_wp2_with fail
 refine wp_loop_rounds 2 ?_;rw [rounds_succ];have hB2:=Lib.hid (hBw.out.alloc (by omega) (.map #[] 0));have hcell:∀ i,(w1.alloc (.map #[] 0)).cell? ⟨c0.w.heap.size,i,none⟩ = #[Value.int .i64 g.z, .int .i64 g.d, .int .i64 g.sp, .int .i64 g.sl, .int .i64 g.an][i]? :=fun i=>by
  simp only [World.cell?];rw [Below.heap_alloc _ _ _ (by omega),hbk.out];try rfl
 have hx2:(w1.alloc (.map #[] 0)).cell? ⟨b,o,none⟩=some (.int .i64 A):=by
  have q:=World.block_lt_of_cell? c0.w _ hx;exact(hB2.out.cell (by exact q)).trans hx
 have hown:(w1.alloc (.map #[] 0)).ownsMap Tryz.prog 3 (plainElem (H:=Unit) Tryz.prog 4) w1.heap.size 0 (.map []):=World.ownsMap_made _ _ _ _;generalize hW:w1.alloc (.map #[] 0)=W2 at *
 go_wp2_with fail
 ((with_reducible refine(cS _ hB2.out).mono ?_);rintro e w2 ⟨rfl,hBb⟩);have hB3:=Lib.hid (hB2.out.trans (hBb.mono hB2.out.size));have hown2:=MI hown hBb;have hs2:=hBb.size;have hs3:c0.w.heap.size<W2.heap.size:=by rw [<-hW];simp;omega
 have hcell2:∀ i,w2.cell? ⟨c0.w.heap.size,i,none⟩ = #[Value.int .i64 g.z, .int .i64 g.d, .int .i64 g.sp, .int .i64 g.sl, .int .i64 g.an][i]? :=fun i=>(hBb.cell (p:=⟨c0.w.heap.size,i,none⟩) hs3).trans (hcell i)
 clear hcell hx2 hown cS
 go_wp2_with fail
 ((with_reducible refine(cX _ _ hB3.out ?_).mono ?_))
 ·simp only [iA,Rd];exact⟨_,k,rfl,Ak _,hkb, .inl rfl⟩
 rintro e w3 ⟨rfl,hBc⟩;have hB4:=Lib.hid (hB3.out.trans (hBc.mono hB3.out.size));have hown3:=MI hown2 hBc;have hs4:=hBc.size;have hZ:(Lit.int .i64 (A.tdiv g.d)).wf=true:=by
  obtain⟨h1,h2,h3,h4,h5⟩:=Az.1 hg;have hp:g.z*g.d<=16:=Int.le_trans (Ce h1.2 (by omega)) (by omega);have hq:A.tdiv g.d=A / g.d:=Bp h.1;have hq2:0<=A / g.d/\A / g.d<=A:=⟨Dh h.1 (by omega),Int.ediv_le_self _ h.1⟩;have : -9223372036854775808<=A.tdiv g.d/\A.tdiv g.d<=9223372036854775807:=by omega
  simp only [Lit.wf];rw [Ad];exact⟨decide_eq_true this.1,decide_eq_true this.2⟩
 have hkey:keyOf Tryz.prog 3 (.int .i64 (A.tdiv g.d))=some (.int .i64 (A.tdiv g.d)):=keyOf_int_mk und_int hZ;clear hcell2 hown2 cX
 go_wp2_with (first
  | (at_mapUpdate;refine wpList_mapUpdate_own _ rfl _ _ _ 319 rfl 3 4 (int_keyed und_int) und_map (plainElem (H:=Unit) Tryz.prog 4) w1.heap.size 0 _ rfl hown3 (by unfold maxLen;omega) _ _ _ rfl rfl hkey _ [] (plainElem_bool und_bool true) ?_;intro w4 hown4 hgrow4)
  | go_in)
 rw [rounds_succ];have hsz:Maps.size ((DataW.map (H:=Unit) []).put (Lit.int .i64 (A.tdiv g.d)) (.lit (.bool true)))=1:=rfl;have hB5:=Lib.hid (hB4.out.grown hgrow4 (by have:=hB4.out.size;omega) (fun j hj=>by cases hj;omega))
 go_wp2_with (first
  | (at_len;refine wpList_len_own _ rfl _ 319 rfl 3 4 und_map _ w1.heap.size (0+1) _ rfl hown4 ?_)
  | go_in)
 go_ret2
 refine⟨_,_,rfl,rfl,hB5.out,?_⟩;simp only [Rd,RdL];exact⟨_,rfl,_,_,rfl,rfl,_,_,rfl,rfl,rfl⟩
end
section
open Go.RowKit
theorem JI (l:List Tx) (z w:Int) (hl:l.length<=1000000) (hi:∀ t∈l,t.images.length<=1000000/\∀ x∈t.images,x.bytes.length<=1000000000):ACalls Tryz.prog false 90 [.ow 0 l.length,iv z,iv w] [.row 170 4 (l.map Ii)] fun r H=>r=(match CG l z w with | some p=> .tp [bA p.1.bytes,iv p.2, .v (.bool true)] | none=> .tp [bA [],iv 0, .v (.bool false)])/\H=[.row 170 4 (l.map Ii)]:=by
 have hf:=Lr l z w hl (fun t ht=>(hi t ht).1);have e:CG l z w=_:=Jo l z w l.length;rw [e];have tsub:SubL [.sl 4 l.length fun i=>(l.map Ii).getD i [],iv z,iv w] [Ev l,iv z,iv w]:=⟨Ck (f:=Ii) l rfl rfl,ri,ri,tv⟩;cases hA:FI l z w l.length with
 | none=>
  rw [hA] at hf;refine zV tys_ok Tryz.func90 rfl rfl (Ae rfl) ?_;conv=>whnf
  refine zk (args':= [.sl 4 l.length fun i=>(l.map Ii).getD i [],iv z,iv w]) (hf.subA tsub) ⟨(Aa _).symm,rfl⟩ ?_;rintro _ rfl;refine⟨rfl,?_⟩;exact⟨_, .tp [bA [],iv 0, .v (.bool false)], [.row 170 4 (l.map Ii)],Cc (m:= [bA [],iv 0, .v (.bool false)]) ⟨Bt 1 _,ri,ri,tv⟩,zQ (s:= [0]) tA,rfl,rfl⟩
 | some p=>
  obtain⟨k,i⟩:=p;rw [hA] at hf;obtain⟨hk,hi2⟩:=Hw hA;simp only at hk hi2;have hm:=hi _ (A9 (d:=tz) hk);have hc:=Bu ((l.getD k tz).images.getD i iz).bytes (hm.2 _ (A9 hi2));replace hf:Fn Tryz.prog 164 [Ev l,iv z,iv w] fun r=>r = .tp [iv (k:Nat),iv (i:Nat), .v (.bool true)]:=hf
  have ixA:(0:Int)<=(k:Nat)/\((k:Nat):Int)<(l.length:Nat):=by omega
  have ixB:(0:Int)<=(i:Nat)/\((i:Nat):Int)<((l.getD k tz).images.length:Nat):=⟨Int.natCast_nonneg _,Int.ofNat_lt.2 hi2⟩;have hE:(l.map Ii).getD (k:Int).toNat []=Ii (l.getD k tz):=by rw [Ab];exact AL hk
  refine zV tys_ok Tryz.func90 rfl rfl (Ae rfl) ?_;conv=>whnf
  refine zk (args':= [.sl 4 l.length fun i=>(l.map Ii).getD i [],iv z,iv w]) (hf.subA tsub) ⟨(Aa _).symm,rfl⟩ ?_;rintro _ rfl;refine⟨rfl,?_⟩;conv=>whnf
  apply zX (0) tys_ok mixed (.o [0,1,2,3,4,5,6,7,8,10,11,12,13,14,9,15,16,17] .fin) (by kernel_rfl);conv=>whnf
  try (refine tI ?_;conv=>whnf)
  try (first | (refine Ah ⟨rfl,(Aa _).symm,by rw [Ab];exact hk⟩ ?_;(conv=>whnf);rw [hE]) | skip;conv=>whnf)
  try (refine tI ?_;conv=>whnf)
  try (first | (refine Ah ⟨rfl,(Aa _).symm,by rw [Ab];exact hk⟩ ?_;(conv=>whnf);rw [hE]) | skip;conv=>whnf)
  try (refine tI ?_;conv=>whnf)
  try (first | (refine Ah ⟨rfl,(Aa _).symm,by rw [Ab];exact hk⟩ ?_;(conv=>whnf);rw [hE]) | skip;conv=>whnf)
  refine zZ hc ?_;conv=>whnf
  all_goals exact⟨_, .tp [bA ((l.getD k tz).images.getD i iz).bytes, .v (.int .i64 (l.getD k tz).seq), .v (.bool true)], [.row 170 4 (l.map Ii)],fun _ _ h=>h,zQ (s:= [0]) tA,rfl,rfl⟩
@[reducible] def aL (s:Stt) (tx lo:AV):List AV:= [iv s.a.gen,iv s.a.epoch,iv s.a.pos,iv s.a.seq,iv s.a.last, .v (.string s.a.label),GP s.a.homes,tx, .v (.bool s.only),iv s.cursor,iv s.found,iv s.fixed,iv s.moved,lo]
@[reducible] def XK (g:Geo) (x tx lo:AV) (s:Stt):List AV:= [iv g.z,iv g.d,iv g.sp,iv g.sl,iv g.an,x,iv s.a.gen,iv s.a.epoch,iv s.a.pos,iv s.a.seq,iv s.a.last, .v (.string s.a.label),GP s.a.homes,tx, .v (.bool s.only),iv s.cursor,iv s.found,iv s.fixed,iv s.moved,lo]
@[reducible] def GL (g:Geo) (s:Stt) (d:Dk):List AB:= [.box 99 (XK g (.bp 1 0) (.ow 4 s.txns.length) (iA s.lost) s), .box 119 (II (.ow 2 d.cells.length) (.ow 3 d.cache.length) d.reqs d.left), .row 68 3 (d.cells.map BB), .row 152 2 (d.cache.map E9), .row 170 4 (s.txns.map Ii)]
@[reducible] def aT (g:Geo) (s:Stt) (d:Dk):List AB:= [.box 24 (Bl g), .box 38 (Me d), .box 34 (aF s), .box 119 (II (.ow 4 d.cells.length) (.ow 5 d.cache.length) d.reqs d.left), .row 68 3 (d.cells.map BB), .row 152 2 (d.cache.map E9), .row 170 4 (s.txns.map Ii)]
end
end Go.Proofs.YtpjkcgacjjbikaaGreatDoor.A
