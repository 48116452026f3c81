/-
Several texts in one.
-/
import Derived.Test.YtkolckdakddggaaGreatDoorPPC3P3
import Derived.Test.YtkolckdakddggaaGreatDoorPPC3P2
import Derived.Test.YtkolckdakddggaaGreatDoorPPC3P1
set_option maxRecDepth 100000
set_option maxHeartbeats 8000000
set_option linter.unusedSimpArgs false
set_option linter.unusedVariables false
set_option linter.deprecated false
namespace Go.Proofs.YtkolckdakddggaaGreatDoor.A
section
open Go.RowKit
@[reducible] def Z0 (g:Geo) (x:AV) (s:Stt) (e:Int):List AV:= [iv g.z,iv g.d,iv g.sp,iv g.sl,iv g.an,x,iv s.a.gen,iv s.a.epoch,iv s.a.pos,iv s.a.seq,iv s.a.last, .v (.string s.a.label),Ig s.a.homes,Dh s.txns, .v (.bool s.only),iv s.cursor,iv s.found,iv s.fixed,iv s.moved,iA s.lost,iv e]
@[reducible] def JM (g:Geo) (s:Stt) (e:Int) (d:Dk):List AB:= [.box 95 (Z0 g (.bp 1 0) s e), .box 92 (Hr (.ow 2 d.cells.length) (.ow 3 d.cache.length) d.reqs d.left), .row 84 3 (d.cells.map BG), .row 131 2 (d.cache.map EK)]
@[reducible] def NC (g:Geo) (s:Stt) (e:Int) (d:Dk):List AB:= [.box 95 (Z0 g (.bp 1 0) s e), .box 92 (Hr (.ow 2 d.cells.length) (.ow 4 d.cache.length) d.reqs d.left), .row 84 3 (d.cells.map BG), .dead, .row 131 2 (d.cache.map EK)]
@[reducible] def aM (g:Geo) (s:Stt) (e:Int) (d:Dk) (l:List AB):List AB:= .box 95 (Z0 g (.bp 1 0) s e):: .box 92 (Hr (.ow 2 d.cells.length) (.ow 3 d.cache.length) d.reqs d.left):: .row 84 3 (d.cells.map BG):: .row 131 2 (d.cache.map EK)::l
theorem Zz (g:Geo) (s:Stt) (e:Int) (d:Dk):ConvH (JM g s e d) (NC g s e d):=zy (H:=JM g s e d) 1 3 (by decide) rfl rfl
theorem Y9 (e:Int):∀ (c:Ctx) (v:Value),Rd (.ag [iv e, .v (.slice none 0 0)]) c v->Rd (.ag (Dz ⟨e, []⟩)) c v:=Be ⟨ri,Bt 1 _,tv⟩
theorem Z2 (g:Geo) (s:Stt) (e:Int) (d:Dk) (a:Int) (he:e≠0) :
  ACalls Tryz.prog false 188 [.bp 0 0,iv a] (JM g s e d) fun r H=>r = .ag (Dz ⟨8, []⟩)/\H=JM g s e d:=by
 have hb:(e != 0)=true:=bne_iff_ne.2 he;refine zT tys_ok Tryz.func188 rfl rfl (Ag rfl) ?_;conv=>whnf
 rw [hb];exact⟨_, .ag (Dz ⟨8, []⟩),JM g s e d,Y9 8,zR (s:= [0,1,2,3]) tA,rfl,rfl⟩
theorem Z1 (g:Geo) (s:Stt) (d:Dk) (a:Int) (h:DkOk d) (ha:0<=a/\a<d.cells.length) :
  ACalls Tryz.prog false 188 [.bp 0 0,iv a] (JM g s 0 d) fun r H=>r = .ag (Dz ⟨(d.read a).2.2,(d.read a).2.1⟩)/\H=JM g s (if d.left=0 then 8 else 0) (d.read a).1:=by
 have hr:=PO d a h.l ha h.m (fun c hc=>by have:=(h.c c hc).2.1;omega) (fun w hw=>by have:=(h.w w hw).2;omega);have he:(d.left=0/\(d.read a).2.2=8)\/(¬d.left=0/\(d.read a).2.2≠8):=by
  unfold Dk.read;by_cases h0:d.left=0
  ·rw [if_pos h0];exact .inl ⟨h0,rfl⟩
  ·rw [if_neg h0];exact .inr ⟨h0,show (d.got a).2≠8 by have:=SW d a;omega⟩
 generalize d.read a=q at hr he |-
 obtain⟨D,b,e⟩:=q;simp only at hr he |-
 refine zT tys_ok Tryz.func188 rfl rfl (Ag rfl) ?_;conv=>whnf
 refine ze9 [1,2,3] hr ?_;rintro _ _ ⟨rfl,rfl⟩;rcases he with ⟨h0,rfl⟩ | ⟨h0,he⟩
 ·rw [if_pos h0];conv=>whnf
  repeat' (refine zY ?_;conv=>whnf)
  exact⟨_, .ag (Dz ⟨8,b⟩),JM g s 8 D,fun _ _ h=>h,zR (s:= [0,1,2,3]) tA,rfl,rfl⟩
 ·rw [if_neg h0];conv=>whnf
  repeat' (refine zY ?_;conv=>whnf)
  refine Ao (fun h8=>absurd (by simpa using h8) he) (fun _=>?_);conv=>whnf
  repeat' (refine zY ?_;conv=>whnf)
  exact⟨_, .ag (Dz ⟨e,b⟩),JM g s 0 D,fun _ _ h=>h,zR (s:= [0,1,2,3]) tA,rfl,rfl⟩
theorem VG (g:Geo) (s:Stt) (e:Int) (d:Dk) (a:Int) (b:List UInt8) (he:e≠0) :
  ACalls Tryz.prog false 72 [.bp 0 0,iv a,bA b] (JM g s e d) fun r H=>r = .v (.bool false)/\H=JM g s e d:=by
 have hb:(e != 0)=true:=bne_iff_ne.2 he;refine zT tys_ok Tryz.func72 rfl rfl (Ag rfl) ?_;conv=>whnf
 rw [hb];exact⟨_, .v (.bool false),JM g s e d,fun _ _ h=>h,zR (s:= [0,1,2,3]) tA,rfl,rfl⟩
theorem VF (g:Geo) (s:Stt) (d:Dk) (a:Int) (b:List UInt8) (h:DkOk d) (ha:0<=a/\a<d.cells.length) (hb:b.length<=200) :
  ACalls Tryz.prog false 72 [.bp 0 0,iv a,bA b] (JM g s 0 d) fun r H=>r = .v (.bool (decide ((d.write a b).2=0)))/\H=JM g s (if (d.write a b).2=8 then 8 else 0) (d.write a b).1:=by
 have hr:=NB d a b h.l ha h.m (by omega);have he:=IC d a b;generalize d.write a b=q at hr he |-
 obtain⟨D,e⟩:=q;simp only at hr he |-
 refine zT tys_ok Tryz.func72 rfl rfl (Ag rfl) ?_;conv=>whnf
 refine ze9 [1,2,3] hr ?_;rintro _ _ ⟨rfl,rfl⟩;rcases he with rfl | rfl | rfl
 all_goals
  conv=>whnf
  repeat' (refine zY ?_;conv=>whnf)
 ·exact⟨_, .v (.bool false),JM g s 8 D,fun _ _ h=>h,zR (s:= [0,1,2,3]) tA,rfl,rfl⟩
 ·exact⟨_, .v (.bool false),JM g s 0 D,fun _ _ h=>h,zR (s:= [0,1,2,3]) tA,rfl,rfl⟩
 ·exact⟨_, .v (.bool true),JM g s 0 D,fun _ _ h=>h,zR (s:= [0,1,2,3]) tA,rfl,rfl⟩
theorem Wd (g:Geo) (s:Stt) (e:Int) (d:Dk) (h:DkOk d) :
  ACalls Tryz.prog false 75 [.bp 0 0] (JM g s e d) fun r H=>r = .tp []/\H=NC g s (if e=0 then if d.left=0 then 8 else 0 else e) (if e=0 then if d.left=0 then d else d.flush else d):=by
 have hf:=NH d h.l h.m (fun w hw=>(h.w w hw).1) (fun w hw=>by have:=(h.w w hw).2;omega);by_cases he:e=0
 ·subst he;rw [if_pos rfl,if_pos rfl];refine zT tys_ok Tryz.func75 rfl rfl (Ag rfl) ?_;conv=>whnf
  refine ze9 [1,2,3] hf ?_;rintro _ _ ⟨rfl,rfl⟩;by_cases h0:d.left=0;all_goals
   simp only [h0,if_true,if_false];exact⟨_, .tp [],NC g s _ _,fun _ _ h=>h,zR (s:= [0,1,2,3,4]) tA,rfl,rfl⟩
 ·rw [if_neg he,if_neg he];have hb:(e == 0)=false:=beq_eq_false_iff_ne.2 he;refine zT tys_ok Tryz.func75 rfl rfl (Ag rfl) ?_;conv=>whnf
  rw [hb];exact⟨_, .tp [],NC g s e d,fun _ _ h=>h,zI (zK (Zz g s e d)) (s:= [0,1,2,3,4]) tA,rfl,rfl⟩
theorem Lc {d:Dk} {l:List Wr} {k:Nat} (hk:k<l.length) (h:(d.writes (l.take k)).2.2=true):d.writes (l.take (k+1))=d.writes (l.take k):=by
 rw [FZ d hk,Ij _ h]
def UA (b:Bool):Int:=if b then 8 else 0
theorem Lp (g:Geo) (s:Stt) (d:Dk) (a:An) (hg:Bq g=true) (ha:Bj g a=true) (h:DkOk d) (hl:∀ w∈AE g a,Ra d.cells.length w) :
  ACalls Tryz.prog false 80 [.bp 0 0, .ag (Ew a)] (JM g s 0 d) fun r H=>r = iv ((d.writes (AE g a)).2.1:Nat)/\H=NC g s (UA (d.putAll (AE g a)).2.2) (d.putAll (AE g a)).1:=by
 obtain⟨g1,g2,g3,g4,g5⟩:=Aq.1 hg;have hlen:=Dc g a;refine zT tys_ok Tryz.func80 rfl rfl (Ag rfl) ?_;conv=>whnf
 refine zU Nat (fun k=>([(0, .bp 0 0),(3, .bp 4 0),(5, .v (.int .i64 (d.writes ((AE g a).take k)).2.1)),(6,iv k)],aM g s (UA (d.writes ((AE g a).take k)).2.2) (d.writes ((AE g a).take k)).1 [.box 28 (Ew a)])) (fun k=>k<=(AE g a).length/\(d.writes ((AE g a).take k)).2.1<=k) (fun k=>(AE g a).length - k) 0 ⟨Aj _,Ah _⟩
  (zR (s:= [0,1,2,3,4]) tA) ?_
 rintro k ⟨hk,hnk⟩;have hd:=GW h hl k;conv=>whnf
 refine A8 (fun h6=>?_) (fun h6=>?_) <;> (repeat rw [Ac] at h6) <;> conv=>whnf
 ·have hk':k<(AE g a).length:=by omega
  have hm:=hl _ (A7 (d:=(⟨0, []⟩:Wr)) hk');have hrc:=Mr g a k hg ha (by omega);have hlive:=fun hlv=>JB (d:=d) hk' hlv
  have hstay:=fun hlv=>Lc (d:=d) hk' hlv
  rw [IA (by omega)] at hlive hm;generalize hX:d.writes ((AE g a).take k)=Q at hd hlive hstay hnk |-
  obtain⟨X,N,dead⟩:=Q;simp only at hd hlive hstay hnk;repeat' (refine zY ?_;conv=>whnf)
  refine z_ hrc ?_;conv=>whnf
  cases dead with
  | true=>
   have hx:=hstay rfl;have hc:=VG g s 8 X k (CV a k) (by decide);refine ze9 [0,1,2,3] hc ?_;rintro _ _ ⟨rfl,rfl⟩;conv=>whnf
   repeat' (refine zY ?_;conv=>whnf)
   refine⟨k+1,⟨hk',by rw [hx];simp only;omega⟩,by omega,?_⟩;rw [hx];exact zR (s:= [0,1,2,3,4]) ⟨⟨rfl,rfl,rfl,AL (by omega),tv⟩,tA,rfl,rfl,rfl,rfl,rfl⟩
  | false=>
   have hx:=hlive rfl;have hc:=VF g s X k (CV a k) hd.1 (by rw [hd.2];exact hm.1) hm.2;have hE:=IC X k (CV a k);generalize hQ:X.write k (CV a k)=Q at hc hx hE;obtain⟨D,e⟩:=Q;simp only at hx hE hc;refine ze9 [0,1,2,3] hc ?_;rintro _ _ ⟨rfl,rfl⟩;rcases hE with rfl | rfl | rfl
   ·have hx:d.writes ((AE g a).take (k+1))=(D,N,true):=hx;conv=>whnf
    repeat' (refine zY ?_;conv=>whnf)
    refine⟨k+1,⟨hk',by rw [hx];simp only;omega⟩,by omega,?_⟩;rw [hx];exact zR (s:= [0,1,2,3,4]) ⟨⟨rfl,rfl,rfl,AL (by omega),tv⟩,tA,rfl,rfl,rfl,rfl,rfl⟩
   ·have hx:d.writes ((AE g a).take (k+1))=(D,N,false):=hx;conv=>whnf
    repeat' (refine zY ?_;conv=>whnf)
    refine⟨k+1,⟨hk',by rw [hx];simp only;omega⟩,by omega,?_⟩;rw [hx];exact zR (s:= [0,1,2,3,4]) ⟨⟨rfl,rfl,rfl,AL (by omega),tv⟩,tA,rfl,rfl,rfl,rfl,rfl⟩
   ·have hx:d.writes ((AE g a).take (k+1))=(D,N+1,false):=hx;conv=>whnf
    repeat' (refine zY ?_;conv=>whnf)
    refine⟨k+1,⟨hk',by rw [hx];simp only;omega⟩,by omega,?_⟩;rw [hx];exact zR (s:= [0,1,2,3,4]) ⟨⟨rfl,rfl,(show _=AV.v (Value.int IntKind.i64 ((N+1:Nat):Int)) from AL (show N<1000000000000 by omega)),AL (by omega),tv⟩,tA,rfl,rfl,rfl,rfl,rfl⟩
 ·have ek:k=(AE g a).length:=by omega
  subst ek;rw [As] at hd hnk;rw [As];have hpd:=EC (d:=d) (l:=AE g a);have hpl:=Ef (d:=d) (l:=AE g a);generalize d.writes (AE g a)=Q at hpd hpl hd |-
  obtain⟨X,N,dead⟩:=Q;simp only at hpd hpl hd;have hf:=Wd g s (UA dead) X hd.1;cases dead with
  | true=>
   rw [hpd rfl];refine ze9 [0,1,2,3] hf ?_;rintro _ _ ⟨rfl,rfl⟩;exact⟨_,iv (N:Nat),NC g s 8 X,fun _ _ h=>h,zR (s:= [0,1,2,3,5]) tA,rfl,rfl⟩
  | false=>
   rw [hpl rfl];refine ze9 [0,1,2,3] hf ?_;rintro _ _ ⟨rfl,rfl⟩;by_cases hX0:X.left=0;all_goals
    simp only [hX0,UA,Cr,if_true,if_false];exact⟨_,iv (N:Nat),NC g s _ _,fun _ _ h=>h,zR (s:= [0,1,2,3,5]) tA,rfl,rfl⟩
theorem ACalls.lendBox {P:Program} {q:Bool} {f:FuncId} {x:AV} {H:List AB} {K:AV->List AB->Prop} (j k:Nat) {t t':TypeId} {sz':Nat} {cs cs2:List AV} {es':List (List AV)} (hj:H[j]? = some (.box t cs)) (hk:H[k]? = some (.row t' sz' es'))
  (he:cs.map (AV.slIn k es'.length (.sl sz' es'.length fun i=>es'.getD i []))=cs2) (hc:ACalls P q f [x, .ag cs2] ((H.set k .dead).set j (.box t cs2)) K):ACalls P q f [x, .ag cs] H K:=by
 refine⟨hc.go,fun w0 M0 c us hs hr=>?_⟩;subst he;have hjk:j≠k:=by rintro rfl;rw [hj] at hk;cases hk
 obtain⟨c1,e1,s1,x1,r1⟩:=hs.freeze hk;have hj1:(H.set k .dead)[j]? = some (.box t cs):=by rw [AA (Ne.symm hjk)];exact hj
 have h8:∀ (l:List AV) (us:List Value),RdL l c us->RdL (l.map (AV.slIn k es'.length (.sl sz' es'.length fun i=>es'.getD i []))) c1 us:=by
  intro l;induction l with
  | nil=>intro us h;simp only [RdL] at h;subst h;simp [RdL]
  | cons x l ih=>
   intro us h;simp only [RdL] at h;obtain⟨u,vs,rfl,a1,a2⟩:=h;simp only [A0,RdL];refine⟨u,vs,rfl,?_,ih vs a2⟩;unfold AV.slIn;split
   ·rename_i i n;split
    ·rename_i hik;subst hik;split
     ·rename_i hn;subst hn;exact r1 u a1
     ·simp [Rd]
    ·exact Rd.ext _ x1 a1
   ·exact Rd.ext _ x1 a1
 have s2:HS w0 M0 c1 ((H.set k .dead).set j (.box t (cs.map (AV.slIn k es'.length (.sl sz' es'.length fun i=>es'.getD i []))))):=by
  refine s1.recell hj1 rfl ?_;rintro⟨g,xs,h1,h2,_,h4⟩;obtain⟨g0,ys,q1,q2,q3,_⟩:=hs.blk j _ hj;have hg:=x1.box j _ (hs.klt hj) q1;rw [h1] at hg;injection hg with hg
  injection hg with hg
  injection hg with hg
  subst hg;rw [e1,q2] at h2;injection h2 with h2
  have hxy:ys.toArray=xs.toArray:=by injection h2
  have hxy:ys=xs:=by simpa using hxy
  subst hxy;exact⟨g,ys,h1,by rw [e1];exact q2,h8 _ _ q3,h4⟩
 have hr2:RdL [x, .ag (cs.map (AV.slIn k es'.length (.sl sz' es'.length fun i=>es'.getD i [])))] c1 us:=by
  simp only [RdL] at hr;obtain⟨u1,_,rfl,p1,u2,_,rfl,p2,rfl⟩:=hr;simp only [Rd] at p2;obtain⟨zs,rfl,p3⟩:=p2;simp only [RdL];exact⟨u1,_,rfl,Rd.ext _ x1 p1,_,_,rfl,by simp only [Rd];exact⟨zs,rfl,h8 _ _ p3⟩,rfl⟩
 have:=hc.calls w0 M0 c1 us s2 hr2;rw [e1] at this;refine this.mono ?_;rintro e w' ⟨v,c',r,H2,rfl,rfl,q1,q2,q3,q4,q5⟩;exact⟨v,c',r,H2,rfl,rfl,q1,q2,x1.trans q3,q4,q5⟩
theorem nums_ones:∀ (n:Nat) (r:List Int) (c:List UInt8),n<=c.length->nums (Gk n ++ r) c=((List.range n).map fun i=>((c.getD i 0).toNat:Int)) ++ nums r (c.drop n)
 | 0,r,c,_=>rfl
 | n+1,r, [],h=>by simp at h
 | n+1,r,x::c,h=>by
  have ih:=nums_ones n r c (by simpa using h);rw [show Gk (n+1) ++ r=1::(Gk n ++ r) from rfl,List.range_succ_eq_map,A0,List.map_map];show (leN ((x::c).take 1):Int)::nums (Gk n ++ r) ((x::c).drop 1)=_;rw [show (x::c).drop 1=c from rfl,ih];simp [leN]
theorem Y6 (n:Nat) (c:List UInt8) (h:n+5<=c.length):KR n c=⟨(List.range n).map fun i=>((c.getD i 0).toNat:Int),((c.getD n 0).toNat:Int),(leN ((c.drop (n+1)).take 4):Nat)⟩:=by
 have e:=nums_ones (n+1) [4] c (by omega);rw [show Gk (n+1) ++ [4]=Rj n from rfl] at e;unfold KR;rw [e];have h1:List.take n ((List.range (n+1)).map (fun i=>((c.getD i 0).toNat:Int)) ++ nums [4] (c.drop (n+1)))=(List.range n).map fun i=>((c.getD i 0).toNat:Int):=by
  rw [Bm,A9,A6,List.take_left' (by simp)]
 have h2:((List.range (n+1)).map (fun i=>((c.getD i 0).toNat:Int)) ++ nums [4] (c.drop (n+1))).getD n 0=((c.getD n 0).toNat:Int):=by
  rw [Ab,AF (by simp),Bo,BM (by omega)];rfl
 have h3:((List.range (n+1)).map (fun i=>((c.getD i 0).toNat:Int)) ++ nums [4] (c.drop (n+1))).getD (n+1) 0=(leN ((c.drop (n+1)).take 4):Nat):=by
  rw [Ab,AH (by simp)];simp [nums]
 rw [h1,h2,h3]
theorem ZA (b:List UInt8) (h:17<=b.length):(nums szA b).getD 0 0=(leN (b.take 4):Nat)/\(nums szA b).getD 1 0=(leN ((b.drop 4).take 4):Nat)/\(nums szA b).getD 2 0=(leN ((b.drop 8).take 4):Nat)/\(nums szA b).getD 3 0=(leN ((b.drop 12).take 4):Nat)/\(nums szA b).getD 4 0=((b.getD 16 0).toNat:Int):=by
 refine⟨rfl,rfl,?_,?_,?_⟩
 ·show ((leN ((((b.drop 4).drop 4)).take 4):Nat):Int)=_;rw [AS]
 ·show ((leN (((((b.drop 4).drop 4).drop 4)).take 4):Nat):Int)=_;rw [AS,AS]
 ·show ((leN ((((((b.drop 4).drop 4).drop 4)).drop 4).take 1):Nat):Int)=_;rw [AS,AS,AS];have e:b.drop 16=b.getD 16 0::b.drop 17:=by
   rw [Ab,Af (by omega)];exact Bf (by omega)
  show ((leN ((b.drop 16).take 1):Nat):Int)=_;rw [e];exact congrArg (fun n:Nat=>(n:Int)) (show (b.getD 16 0).toNat+256*0=(b.getD 16 0).toNat by omega)
def YM (n:Nat) (c:List UInt8):List (List AV):=(List.range n).map fun i=> [iv ((c.getD i 0).toNat:Int)]
theorem Xv (n:Nat) (c:List UInt8):YM (n+1) c=YM n c ++ [[iv ((c.getD n 0).toNat:Int)]]:=by simp [YM,Bm]
theorem Tg (n:Nat) (c:List UInt8):(YM n c).length=n:=by simp [YM]
theorem wb (x:UInt8):IntKind.i64.wrap (x.toNat:Int)=(x.toNat:Int):=wi (by have:=x.toNat_lt;omega)
theorem TB (g:Geo) (b:List UInt8) (hg:Bq g=true) (hb:b.length<=100000):Fn Tryz.prog 274 [.ag (AT g),bA b] fun r=>r = .tp [.ag (Ew ((F8 g b).getD an0)), .v (.bool (F8 g b).isSome)]:=by
 obtain⟨g1,g2,g3,g4,g5⟩:=Aq.1 hg;have GP:∀ (e:Value) (c:Ctx) (v:Value),Rd (.tp [.ag [iv 0,iv 0,iv 0,iv 0,iv 0, .v (.string ⟨#[]⟩), .v (.slice none 0 0)], .v e]) c v->Rd (.tp [.ag (Ew an0), .v e]) c v:=fun e=>BX (m:= [.ag (Ew an0), .v e]) ⟨Be an0_sub,ri,tv⟩
 by_cases h18:b.length<18
 ·have hN:F8 g b=none:=by
   rw [F8];split
   ·rfl
   ·rw [show If (b.drop 17)=none by rw [If,if_pos (by rw [Ak];omega)]]
  rw [hN];refine zS Tryz.func274 rfl ?_;conv=>whnf
  refine A8 (fun _=>?_) (fun hq=>absurd h18 (by omega));exact⟨_,GP _,rfl⟩
 ·obtain⟨n0,n1,n2,n3,n4⟩:=ZA b (by omega);have q0:=FW b 4 (by omega) (by decide);have q1:=FW (b.drop 4) 4 (by rw [Ak];omega) (by decide);have q2:=FW (b.drop 8) 4 (by rw [Ak];omega) (by decide);have q3:=FW (b.drop 12) 4 (by rw [Ak];omega) (by decide);rw [<-n0] at q0;rw [<-n1] at q1;rw [<-n2] at q2;rw [<-n3] at q3;have hr:=TA (b.drop 17) (by rw [Ak];omega);have hdl:(b.drop 17).length=b.length - 17:=Ak ..
  cases hL:If (b.drop 17) with
  | none=>
   have hN:F8 g b=none:=by rw [F8,if_neg (by omega),hL]
   rw [hL] at hr;rw [hN];refine zS Tryz.func274 rfl ?_;conv=>whnf
   refine A8 (fun hq=>absurd hq (by omega)) (fun hq=>?_);conv=>whnf
   apply zD (0) tys_ok mixed (.o [0,2,3,5,6,8,9,11,12,13,14] (.two 1 (.two 4 (.two 7 (.two 10 (.o [15,16,17] .fin) 16 (.o [10,15,17] .fin)) 16 (.o [7,10,15,17] .fin)) 16 (.o [4,7,10,15,17] .fin)) 16 (.o [1,4,7,10,15,17] .fin))) [6,17,18,19,20,21,22,23,24,25,26,27,28,29,30,31,32] (by kernel_rfl)
   ·conv=>whnf
    try (refine tI ?_;conv=>whnf)
    try (refine tI ?_;conv=>whnf)
    try (refine tI ?_;conv=>whnf)
    try (refine tI ?_;conv=>whnf)
    refine Ad ?_ ?_
    ·conv=>whnf
     refine z_ q0 ?_;refine Ad ?_ ?_
     ·conv=>whnf
      (refine zX [bA (b.drop 4),iv 4] ⟨AX (by omega),ri,tv⟩ ?_;refine z_ q1 ?_)
      refine Ad ?_ ?_
      ·conv=>whnf
       (refine zX [bA (b.drop 8),iv 4] ⟨AX (by omega),ri,tv⟩ ?_;refine z_ q2 ?_)
       refine Ad ?_ ?_
       ·conv=>whnf
        (refine zX [bA (b.drop 12),iv 4] ⟨AX (by omega),ri,tv⟩ ?_;refine z_ q3 ?_)
        conv=>whnf
        try (refine tS ?_;conv=>whnf)
        exact tA
       ·conv=>whnf
        (refine zX [bA (b.drop 12),iv 4] ⟨AX (by omega),ri,tv⟩ ?_;refine z_ q3 ?_)
        conv=>whnf
        try (refine tS ?_;conv=>whnf)
        exact tA
      ·conv=>whnf
       (refine zX [bA (b.drop 8),iv 4] ⟨AX (by omega),ri,tv⟩ ?_;refine z_ q2 ?_)
       conv=>whnf
       (refine zX [bA (b.drop 12),iv 4] ⟨AX (by omega),ri,tv⟩ ?_;refine z_ q3 ?_)
       conv=>whnf
       try (refine tS ?_;conv=>whnf)
       exact tA
     ·conv=>whnf
      (refine zX [bA (b.drop 4),iv 4] ⟨AX (by omega),ri,tv⟩ ?_;refine z_ q1 ?_)
      conv=>whnf
      (refine zX [bA (b.drop 8),iv 4] ⟨AX (by omega),ri,tv⟩ ?_;refine z_ q2 ?_)
      conv=>whnf
      (refine zX [bA (b.drop 12),iv 4] ⟨AX (by omega),ri,tv⟩ ?_;refine z_ q3 ?_)
      conv=>whnf
      try (refine tS ?_;conv=>whnf)
      exact tA
    ·conv=>whnf
     refine z_ q0 ?_;conv=>whnf
     (refine zX [bA (b.drop 4),iv 4] ⟨AX (by omega),ri,tv⟩ ?_;refine z_ q1 ?_)
     conv=>whnf
     (refine zX [bA (b.drop 8),iv 4] ⟨AX (by omega),ri,tv⟩ ?_;refine z_ q2 ?_)
     conv=>whnf
     (refine zX [bA (b.drop 12),iv 4] ⟨AX (by omega),ri,tv⟩ ?_;refine z_ q3 ?_)
     conv=>whnf
     try (refine tS ?_;conv=>whnf)
     exact tA
   conv=>whnf
   rw [wb,show b.getD (Int.toNat 16) 0=b.getD 16 0 from rfl,<-n4];refine⟨⟨by omega,by omega,by omega,by omega⟩,?_⟩;conv=>whnf
   refine zX [bA (b.drop 17)] ⟨AX (by omega),tv⟩ ?_;refine z_ hr ?_;conv=>whnf
   rw [show IntKind.i64.wrap (17+0)=17 from rfl];refine⟨⟨by omega,by omega,by omega,by omega⟩,?_⟩;exact⟨_,GP _,rfl⟩
  | some q=>
   obtain⟨s,u⟩:=q;obtain⟨u1,u2,u3,u4⟩:=NX hL;rw [hL] at hr;simp only at hr;have hss:s.size=s.data.toList.length:=rfl;have hs24:=I1 u4;have wu:IntKind.i64.wrap (17+(u:Int))=17+u:=wi (by omega);have hmb:g.z*(g.d+6)<=4*10:=Int.mul_le_mul (by omega) (by omega) (by omega) (by omega);have hm0:0<=g.z*(g.d+6):=De (by omega) (by omega);have wm:IntKind.i64.wrap (g.z*IntKind.i64.wrap (g.d+6))=g.z*(g.d+6):=by rw [wi (n:=g.d+6) (by omega)];exact wi (by omega)
   have hmn:g.z*(g.d+6)=((g.z.toNat*(g.d.toNat+6):Nat):Int):=by rw [Int.natCast_mul,Int.natCast_add];congr 1 <;> omega
   have hu0:((u:Int) == 0)=false:=beq_eq_false_iff_ne.2 (by omega);have hdl2:(b.drop (17+u)).length=b.length - (17+u):=Ak ..
   obtain⟨A,hA⟩:∃ A,A=Ni (g.d.toNat+1) g.z.toNat b s u:=⟨_,rfl⟩;have hR0:F8 g b=if b.length≠17+u+g.z.toNat*(g.d.toNat+6) then none else if Bj g A then some A else none:=by rw [F8,if_neg (by omega),hL,hA]
   by_cases hlen:b.length=17+u+g.z.toNat*(g.d.toNat+6)
   ·rw [if_neg (by omega)] at hR0;refine zS Tryz.func274 rfl ?_;conv=>whnf
    refine A8 (fun hq=>absurd hq (by omega)) (fun hq=>?_);conv=>whnf
    apply zD (0) tys_ok mixed (.o [0,2,3,5,6,8,9,11,12,13,14] (.two 1 (.two 4 (.two 7 (.two 10 (.o [15,16,17] .fin) 16 (.o [10,15,17] .fin)) 16 (.o [7,10,15,17] .fin)) 16 (.o [4,7,10,15,17] .fin)) 16 (.o [1,4,7,10,15,17] .fin))) [6,17,18,19,20,21,22,23,24,25,26,27,28,29,30,31,32] (by kernel_rfl)
    ·conv=>whnf
     try (refine tI ?_;conv=>whnf)
     try (refine tI ?_;conv=>whnf)
     try (refine tI ?_;conv=>whnf)
     try (refine tI ?_;conv=>whnf)
     refine Ad ?_ ?_
     ·conv=>whnf
      refine z_ q0 ?_;refine Ad ?_ ?_
      ·conv=>whnf
       (refine zX [bA (b.drop 4),iv 4] ⟨AX (by omega),ri,tv⟩ ?_;refine z_ q1 ?_)
       refine Ad ?_ ?_
       ·conv=>whnf
        (refine zX [bA (b.drop 8),iv 4] ⟨AX (by omega),ri,tv⟩ ?_;refine z_ q2 ?_)
        refine Ad ?_ ?_
        ·conv=>whnf
         (refine zX [bA (b.drop 12),iv 4] ⟨AX (by omega),ri,tv⟩ ?_;refine z_ q3 ?_)
         conv=>whnf
         try (refine tS ?_;conv=>whnf)
         exact tA
        ·conv=>whnf
         (refine zX [bA (b.drop 12),iv 4] ⟨AX (by omega),ri,tv⟩ ?_;refine z_ q3 ?_)
         conv=>whnf
         try (refine tS ?_;conv=>whnf)
         exact tA
       ·conv=>whnf
        (refine zX [bA (b.drop 8),iv 4] ⟨AX (by omega),ri,tv⟩ ?_;refine z_ q2 ?_)
        conv=>whnf
        (refine zX [bA (b.drop 12),iv 4] ⟨AX (by omega),ri,tv⟩ ?_;refine z_ q3 ?_)
        conv=>whnf
        try (refine tS ?_;conv=>whnf)
        exact tA
      ·conv=>whnf
       (refine zX [bA (b.drop 4),iv 4] ⟨AX (by omega),ri,tv⟩ ?_;refine z_ q1 ?_)
       conv=>whnf
       (refine zX [bA (b.drop 8),iv 4] ⟨AX (by omega),ri,tv⟩ ?_;refine z_ q2 ?_)
       conv=>whnf
       (refine zX [bA (b.drop 12),iv 4] ⟨AX (by omega),ri,tv⟩ ?_;refine z_ q3 ?_)
       conv=>whnf
       try (refine tS ?_;conv=>whnf)
       exact tA
     ·conv=>whnf
      refine z_ q0 ?_;conv=>whnf
      (refine zX [bA (b.drop 4),iv 4] ⟨AX (by omega),ri,tv⟩ ?_;refine z_ q1 ?_)
      conv=>whnf
      (refine zX [bA (b.drop 8),iv 4] ⟨AX (by omega),ri,tv⟩ ?_;refine z_ q2 ?_)
      conv=>whnf
      (refine zX [bA (b.drop 12),iv 4] ⟨AX (by omega),ri,tv⟩ ?_;refine z_ q3 ?_)
      conv=>whnf
      try (refine tS ?_;conv=>whnf)
      exact tA
    conv=>whnf
    rw [wb,show b.getD (Int.toNat 16) 0=b.getD 16 0 from rfl,<-n4];refine⟨⟨by omega,by omega,by omega,by omega⟩,?_⟩;conv=>whnf
    refine zX [bA (b.drop 17)] ⟨AX (by omega),tv⟩ ?_;refine z_ hr ?_;conv=>whnf
    rw [wu];refine⟨⟨by omega,by omega,by omega,by omega⟩,?_⟩;conv=>whnf
    rw [hu0];conv=>whnf
    rw [wm];refine A8 (fun hq=>absurd hq (by simp only [bne_iff_ne,ne_eq] at *;omega)) (fun hq=>?_);conv=>whnf
    have hsub:∀ (c:Ctx) (v:Value),Rd (.sl 1 ((b.length:Int).toNat - ((17:Int)+u).toNat) fun i=> [AV.v (Value.int IntKind.u8 (b.getD (i+((17:Int)+u).toNat) 0).toNat)]) c v->Rd (bA (b.drop (17+u))) c v:=by
     rw [show ((17:Int)+u).toNat=17+u by omega];exact AX (by omega)
    have hcl:∀ k,k<g.z.toNat->(g.d.toNat+1)+5<=(b.drop (17+u+(g.d.toNat+6)*k)).length:=fun k hk=>by
     have h1:(g.d.toNat+6)*(k+1)<=(g.d.toNat+6)*g.z.toNat:=Nat.mul_le_mul_left _ (by omega);rw [Nat.mul_succ,Nat.mul_comm (g.d.toNat+6) g.z.toNat] at h1;rw [Ak];omega
    refine zU Nat (fun k=>([(1,bA b),(2, .bp 0 0),(4, .bp 1 0),(6, .bp 2 0),(9,bA (b.drop (17+u+(g.d.toNat+6)*k))),(10,iv k)], [.box 23 (AT g), .box 28 [iv 0,iv 0,iv 0,iv 0,iv 0, .v (.string ⟨#[]⟩), .v (.slice none 0 0)], .box 28 [iv ((nums szA b).getD 0 0),iv ((nums szA b).getD 1 0),iv ((nums szA b).getD 4 0),iv ((nums szA b).getD 2 0),iv ((nums szA b).getD 3 0), .v (.string s), .ow 3 k], .row 53 3 ((ET (g.d.toNat+1) k (b.drop (17+u))).map DU)])) (fun k=>k<=g.z.toNat) (fun k=>g.z.toNat - k) 0 (Aj _)
     ?_ ?_
    ·refine⟨_,_,zL 9 (y:=bA (b.drop (17+u))) rfl hsub, [(1002006,53,3)],tA, [0,1,2,3],tA⟩
    ·intro k hk;conv=>whnf
     refine A8 (fun h6=>?_) (fun h6=>?_) <;> (repeat rw [Ac] at h6) <;> conv=>whnf
     ·have hk':k<g.z.toNat:=by omega
      have hc5:=hcl k hk';have hE:=Y6 (g.d.toNat+1) (b.drop (17+u+(g.d.toNat+6)*k)) hc5;have hdd:(b.drop (17+u+(g.d.toNat+6)*k)).drop (g.d.toNat+6)=b.drop (17+u+(g.d.toNat+6)*(k+1)):=by rw [AS,Nat.mul_succ,DS]
      have hmm:(b.drop (17+u)).drop ((g.d.toNat+6)*k)=b.drop (17+u+(g.d.toNat+6)*k):=by rw [AS]
      have hst:=RZ (g.d.toNat+1) k (b.drop (17+u));rw [show (g.d.toNat+1+5)=g.d.toNat+6 from rfl,hmm] at hst;generalize b.drop (17+u+(g.d.toNat+6)*k)=c at hc5 hE hdd hst |-
      refine zU Nat (fun i=>([(1,bA b),(2, .bp 0 0),(4, .bp 1 0),(6, .bp 2 0),(9,bA c),(10,iv k),(11, .bp 4 0),(12,iv i)], [.box 23 (AT g), .box 28 [iv 0,iv 0,iv 0,iv 0,iv 0, .v (.string ⟨#[]⟩), .v (.slice none 0 0)], .box 28 [iv ((nums szA b).getD 0 0),iv ((nums szA b).getD 1 0),iv ((nums szA b).getD 4 0),iv ((nums szA b).getD 2 0),iv ((nums szA b).getD 3 0), .v (.string s), .ow 3 k], .row 53 3 ((ET (g.d.toNat+1) k (b.drop (17+u))).map DU), .box 53 [.ow 5 i,iv 0,iv 0], .row 3 1 (YM i c)])) (fun i=>i<=g.d.toNat+1) (fun i=>g.d.toNat+1 - i) 0 (Aj _)
       ⟨_,_,zA _ _, [(1004000,3,1)],tA, [0,1,2,3,4,5],tA⟩ ?_
      intro i hi;conv=>whnf
      refine A8 (fun h7=>?_) (fun h7=>?_) <;> (repeat rw [Ac] at h7) <;> conv=>whnf
      ·have hl:i=(YM i c).length:=(Tg i c).symm;apply zV (0) tys_ok mixed (.o [0,1,2,3,4,5,6,7,8,9,10] .fin) (by kernel_rfl);conv=>whnf
       try (refine tI ?_;conv=>whnf)
       try (refine tJ ?_;conv=>whnf)
       try (refine tK ?_;conv=>whnf)
       try (refine tS ?_;conv=>whnf)
       rw [wb];exact⟨i+1,by omega,by omega,zR (s:= [0,1,2,3,4,5]) ⟨⟨rfl,rfl,rfl,rfl,rfl,rfl,rfl,AL (by omega),tv⟩,⟨rfl,rfl,rfl,rfl,rfl,congrArg (fun l=>some (AB.row _ _ l)) (Xv i c).symm,tv⟩,rfl,rfl,rfl,rfl,rfl⟩⟩
      ·have ei:i=g.d.toNat+1:=by omega
       subst ei;have w1:IntKind.i64.wrap (g.d+1)=g.d+1:=wi (by omega);have w2:IntKind.i64.wrap (g.d+2)=g.d+2:=wi (by omega);have w6:IntKind.i64.wrap (g.d+6)=g.d+6:=wi (by omega);have hgr:=FW (c.drop (g.d.toNat+1+1)) 4 (by rw [Ak];omega) (by decide);apply zV (0) tys_ok mixed (.o [0,1,2,3,4,5,6,7,8,9,10,11,13,12,14,15,16] .fin) (by kernel_rfl);conv=>whnf
       try (refine tI ?_;conv=>whnf)
       try (refine tI ?_;conv=>whnf)
       (refine zX [bA (c.drop (g.d.toNat+1+1)),iv 4] ⟨(by rw [w2,show (g.d+2).toNat=g.d.toNat+1+1 by omega];exact AX (by omega)),ri,tv⟩ ?_;refine z_ hgr ?_)
       conv=>whnf
       try (refine tS ?_;conv=>whnf)
       try (refine tS ?_;conv=>whnf)
       rw [w1,wb,show (g.d+1).toNat=g.d.toNat+1 by omega];refine Ad (Tg _ _).symm ?_;refine⟨rfl,?_⟩;refine⟨⟨by rw [Aa,Oa],by omega⟩,?_⟩;conv=>whnf
       rw [w6];refine⟨⟨by omega,by omega,by omega,by omega⟩,?_⟩;conv=>whnf
       have e':SubL [.sl 1 (g.d.toNat+1) fun i=>(YM (g.d.toNat+1) c).getD i [],iv ((c.getD (g.d.toNat+1) 0).toNat:Int),iv ((leN ((c.drop (g.d.toNat+1+1)).take 4):Nat):Int)] (DU (KR (g.d.toNat+1) c)):=by
        rw [hE];refine⟨fun _ _ h=>zC (by simp) (fun i hi=>?_) h,fun _ _ h=>h,fun _ _ h=>h,tv⟩;have hi':i<g.d.toNat+1:=by simpa using hi
        rw [YM,Fa hi',Fa hi']
       have hs2:∀ (c':Ctx) (v:Value),Rd (.sl 1 ((c.length:Int).toNat - (g.d+6).toNat) fun i=> [AV.v (Value.int IntKind.u8 (c.getD (i+(g.d+6).toNat) 0).toNat)]) c' v->Rd (bA (b.drop (17+u+(g.d.toNat+6)*(k+1)))) c' v:=by
        rw [<-hdd,show (g.d+6).toNat=g.d.toNat+6 by omega];exact AX (by omega)
       refine⟨k+1,by omega,by omega,zI (zQ (zK (ConvH.last 3 rfl e')) (zL 9 (y:=bA (b.drop (17+u+(g.d.toNat+6)*(k+1)))) rfl hs2)) (s:= [0,1,2,3]) ⟨⟨rfl,rfl,rfl,rfl,rfl,AL (by omega),tv⟩,⟨rfl,rfl,rfl,congrArg (fun l=>some (AB.row _ _ l)) (by rw [hst,A9];rfl),tv⟩,rfl,rfl,rfl,rfl,rfl⟩⟩
     ·have ek:k=g.z.toNat:=by omega
      subst ek;have hAl:A.label.size<=1000000:=by rw [hA];show s.size<=_;omega
      have hck:=RL g A hg hAl;rw [hA] at hck;have hhl:(ET (g.d.toNat+1) g.z.toNat (b.drop (17+u))).length=g.z.toNat:=Oa _ _ _;refine ACalls.lendBox (cs2:= [iv ((nums szA b).getD 0 0),iv ((nums szA b).getD 1 0),iv ((nums szA b).getD 4 0),iv ((nums szA b).getD 2 0),iv ((nums szA b).getD 3 0), .v (.string s), .sl 3 ((ET (g.d.toNat+1) g.z.toNat (b.drop (17+u))).map DU).length fun i=>((ET (g.d.toNat+1) g.z.toNat (b.drop (17+u))).map DU).getD i []]) 2 3 rfl rfl ?_ ?_
      ·show [_,_,_,_,_,_,AV.slIn 3 _ _ (.ow 3 g.z.toNat)]=_;rw [AV.slIn,if_pos rfl,if_pos (by rw [Aa,hhl])];rfl
      have hsa:SubL [iv ((nums szA b).getD 0 0),iv ((nums szA b).getD 1 0),iv ((nums szA b).getD 4 0),iv ((nums szA b).getD 2 0),iv ((nums szA b).getD 3 0), .v (.string s), .sl 3 ((ET (g.d.toNat+1) g.z.toNat (b.drop (17+u))).map DU).length fun i=>((ET (g.d.toNat+1) g.z.toNat (b.drop (17+u))).map DU).getD i []] (Ew (Ni (g.d.toNat+1) g.z.toNat b s u)):=⟨ri,ri,ri,ri,ri,ri,Ba (f:=DU) (ET (g.d.toNat+1) g.z.toNat (b.drop (17+u))) (by rw [Aa]) rfl,tv⟩;refine zX [.ag (AT g), .ag (Ew (Ni (g.d.toNat+1) g.z.toNat b s u))] ⟨ri,Be hsa,tv⟩ ?_;refine z_ hck ?_;conv=>whnf
      rw [<-hA];cases hok:Bj g A with
      | false=>
       rw [hR0,hok];exact⟨_,GP _,rfl⟩
      | true=>
       rw [hR0,hok];conv=>whnf
       exact⟨.tp [.ag (Ew A), .v (.bool true)],BX ⟨Be (by rw [hA];exact hsa),ri,tv⟩,rfl⟩
   ·have hN:F8 g b=none:=by rw [hR0,if_pos hlen]
    rw [hN];refine zS Tryz.func274 rfl ?_;conv=>whnf
    refine A8 (fun hq=>absurd hq (by omega)) (fun hq=>?_);conv=>whnf
    apply zD (0) tys_ok mixed (.o [0,2,3,5,6,8,9,11,12,13,14] (.two 1 (.two 4 (.two 7 (.two 10 (.o [15,16,17] .fin) 16 (.o [10,15,17] .fin)) 16 (.o [7,10,15,17] .fin)) 16 (.o [4,7,10,15,17] .fin)) 16 (.o [1,4,7,10,15,17] .fin))) [6,17,18,19,20,21,22,23,24,25,26,27,28,29,30,31,32] (by kernel_rfl)
    ·conv=>whnf
     try (refine tI ?_;conv=>whnf)
     try (refine tI ?_;conv=>whnf)
     try (refine tI ?_;conv=>whnf)
     try (refine tI ?_;conv=>whnf)
     refine Ad ?_ ?_
     ·conv=>whnf
      refine z_ q0 ?_;refine Ad ?_ ?_
      ·conv=>whnf
       (refine zX [bA (b.drop 4),iv 4] ⟨AX (by omega),ri,tv⟩ ?_;refine z_ q1 ?_)
       refine Ad ?_ ?_
       ·conv=>whnf
        (refine zX [bA (b.drop 8),iv 4] ⟨AX (by omega),ri,tv⟩ ?_;refine z_ q2 ?_)
        refine Ad ?_ ?_
        ·conv=>whnf
         (refine zX [bA (b.drop 12),iv 4] ⟨AX (by omega),ri,tv⟩ ?_;refine z_ q3 ?_)
         conv=>whnf
         try (refine tS ?_;conv=>whnf)
         exact tA
        ·conv=>whnf
         (refine zX [bA (b.drop 12),iv 4] ⟨AX (by omega),ri,tv⟩ ?_;refine z_ q3 ?_)
         conv=>whnf
         try (refine tS ?_;conv=>whnf)
         exact tA
       ·conv=>whnf
        (refine zX [bA (b.drop 8),iv 4] ⟨AX (by omega),ri,tv⟩ ?_;refine z_ q2 ?_)
        conv=>whnf
        (refine zX [bA (b.drop 12),iv 4] ⟨AX (by omega),ri,tv⟩ ?_;refine z_ q3 ?_)
        conv=>whnf
        try (refine tS ?_;conv=>whnf)
        exact tA
      ·conv=>whnf
       (refine zX [bA (b.drop 4),iv 4] ⟨AX (by omega),ri,tv⟩ ?_;refine z_ q1 ?_)
       conv=>whnf
       (refine zX [bA (b.drop 8),iv 4] ⟨AX (by omega),ri,tv⟩ ?_;refine z_ q2 ?_)
       conv=>whnf
       (refine zX [bA (b.drop 12),iv 4] ⟨AX (by omega),ri,tv⟩ ?_;refine z_ q3 ?_)
       conv=>whnf
       try (refine tS ?_;conv=>whnf)
       exact tA
     ·conv=>whnf
      refine z_ q0 ?_;conv=>whnf
      (refine zX [bA (b.drop 4),iv 4] ⟨AX (by omega),ri,tv⟩ ?_;refine z_ q1 ?_)
      conv=>whnf
      (refine zX [bA (b.drop 8),iv 4] ⟨AX (by omega),ri,tv⟩ ?_;refine z_ q2 ?_)
      conv=>whnf
      (refine zX [bA (b.drop 12),iv 4] ⟨AX (by omega),ri,tv⟩ ?_;refine z_ q3 ?_)
      conv=>whnf
      try (refine tS ?_;conv=>whnf)
      exact tA
    conv=>whnf
    rw [wb,show b.getD (Int.toNat 16) 0=b.getD 16 0 from rfl,<-n4];refine⟨⟨by omega,by omega,by omega,by omega⟩,?_⟩;conv=>whnf
    refine zX [bA (b.drop 17)] ⟨AX (by omega),tv⟩ ?_;refine z_ hr ?_;conv=>whnf
    rw [wu];refine⟨⟨by omega,by omega,by omega,by omega⟩,?_⟩;conv=>whnf
    rw [hu0];conv=>whnf
    rw [wm];refine A8 (fun hq=>?_) (fun hq=>absurd hq (by omega));exact⟨_,GP _,rfl⟩
theorem VM (g:Geo) (x:Gt) (addr:Int) (hg:Bq g=true) (hx:x.bytes.length<=100000):Fn Tryz.prog 244 [.ag (AT g), .ag (Dz x),iv addr] fun r=>r = .tp [.ag (Ew ((Fc g x addr).getD an0)), .v (.bool (Fc g x addr).isSome)]:=by
 have hs:=II x addr hx;by_cases h1:x.err=0/\Di x.bytes=0/\CZ x.bytes=addr
 ·have hr:=TB g (C9 x.bytes) hg (by have:=Rs x.bytes;omega);have hS:Fc g x addr=match F8 g (C9 x.bytes) with | some a=>if a.gen=Cv x.bytes then some a else none | none=>none:=by rw [Fc,if_pos h1];rfl
  have hO:BR x addr=some ⟨CZ x.bytes,Cv x.bytes,C9 x.bytes⟩:=by
   unfold BR;simp [h1.1,h1.2.1,h1.2.2]
  rw [hO] at hs;cases hR:F8 g (C9 x.bytes) with
  | none=>
   rw [hR] at hr hS;rw [hS];refine zS Tryz.func244 rfl ?_;conv=>whnf
   refine z_ hs ?_;conv=>whnf
   refine z_ hr ?_;exact⟨_,GP _,rfl⟩
  | some a=>
   rw [hR] at hr hS;by_cases h4:a.gen=Cv x.bytes
   ·have hS:Fc g x addr=some a:=hS.trans (if_pos h4);rw [hS];refine zS Tryz.func244 rfl ?_;conv=>whnf
    refine z_ hs ?_;conv=>whnf
    refine z_ hr ?_;conv=>whnf
    refine A8 (fun hq=>absurd h4 hq) (fun _=>?_);exact⟨_,ri,rfl⟩
   ·have hS:Fc g x addr=none:=hS.trans (if_neg h4);rw [hS];refine zS Tryz.func244 rfl ?_;conv=>whnf
    refine z_ hs ?_;conv=>whnf
    refine z_ hr ?_;conv=>whnf
    refine A8 (fun _=>?_) (fun hq=>absurd hq h4);exact⟨_,GP _,rfl⟩
 ·have hS:Fc g x addr=none:=by rw [Fc,if_neg h1]
  have hO:BR x addr=none:=by
   unfold BR;rw [if_neg h1]
  rw [hO] at hs;rw [hS];refine zS Tryz.func244 rfl ?_;conv=>whnf
  refine z_ hs ?_;exact⟨_,GP _,rfl⟩
def bj (p:Option (An × Nat)):Int:=match p with | some (_,i)=>i | none=> -1
theorem R3 (g:Geo) (l:List Gt) (hg:Bq g=true) (hl:l.length<=1000000) (hb:∀ x∈l,x.bytes.length<=100000):Fn Tryz.prog 189 [.ag (AT g),GB l] fun r=>r = .tp [.ag (Ew (bk (G_ g l))),iv (bj (G_ g l))]:=by
 refine zS Tryz.func189 rfl ?_;conv=>whnf
 refine zU Nat (fun k=>([(1,GB l),(2, .bp 0 0),(4, .bp 1 0),(6, .bp 2 0),(7,iv (bj (F9 g l k))),(8,iv k)], [.box 23 (AT g), .box 28 [iv 0,iv 0,iv 0,iv 0,iv 0, .v (.string ⟨#[]⟩), .v (.slice none 0 0)], .box 28 (Ew (bk (F9 g l k)))])) (fun k=>k<=l.length) (fun k=>l.length - k) 0 (Aj _)
  (zI (zK (zu 2 rfl an0_sub)) (s:= [0,1,2]) tA) ?_
 intro k hk;have hsucc:=Jp g l k;conv=>whnf
 refine A8 (fun h6=>?_) (fun h6=>?_) <;> (repeat rw [Ac] at h6) <;> conv=>whnf
 ·have hk':k<l.length:=by omega
  have hx:=hb _ (A7 (d:=(⟨0, []⟩:Gt)) hk');have h2:=VM g (l.getD k ⟨0, []⟩) k hg hx;rw [Qb] at hsucc;repeat' (refine zY ?_;conv=>whnf)
  apply zD (0) tys_ok mixed (.o [0,1,2,3,4,5] (.two 6 (.o [7,8,9,10,11,12] .fin) 10 (.o [6,7,8,9,11,12] .fin))) [9,10,17,18,19,20,21,22,23,24,25,26] (by kernel_rfl)
  ·conv=>whnf
   try (refine tI ?_;conv=>whnf)
   refine Ad ?_ ?_
   ·conv=>whnf
    (rw [Ac];refine z_ h2 ?_)
    conv=>whnf
    try (refine tS ?_;conv=>whnf)
    exact tA
   ·conv=>whnf
    (rw [Ac];refine z_ h2 ?_)
    conv=>whnf
    try (refine tS ?_;conv=>whnf)
    exact tA
  conv=>whnf
  generalize Fc g (l.getD k ⟨0, []⟩) (k:Nat)=S at hsucc |-
  generalize F9 g l k=P at hsucc |-
  cases S with
  | none=>
   conv=>whnf
   repeat' (refine zY ?_;conv=>whnf)
   refine⟨k+1,hk',by omega,?_⟩;rw [show F9 g l (k+1)=P from hsucc];exact zR (s:= [0,1,2]) ⟨⟨rfl,rfl,rfl,rfl,rfl,AL (by omega),tv⟩,tA,rfl,rfl,rfl,rfl,rfl⟩
  | some b=>
   cases P with
   | none=>
    conv=>whnf
    repeat' (refine zY ?_;conv=>whnf)
    refine⟨k+1,hk',by omega,?_⟩;rw [show F9 g l (k+1)=some (b,k) from hsucc];exact zR (s:= [0,1,2]) ⟨⟨rfl,rfl,rfl,rfl,rfl,AL (by omega),tv⟩,tA,rfl,rfl,rfl,rfl,rfl⟩
   | some q=>
    obtain⟨a,j⟩:=q;conv=>whnf
    by_cases h5:a.gen<b.gen
    ·have e:F9 g l (k+1)=some (b,k):=hsucc.trans (if_pos h5);refine A8 (fun h7=>?_) (fun h7=>absurd h5 (Int.not_lt.2 (show b.gen<=a.gen from h7)));conv=>whnf
     repeat' (refine zY ?_;conv=>whnf)
     refine⟨k+1,hk',by omega,?_⟩;rw [e];exact zR (s:= [0,1,2]) ⟨⟨rfl,rfl,rfl,rfl,rfl,AL (by omega),tv⟩,tA,rfl,rfl,rfl,rfl,rfl⟩
    ·have e:F9 g l (k+1)=some (a,j):=hsucc.trans (if_neg h5);refine A8 (fun h7=>absurd (show a.gen<b.gen from h7) h5) (fun h7=>?_);conv=>whnf
     repeat' (refine zY ?_;conv=>whnf)
     refine⟨k+1,hk',by omega,?_⟩;rw [e];exact zR (s:= [0,1,2]) ⟨⟨rfl,rfl,rfl,rfl,rfl,AL (by omega),tv⟩,tA,rfl,rfl,rfl,rfl,rfl⟩
 ·have ek:k=l.length:=by omega
  subst ek;exact⟨_,ri,rfl⟩
def TxJ (g:Geo) (a:An) (x y:List Gt) (pos seq left:Int) (k:Nat) (of_:Int) (ims:List Img) (more:List Wr):Prop:=
 (k=0/\of_=0/\ims=[]/\more=[])\/((1<=k/\(k:Int)<=of_/\of_<=30/\of_<=left/\ims.length<=k/\more.length<=k)/\∃ r im,ims=(if r.kind=1 then im ++ [r.img] else im)/\
  GF g a x y pos seq left=(let t:=BI (fun j=>D_ g a x y pos seq left j of_) (of_ - k).toNat k r im more
   if t.1≠1 then (t.1,0, [], []) else (1,of_,t.2.1,t.2.2)))
section
variable {g:Geo} {a:An} {x y:List Gt} {pos seq left:Int}
theorem WP {look:Int->Rc × Int × List Wr} {f:Nat} {k:Int} {r:Rc} {im:List Img} {w:List Wr} (h:(look k).2.1=1):BI look (f+1) k r im w=BI look f (k+1) (look k).1 (if r.kind=1 then im ++ [r.img] else im) (w ++ (look k).2.2):=by
 conv=>lhs;unfold BI
 dsimp only;rw [if_neg (not_not_intro h)]
theorem WO {look:Int->Rc × Int × List Wr} {f:Nat} {k:Int} {r:Rc} {im:List Img} {w:List Wr} (h:(look k).2.1≠1):BI look (f+1) k r im w=((look k).2.1, [], []):=by
 conv=>lhs;unfold BI
 dsimp only;rw [if_pos h]
theorem TxJ.step {k:Nat} {of_:Int} {ims:List Img} {more:List Wr} (h:TxJ g a x y pos seq left k of_ ims more) (hk:k=0\/(k:Int)<of_) {q:Rc × Int × List Wr} (hq:D_ g a x y pos seq left (k:Nat) of_=q) (h1:q.2.1=1) (ho:EE g q.1=true) (hi:DA q.1 a seq (k:Nat) of_ left=true) (hw:q.2.2.length<=1) :
  TxJ g a x y pos seq left (k+1) q.1.of_ (if q.1.kind=1 then ims ++ [q.1.img] else ims) (more ++ q.2.2):=by
 have hN:=KF ho hi;have hlen:(if q.1.kind=1 then ims ++ [q.1.img] else ims).length<=ims.length+1:=by split <;> simp
 rcases h with ⟨rfl,rfl,rfl,rfl⟩ | ⟨⟨k1,k2,k3,k4,k5,k6⟩,r,im,e1,e2⟩
 ·refine .inr ⟨⟨by omega,by omega,by omega,hN.2.2.2.2.1 rfl,by simpa using hlen,by simpa using hw⟩,q.1, [],rfl,?_⟩;have hq:D_ g a x y pos seq left 0 0=q:=hq;unfold GF;dsimp only;rw [hq,if_neg (not_not_intro h1)];simp only [B3];rfl
 ·have eo:q.1.of_=of_:=hN.2.2.2.2.2 (by omega);have hk:=hk.resolve_left (by omega);refine .inr ⟨⟨by omega,by omega,by omega,by omega,by omega,by rw [Ai];omega⟩,q.1,ims,rfl,?_⟩;rw [e2,eo];obtain⟨m,hm⟩:∃ m:Nat,(of_ - k).toNat=m+1:=⟨(of_ - k).toNat - 1,by omega⟩;rw [hm,WP (by rw [hq];exact h1),hq,<-e1,show (of_ - ((k+1:Nat):Int)).toNat=m by omega,show ((k:Int)+1)=((k+1:Nat):Int) by omega]
theorem TxJ.stop {k:Nat} {of_:Int} {ims:List Img} {more:List Wr} (h:TxJ g a x y pos seq left k of_ ims more) (hk:k=0\/(k:Int)<of_) {q:Rc × Int × List Wr} (hq:D_ g a x y pos seq left (k:Nat) of_=q) (h1:q.2.1≠1):GF g a x y pos seq left=(q.2.1,0, [], []):=by
 rcases h with ⟨rfl,rfl,rfl,rfl⟩ | ⟨⟨k1,k2,k3,k4,k5,k6⟩,r,im,e1,e2⟩
 ·have hq:D_ g a x y pos seq left 0 0=q:=hq;unfold GF;dsimp only;rw [hq,if_pos h1]
 ·have hk:=hk.resolve_left (by omega);obtain⟨m,hm⟩:∃ m:Nat,(of_ - k).toNat=m+1:=⟨(of_ - k).toNat - 1,by omega⟩;rw [e2,hm,WO (by rw [hq];exact h1),hq];dsimp only;rw [if_pos h1]
theorem TxJ.fin {k:Nat} {of_:Int} {ims:List Img} {more:List Wr} (h:TxJ g a x y pos seq left k of_ ims more) (hk:¬(k=0\/(k:Int)<of_)):GF g a x y pos seq left=(1,of_,ims,more):=by
 rcases h with ⟨rfl,rfl,rfl,rfl⟩ | ⟨⟨k1,k2,k3,k4,k5,k6⟩,r,im,e1,e2⟩
 ·exact absurd (.inl rfl) hk
 ·rw [e2,show (of_ - k).toNat=0 by omega];unfold BI;dsimp only;rw [if_neg (by decide),<-e1]
theorem TxJ.len {k:Nat} {of_:Int} {ims:List Img} {more:List Wr} (h:TxJ g a x y pos seq left k of_ ims more):k<=30/\ims.length<=30/\more.length<=30/\0<=of_/\of_<=30:=by
 rcases h with ⟨rfl,rfl,rfl,rfl⟩ | ⟨⟨k1,k2,k3,k4,k5,k6⟩, -⟩
 ·simp
 ·omega
end
theorem VL (g:Geo) (a:An) (x y:List Gt) (hg:Bq g=true) (ha:Bj g a=true) (hx:(x.length:Int)=g.sl) (hy:(y.length:Int)=g.sl) (hxb:∀ z∈x,z.bytes.length<=100000) (hyb:∀ z∈y,z.bytes.length<=100000) :
  Fn Tryz.prog 190 [.ag (AT g), .ag (Ew a),GB x,GB y] fun r=>r = .tp [Dh (E9 g a x y).1,LL (E9 g a x y).2.1, .v (.int .i64 (E9 g a x y).2.2)]:=by
 obtain⟨h1,h2,h3,h4,h5⟩:=Aq.1 hg;have hq:=Ku ha;refine zS Tryz.func190 rfl ?_;conv=>whnf
 refine z7 tys_ok mixed [0,1,2,3,4,5,6,7,8] (by kernel_rfl) ?_;conv=>whnf
 unfold E9;generalize hR:Fv g a x y g.sl.toNat a.pos a.seq g.sl [] []=R;refine zM (Nat × Int × Int × Int × List Tx × List (List AV) × List Wr) (fun z=>([(2,GB x),(3,GB y),(4, .bp 0 0),(5, .bp 1 0),(8, .v (.slice none 0 0)),(9, .v (.slice none 0 0)),(10,iv 0),(11, .ow 2 z.2.2.2.2.2.1.length),(12, .ow 3 z.2.2.2.2.2.2.length),(13,iv z.2.1),(14,iv z.2.2.1),(15,iv z.2.2.2.1)], [.box 23 (AT g), .box 28 (Ew a), .row 45 4 z.2.2.2.2.2.1, .row 131 2 (z.2.2.2.2.2.2.map EK)]))
  (fun z=>Fv g a x y z.1 z.2.1 z.2.2.1 z.2.2.2.1 z.2.2.2.2.1 z.2.2.2.2.2.2=R/\z.2.2.2.1<=z.1/\(0<=z.2.1/\z.2.1<g.sl)/\(0<=z.2.2.1/\z.2.2.1<=4294967296)/\(z.2.2.2.2.1.length*2+z.2.2.2.1<=g.sl/\0<=z.2.2.2.1)/\z.2.2.2.2.2.2.length<=z.2.2.2.2.1.length*30/\SubLL z.2.2.2.2.2.1 (z.2.2.2.2.1.map CI))
  (fun z=>z.1) (g.sl.toNat,a.pos,a.seq,g.sl, [], [], []) ⟨hR,show g.sl<=(g.sl.toNat:Int) by omega,hq.2,hq.1,⟨show (0:Int)*2+g.sl<=g.sl by omega,show 0<=g.sl by omega⟩,Ah 0,tv⟩ ⟨[(11,45,4),(12,131,2)],tA,tA,tA,rfl,rfl,rfl⟩ ?_
 rintro⟨f,pos,seq,left,l,rl,w⟩ ⟨b1,b2,b3,b4,b5,b6,b7⟩;dsimp only at b1 b2 b3 b4 b5 b6 b7 |-
 have b8:rl.length=l.length:=by have:=b7.len;rwa [Aa] at this
 conv=>whnf
 refine A8 (fun c1=>?A) (fun c1=>?B)
 case' A=>conv=>whnf
 case' A=>refine A8 (fun c2=>?A1) (fun c2=>?A2)
 case A1=>
  conv=>whnf
  cases f with
  | zero=>exfalso;omega
  | succ f=>
   unfold Fv at b1;rw [if_pos ⟨c1,c2⟩] at b1;dsimp only at b1;have tf:=Ji (a:=a) (x:=x) (y:=y) (seq:=seq) (left:=left) hg b3;refine zM (Nat × Int × List Img × List Wr) (fun z=>([(2,GB x),(3,GB y),(4, .bp 0 0),(5, .bp 1 0),(8, .v (.slice none 0 0)),(9, .v (.slice none 0 0)),(10,iv 0),(11, .ow 2 rl.length),(12, .ow 3 w.length),(13,iv pos),(14,iv seq),(15,iv left),(16, .bp 4 0),(17, .ow 6 z.2.2.2.length),(18,iv z.2.1),(19,iv 1),(20,iv z.1)], [.box 23 (AT g), .box 28 (Ew a), .row 45 4 rl, .row 131 2 (w.map EK), .box 45 [iv seq,iv pos,iv 0, .ow 5 z.2.2.1.length], .row 51 3 (z.2.2.1.map D9), .row 131 2 (z.2.2.2.map EK)]))
    (fun z=>TxJ g a x y pos seq left z.1 z.2.1 z.2.2.1 z.2.2.2) (fun z=>31 - z.1) (0,0, [], []) (.inl tA) ⟨[(1004003,51,3),(17,131,2)],tA,tA,tA,rfl,rfl,rfl⟩ ?_
   rintro⟨k,of_,ims,more⟩ hJ;dsimp only at hJ |-
   have hJl:=hJ.len;conv=>whnf
   refine A8 (fun d1=>?C) (fun d1=>?D)
   case' D=>conv=>whnf
   case' D=>refine A8 (fun d2=>?D1) (fun d2=>?D2)
   case D2=>
    conv=>whnf
    have hT:=hJ.fin (by omega);rw [hT] at b1 tf;dsimp only at b1 tf;rw [if_neg (by decide),if_neg (by decide)] at b1;obtain⟨-,⟨n1,n2,n3⟩,n4⟩:=tf.resolve_right (by omega);have hm:=Bh (pos+of_) (show 0<g.sl by omega);have hm0:=Bw g.sl (show 0<=pos+of_ by omega);have w1:IntKind.i64.wrap (pos+of_)=pos+of_:=wi (by omega);have w2:IntKind.i64.wrap (seq+1)=seq+1:=wi (by omega);have w3:IntKind.i64.wrap (left - of_)=left - of_:=wi (by omega);refine⟨(by rw [Aa]),?_⟩;refine⟨rfl,?_⟩;refine⟨⟨rfl,by omega⟩,?_⟩;refine⟨(by rw [Aa]),?_⟩;refine⟨⟨by rw [Aa],by omega⟩,?_⟩;conv=>whnf
    rw [w1];refine⟨by omega,?_⟩;conv=>whnf
    rw [w2,w3];refine⟨(f,(pos+of_).tmod g.sl,seq+1,left - of_,l ++ [⟨seq,pos,of_,ims⟩],rl ++ [[iv seq,iv pos,iv of_, .sl 3 ims.length fun i=>(ims.map D9).getD i []]],w ++ more),⟨b1,by dsimp only;omega,⟨hm0,hm⟩,by dsimp only;omega,?_,?_,?_⟩,Nat.lt_succ_self f, [],tv,⟨rfl,rfl,rfl,rfl,rfl,rfl,rfl,by rw [Ai];rfl,by rw [Ai];rfl,rfl,rfl,rfl,tv⟩,⟨rfl,rfl,rfl,by rw [A9],tv⟩,rfl,rfl,rfl⟩
    ·dsimp only;rw [Ai];simp only [Al,AY];omega
    ·dsimp only;rw [Ai,Ai];simp only [Al,AY];omega
    ·dsimp only;rw [A9];refine SubLL.app ?_ b7;exact⟨fun _ _ h=>h,fun _ _ h=>h,fun _ _ h=>h,Ba (f:=D9) ims rfl rfl,tv⟩
   all_goals
    conv=>whnf
    have hk:k=0\/(k:Int)<of_:=by omega
    have hsl:=JI (at_:=(k:Nat)) hg b3 (by omega);obtain⟨s,es⟩:=Int.eq_ofNat_of_zero_le hsl.1;have es2:(IntKind.i64.wrap (pos+(k:Nat))).tmod g.sl=(s:Nat):=es;have hs1:(s:Int)<g.sl:=by rw [es] at hsl;exact hsl.2
    have hin:CK (s:Nat) 0 (g.sl - 1)=true:=AI.2 (by omega);have rl1:=VW g a (x.getD s gz) (y.getD s gz) (s:Nat) seq (k:Nat) of_ left hg hin (hxb _ (A7 (by omega))) (hyb _ (A7 (by omega)));have hF:=Ls (g:=g) (a:=a) (x:=x.getD s gz) (y:=y.getD s gz) (slot:=(s:Nat)) (seq:=seq) (at_:=(k:Nat)) (of_:=of_) (left:=left) ⟨by omega,hs1⟩;have hrec:D_ g a x y pos seq left (k:Nat) of_=((Fe g a (x.getD s gz) (y.getD s gz) (s:Nat) seq (k:Nat) of_ left).1,(Fe g a (x.getD s gz) (y.getD s gz) (s:Nat) seq (k:Nat) of_ left).2.2,(Fe g a (x.getD s gz) (y.getD s gz) (s:Nat) seq (k:Nat) of_ left).2.1.map fun c=>⟨By g c (s:Nat),Ca g (Fe g a (x.getD s gz) (y.getD s gz) (s:Nat) seq (k:Nat) of_ left).1 c (s:Nat)⟩):=by
     unfold D_;dsimp only;rw [es,Ac]
    generalize Fe g a (x.getD s gz) (y.getD s gz) (s:Nat) seq (k:Nat) of_ left=Q at rl1 hF hrec;refine zY ?_;refine⟨by omega,?_⟩;conv=>whnf
    rw [es2];conv=>whnf
    apply zP tys_ok mixed (.o [0,1,2,3,4,5,6,7,8,9,10,11,12,13,14] (.two 15 (.o [16,17,18,19,20,21,22,23] .fin) 20 (.o [15,16,17,18,19,21,22,23] .fin))) [22,23,24,60,61,62,63,64,65,66,67,68,69,70,71,72,73,74,75,76,77,78,79] (by kernel_rfl)
    ·conv=>whnf
     try (refine Ad (by first | omega | exact ixA | exact ixB | (simp;done)) ?_;conv=>whnf)
     try (refine Ad (by first | omega | exact ixA | exact ixB | (simp;done)) ?_;conv=>whnf)
     refine Ad ?_ ?_
     ·conv=>whnf
      refine z_ rl1 ?_;conv=>whnf
      try (refine tS ?_;conv=>whnf)
      exact tA
     ·conv=>whnf
      refine z_ rl1 ?_;conv=>whnf
      try (refine tS ?_;conv=>whnf)
      exact tA
    conv=>whnf
    obtain⟨r,ws,how⟩:=Q;dsimp only at hF hrec |-
    refine A8 (fun f1=>?_) (fun f1=>?_) <;> (repeat rw [Ac] at f1) <;> conv=>whnf
    ·obtain⟨q1,rfl,rfl⟩:=hF.resolve_left (fun h=>f1 h.1);have hT:=hJ.stop hk hrec f1;rw [hT] at b1 tf;dsimp only at b1;rcases q1 with rfl | rfl
     ·rw [if_neg (by decide),if_pos (by decide)] at b1;subst b1;have hws:IntKind.i64.wrap (seq - 1)=seq - 1:=by rw [IntKind.wrap_i64];omega
      conv=>whnf
      rw [hws];conv=>whnf
      refine A8 (fun e1=>?_) (fun e1=>?_) <;> (repeat rw [Ac] at e1) <;> conv=>whnf
      ·exact⟨_,fun c u h=>K7 12 c u h,by rw [I8 e1];rfl⟩
      ·refine⟨rfl,?_⟩;refine⟨(by rw [Aa]),?_⟩;exact⟨.tp [Dh l,LL w,iv 0],BX ⟨PP l b8 rfl b7,Ba w rfl rfl,ri,tv⟩,by rw [Gi (by omega)]⟩
     ·rw [if_pos (by decide)] at b1;subst b1;exact⟨_,fun c u h=>K7 12 c u h,rfl⟩
    ·subst f1;obtain⟨-,⟨o1,o2,o3⟩,o4,o5⟩:=hF.resolve_right (fun h=>by omega);have hJ2:=hJ.step hk hrec rfl o1 o3 (by rw [Aa];exact o4);dsimp only at hJ2;obtain⟨IM,hIM⟩:∃ IM,IM=(if r.kind=1 then ims ++ [r.img] else ims):=⟨_,rfl⟩;rw [<-hIM] at hJ2;have hJl2:=hJ2.len;refine aSeq.cut Unit (fun _=>([(2,GB x),(3,GB y),(4, .bp 0 0),(5, .bp 1 0),(8, .v (.slice none 0 0)),(9, .v (.slice none 0 0)),(10,iv 0),(11, .ow 2 rl.length),(12, .ow 3 w.length),(13,iv pos),(14,iv seq),(15,iv left),(16, .bp 4 0),(17, .ow 6 more.length),(18,iv r.of_),(19,iv 1),(20,iv k),(21,iv (s:Nat)),(22, .bp 7 0),(23,iA ws)], [.box 23 (AT g), .box 28 (Ew a), .row 45 4 rl, .row 131 2 (w.map EK), .box 45 [iv seq,iv pos,iv 0, .ow 5 IM.length], .row 51 3 (IM.map D9), .row 131 2 (more.map EK), .box 152 (G4 r)])) (fun _=>True) ?_ ?_
     ·conv=>whnf
      refine A8 (fun k1=>?_) (fun k1=>?_) <;> (repeat rw [Ac] at k1) <;> conv=>whnf
      ·rw [if_pos k1] at hIM;refine⟨rfl,?_⟩;refine⟨⟨by rw [Aa],by omega⟩,?_⟩;conv=>whnf
       exact⟨(),tv, [],tv,tA,⟨rfl,rfl,rfl,rfl,by rw [hIM,Ai];rfl,by rw [hIM,A9];rfl,rfl,rfl,tv⟩,rfl,rfl,rfl⟩
      ·rw [if_neg k1] at hIM;exact⟨(),tv, [],tv,tA,⟨rfl,rfl,rfl,rfl,by rw [hIM],by rw [hIM],rfl,rfl,tv⟩,rfl,rfl,rfl⟩
     ·rintro⟨⟩ -
      conv=>whnf
      cases ws with
      | nil=>
       rw [Bn,AK] at hJ2;refine zH 1 ?_;conv=>whnf
       exact⟨(k+1,r.of_,IM,more),hJ2,by dsimp only;omega, [],tv,⟨rfl,rfl,rfl,rfl,rfl,rfl,rfl,rfl,rfl,rfl,rfl,rfl,rfl,rfl,rfl,rfl,AL (by omega),tv⟩,tA,rfl,rfl,rfl⟩
      | cons c t=>
       have et:t=[]:=by
        cases t with
        | nil=>rfl
        | cons _ _=>simp at o4
       subst et;have hL:=o5 c (by simp);have c1:=Du g c (s:Nat) hg hL;have c2:=Gq g r c (s:Nat) o1 hL;refine zH 2 ?_;conv=>whnf
       apply zP tys_ok mixed (.o [0,1,2,3,4,5,6,8,9,10,11,12,13,14,7,15,16,17,18,19] .fin) [17,101,102,103,104,105,106,107,108,109,110,111,112,113,114,115,116,117,118,119] (by kernel_rfl)
       ·conv=>whnf
        try (refine Ad (by first | omega | exact ixA | exact ixB | (simp;done)) ?_;conv=>whnf)
        try (refine Ad (by first | omega | exact ixA | exact ixB | (simp;done)) ?_;conv=>whnf)
        refine z_ c1 ?_;conv=>whnf
        refine z_ c2 ?_;conv=>whnf
        try (refine tJ ?_;conv=>whnf)
        try (refine tK ?_;conv=>whnf)
        exact tA
       conv=>whnf
       exact⟨(k+1,r.of_,IM,more ++ [⟨By g c (s:Nat),Ca g r c (s:Nat)⟩]),hJ2,by dsimp only;omega, [],tv,⟨rfl,rfl,rfl,rfl,rfl,rfl,rfl,rfl,rfl,rfl,rfl,rfl,rfl,by rw [Ai];rfl,rfl,rfl,AL (by omega),tv⟩,⟨rfl,rfl,rfl,rfl,rfl,rfl,by rw [A9];rfl,tv⟩,rfl,rfl,rfl⟩
 all_goals
  conv=>whnf
  have hb:some (l,w,seq)=R:=by
   cases f with
   | zero=>exact b1
   | succ f=>unfold Fv at b1;rw [if_neg (by omega)] at b1;exact b1
  subst hb;have hws:IntKind.i64.wrap (seq - 1)=seq - 1:=by rw [IntKind.wrap_i64];omega
  rw [hws];conv=>whnf
  refine A8 (fun e1=>?_) (fun e1=>?_) <;> (repeat rw [Ac] at e1) <;> conv=>whnf
  ·exact⟨_,fun c u h=>K7 12 c u h,by rw [I8 e1];rfl⟩
  ·refine⟨rfl,?_⟩;refine⟨(by rw [Aa]),?_⟩;exact⟨.tp [Dh l,LL w,iv 0],BX ⟨PP l b8 rfl b7,Ba w rfl rfl,ri,tv⟩,by rw [Gi (by omega)]⟩
def eK (d:Dk) (k:Nat):Int:=if d.live k then 0 else 8
def gK (d:Dk) (k:Nat) (a:Int):Gt:=if d.live k then Uy d a else ⟨8, []⟩
theorem KL {d:Dk} {j k:Nat} (h:d.live k) (hj:j<=k):d.live j:=by unfold Dk.live at *;omega
theorem XE {d:Dk} (hl : -1<=d.left):∀ k,¬d.live k->(d.adv k).left=0
 | 0,h=>by exfalso;apply h;unfold Dk.live;omega
 | k+1,h=>by
  by_cases hk:d.live k
  ·have:=XF k d h hk;rw [Kx k (k+1) d this (by omega)];exact this
  ·have:=XE hl k hk;rw [Kx k (k+1) d this (by omega)];exact this
theorem OR (g:Geo) (s:Stt) (d:Dk) (k:Nat) (a:Int) (h:DkOk d) (ha:0<=a/\a<d.cells.length) :
  ACalls Tryz.prog false 188 [.bp 0 0,iv a] (JM g s (eK d k) (d.adv k)) fun r H=>r = .ag (Dz (gK d (k+1) a))/\H=JM g s (eK d (k+1)) (d.adv (k+1)):=by
 have hd:=h.adv k;have hn:=(GE k d).1;have hl:=h.l;unfold eK gK;by_cases hk:d.live k
 ·have hr:=Z1 g s (d.adv k) a hd (by rw [hn];exact ha);rw [if_pos hk];by_cases h0:(d.adv k).left=0
  ·have hk1:=(QZ k d hl.1 hk).1 h0;rw [if_pos h0,TL a h0] at hr;rw [if_neg hk1,if_neg hk1,Kx k (k+1) d h0 (by omega)];exact hr
  ·have hk1:d.live (k+1):=by
    by_cases e:d.live (k+1)
    ·exact e
    ·exact absurd ((QZ k d hl.1 hk).2 e) h0
   rw [if_neg h0,TK a h0] at hr;rw [if_pos hk1,if_pos hk1];exact hr
 ·have hk1:¬d.live (k+1):=fun h=>hk (KL h (by omega))
  have h0:=XE hl.1 k hk;rw [if_neg hk,if_neg hk1,if_neg hk1,Kx k (k+1) d h0 (by omega)];exact Z2 g s 8 (d.adv k) a (by decide)
theorem XP (g:Geo) (s:Stt) (d:Dk) (l:List Wr) (k:Nat) (h:DkOk d) (hl:∀ w∈l,Ra d.cells.length w) (hk:k<l.length) :
  ACalls Tryz.prog false 72 [.bp 0 0, .v (.int .i64 (l.getD k ⟨0, []⟩).addr),bA (l.getD k ⟨0, []⟩).bytes] (JM g s (UA (d.writes (l.take k)).2.2) (d.writes (l.take k)).1) fun r H=>(∃ b,r = .v (.bool b))/\H=JM g s (UA (d.writes (l.take (k+1))).2.2) (d.writes (l.take (k+1))).1:=by
 have hd:=GW h hl k;have hm:=hl _ (A7 (d:=(⟨0, []⟩:Wr)) hk);have hlive:=fun hlv=>JB (d:=d) hk hlv
 have hstay:=fun hlv=>Lc (d:=d) hk hlv
 generalize d.writes (l.take (k+1))=Q' at hlive hstay |-
 generalize d.writes (l.take k)=Q at hd hlive hstay |-
 obtain⟨X,N,dead⟩:=Q;simp only at hd hlive hstay |-
 cases dead with
 | true=>
  rw [hstay rfl];exact(VG g s 8 X _ _ (by decide)).mono fun r H h=>⟨⟨false,h.1⟩,h.2⟩
 | false=>
  rw [hlive rfl];have hc:=VF g s X (l.getD k ⟨0, []⟩).addr (l.getD k ⟨0, []⟩).bytes hd.1 (by rw [hd.2];exact hm.1) hm.2;refine hc.mono fun r H h=>⟨⟨_,h.1⟩,?_⟩
  rw [h.2];show JM g s _ _=JM g s (if decide _=true then 8 else 0) _;congr 1;by_cases h8:(X.write (l.getD k ⟨0, []⟩).addr (l.getD k ⟨0, []⟩).bytes).2=8
  ·rw [if_pos h8,if_pos (decide_eq_true h8)]
  ·rw [if_neg h8,if_neg (by rw [decide_eq_false h8];decide)]
def V_ (d:Dk) (ats:List Int) (k:Nat):List Gt:=(List.range k).map fun j=>gK d (j+1) (ats.getD j 0)
theorem VZ (d:Dk) (ats:List Int) (k:Nat):(V_ d ats (k+1)).map Dz=(V_ d ats k).map Dz ++ [Dz (gK d (k+1) (ats.getD k 0))]:=by simp [V_,Bm]
theorem Yf (d:Dk) (ats:List Int) (k:Nat):(V_ d ats k).length=k:=by simp [V_]
theorem Yg {d:Dk} {ats:List Int} (h:d.live ats.length):V_ d ats ats.length=B8 d ats:=by
 apply List.ext_getElem
 ·simp [V_,B8]
 ·intro i h1 h2;have hi:i<ats.length:=by simpa [V_] using h1
  simp only [V_,B8,List.getElem_map,List.getElem_range];rw [gK,if_pos (KL h (by omega)),Ab,Af hi];rfl
def Yh (d:Dk) (g:Geo) (c:Nat) (k:Nat):List Gt:=(List.range k).map fun j=>gK d (2*j+1+c) (By g (c:Nat) (j:Nat))
theorem PR (d:Dk) (g:Geo) (c:Nat) (k:Nat):(Yh d g c (k+1)).map Dz=(Yh d g c k).map Dz ++ [Dz (gK d (2*k+1+c) (By g (c:Nat) (k:Nat)))]:=by simp [Yh,Bm]
theorem SG (d:Dk) (g:Geo) (c:Nat) (k:Nat):(Yh d g c k).length=k:=by simp [Yh]
theorem SH {d:Dk} {g:Geo} {c:Nat} (hc:c<=1) (h:d.live (2*g.sl.toNat)):Yh d g c g.sl.toNat=B8 d (BZ g (c:Nat)):=by
 unfold Yh B8 BZ;rw [List.map_map];refine C0 fun j hj=>?_
 have hj:=AO.1 hj;rw [gK,if_pos (KL h (by omega))];rfl
theorem Yz {d:Dk} {l:List Wr} (h:l≠ []):(if UA (d.writes l).2.2=0 then if (d.writes l).1.left=0 then 8 else 0 else UA (d.writes l).2.2:Int)=UA (d.mend l).2/\(if UA (d.writes l).2.2=0 then if (d.writes l).1.left=0 then (d.writes l).1 else (d.writes l).1.flush else (d.writes l).1)=(d.mend l).1:=by
 rw [Dk.mend,if_neg h];cases hd:(d.writes l).2.2 with
 | true=>rw [EC hd];exact tA
 | false=>
  rw [Ef hd];by_cases h0:(d.writes l).1.left=0
  ·rw [if_pos h0,if_pos h0,if_pos h0];exact tA
  ·rw [if_neg h0,if_neg h0,if_neg h0];exact tA
theorem TE (g:Geo) (s:Stt) (d:Dk) (hg:Bq g=true) (h:DkOk d) (hn:(d.cells.length:Int)=Aw g) :
  ACalls Tryz.prog false 114 [.bp 0 0] (JM g s 0 d) fun r H=>(∃ S,r = .ag (Fh S)/\((Dr g d).2.1=0->S=(Dr g d).2.2))/\H=NC g s (Dr g d).2.1 (Dr g d).1:=by
 obtain⟨g1,g2,g3,g4,g5⟩:=Aq.1 hg;have hcg:=EH hg;have hl:=h.l;have e0:eK d 0=0:=by unfold eK;rw [if_pos];unfold Dk.live;omega
 refine zT tys_ok Tryz.func114 rfl rfl (Ag rfl) ?_;conv=>whnf
 refine zU Nat (fun k=>([(0, .bp 0 0),(2, .bp 4 0),(3, .ow 5 k),(4,nilV),(5,nilV),(6,ze k)],aM g s (eK d k) (d.adv k) [.box 34 [ze 0,ze 0,ze 0,ze 0,ze 0, .v (.string ⟨#[]⟩),nilV,nilV, .v (.bool false),ze 0,ze 0,ze 0,ze 0,nilV], .row 263 2 ((V_ d (DB g) k).map Dz)])) (fun k=>k<=g.an.toNat) (fun k=>g.an.toNat - k) 0 (Aj _)
  ⟨_,_,zA _ _, [(3,263,2)],tA, [0,1,2,3,4,5],⟨tA,⟨by rw [e0];rfl,rfl,rfl,rfl,rfl,rfl,tv⟩,rfl,rfl,rfl,rfl,rfl⟩⟩ ?_
 intro k hk;conv=>whnf
 refine A8 (fun h6=>?_) (fun h6=>?_) <;> (repeat rw [Ac] at h6) <;> conv=>whnf
 ·have hk':k<g.an.toNat:=by omega
  have hr:=OR g s d k k h (by omega);repeat' (refine zY ?_;conv=>whnf)
  refine ze9 [0,1,2,3] hr ?_;rintro _ _ ⟨rfl,rfl⟩;refine⟨rfl,?_⟩;refine⟨⟨by rw [Aa,Yf],by omega⟩,?_⟩;conv=>whnf
  exact⟨k+1,hk',by omega,zR (s:= [0,1,2,3,4,5]) ⟨⟨rfl,rfl,rfl,rfl,rfl,AL (by omega),tv⟩,⟨rfl,rfl,rfl,rfl,rfl,congrArg (fun l=>some (AB.row _ _ l)) (by rw [VZ,O5 hk'];rfl),tv⟩,rfl,rfl,rfl,rfl,rfl⟩⟩
 ·have ek:k=g.an.toNat:=by omega
  subst ek;by_cases hlv:d.live g.an.toNat
  ·have eA:eK d g.an.toNat=0:=by unfold eK;rw [if_pos hlv]
   rw [eA];have hrl:V_ d (DB g) g.an.toNat=B8 d (DB g):=by have:=Yg (d:=d) (ats:=DB g) (by rw [FQ];exact hlv);rwa [FQ] at this
   rw [hrl];have hM:Dr g d=match G_ g (B8 d (DB g)) with | none=>(d.adv g.an.toNat,11,st0) | some (a,_)=>Ju g a (d.adv g.an.toNat):=by unfold Dr;rw [if_pos hlv];rfl
   have hnw:=R3 g (B8 d (DB g)) hg (by rw [Eu,FQ];omega) (I5 h _);have hpo:=fun {a j}=>JV (g:=g) (l:=B8 d (DB g)) hg (B8 d (DB g)).length (a:=a) (j:=j)
   have hpo:∀ {a j},G_ g (B8 d (DB g))=some (a,j)->Bj g a=true:=hpo;have hgl:(B8 d (DB g)).length=g.an.toNat:=by rw [Eu,FQ]
   generalize B8 d (DB g)=L at hnw hpo hgl hM |-
   have hd1:=h.adv g.an.toNat;have hs1:=(GE g.an.toNat d).1;generalize d.adv g.an.toNat=d1 at hd1 hs1 hM |-
   conv=>whnf
   refine zO hnw.go ?_;refine⟨(by rw [Aa,hgl]),?_⟩;conv=>whnf
   refine zX [.ag (AT g),GB L] ⟨ri,Ba (f:=Dz) L hgl.symm rfl,tv⟩ ?_;refine z_ hnw ?_;conv=>whnf
   cases hP:G_ g L with
   | none=>
    rw [hP] at hM;replace hM:Dr g d=(d1,11,st0):=hM;rw [hM];exact⟨.ag (Fh st0), .ag (Fh st0),NC g s 11 d1,Be st0_sub,zI (zK (zy 1 3 (by decide) rfl rfl)) (s:= [0,1,2,3,7]) tA,⟨st0,rfl,fun _=>rfl⟩,rfl⟩
   | some q=>
    obtain⟨a,j⟩:=q;have hao:=hpo hP;rw [hP] at hM;replace hM:Dr g d=Ju g a d1:=hM;rw [hM];clear hM hnw;have hl1:=hd1.l;have e10:eK d1 0=0:=by unfold eK;rw [if_pos];unfold Dk.live;omega
    conv=>whnf
    refine zU Nat (fun k=>([(0, .bp 0 0),(2, .bp 4 0),(4, .ow 6 k),(5, .ow 7 k),(7, .bp 5 0),(9,ze k)],aM g s (eK d1 (2*k)) (d1.adv (2*k)) [.box 34 [ze 0,ze 0,ze 0,ze 0,ze 0, .v (.string ⟨#[]⟩),nilV,nilV, .v (.bool false),ze 0,ze 0,ze 0,ze 0,nilV], .box 28 (Ew a), .row 263 2 ((Yh d1 g 0 k).map Dz), .row 263 2 ((Yh d1 g 1 k).map Dz)])) (fun k=>k<=g.sl.toNat) (fun k=>g.sl.toNat - k) 0 (Aj _)
     ⟨_,_,zA _ _, [(4,263,2),(5,263,2)],tA, [0,1,2,3,4,6,7,8],⟨tA,⟨by show _=some (AB.box _ (Z0 _ _ _ (eK d1 0)));rw [e10];rfl,rfl,rfl,rfl,rfl,rfl,rfl,rfl,tv⟩,rfl,rfl,rfl,rfl,rfl⟩⟩ ?_
    intro k hk;conv=>whnf
    refine A8 (fun h7=>?_) (fun h7=>?_) <;> (repeat rw [Ac] at h7) <;> conv=>whnf
    ·have hk':k<g.sl.toNat:=by omega
     have hla:=Du g 0 k hg (by simp only [Iu,Ae,AI];omega);have hlb:=Du g 1 k hg (by simp only [Iu,Ae,AI];omega);have hra:=OR g s d1 (2*k) (By g 0 k) hd1 (F0 hg (by rw [hs1];exact hn) (.inl rfl) (by omega));have hrb:=OR g s d1 (2*k+1) (By g 1 k) hd1 (F0 hg (by rw [hs1];exact hn) (.inr rfl) (by omega));repeat' (refine zY ?_;conv=>whnf)
     refine z_ hla ?_;conv=>whnf
     refine ze9 [0,1,2,3] hra ?_;rintro _ _ ⟨rfl,rfl⟩;refine⟨rfl,?_⟩;refine⟨⟨by rw [Aa,SG],by omega⟩,?_⟩;conv=>whnf
     repeat' (refine zY ?_;conv=>whnf)
     refine z_ hlb ?_;conv=>whnf
     refine ze9 [0,1,2,3] hrb ?_;rintro _ _ ⟨rfl,rfl⟩;refine⟨rfl,?_⟩;refine⟨⟨by rw [Aa,SG],by omega⟩,?_⟩;conv=>whnf
     repeat' (refine zY ?_;conv=>whnf)
     exact⟨k+1,hk',by omega,zR (s:= [0,1,2,3,4,5,6,7]) ⟨⟨rfl,rfl,rfl,rfl,rfl,AL (by omega),tv⟩,⟨rfl,rfl,rfl,rfl,rfl,rfl,congrArg (fun l=>some (AB.row _ _ l)) (by rw [PR];rfl),congrArg (fun l=>some (AB.row _ _ l)) (by rw [PR];rfl),tv⟩,rfl,rfl,rfl,rfl,rfl⟩⟩
    ·have ek:k=g.sl.toNat:=by omega
     subst ek;unfold Ju;by_cases hl2:d1.live (2*g.sl.toNat)
     ·have eB:eK d1 (2*g.sl.toNat)=0:=by unfold eK;rw [if_pos hl2]
      rw [eB,if_pos hl2,SH (by decide) hl2,SH (by decide) hl2];have hx1:(B8 d1 (BZ g 0)).length=g.sl.toNat:=by rw [Eu,FJ]
      have hx2:(B8 d1 (BZ g 1)).length=g.sl.toNat:=by rw [Eu,FJ]
      have hsc:=VL g a (B8 d1 (BZ g 0)) (B8 d1 (BZ g 1)) hg hao (by omega) (by omega) (I5 hd1 _) (I5 hd1 _);have hlast:=Mf (x:=B8 d1 (BZ g 0)) (y:=B8 d1 (BZ g 1)) hg hao;have hin:=Me (x:=B8 d1 (BZ g 0)) (y:=B8 d1 (BZ g 1)) (n:=d1.cells.length) hg hao (by omega) (by omega) (by rw [hs1];exact hn);have c0:B8 d1 (BZ g ((0:Nat):Int))=B8 d1 (BZ g 0):=rfl;have c1:B8 d1 (BZ g ((1:Nat):Int))=B8 d1 (BZ g 1):=rfl;rw [c0,c1];clear c0 c1;generalize E9 g a (B8 d1 (BZ g 0)) (B8 d1 (BZ g 1))=S at hsc hlast hin |-
      obtain⟨T,W,e⟩:=S;simp only at hsc hlast hin;generalize B8 d1 (BZ g 0)=X1 at hx1 hsc |-
      generalize B8 d1 (BZ g 1)=X2 at hx2 hsc |-
      have hd2:=hd1.adv (2*g.sl.toNat);have hs2:=(GE (2*g.sl.toNat) d1).1;generalize d1.adv (2*g.sl.toNat)=d2 at hd2 hs2 |-
      conv=>whnf
      apply zV (0) tys_ok mixed (.o [0,1,2,3,4,5,6,7,8,9,10,11,12,13,14] .fin) (by kernel_rfl);conv=>whnf
      (refine zO hsc.go ?_;(conv=>whnf);refine Ad (by rw [Aa,hx1]) ?_;(conv=>whnf);refine Ad (by rw [Aa,hx2]) ?_;(conv=>whnf);refine zX [.ag (AT g), .ag (Ew a),GB X1,GB X2] ⟨ri,ri,Ba (f:=Dz) X1 hx1.symm rfl,Ba (f:=Dz) X2 hx2.symm rfl,tv⟩ ?_;refine z_ hsc ?_)
      conv=>whnf
      unfold M5;by_cases he:e=0
      ·subst he;rw [if_neg (by simp)];have hin:=hin rfl;have hlast:=hlast rfl;simp only;conv=>whnf
       have hWin:∀ w∈W,Ra d2.cells.length w:=by rw [hs2];exact hin.1
       refine zU Nat (fun k=>([(0, .bp 0 0),(2, .bp 4 0),(7, .bp 5 0),(10,Dh T),(11,LL W),(13,ze k)],aM g s (UA (d2.writes (W.take k)).2.2) (d2.writes (W.take k)).1 [.box 34 [ze 0,ze 0,ze 0,ze 0,ze 0, .v (.string ⟨#[]⟩),nilV,nilV, .v (.bool false),ze 0,ze 0,ze 0,ze 0,nilV], .box 28 (Ew a)])) (fun k=>k<=W.length) (fun k=>W.length - k) 0 (Aj _)
        (zR (s:= [0,1,2,3,4,5]) tA) ?_
       intro k hk;conv=>whnf
       refine A8 (fun h8=>?_) (fun h8=>?_) <;> (repeat rw [Ac] at h8) <;> conv=>whnf
       ·have hk':k<W.length:=by omega
        have hw:=XP g s d2 W k hd2 hWin hk';repeat' (refine zY ?_;conv=>whnf)
        apply zV (2 ^ 139) tys_ok mixed (.o [0,1,2,3,4,5,6,7,8,9,10,11] .fin) (by kernel_rfl);conv=>whnf
        try (refine tI ?_;conv=>whnf)
        try (refine tI ?_;conv=>whnf)
        (rw [Ac];refine ze9 [0,1,2,3] hw ?_;rintro _ _ ⟨⟨b,rfl⟩,rfl⟩)
        exact⟨k+1,hk',by omega,zR (s:= [0,1,2,3,4,5]) ⟨⟨rfl,rfl,rfl,rfl,rfl,AL (by omega),tv⟩,tA,rfl,rfl,rfl,rfl,rfl⟩⟩
       ·have ek:k=W.length:=by omega
        subst ek;rw [As];have hdw:=GW hd2 hWin W.length;rw [As] at hdw;refine aSeq.cutR Unit (fun _=>([(0, .bp 0 0),(2, .bp 5 0),(7, .bp 6 0),(10,Dh T)],NC g s (UA (d2.mend W).2) (d2.mend W).1 ++ [AB.box 34 [ze 0,ze 0,ze 0,ze 0,ze 0, .v (.string ⟨#[]⟩),nilV,nilV, .v (.bool false),ze 0,ze 0,ze 0,ze 0,nilV],AB.box 28 (Ew a)])) (fun _=>True) ?_ ?_
        ·by_cases hW:W=[]
         ·subst hW;exact⟨(),tv,zI (zK (zy 1 3 (by decide) rfl rfl)) (s:= [0,1,2,3,6,4,5]) tA⟩
         ·have hWl:0<W.length:=DV.2 hW;obtain⟨m1,m2⟩:=Yz (d:=d2) hW;have hf:=Wd g s (UA (d2.writes W).2.2) (d2.writes W).1 hdw.1;rw [m1,m2] at hf;conv=>whnf
          refine A8 (fun _=>?_) (fun hq=>absurd hq (by omega));conv=>whnf
          refine ze9 [0,1,2,3] hf ?_;rintro _ _ ⟨rfl,rfl⟩;exact⟨(),tv,zR (s:= [0,1,2,3,6,4,5]) tA⟩
        ·rintro _ _;have hdm:DkOk (d2.mend W).1/\(d2.mend W).1.cells.length=d2.cells.length:=by
          unfold Dk.mend;split
          ·exact⟨hd2,rfl⟩
          ·exact GZ hd2 hWin
         generalize d2.mend W=M at hdm |-
         obtain⟨d3,dead⟩:=M;simp only at hdm |-
         cases dead with
         | true=>
          rw [if_pos rfl];conv=>whnf
          repeat' (refine zY ?_;conv=>whnf)
          exact⟨.ag (Fh st0), .ag (Fh st0),NC g s 8 d3,Be st0_sub,zR (s:= [0,1,2,3,4]) tA,⟨st0,rfl,fun _=>rfl⟩,rfl⟩
         | false=>
          rw [if_neg (by decide)];have hpa:=GD hao;unfold M4;by_cases hmx:a.gen=4294967295\/a.epoch=4294967295
          ·rw [if_pos hmx];conv=>whnf
           repeat' (refine zY ?_;conv=>whnf)
           refine A8 (fun _=>?_) (fun q1=>?_)
           ·conv=>whnf
            repeat' (refine zY ?_;conv=>whnf)
            exact⟨.ag (Fh st0), .ag (Fh st0),NC g s 14 d3,Be st0_sub,zR (s:= [0,1,2,3,4]) tA,⟨st0,rfl,fun _=>rfl⟩,rfl⟩
           ·conv=>whnf
            refine A8 (fun _=>?_) (fun q2=>absurd hmx (by omega));conv=>whnf
            repeat' (refine zY ?_;conv=>whnf)
            exact⟨.ag (Fh st0), .ag (Fh st0),NC g s 14 d3,Be st0_sub,zR (s:= [0,1,2,3,4]) tA,⟨st0,rfl,fun _=>rfl⟩,rfl⟩
          ·rw [if_neg hmx];have hna:=Mz (n:=T.length) hao (fun e=>hmx (.inl e)) (fun e=>hmx (.inr e)) hlast.2;have hban:=Lp g s d3 (Eb a T.length) hg hna hdm.1 (J7 hg hna (by rw [hdm.2,hs2,hs1];exact hn));have w1:IntKind.i64.wrap (a.gen+1)=a.gen+1:=wi (by omega);have w2:IntKind.i64.wrap (a.epoch+1)=a.epoch+1:=wi (by omega);have w3:IntKind.i64.wrap (IntKind.i64.wrap (a.seq+T.length) - 1)=a.seq+T.length - 1:=by
            rw [wi (n:=a.seq+T.length) (by omega)];exact wi (by omega)
           conv=>whnf
           repeat' (refine zY ?_;conv=>whnf)
           refine A8 (fun q=>absurd q (by omega)) (fun q1=>?_);conv=>whnf
           refine A8 (fun q=>absurd q (by omega)) (fun q2=>?_);conv=>whnf
           repeat' (refine zY ?_;conv=>whnf)
           rw [w1,w2,w3];refine zZ [0,1,2,4] hban rfl rfl rfl rfl (by decide) (ZG rfl rfl) tA ?_;rintro _ _ ⟨rfl,rfl⟩;have hpn:(d3.putAll (AE g (Eb a T.length))).2.1=(d3.writes (AE g (Eb a T.length))).2.1:=by
            cases hdd:(d3.writes (AE g (Eb a T.length))).2.2 with
            | true=>rw [EC hdd]
            | false=>rw [Ef hdd];split <;> rfl
           rw [<-hpn];generalize d3.putAll (AE g (Eb a T.length))=Q;obtain⟨d4,n,dead⟩:=Q;simp only;cases dead with
           | true=>
            rw [if_pos rfl];conv=>whnf
            repeat' (refine zY ?_;conv=>whnf)
            exact⟨.ag (Fh (AN (Eb a T.length) T)), .ag (Fh (AN (Eb a T.length) T)),NC g s 8 d4,Be ⟨ri,ri,ri,ri,ri,ri,ri,ri,ri,ri,ri,ri,ri,Bt 1 _,tv⟩,zR (s:= [0,1,2,3,7]) tA,⟨_,rfl,fun h=>absurd h (show ¬(8:Int)=0 by decide)⟩,rfl⟩
           | false=>
            rw [if_neg (by decide)];by_cases hn0:n=0
            ·subst hn0;rw [if_pos rfl];conv=>whnf
             repeat' (refine zY ?_;conv=>whnf)
             exact⟨.ag (Fh (AN (Eb a T.length) T)), .ag (Fh (AN (Eb a T.length) T)),NC g s 14 d4,Be ⟨ri,ri,ri,ri,ri,ri,ri,ri,ri,ri,ri,ri,ri,Bt 1 _,tv⟩,zR (s:= [0,1,2,3,7]) tA,⟨_,rfl,fun h=>absurd h (show ¬(14:Int)=0 by decide)⟩,rfl⟩
            ·rw [if_neg hn0];have hnb:((n:Int) == 0)=false:=beq_eq_false_iff_ne.2 (by omega);conv=>whnf
             repeat' (refine zY ?_;conv=>whnf)
             rw [hnb];conv=>whnf
             repeat' (refine zY ?_;conv=>whnf)
             exact⟨.ag (Fh (AN (Eb a T.length) T)), .ag (Fh (AN (Eb a T.length) T)),NC g s 0 d4,Be ⟨ri,ri,ri,ri,ri,ri,ri,ri,ri,ri,ri,ri,ri,Bt 1 _,tv⟩,zR (s:= [0,1,2,3,7]) tA,⟨_,rfl,fun _=>rfl⟩,rfl⟩
      ·rw [if_pos (by simpa using he)];have hb:(e != 0)=true:=bne_iff_ne.2 he;rw [hb];exact⟨.ag (Fh st0), .ag (Fh st0),NC g s e d2,Be st0_sub,zI (zK (zy 1 3 (by decide) rfl rfl)) (s:= [0,1,2,3,8]) tA,⟨st0,rfl,fun h=>absurd h he⟩,rfl⟩
     ·have eB:eK d1 (2*g.sl.toNat)=8:=by unfold eK;rw [if_neg hl2]
      rw [eB,if_neg hl2];exact⟨.ag (Fh st0), .ag (Fh st0),NC g s 8 (d1.adv (2*g.sl.toNat)),Be st0_sub,zI (zK (zy 1 3 (by decide) rfl rfl)) (s:= [0,1,2,3,8]) tA,⟨st0,rfl,fun _=>rfl⟩,rfl⟩
  ·have eA:eK d g.an.toNat=8:=by unfold eK;rw [if_neg hlv]
   have hM:Dr g d=(d.adv g.an.toNat,8,st0):=by unfold Dr;rw [if_neg hlv]
   rw [eA,hM];exact⟨.ag (Fh st0), .ag (Fh st0),NC g s 8 (d.adv g.an.toNat),Be st0_sub,zI (zK (zy 1 3 (by decide) rfl rfl)) (s:= [0,1,2,3,6]) tA,⟨st0,rfl,fun _=>rfl⟩,rfl⟩
theorem P4 (l:List Tx) (hl:l.length<=1000000) (hi:∀ t∈l,t.images.length<=1000000/\∀ x∈t.images,x.bytes.length<=1000000000):Fn Tryz.prog 136 [Dh l] fun r=>r=Dh l:=by
 refine zS Tryz.func136 rfl ?_;conv=>whnf
 refine zU Nat (fun k=>([(0,Dh l),(3, .ow 0 k),(4,ze k)], [.row 45 4 ((l.take k).map CI)])) (fun k=>k<=l.length) (fun k=>l.length - k) 0 (Aj _)
  ⟨_,_,zA _ _, [(3,45,4)],tA, [0],tA⟩ ?_
 intro k hk;conv=>whnf
 refine A8 (fun h6=>?_) (fun h6=>?_) <;> (repeat rw [Ac] at h6) <;> conv=>whnf
 ·have hk':k<l.length:=by omega
  have hm:=hi _ (A7 (d:=(⟨0,0,0, []⟩:Tx)) hk');have b1:=Jc (l.getD k ⟨0,0,0, []⟩).images hm.1 hm.2;have hl:k=((l.take k).map CI).length:=by simp;omega
  apply zV (0) tys_ok mixed (.o [0,1,2,3,4,5,6,7,8,9,10,11,12,13,14,15,16,17,18,19,20,21,22,23,24,25] .fin) (by kernel_rfl);conv=>whnf
  try (refine tI ?_;conv=>whnf)
  try (refine tI ?_;conv=>whnf)
  try (refine tI ?_;conv=>whnf)
  try (refine tI ?_;conv=>whnf)
  refine z_ b1 ?_;conv=>whnf
  try (refine tJ ?_;conv=>whnf)
  try (refine tK ?_;conv=>whnf)
  all_goals exact⟨k+1,hk',by omega,zR (s:= [0]) ⟨⟨rfl,rfl,AL (by omega),tv⟩,⟨congrArg (fun l=>some (AB.row _ _ l)) (FT (f:=CI) (d:=(⟨0,0,0, []⟩:Tx)) hk').symm,tv⟩,rfl,rfl,rfl,rfl,rfl⟩⟩
 ·have ek:k=l.length:=by omega
  subst ek;rw [As];refine Ad (Aa _).symm ?_;exact⟨Dh l,Ba (f:=CI) l rfl rfl,rfl⟩
theorem OA (s:Stt) (h:StSm s):Fn Tryz.prog 64 [.ag (Fh s)] fun r=>r = .ag (Fh s):=by
 have c1:=Nn s.a (by have:=h.h.1;omega) h.h.2;have c2:=P4 s.txns (by have:=h.t.1;omega) (fun t ht=>⟨by have:=(h.t.2 t ht).1;omega,fun x hx=>by have:=(h.t.2 t ht).2 x hx;omega⟩);have c3:=GJ s.lost h.o;refine zS Tryz.func64 rfl ?_;conv=>whnf
 apply zV (0) tys_ok mixed (.o [0,1,3,4,6,7,8,2,10,5,9,11,12,13,14,15,16] .fin) (by kernel_rfl);conv=>whnf
 refine z_ c1 ?_;conv=>whnf
 refine z_ c2 ?_;conv=>whnf
 refine z_ c3 ?_;conv=>whnf
 try (refine tS ?_;conv=>whnf)
 try (refine tS ?_;conv=>whnf)
 try (refine tS ?_;conv=>whnf)
 all_goals exact⟨_,ri,rfl⟩
theorem DkOk.big {d:Dk} (h:DkOk d):d.cells.length<=1000000/\d.cache.length<=1000000/\(∀ c∈d.cells,c.bytes.length<=1000000000/\c.old.length<=1000000000)/\(∀ w∈d.cache,w.bytes.length<=1000000000):=
 ⟨by have:=h.n;omega,by have:=h.m;omega,fun c hc=>by have:=(h.c c hc).2;omega,fun w hw=>by have:=(h.w w hw).2;omega⟩
theorem TT (g:Geo) (d:Dk) (s:Stt) (h:DkOk d) (hs:StSm s):ACalls Tryz.prog false 30 [.ag (AT g), .ag (FX d), .ag (Fh s)] [] fun r H=>r = .bp 0 0/\H=JM g s 0 d:=by
 obtain⟨q1,q2,q3,q4⟩:=h.big;have c1:=OO d q1 q2 q3 q4;have c2:=OA s hs;refine zT tys_ok Tryz.func30 rfl rfl (Ag rfl) ?_;conv=>whnf
 apply zV (0) tys_ok mixed (.o [0,1,3,2,4,5,6,7] .fin) (by kernel_rfl);conv=>whnf
 (refine zW c1 rfl ?_;rintro _ _ ⟨rfl,rfl⟩)
 conv=>whnf
 refine z_ c2 ?_;exact⟨_, .bp 0 0,JM g s 0 d,fun _ _ h=>h,zR (s:= [6,3,4,5]) tA,rfl,rfl⟩
@[reducible] def Nl (a:An) (x:AV):List AV:= [iv a.gen,iv a.epoch,iv a.pos,iv a.seq,iv a.last, .v (.string a.label),x]
@[reducible] def stX (s:Stt) (x y:AV):List AV:= [iv s.a.gen,iv s.a.epoch,iv s.a.pos,iv s.a.seq,iv s.a.last, .v (.string s.a.label),x,y, .v (.bool s.only),iv s.cursor,iv s.found,iv s.fixed,iv s.moved,iA s.lost]
theorem O9 (l:List Tx) (hl:l.length<=1000000) (hi:∀ t∈l,t.images.length<=1000000/\∀ x∈t.images,x.bytes.length<=1000000000):ACalls Tryz.prog false 136 [Dh l] [] fun r H=>r = .ow 0 l.length/\H=[.row 45 4 (l.map CI)]:=by
 refine zT tys_ok Tryz.func136 rfl rfl (Ag rfl) ?_;conv=>whnf
 refine zU Nat (fun k=>([(0,Dh l),(3, .ow 0 k),(4,ze k)], [.row 45 4 ((l.take k).map CI)])) (fun k=>k<=l.length) (fun k=>l.length - k) 0 (Aj _)
  ⟨_,_,zA _ _, [(3,45,4)],tA, [0],tA⟩ ?_
 intro k hk;conv=>whnf
 refine A8 (fun h6=>?_) (fun h6=>?_) <;> (repeat rw [Ac] at h6) <;> conv=>whnf
 ·have hk':k<l.length:=by omega
  have hm:=hi _ (A7 (d:=(⟨0,0,0, []⟩:Tx)) hk');have b1:=Jc (l.getD k ⟨0,0,0, []⟩).images hm.1 hm.2;have hl:k=((l.take k).map CI).length:=by simp;omega
  apply zV (0) tys_ok mixed (.o [0,1,2,3,4,5,6,7,8,9,10,11,12,13,14,15,16,17,18,19,20,21,22,23,24,25] .fin) (by kernel_rfl);conv=>whnf
  try (refine tI ?_;conv=>whnf)
  try (refine tI ?_;conv=>whnf)
  try (refine tI ?_;conv=>whnf)
  try (refine tI ?_;conv=>whnf)
  refine z_ b1 ?_;conv=>whnf
  try (refine tJ ?_;conv=>whnf)
  try (refine tK ?_;conv=>whnf)
  all_goals exact⟨k+1,hk',by omega,zR (s:= [0]) ⟨⟨rfl,rfl,AL (by omega),tv⟩,⟨congrArg (fun l=>some (AB.row _ _ l)) (FT (f:=CI) (d:=(⟨0,0,0, []⟩:Tx)) hk').symm,tv⟩,rfl,rfl,rfl,rfl,rfl⟩⟩
 ·have ek:k=l.length:=by omega
  subst ek;rw [As];exact⟨.ow 0 l.length, .ow 0 l.length, [.row 45 4 (l.map CI)],fun _ _ h=>h,zR (s:= [0]) tA,rfl,rfl⟩
theorem LQ (a:An) (hh:a.homes.length<=1000) (hp:∀ h∈a.homes,h.places.length<=1000000):ACalls Tryz.prog false 135 [.ag (Ew a)] [] fun r H=>r = .ag (Nl a (.ow 0 a.homes.length))/\H=[.row 53 3 (a.homes.map DU)]:=by
 refine zT tys_ok Tryz.func135 rfl rfl (Ag rfl) ?_;conv=>whnf
 refine zM Nat (fun k=>([(1, .bp 0 0),(2, .bp 1 0),(3,Ig a.homes),(4,iv k)], [.box 28 [iv a.gen,iv a.epoch,iv a.pos,iv a.seq,iv a.last, .v (.string a.label), .ow 2 k], .box 28 [iv 0,iv 0,iv 0,iv 0,iv 0, .v (.string ⟨#[]⟩), .v (.slice none 0 0)], .row 53 3 ((a.homes.take k).map DU)])) (fun k=>k<=a.homes.length) (fun k=>a.homes.length - k) 0 (Aj _) ⟨[(1000006,53,3)],tA,tA,tA,rfl,rfl,rfl⟩ ?_;intro k hk;conv=>whnf
 refine A8 (fun c1=>?_) (fun c1=>?_) <;> (repeat rw [Ac] at c1) <;> conv=>whnf
 ·have ti:=GJ (a.homes.getD k ⟨[],0,0⟩).places (hp _ (A7 c1));refine z7 tys_ok mixed [0,1,2,3,4,5,6,8,9,10,11,12,13,14,15,16,17,7,18,19,20,21,22] (by kernel_rfl) ?_;conv=>whnf
  repeat' (first | (refine zY ?_;conv=>whnf) | (refine A8 (fun _=>?_) (fun _=>?_) <;> conv=>whnf) | (refine z_ ti ?_;conv=>whnf) | (refine Ad (by first | omega | exact of_decide_eq_true rfl) ?_;conv=>whnf) | fail)
  refine Ad ⟨by rw [Aa,Ar];omega,by omega⟩ ?_;exact⟨k+1,by omega,by omega, [],tv,⟨rfl,rfl,rfl,AL (by omega),tv⟩,⟨rfl,rfl,congrArg (AB.row _ _) (GT c1),tv⟩,rfl,rfl,rfl⟩
 ·have ek:k=a.homes.length:=by omega
  subst ek;rw [As];exact⟨.ag (Nl a (.ow 2 a.homes.length)), .ag (Nl a (.ow 0 a.homes.length)), [.row 53 3 (a.homes.map DU)],fun _ _ h=>h,zR (s:= [2]) tA,rfl,rfl⟩
theorem Jb (s:Stt) (h:StSm s):ACalls Tryz.prog false 64 [.ag (Fh s)] [] fun r H=>r = .ag (stX s (.ow 0 s.a.homes.length) (.ow 1 s.txns.length))/\H=[.row 53 3 (s.a.homes.map DU), .row 45 4 (s.txns.map CI)]:=by
 have c1:=LQ s.a (by have:=h.h.1;omega) h.h.2;have c2:=O9 s.txns (by have:=h.t.1;omega) (fun t ht=>⟨by have:=(h.t.2 t ht).1;omega,fun x hx=>by have:=(h.t.2 t ht).2 x hx;omega⟩);have c3:=GJ s.lost h.o;refine zT tys_ok Tryz.func64 rfl rfl (Ag rfl) ?_;conv=>whnf
 apply zV (0) tys_ok mixed (.o [0,1,3,4,6,7,8,2,10,5,9,11,12,13,14,15,16] .fin) (by kernel_rfl);conv=>whnf
 (refine zW c1 rfl ?_;rintro _ _ ⟨rfl,rfl⟩)
 conv=>whnf
 (refine zW c2 rfl ?_;rintro _ _ ⟨rfl,rfl⟩)
 conv=>whnf
 refine z_ c3 ?_;conv=>whnf
 try (refine tS ?_;conv=>whnf)
 try (refine tS ?_;conv=>whnf)
 try (refine tS ?_;conv=>whnf)
 all_goals exact⟨.ag (stX s (.ow 2 s.a.homes.length) (.ow 3 s.txns.length)), .ag (stX s (.ow 0 s.a.homes.length) (.ow 1 s.txns.length)), [.row 53 3 (s.a.homes.map DU), .row 45 4 (s.txns.map CI)],fun _ _ h=>h,zR (s:= [2,3]) tA,rfl,rfl⟩
@[reducible] def Zw (g:Geo) (x hm tx:AV) (s:Stt) (e:Int):List AV:= [iv g.z,iv g.d,iv g.sp,iv g.sl,iv g.an,x,iv s.a.gen,iv s.a.epoch,iv s.a.pos,iv s.a.seq,iv s.a.last, .v (.string s.a.label),hm,tx, .v (.bool s.only),iv s.cursor,iv s.found,iv s.fixed,iv s.moved,iA s.lost,iv e]
@[reducible] def F7 (g:Geo) (s:Stt) (e:Int) (d:Dk):List AB:= [.box 95 (Zw g (.bp 1 0) (.ow 4 s.a.homes.length) (.ow 5 s.txns.length) s e), .box 92 (Hr (.ow 2 d.cells.length) (.ow 3 d.cache.length) d.reqs d.left), .row 84 3 (d.cells.map BG), .row 131 2 (d.cache.map EK), .row 53 3 (s.a.homes.map DU), .row 45 4 (s.txns.map CI)]
@[reducible] def rwP (g:Geo) (s:Stt) (e:Int) (d:Dk):List AB:= [.box 95 (Zw g (.bp 1 0) (.ow 4 s.a.homes.length) (.ow 5 s.txns.length) s e), .box 92 (Hr (.ow 2 d.cells.length) (.ow 6 d.cache.length) d.reqs d.left), .row 84 3 (d.cells.map BG), .dead, .row 53 3 (s.a.homes.map DU), .row 45 4 (s.txns.map CI), .row 131 2 (d.cache.map EK)]
theorem Zy (g:Geo) (s:Stt) (e:Int) (d:Dk):ConvH (F7 g s e d) (rwP g s e d):=zy (H:=F7 g s e d) 1 3 (by decide) rfl rfl
theorem Mq (g:Geo) (d:Dk) (s:Stt) (h:DkOk d) (hs:StSm s):ACalls Tryz.prog false 30 [.ag (AT g), .ag (FX d), .ag (Fh s)] [] fun r H=>r = .bp 0 0/\H=F7 g s 0 d:=by
 obtain⟨q1,q2,q3,q4⟩:=h.big;have c1:=OO d q1 q2 q3 q4;have c2:=Jb s hs;refine zT tys_ok Tryz.func30 rfl rfl (Ag rfl) ?_;conv=>whnf
 apply zV (0) tys_ok mixed (.o [0,1,3,2,4,5,6,7] .fin) (by kernel_rfl);conv=>whnf
 (refine zW c1 rfl ?_;rintro _ _ ⟨rfl,rfl⟩)
 conv=>whnf
 (refine zW c2 rfl ?_;rintro _ _ ⟨rfl,rfl⟩)
 exact⟨_, .bp 0 0,F7 g s 0 d,fun _ _ h=>h,zR (s:= [8,3,4,5,6,7]) tA,rfl,rfl⟩
theorem Yb (g:Geo) (s:Stt) (d:Dk) (a:Int) (h:DkOk d) (ha:0<=a/\a<d.cells.length) :
  ACalls Tryz.prog false 188 [.bp 0 0,iv a] (F7 g s 0 d) fun r H=>r = .ag (Dz ⟨(d.read a).2.2,(d.read a).2.1⟩)/\H=F7 g s (if d.left=0 then 8 else 0) (d.read a).1:=by
 have hr:=PO d a h.l ha h.m (fun c hc=>by have:=(h.c c hc).2.1;omega) (fun w hw=>by have:=(h.w w hw).2;omega);have he:(d.left=0/\(d.read a).2.2=8)\/(¬d.left=0/\(d.read a).2.2≠8):=by
  unfold Dk.read;by_cases h0:d.left=0
  ·rw [if_pos h0];exact .inl ⟨h0,rfl⟩
  ·rw [if_neg h0];exact .inr ⟨h0,show (d.got a).2≠8 by have:=SW d a;omega⟩
 generalize d.read a=q at hr he |-
 obtain⟨D,b,e⟩:=q;simp only at hr he |-
 refine zT tys_ok Tryz.func188 rfl rfl (Ag rfl) ?_;conv=>whnf
 refine ze9 [1,2,3] hr ?_;rintro _ _ ⟨rfl,rfl⟩;rcases he with ⟨h0,rfl⟩ | ⟨h0,he⟩
 ·rw [if_pos h0];conv=>whnf
  repeat' (refine zY ?_;conv=>whnf)
  exact⟨_, .ag (Dz ⟨8,b⟩),F7 g s 8 D,fun _ _ h=>h,zR (s:= [0,1,2,3,4,5]) tA,rfl,rfl⟩
 ·rw [if_neg h0];conv=>whnf
  repeat' (refine zY ?_;conv=>whnf)
  refine Ao (fun h8=>absurd (by simpa using h8) he) (fun _=>?_);conv=>whnf
  repeat' (refine zY ?_;conv=>whnf)
  exact⟨_, .ag (Dz ⟨e,b⟩),F7 g s 0 D,fun _ _ h=>h,zR (s:= [0,1,2,3,4,5]) tA,rfl,rfl⟩
theorem X_ (g:Geo) (s:Stt) (d:Dk) (a:Int) (b:List UInt8) (h:DkOk d) (ha:0<=a/\a<d.cells.length) (hb:b.length<=200) :
  ACalls Tryz.prog false 72 [.bp 0 0,iv a,bA b] (F7 g s 0 d) fun r H=>r = .v (.bool (decide ((d.write a b).2=0)))/\H=F7 g s (if (d.write a b).2=8 then 8 else 0) (d.write a b).1:=by
 have hr:=NB d a b h.l ha h.m (by omega);have he:=IC d a b;generalize d.write a b=q at hr he |-
 obtain⟨D,e⟩:=q;simp only at hr he |-
 refine zT tys_ok Tryz.func72 rfl rfl (Ag rfl) ?_;conv=>whnf
 refine ze9 [1,2,3] hr ?_;rintro _ _ ⟨rfl,rfl⟩;rcases he with rfl | rfl | rfl
 all_goals
  conv=>whnf
  repeat' (refine zY ?_;conv=>whnf)
 ·exact⟨_, .v (.bool false),F7 g s 8 D,fun _ _ h=>h,zR (s:= [0,1,2,3,4,5]) tA,rfl,rfl⟩
 ·exact⟨_, .v (.bool false),F7 g s 0 D,fun _ _ h=>h,zR (s:= [0,1,2,3,4,5]) tA,rfl,rfl⟩
 ·exact⟨_, .v (.bool true),F7 g s 0 D,fun _ _ h=>h,zR (s:= [0,1,2,3,4,5]) tA,rfl,rfl⟩
theorem Yi (g:Geo) (s:Stt) (e:Int) (d:Dk) (h:DkOk d) :
  ACalls Tryz.prog false 75 [.bp 0 0] (F7 g s e d) fun r H=>r = .tp []/\H=rwP g s (if e=0 then if d.left=0 then 8 else 0 else e) (if e=0 then if d.left=0 then d else d.flush else d):=by
 have hf:=NH d h.l h.m (fun w hw=>(h.w w hw).1) (fun w hw=>by have:=(h.w w hw).2;omega);by_cases he:e=0
 ·subst he;rw [if_pos rfl,if_pos rfl];refine zT tys_ok Tryz.func75 rfl rfl (Ag rfl) ?_;conv=>whnf
  refine ze9 [1,2,3] hf ?_;rintro _ _ ⟨rfl,rfl⟩;by_cases h0:d.left=0;all_goals
   simp only [h0,if_true,if_false];exact⟨_, .tp [],rwP g s _ _,fun _ _ h=>h,zR (s:= [0,1,2,3,4,5,6]) tA,rfl,rfl⟩
 ·rw [if_neg he,if_neg he];have hb:(e == 0)=false:=beq_eq_false_iff_ne.2 he;refine zT tys_ok Tryz.func75 rfl rfl (Ag rfl) ?_;conv=>whnf
  rw [hb];exact⟨_, .tp [],rwP g s e d,fun _ _ h=>h,zI (zK (Zy g s e d)) (s:= [0,1,2,3,4,5,6]) tA,rfl,rfl⟩

theorem MF {α:Type} {n i:Nat} {a d:α} (h:i<n):(List.replicate n a).getD i d=a:=by rw [Ab,Dd h];rfl
theorem Tm {i:Nat} (h:i<8):zero8.getD i 0=0:=by
 have:i=0\/i=1\/i=2\/i=3\/i=4\/i=5\/i=6\/i=7:=by omega
 rcases this with rfl | rfl | rfl | rfl | rfl | rfl | rfl | rfl <;> rfl
def L7 (cs:List Cel) (w:Wr):List Cel:=cs.set w.addr.toNat { cs.getD w.addr.toNat cz with bytes:=w.bytes }
def EN (cs:List Cel) (l:List Wr):List Cel:=l.foldl L7 cs
theorem Q8 (cs:List Cel) (w:Wr):(L7 cs w).length=cs.length:=by simp [L7]
theorem F3 (l:List Wr):∀ cs:List Cel,(EN cs l).length=cs.length:=by
 induction l with
 | nil=>intro cs;rfl
 | cons w l ih=>intro cs;show (EN (L7 cs w) l).length=_;rw [ih,Q8]
theorem IU (cs:List Cel) {l:List Wr} {k:Nat} (h:k<l.length):EN cs (l.take (k+1))=L7 (EN cs (l.take k)) (l.getD k ⟨0, []⟩):=by
 unfold EN;rw [A_,Ci,Af h];simp [Ab,Af h]
theorem Kk (cs:List Cel) (w:Wr):(L7 cs w).map BG=(cs.map BG).set w.addr.toNat (BG { cs.getD w.addr.toNat cz with bytes:=w.bytes }):=by rw [L7,Ch]
def J2 (g:Geo):List Cel:=List.replicate (Aw g).toNat cz
def HG (g:Geo) (c:Int):List Wr:=(List.range g.sl.toNat).map fun i=>⟨By g c (i:Nat),Ca g zeroC c (i:Nat)⟩
def IY (g:Geo) (z:Int):List Wr:=(List.range 2).map fun k=>⟨AG g z (k:Nat),Bp (AG g z (k:Nat)) 0 (CY (Fm g))⟩
def H_ (g:Geo) (z:Int):List Wr:=(List.range (CD g).toNat).map fun i=>⟨Cj g z (i:Nat),Bp (Cj g z (i:Nat)) 0 zero8⟩
def WY (g:Geo) (s:ByteArray):List Cel:=EN (J2 g) (AE g (Cc g s))
def Pi (g:Geo) (s:ByteArray):Nat->List Cel
 | 0=>WY g s
 | c+1=>EN (Pi g s c) (HG g (c:Nat))
def HN (g:Geo) (s:ByteArray):Nat->List Cel
 | 0=>Pi g s 2
 | z+1=>EN (EN (HN g s z) (IY g (z:Nat))) (H_ g (z:Nat))
def Ih (g:Geo) (s:ByteArray):Dk:=⟨HN g s g.z.toNat, [],0, -1⟩
theorem ML (g:Geo):(J2 g).length=(Aw g).toNat:=by simp [J2]
theorem WX (g:Geo) (s:ByteArray):(WY g s).length=(Aw g).toNat:=by rw [WY,F3,ML]
theorem MK (g:Geo) (s:ByteArray):∀ c,(Pi g s c).length=(Aw g).toNat
 | 0=>WX g s
 | c+1=>by rw [Pi,F3,MK g s c]
theorem Hi (g:Geo) (s:ByteArray):∀ z,(HN g s z).length=(Aw g).toNat
 | 0=>MK g s 2
 | z+1=>by rw [HN,F3,F3,Hi g s z]
theorem KD {α:Type} {f:Nat->α} {n k:Nat} {d:α} (h:k<n):((List.range n).map f).getD k d=f k:=by
 rw [Bg (d:=0) (by simpa using h),Ab,BM h];rfl
theorem IP {g:Geo} (hg:Bq g=true):EE g zeroC=true:=by
 simp [EE,hg,EP,zeroC,G7]
theorem Kl (cs:List Cel) (l m:List Wr):EN cs (l ++ m)=EN (EN cs l) m:=by unfold EN;rw [Ci]
theorem Kh (cs:List Cel) (i a:Nat) (x:Cel) (ha:a<cs.length):(cs.set i x).getD a cz=if i=a then x else cs.getD a cz:=by
 rw [Ab,List.getElem?_set];by_cases h:i=a
 ·subst h;rw [if_pos rfl,if_pos rfl,if_pos ha];rfl
 ·rw [if_neg h,if_neg h,<-Ab]
theorem WV (cs:List Cel) (w:Wr) (a:Nat) (ha:a<cs.length):(L7 cs w).getD a cz=if w.addr.toNat=a then { cs.getD a cz with bytes:=w.bytes } else cs.getD a cz:=by
 unfold L7;rw [Kh _ _ _ _ ha];split
 ·rename_i h;rw [h]
 ·rfl
theorem Of {F:List UInt8}:∀ (l:List Wr) (cs:List Cel) (a:Nat),a<cs.length->(∀ w∈l,w.addr.toNat=a->w.bytes=F)->((∃ w∈l,w.addr.toNat=a)\/(cs.getD a cz).bytes=F)->(EN cs l).getD a cz={ cs.getD a cz with bytes:=F }
 | [],cs,a,_,_,h=>by
  rcases h with ⟨w,hw,_⟩ | h
  ·cases hw
  ·show cs.getD a cz=_;rw [<-h]
 | w::l,cs,a,ha,hF,h=>by
  have hs:=WV cs w a ha;have ha':a<(L7 cs w).length:=by rw [Q8];exact ha
  have ih:=Of (F:=F) l (L7 cs w) a ha' (fun x hx=>hF x (Bd _ hx));show (EN (L7 cs w) l).getD a cz=_;by_cases e:w.addr.toNat=a
  ·rw [if_pos e,hF w (by simp) e] at hs;rw [ih (.inr (by rw [hs])),hs]
  ·rw [if_neg e] at hs;rw [ih ?_,hs];rcases h with ⟨x,hx,hxa⟩ | h
   ·rcases AU.1 hx with rfl | hx
    ·exact absurd hxa e
    ·exact .inl ⟨x,hx,hxa⟩
   ·exact .inr (by rw [hs];exact h)
def Lb (g:Geo):Nat->List Wr
 | 0=> []
 | z+1=>Lb g z ++ (IY g (z:Nat) ++ H_ g (z:Nat))
def Ph (g:Geo) (s:ByteArray):List Wr:=AE g (Cc g s) ++ (HG g 0 ++ (HG g 1 ++ Lb g g.z.toNat))
theorem WW (g:Geo) (s:ByteArray):∀ z,HN g s z=EN (J2 g) (AE g (Cc g s) ++ (HG g 0 ++ (HG g 1 ++ Lb g z)))
 | 0=>by
  show EN (EN (WY g s) (HG g 0)) (HG g 1)=_;rw [WY,<-Kl,<-Kl,Lb,AK]
 | z+1=>by
  rw [HN,WW g s z,<-Kl,<-Kl,Lb];simp only [A6]
def HM (g:Geo) (s:ByteArray) (a:Int):List UInt8:=
 if a<g.an then CV (Cc g s) a else if a<g.an+g.sl then Ca g zeroC 0 (a - g.an) else if a<g.an+2*g.sl then Ca g zeroC 1 (a - g.an - g.sl)
 else if a<g.an+2*g.sl+2*g.z then Bp a 0 (CY (Fm g)) else Bp a 0 zero8
theorem IB {g:Geo} (hg:Bq g=true):∀ (n:Nat) (w:Wr),(n:Int)<=g.z->(w∈Lb g n↔(∃ z k:Nat,z<n/\k<2/\w=⟨AG g z k,Bp (AG g z k) 0 (CY (Fm g))⟩)\/∃ z i:Nat,z<n/\i<(CD g).toNat/\w=⟨Cj g z i,Bp (Cj g z i) 0 zero8⟩)
 | 0,w,_=>by simp [Lb]
 | n+1,w,h=>by
  rw [Lb,A5,A5,IB hg n w (by omega)];simp only [IY,H_,AP,AO];constructor
  ·rintro((⟨z,k,h1,h2,h3⟩ | ⟨z,i,h1,h2,h3⟩) | ⟨k,h1,h2⟩ | ⟨i,h1,h2⟩)
   ·exact .inl ⟨z,k,by omega,h2,h3⟩
   ·exact .inr ⟨z,i,by omega,h2,h3⟩
   ·exact .inl ⟨n,k,by omega,h1,h2.symm⟩
   ·exact .inr ⟨n,i,by omega,h1,h2.symm⟩
  ·rintro(⟨z,k,h1,h2,h3⟩ | ⟨z,i,h1,h2,h3⟩)
   ·by_cases e:z=n
    ·subst e;exact .inr (.inl ⟨k,h2,h3.symm⟩)
    ·exact .inl (.inl ⟨z,k,by omega,h2,h3⟩)
   ·by_cases e:z=n
    ·subst e;exact .inr (.inr ⟨i,h2,h3.symm⟩)
    ·exact .inl (.inr ⟨z,i,by omega,h2,h3⟩)
theorem SZ {g:Geo} {s:ByteArray} {a:Int} (h:a<g.an):HM g s a=CV (Cc g s) a:=if_pos h
theorem MJ {g:Geo} {s:ByteArray} {c:Int} {i:Nat} (hc:c=0\/c=1) (hi:(i:Int)<g.sl):HM g s (By g c i)=Ca g zeroC c i:=by
 unfold HM By;rcases hc with rfl | rfl
 ·rw [if_neg (by omega),if_pos (by omega)];congr 1;omega
 ·rw [if_neg (by omega),if_neg (by omega),if_pos (by omega)];congr 1;omega
theorem Q9 {g:Geo} {s:ByteArray} {z k:Nat} (h0:0<=g.sl) (hz:(z:Int)<g.z) (hk:k<2):HM g s (AG g z k)=Bp (AG g z k) 0 (CY (Fm g)):=by
 unfold HM;have:AG g z k=g.an+2*g.sl+2*z+k:=rfl;rw [if_neg (by omega),if_neg (by omega),if_neg (by omega),if_pos (by omega)]
theorem Og {g:Geo} {s:ByteArray} {z i:Nat} (h0:0<=g.sl) (h1:0<=g.z) (h2:0<=CD g):HM g s (Cj g z i)=Bp (Cj g z i) 0 zero8:=by
 unfold HM;have:Cj g z i=g.an+2*g.sl+2*g.z+z*CD g+i:=rfl;have:0<=(z:Int)*CD g:=De (by omega) h2;rw [if_neg (by omega),if_neg (by omega),if_neg (by omega),if_neg (by omega)]
theorem Qc {g:Geo} (hg:Bq g=true):0<CD g:=by
 obtain⟨g1,g2,g3,g4,g5⟩:=Aq.1 hg;unfold CD;omega
theorem WU {g:Geo} {s:ByteArray} (hg:Bq g=true):∀ w∈Ph g s,0<=w.addr/\w.bytes=HM g s w.addr:=by
 obtain⟨g1,g2,g3,g4,g5⟩:=Aq.1 hg;have hp:=Qc hg;intro w hw;simp only [Ph,A5,IB hg g.z.toNat w (by omega)] at hw;rcases hw with hw | hw | hw | ⟨z,k,h1,h2,rfl⟩ | ⟨z,i,h1,h2,rfl⟩
 ·simp only [AE,AP,AO] at hw;obtain⟨i,hi,rfl⟩:=hw;exact⟨by show (0:Int)<=(i:Nat);omega,(SZ (by show ((i:Nat):Int)<g.an;omega)).symm⟩
 ·simp only [HG,AP,AO] at hw;obtain⟨i,hi,rfl⟩:=hw;exact⟨by show 0<=By g 0 i;unfold By;omega,(MJ (.inl rfl) (by omega)).symm⟩
 ·simp only [HG,AP,AO] at hw;obtain⟨i,hi,rfl⟩:=hw;exact⟨by show 0<=By g 1 i;unfold By;omega,(MJ (.inr rfl) (by omega)).symm⟩
 ·exact⟨by show 0<=AG g z k;unfold AG;omega,(Q9 (by omega) (by omega) h2).symm⟩
 ·have:0<=(z:Int)*CD g:=De (by omega) (by omega);exact⟨by show 0<=Cj g z i;unfold Cj;omega,(Og (by omega) (by omega) (by omega)).symm⟩
theorem WT {g:Geo} {s:ByteArray} (hg:Bq g=true) {a:Int} (h0:0<=a) (h:a<Aw g):∃ w∈Ph g s,w.addr=a:=by
 obtain⟨g1,g2,g3,g4,g5⟩:=Aq.1 hg;have hp:=Qc hg;by_cases h1:a<g.an
 ·refine⟨⟨a,CV (Cc g s) a⟩,?_,rfl⟩;simp only [Ph,A5,AE,AP,AO];exact .inl ⟨a.toNat,by omega,by rw [CN h0]⟩
 ·have hlog:∀ (c:Int) (i:Nat),(c=0\/c=1)->(i:Int)<g.sl->∃ w∈Ph g s,w.addr=By g c i:=fun c i hc hi=>by
   refine⟨⟨By g c i,Ca g zeroC c i⟩,?_,rfl⟩;simp only [Ph,A5,HG,AP,AO];rcases hc with rfl | rfl
   ·exact .inr (.inl ⟨i,by omega,rfl⟩)
   ·exact .inr (.inr (.inl ⟨i,by omega,rfl⟩))
  by_cases h2:a<g.an+g.sl
  ·obtain⟨w,hw,e⟩:=hlog 0 (a - g.an).toNat (.inl rfl) (by omega);exact⟨w,hw,by rw [e];unfold By;omega⟩
  ·by_cases h3:a<g.an+2*g.sl
   ·obtain⟨w,hw,e⟩:=hlog 1 (a - g.an - g.sl).toNat (.inr rfl) (by omega);exact⟨w,hw,by rw [e];unfold By;omega⟩
   ·by_cases h4:a<g.an+2*g.sl+2*g.z
    ·refine⟨⟨AG g (((a - (g.an+2*g.sl)).toNat / 2:Nat)) ((a - (g.an+2*g.sl)).toNat % 2:Nat),Bp (AG g (((a - (g.an+2*g.sl)).toNat / 2:Nat)) ((a - (g.an+2*g.sl)).toNat % 2:Nat)) 0 (CY (Fm g))⟩,?_,by show AG g _ _=a;unfold AG;omega⟩;simp only [Ph,A5,IB hg g.z.toNat _ (by omega)];exact .inr (.inr (.inr (.inl ⟨_,_,by omega,by omega,rfl⟩)))
    ·have hq:a - (g.an+2*g.sl+2*g.z)=((a - (g.an+2*g.sl+2*g.z)).toNat:Int):=by omega
     generalize hX:(a - (g.an+2*g.sl+2*g.z)).toNat=X at hq;have hP:CD g=((CD g).toNat:Int):=by omega
     have hX2:X<g.z.toNat*(CD g).toNat:=by
      have:(X:Int)<g.z*CD g:=by unfold Aw at h;omega
      rw [hP,show g.z=(g.z.toNat:Int) by omega] at this
      exact_mod_cast this
     generalize hPn:(CD g).toNat=p at hP hX2;have hp0:0<p:=by omega
     have hdm:(X / p)*p+X % p=X:=Nat.div_add_mod' X p;refine⟨⟨Cj g ((X / p:Nat)) ((X % p:Nat)),Bp (Cj g ((X / p:Nat)) ((X % p:Nat))) 0 zero8⟩,?_,?_⟩
     ·simp only [Ph,A5,IB hg g.z.toNat _ (by omega)];exact .inr (.inr (.inr (.inr ⟨X / p,X % p,Nat.div_lt_of_lt_mul (by rw [Nat.mul_comm];exact hX2),by rw [hPn];exact Nat.mod_lt _ hp0,rfl⟩)))
     ·show Cj g _ _=a;unfold Cj;rw [hP];have:((X / p:Nat):Int)*(p:Int)+((X % p:Nat):Int)=(X:Int):=by exact_mod_cast hdm
      omega
theorem Q7 {g:Geo} {s:ByteArray} (hg:Bq g=true) {a:Int} (h0:0<=a) (h:a<Aw g):(Ih g s).cells.getD a.toNat cz=⟨0,HM g s a, []⟩:=by
 have hl:a.toNat<(J2 g).length:=by rw [ML];omega
 obtain⟨w,hw,e⟩:=WT (s:=s) hg h0 h;have hall:=WU (s:=s) hg;show (HN g s g.z.toNat).getD a.toNat cz=_;rw [WW];refine(Of (F:=HM g s a) (Ph g s) (J2 g) a.toNat hl (fun x hx hxa=>?_) (.inl ⟨w,hw,by rw [e]⟩)).trans ?_
 ·have:=hall x hx;rw [this.2];congr 1;omega
 ·have:(J2 g).getD a.toNat cz=cz:=by
   unfold J2;rw [Ab,Cm];split <;> rfl
  rw [this];rfl
structure Holds (d:Dk) (n:Int) (F:Int->List UInt8):Prop where
 len:(d.cells.length:Int)=n
 cache:d.cache=[]
 cell:∀ a:Int,0<=a->a<n->(d.cells.getD a.toNat cz).state=0/\(d.cells.getD a.toNat cz).bytes=F a
theorem Holds.got {d:Dk} {n:Int} {F:Int->List UInt8} (h:Holds d n F) {a:Int} (h0:0<=a) (h1:a<n):Uy d a=⟨0,F a⟩:=by
 obtain⟨e1,e2⟩:=h.cell a h0 h1;have hg:d.got a=((d.cells.getD a.toNat cz).bytes,0):=by
  unfold Dk.got;rw [h.cache];simp only [NU];rw [show (d.cells.getD a.toNat ⟨0, [], []⟩)=d.cells.getD a.toNat cz from rfl,if_pos e1]
 rw [Uy,hg,e2]
theorem Oe {g:Geo} {s:ByteArray} (hg:Bq g=true):Holds (Ih g s) (Aw g) (HM g s):=by
 have hc:=EH hg;obtain⟨g1,g2,g3,g4,g5⟩:=Aq.1 hg;refine⟨?_,rfl,fun a h0 h1=>by rw [Q7 hg h0 h1];exact tA⟩;show ((HN g s g.z.toNat).length:Int)=_;rw [Hi];omega
def Dk.tick (k:Nat) (d:Dk):Dk:=⟨d.cells,d.cache,min (d.reqs+k) 1048576,if d.left<0 then d.left else d.left - k⟩
structure Lv (d:Dk) (k:Nat):Prop where
 r:0<=d.reqs/\d.reqs<=1048576
 l:d.left<0\/(k:Int)<=d.left
theorem Lv.le {d:Dk} {k j:Nat} (h:Lv d k) (hj:j<=k):Lv d j:=⟨h.r,by have:=h.l;omega⟩
theorem Mn {d:Dk} (h:0<=d.reqs/\d.reqs<=1048576) (_h0:d.left≠0) (hl:d.left<0\/1<=d.left):d.req=d.tick 1:=by
 unfold Dk.req Dk.tick;rw [wi (by omega)];congr 1
 ·split <;> omega
 ·split <;> split <;> omega
theorem GX {d:Dk} (a b:Nat) (_hr:d.reqs<=1048576) (h:d.left<0\/(a:Int)<=d.left):(d.tick a).tick b=d.tick (a+b):=by
 unfold Dk.tick;congr 1
 ·simp only;omega
 ·simp only;by_cases h':d.left<0
  ·simp only [h',if_true]
  ·rw [if_neg h',if_neg (by omega),if_neg h'];omega
theorem Nz {d:Dk} (hr:d.reqs<=1048576):d.tick 0=d:=by
 unfold Dk.tick;obtain⟨c,ca,r,l⟩:=d;simp only [Dk.mk.injEq,true_and] at hr |-
 constructor
 ·omega
 ·split <;> omega
theorem JF {d:Dk} {a b:Nat} (h:Lv d (a+b)):Lv (d.tick a) b:=by
 have:=h.r;have:=h.l;refine⟨?_,?_⟩
 ·show 0<=min _ _/\min _ _<=_;omega
 ·show (if d.left<0 then d.left else d.left - a)<0\/(b:Int)<=(if d.left<0 then d.left else d.left - a);split <;> omega
theorem Nj {d:Dk}:∀ (k:Nat),Lv d k->d.adv k=d.tick k
 | 0,h=>(Nz h.r.2).symm
 | k+1,h=>by
  have ih:=Nj k (h.le (by omega));have h1:=JF (a:=k) (b:=1) h;have h2:=h1.l;show (if (d.adv k).left=0 then d.adv k else (d.adv k).req)=_;rw [ih,if_neg (by omega),Mn h1.r (by omega) (by omega),GX k 1 h.r.2 (by have:=h.l;omega)]
def free (cs:List Cel) (w:Wr):Bool:=decide ((cs.getD w.addr.toNat cz).state≠2)
theorem Rf {d:Dk} {w:Wr} (h:Lv d 1) (hc:d.cache.length<2000):d.write w.addr w.bytes=if free d.cells w then (⟨d.cells,d.cache ++ [w],(d.tick 1).reqs,(d.tick 1).left⟩,0) else (d.tick 1,7):=by
 have:=h.l;unfold Dk.write free;rw [if_neg (by omega),Mn h.r (by omega) (by omega)];by_cases h2:(d.cells.getD w.addr.toNat cz).state=2
 ·rw [if_pos (.inl h2),if_neg (by simpa using h2)]
 ·rw [if_neg (by rintro(h3 | h3);exact h2 h3;omega),if_pos (by simpa using h2)];rfl
theorem writes_go:∀ (l:List Wr) (d:Dk) (n:Nat),Lv d l.length->d.cache.length+l.length<=2000->l.foldl CU (d,n,false)=(⟨d.cells,d.cache ++ l.filter (free d.cells),(d.tick l.length).reqs,(d.tick l.length).left⟩,n+(l.filter (free d.cells)).length,false)
 | [],d,n,h,_=>by
  show (d,n,false)=_;rw [show ([]:List Wr).length=0 from rfl,Nz h.r.2];simp only [List.filter_nil,AK,AY,Da]
 | w::l,d,n,h,hc=>by
  have hl:(w::l).length=l.length+1:=rfl;rw [hl] at h hc |-
  have hw:=Rf (w:=w) (h.le (show 1<=l.length+1 by omega)) (by omega);have h1:Lv (d.tick 1) l.length:=JF (by rw [C7];exact h);have ht:=GX (d:=d) 1 l.length h.r.2 (by have:=h.l;omega);rw [C7] at ht;show l.foldl CU (CU (d,n,false) w)=_;have hs:CU (d,n,false) w=(match d.write w.addr w.bytes with | (d,e)=>if e=8 then (d,n,true) else (d,n+(if e=0 then 1 else 0),false)):=by
   unfold CU;rw [if_neg (by simp)]
  rw [hs,hw];cases hf:free d.cells w with
  | true=>
   simp only [if_true];rw [if_neg (by decide)];have hgo:=writes_go l ⟨d.cells,d.cache ++ [w],(d.tick 1).reqs,(d.tick 1).left⟩ (n+1) ⟨h1.r,h1.l⟩ (by simp;omega);have e1:((⟨d.cells,d.cache ++ [w],(d.tick 1).reqs,(d.tick 1).left⟩:Dk).tick l.length).reqs=(d.tick (l.length+1)).reqs/\((⟨d.cells,d.cache ++ [w],(d.tick 1).reqs,(d.tick 1).left⟩:Dk).tick l.length).left=(d.tick (l.length+1)).left:=by rw [<-ht];exact tA
   rw [e1.1,e1.2] at hgo;rw [hgo];simp only [List.filter_cons,hf,if_true,Al,A6,List.singleton_append,Prod.mk.injEq,and_true,true_and];omega
  | false=>
   simp only [Cr,if_false];rw [if_neg (by decide),if_neg (by decide)];rw [writes_go l (d.tick 1) (n+0) h1 (by show d.cache.length+_<=_;omega),ht];simp only [List.filter_cons,hf,Cr,if_false,Da];rfl
theorem Py {d:Dk} {l:List Wr} (h:Lv d l.length) (hc:d.cache.length+l.length<=2000):d.writes l=(⟨d.cells,d.cache ++ l.filter (free d.cells),(d.tick l.length).reqs,(d.tick l.length).left⟩,(l.filter (free d.cells)).length,false):=by
 rw [Dk.writes,writes_go l d 0 h hc,A4]
def Gh (cs:List Cel) (w:Wr):List Cel:=if (cs.getD w.addr.toNat cz).state=2 then cs else cs.set w.addr.toNat ⟨0,w.bytes,(cs.getD w.addr.toNat cz).bytes⟩
def DP (cs:List Cel) (l:List Wr):List Cel:=l.foldl Gh cs
theorem Hk (cs:List Cel) (w:Wr):(Gh cs w).length=cs.length:=by unfold Gh;split <;> simp
theorem finL_len:∀ (l:List Wr) (cs:List Cel),(DP cs l).length=cs.length
 | [],_=>rfl
 | w::l,cs=>by show (DP (Gh cs w) l).length=_;rw [finL_len l,Hk]
theorem U2 (d:Dk) (w:Wr):d.fin w={ d with cells:=Gh d.cells w }:=by unfold Dk.fin Gh;split <;> rfl
theorem allFin_cells:∀ (l:List Wr) (d:Dk),d.allFin l={ d with cells:=DP d.cells l }
 | [],_=>rfl
 | w::l,d=>by
  show (d.fin w).allFin l=_;rw [allFin_cells l,U2];rfl
theorem Hn (cs:List Cel) (w:Wr) (a:Nat) (ha:a<cs.length):(Gh cs w).getD a cz=if w.addr.toNat=a/\(cs.getD a cz).state≠2 then ⟨0,w.bytes,(cs.getD a cz).bytes⟩ else cs.getD a cz:=by
 unfold Gh;by_cases h:(cs.getD w.addr.toNat cz).state=2
 ·rw [if_pos h,if_neg];rintro⟨rfl,h2⟩;exact h2 h
 ·rw [if_neg h,Kh _ _ _ _ ha];by_cases e:w.addr.toNat=a
  ·subst e;rw [if_pos rfl,if_pos ⟨rfl,h⟩]
  ·rw [if_neg e,if_neg (fun h=>e h.1)]
theorem finL_miss:∀ (l:List Wr) (cs:List Cel) (a:Nat),a<cs.length->(∀ w∈l,w.addr.toNat≠a)->(DP cs l).getD a cz=cs.getD a cz
 | [],_,_,_,_=>rfl
 | w::l,cs,a,ha,h=>by
  have hs:=Hn cs w a ha;rw [if_neg (fun e=>h w (by simp) e.1)] at hs;show (DP (Gh cs w) l).getD a cz=_;rw [finL_miss l (Gh cs w) a (by rw [Hk];exact ha) (fun x hx=>h x (Bd _ hx)),hs]
theorem finL_stuck:∀ (l:List Wr) (cs:List Cel) (a:Nat),a<cs.length->(cs.getD a cz).state=2->(DP cs l).getD a cz=cs.getD a cz
 | [],_,_,_,_=>rfl
 | w::l,cs,a,ha,h=>by
  have hs:=Hn cs w a ha;rw [if_neg (fun e=>e.2 h)] at hs;show (DP (Gh cs w) l).getD a cz=_;rw [finL_stuck l (Gh cs w) a (by rw [Hk];exact ha) (by rw [hs];exact h),hs]
theorem finL_any:∀ (l:List Wr) (cs:List Cel) (a:Nat),a<cs.length->(DP cs l).getD a cz=cs.getD a cz\/(cs.getD a cz).state≠2/\((DP cs l).getD a cz).state=0/\∃ w∈l,w.addr.toNat=a/\((DP cs l).getD a cz).bytes=w.bytes
 | [],_,_,_=> .inl rfl
 | w::l,cs,a,ha=>by
  have hs:=Hn cs w a ha;have ih:=finL_any l (Gh cs w) a (by rw [Hk];exact ha);by_cases e:w.addr.toNat=a/\(cs.getD a cz).state≠2
  ·rw [if_pos e] at hs;rcases ih with ih | ⟨h1,h2,x,hx,h3,h4⟩
   ·refine .inr ⟨e.2,?_,w,by simp,e.1,?_⟩
    ·show ((DP (Gh cs w) l).getD a cz).state=0;rw [ih,hs]
    ·show ((DP (Gh cs w) l).getD a cz).bytes=_;rw [ih,hs]
   ·exact .inr ⟨e.2,h2,x,Bd _ hx,h3,h4⟩
  ·rw [if_neg e] at hs;rcases ih with ih | ⟨h1,h2,x,hx,h3,h4⟩
   ·exact .inl (ih.trans hs)
   ·exact .inr ⟨by rw [hs] at h1;exact h1,h2,x,Bd _ hx,h3,h4⟩
theorem MW {F:List UInt8}:∀ (l:List Wr) (cs:List Cel) (a:Nat),a<cs.length->(cs.getD a cz).state≠2->(∀ w∈l,w.addr.toNat=a->w.bytes=F)->(∃ w∈l,w.addr.toNat=a)\/((cs.getD a cz).state=0/\(cs.getD a cz).bytes=F)->((DP cs l).getD a cz).state=0/\((DP cs l).getD a cz).bytes=F
 | [],cs,a,_,_,_,h=>by
  rcases h with ⟨w,hw,_⟩ | h
  ·cases hw
  ·exact h
 | w::l,cs,a,ha,h2,hF,h=>by
  have hs:=Hn cs w a ha;have ha':a<(Gh cs w).length:=by rw [Hk];exact ha
  show ((DP (Gh cs w) l).getD a cz).state=0/\((DP (Gh cs w) l).getD a cz).bytes=F;by_cases e:w.addr.toNat=a
  ·rw [if_pos ⟨e,h2⟩,hF w (by simp) e] at hs;exact MW l (Gh cs w) a ha' (by rw [hs];show (0:Int)≠2;decide) (fun x hx=>hF x (Bd _ hx)) (.inr (by rw [hs];exact tA))
  ·rw [if_neg (fun q=>e q.1)] at hs;refine MW l (Gh cs w) a ha' (by rw [hs];exact h2) (fun x hx=>hF x (Bd _ hx)) ?_;rcases h with ⟨x,hx,hxa⟩ | h
   ·rcases AU.1 hx with rfl | hx
    ·exact absurd hxa e
    ·exact .inl ⟨x,hx,hxa⟩
   ·exact .inr (by rw [hs];exact h)
theorem finL_free:∀ (l:List Wr) (cs cs0:List Cel),(∀ a,(cs.getD a cz).state=2↔(cs0.getD a cz).state=2)->DP cs (l.filter (free cs0))=DP cs l
 | [],_,_,_=>rfl
 | w::l,cs,cs0,h=>by
  have hstep:∀ a,((Gh cs w).getD a cz).state=2↔(cs0.getD a cz).state=2:=fun a=>by
   rw [<-h a];by_cases ha:a<cs.length
   ·rw [Hn cs w a ha];split
    ·rename_i e;constructor
     ·intro q;exact absurd q (by simp)
     ·intro q;exact absurd q e.2
    ·exact Iff.rfl
   ·rw [Ab,Ab,AJ (by rw [Hk];omega),AJ (by omega)]
  show _=DP (Gh cs w) l;rw [List.filter_cons];by_cases hf:free cs0 w=true
  ·rw [if_pos hf];exact finL_free l (Gh cs w) cs0 hstep
  ·rw [if_neg hf];have:Gh cs w=cs:=by
    unfold Gh;rw [if_pos];simp only [free,decide_eq_true_eq,Decidable.not_not] at hf;exact(h _).2 hf
   rw [this];exact finL_free l cs cs0 h
theorem JU {d:Dk} {l:List Wr} (h:Lv d (l.length+1)) (hc:d.cache=[]) (hl:l.length<=2000):d.putAll l=(⟨DP d.cells l, [],(d.tick (l.length+1)).reqs,(d.tick (l.length+1)).left⟩,(l.filter (free d.cells)).length,false):=by
 have hw:=Py (h.le (show l.length<=l.length+1 by omega)) (by rw [hc];simpa using hl);have h1:=JF (a:=l.length) (b:=1) h;have h2:=h1.l;rw [hc,B3] at hw;unfold Dk.putAll;rw [hw];simp only [Cr,if_false];rw [if_neg (by show ¬(d.tick l.length).left=0;omega)];have ht:=GX (d:=d) l.length 1 h.r.2 (by have:=h.l;omega);simp only [Prod.mk.injEq,and_true];unfold Dk.flush;rw [allFin_cells];have h3:Lv ⟨d.cells,l.filter (free d.cells),(d.tick l.length).reqs,(d.tick l.length).left⟩ 1:=⟨h1.r,h1.l⟩;have hr:=Mn (d:=⟨d.cells,l.filter (free d.cells),(d.tick l.length).reqs,(d.tick l.length).left⟩) h3.r (by show (d.tick l.length).left≠0;omega) (by show (d.tick l.length).left<0\/1<=(d.tick l.length).left;omega);rw [hr,<-ht];show (⟨DP d.cells (l.filter (free d.cells)), [],_,_⟩:Dk)=_;rw [finL_free l d.cells d.cells fun _=>Iff.rfl];rfl
structure Gw (n:Int) (d:Dk) (F:Int->List UInt8) (l:List Wr):Prop where
 ok:DkOk d
 left:d.left = -1
 len:(d.cells.length:Int)=n
 cache:d.cache=l
 cell:∀ a:Int,0<=a->a<n->(d.cells.getD a.toNat cz).state=0/\(d.cells.getD a.toNat cz).bytes=F a
abbrev Gd (n:Int) (d:Dk) (F:Int->List UInt8):Prop:=Gw n d F []
def GR (F:Int->List UInt8) (l:List Wr) (a:Int):List UInt8:=match Ic l a with
 | some w=>w.bytes
 | none=>F a
theorem Gw.req {n:Int} {d:Dk} {F:Int->List UInt8} {l:List Wr} (h:Gw n d F l):Gw n d.req F l:=
 ⟨h.ok.req,by unfold Dk.req;rw [h.left];rfl,h.len,h.cache,h.cell⟩
theorem Gd.got {n:Int} {d:Dk} {F:Int->List UInt8} (h:Gd n d F) {a:Int} (h0:0<=a) (h1:a<n):d.got a=(F a,0):=by
 have:=Holds.got ⟨h.len,h.cache,h.cell⟩ h0 h1;unfold Uy at this;injection this with e1 e2
 exact Prod.ext e2 e1
theorem Gd.read {n:Int} {d:Dk} {F:Int->List UInt8} (h:Gd n d F) {a:Int} (h0:0<=a) (h1:a<n):d.read a=(d.req,F a,0):=by
 unfold Dk.read;rw [if_neg (by rw [h.left];decide),h.got h0 h1]
theorem Gw.write {n:Int} {d:Dk} {F:Int->List UInt8} {l:List Wr} (h:Gw n d F l) (hl:l.length<2000) {a:Int} (h0:0<=a) (h1:a<n) {b:List UInt8} (hb:b.length<=200):(d.write a b).2=0/\Gw n (d.write a b).1 F (l ++ [⟨a,b⟩]):=by
 have hw:=h.ok.write (a:=a) (b:=b) (by rw [<-h.len] at h1;omega) hb;have e:d.write a b=({ d.req with cache:=d.cache ++ [⟨a,b⟩] },0):=by
  unfold Dk.write;rw [if_neg (by rw [h.left];decide),if_neg];rintro(h2 | h2)
  ·have:=(h.cell a h0 h1).1;unfold cz at this;omega
  ·rw [h.cache] at h2;omega
 rw [e] at hw |-
 exact⟨rfl,hw,h.req.left,h.len,by rw [h.cache],h.cell⟩
theorem Sc {cs:List Cel} {F:Int->List UInt8} {a:Int} (h0:0<=a) (h1:a.toNat<cs.length) (hc:(cs.getD a.toNat cz).state=0/\(cs.getD a.toNat cz).bytes=F a):∀ (n:Nat) (l:List Wr),l.length=n->(∀ w∈l,0<=w.addr)->((DP cs l).getD a.toNat cz).state=0/\((DP cs l).getD a.toNat cz).bytes=GR F l a
 | 0,l,hn,_=>by
  obtain rfl:=AZ.1 hn;exact hc
 | n+1,l,hn,hw=>by
  rcases CS l with rfl | ⟨m,w,rfl⟩
  ·cases hn
  ·have ih:=Sc h0 h1 hc n m (by simpa using hn) (fun x hx=>hw x (by simp [hx]));have hwa:=hw w (by simp);have e:DP cs (m ++ [w])=Gh (DP cs m) w:=by unfold DP;rw [Ci];rfl
   have e2:=Hn (DP cs m) w a.toNat (by rw [finL_len];exact h1);rw [CT,e,e2];unfold GR at ih |-
   rw [EG];by_cases hA:w.addr=a
   ·rw [if_pos hA,if_pos ⟨by rw [hA],by rw [ih.1];decide⟩];exact tA
   ·rw [if_neg hA,if_neg (fun h=>hA (by have:=h.1;omega))];exact ih
theorem Gw.flush {n:Int} {d:Dk} {F:Int->List UInt8} {l:List Wr} (h:Gw n d F l):Gd n d.flush (GR F l):=by
 have e:d.flush=⟨DP d.cells l, [],d.req.reqs,d.req.left⟩:=by
  unfold Dk.flush;rw [allFin_cells,h.cache];rfl
 have ho:=h.ok.flush;rw [e] at ho |-
 refine⟨ho,h.req.left,by show ((DP d.cells l).length:Int)=n;rw [finL_len];exact h.len,rfl,fun a h0 h1=>?_⟩;have hl:=h.len;refine Sc h0 (by omega) (h.cell a h0 h1) _ l rfl fun w hw=>?_
 rw [<-h.cache] at hw;exact(h.ok.w w hw).1.1
theorem bh (g:Geo) (s:Stt) (n:Int) (d:Dk) (F:Int->List UInt8) (a:Int) (h:Gd n d F) (ha:0<=a/\a<n) :
  ACalls Tryz.prog false 188 [.bp 0 0,iv a] (F7 g s 0 d) fun r H=>r = .ag (Dz ⟨0,F a⟩)/\∃ d',Gd n d' F/\H=F7 g s 0 d':=by
 have hr:=Yb g s d a h.ok (by have:=h.len;omega);rw [h.read ha.1 ha.2,if_neg (by rw [h.left];decide)] at hr;exact hr.mono fun r H ⟨e1,e2⟩=>⟨e1,d.req,h.req,e2⟩
theorem ah (g:Geo) (s:Stt) (n:Int) (d:Dk) (F:Int->List UInt8) (l:List Wr) (a:Int) (b:List UInt8) (h:Gw n d F l) (hl:l.length<2000) (ha:0<=a/\a<n) (hb:b.length<=200) :
  ACalls Tryz.prog false 72 [.bp 0 0,iv a,bA b] (F7 g s 0 d) fun r H=>r = .v (.bool true)/\∃ d',Gw n d' F (l ++ [⟨a,b⟩])/\H=F7 g s 0 d':=by
 have hr:=X_ g s d a b h.ok (by have:=h.len;omega) hb;obtain⟨e0,hw⟩:=h.write hl ha.1 ha.2 hb;rw [e0] at hr;exact hr.mono fun r H ⟨e1,e2⟩=>⟨e1,_,hw,e2⟩
theorem bu (g:Geo) (s:Stt) (n:Int) (d:Dk) (F:Int->List UInt8) (l:List Wr) (h:Gw n d F l) :
  ACalls Tryz.prog false 75 [.bp 0 0] (F7 g s 0 d) fun r H=>r = .tp []/\∃ d',Gd n d' (GR F l)/\H=rwP g s 0 d':=by
 have hr:=Yi g s 0 d h.ok;rw [if_pos rfl,if_pos rfl,if_neg (by rw [h.left];decide),if_neg (by rw [h.left];decide)] at hr;exact hr.mono fun r H ⟨e1,e2⟩=>⟨e1,_,h.flush,e2⟩
theorem JC {F:Int->List UInt8} {a:Int}:∀ (n:Nat) (l:List Wr),l.length=n->(∀ w∈l,w.addr≠a)->GR F l a=F a
 | 0,l,hn,_=>by
  obtain rfl:=AZ.1 hn;rfl
 | n+1,l,hn,h=>by
  rcases CS l with rfl | ⟨m,w,rfl⟩
  ·rfl
  ·have ih:=JC (F:=F) n m (by simpa using hn) (fun x hx=>h x (by simp [hx]));rw [CT];unfold GR at ih |-
   rw [EG,if_neg (h w (by simp))];exact ih
def Ce (g:Geo) (a:An) (seq:Int) (x:Img):List Wr:=if x.what=255 then [⟨AG g x.zone 0,Bp (AG g x.zone 0) seq x.bytes⟩,⟨AG g x.zone 1,Bp (AG g x.zone 1) seq x.bytes⟩] else [⟨B5 g a x.zone x.what,Bp (B5 g a x.zone x.what) seq x.bytes⟩]
def BS (g:Geo) (a:An) (seq:Int):List Img->List Wr
 | []=> []
 | x::r=>Ce g a seq x ++ BS g a seq r
def C3 (a:An) (seq:Int) (x:Img):An:=if x.what=255 then { a with homes:=a.homes.set x.zone.toNat { a.homes.getD x.zone.toNat ⟨[],0,0⟩ with root:=seq } } else a
def BO (a:An) (seq:Int) (l:List Img):An:=l.foldl (fun a x=>C3 a seq x) a
theorem FC (a:An) (seq:Int) (x:Img):(C3 a seq x).homes.length=a.homes.length:=by unfold C3;split <;> simp
theorem Il (seq:Int):∀ (l:List Img) (a:An),(BO a seq l).homes.length=a.homes.length
 | [],_=>rfl
 | x::r,a=>by
  show (BO (C3 a seq x) seq r).homes.length=_;rw [Il seq r,FC]
theorem Jh (a:An) (seq:Int) (x:Img) (z:Nat) (hz:z<a.homes.length):(C3 a seq x).homes.getD z ⟨[],0,0⟩=if x.what=255/\x.zone.toNat=z then { a.homes.getD z ⟨[],0,0⟩ with root:=seq } else a.homes.getD z ⟨[],0,0⟩:=by
 unfold C3;by_cases h:x.what=255
 ·rw [if_pos h];by_cases e:x.zone.toNat=z
  ·subst e;rw [if_pos ⟨h,rfl⟩];show (a.homes.set _ _).getD _ _=_;rw [BQ hz]
  ·rw [if_neg (fun q=>e q.2)];show (a.homes.set _ _).getD _ _=_;rw [Lj e]
 ·rw [if_neg h,if_neg (fun q=>h q.1)]
theorem St {g:Geo} {a:An} {seq:Int} {x:Img} {z w:Int} (hz:z.toNat<a.homes.length):B5 g (C3 a seq x) z w=B5 g a z w:=by
 unfold B5;rw [Jh a seq x _ hz];split <;> rfl
theorem GQ {g:Geo} {seq z w:Int}:∀ (l:List Img) {a:An},z.toNat<a.homes.length->B5 g (BO a seq l) z w=B5 g a z w
 | [],_,_=>rfl
 | x::r,a,hz=>by
  show B5 g (BO (C3 a seq x) seq r) z w=_;rw [GQ r (by rw [FC];exact hz),St hz]
theorem GS {seq:Int} {z:Nat}:∀ (l:List Img) {a:An},z<a.homes.length->(∀ x∈l,x.what=255->x.zone.toNat≠z)->(BO a seq l).homes.getD z ⟨[],0,0⟩=a.homes.getD z ⟨[],0,0⟩
 | [],_,_,_=>rfl
 | x::r,a,hz,h=>by
  show (BO (C3 a seq x) seq r).homes.getD z _=_;rw [GS r (by rw [FC];exact hz) (fun y hy=>h y (Bd _ hy)),Jh a seq x z hz,if_neg (fun q=>h x (by simp) q.1 q.2)]
theorem Im {seq:Int} {z:Nat}:∀ (l:List Img) {a:An},z<a.homes.length->(∃ x∈l,x.what=255/\x.zone.toNat=z)->((BO a seq l).homes.getD z ⟨[],0,0⟩).root=seq
 | x::r,a,hz,⟨y,hy,h1,h2⟩=>by
  show ((BO (C3 a seq x) seq r).homes.getD z _).root=_;by_cases hr:∃ x∈r,x.what=255/\x.zone.toNat=z
  ·exact Im r (by rw [FC];exact hz) hr
  ·rcases AU.1 hy with rfl | q
   ·rw [GS r (by rw [FC];exact hz) (fun x hx e1 e2=>hr ⟨x,hx,e1,e2⟩),Jh a seq y z hz,if_pos ⟨h1,h2⟩]
   ·exact absurd ⟨y,q,h1,h2⟩ hr
theorem Ts {g:Geo} {a:An} {seq:Int} {x:Img} (ha:Bj g a=true) (hs:0<=seq/\seq<=4294967295):Bj g (C3 a seq x)=true:=by
 unfold C3;split
 ·by_cases hi:x.zone.toNat<a.homes.length
  ·simp only [Bj,Ae,decide_eq_true_eq,Av] at ha |-
   obtain⟨q1,q2,q3,q4,q5,q6,q7⟩:=ha;refine⟨q1,q2,q3,q4,q5,by rw [AW];exact q6,fun y hy=>?_⟩;rcases Cz hy with h | rfl
   ·exact q7 y h
   ·have hh:=q7 _ (A7 (d:=(⟨[],0,0⟩:Hm)) hi);simp only [Ee,Ae] at hh |-
    exact⟨hh.1,hh.2.1,AI.2 hs,hh.2.2.2⟩
  ·rw [List.set_eq_of_length_le (by omega)];exact ha
 ·exact ha
theorem Ht {g:Geo} {seq:Int} (hs:0<=seq/\seq<=4294967295):∀ (l:List Img) {a:An},Bj g a=true->Bj g (BO a seq l)=true
 | [],_,h=>h
 | x::r,_,h=>Ht hs r (Ts h hs)
def Bz (g:Geo) (a:An) (x:Tx):An:={ BO a x.seq x.images with gen:=a.gen+1,pos:=(x.pos+x.n).tmod g.sl,seq:=a.seq+1,last:=max a.last a.seq }
theorem Gn (seq:Int):∀ (l:List Img) (a:An),(BO a seq l).gen=a.gen/\(BO a seq l).epoch=a.epoch/\(BO a seq l).pos=a.pos/\(BO a seq l).seq=a.seq/\(BO a seq l).last=a.last/\(BO a seq l).label=a.label
 | [],_=>tA
 | x::r,a=>by
  obtain⟨h1,h2,h3,h4,h5,h6⟩:=Gn seq r (C3 a seq x);have e:(C3 a seq x).gen=a.gen/\(C3 a seq x).epoch=a.epoch/\(C3 a seq x).pos=a.pos/\(C3 a seq x).seq=a.seq/\(C3 a seq x).last=a.last/\(C3 a seq x).label=a.label:=by unfold C3;split <;> exact tA
  obtain⟨e1,e2,e3,e4,e5,e6⟩:=e;exact⟨h1.trans e1,h2.trans e2,h3.trans e3,h4.trans e4,h5.trans e5,h6.trans e6⟩
theorem JH {g:Geo} {a:An} {x:Tx} (hg:Bq g=true) (ha:Bj g a=true) (h1:a.gen<4294967295) (h2:a.seq<4294967295) (hx:x.seq=a.seq) (hp:0<=x.pos) (hn:0<=x.n):Bj g (Bz g a x)=true:=by
 obtain⟨g1,g2,g3,g4,g5⟩:=Aq.1 hg;have hh:=ha;simp only [Bj,Bc,BL,BA,Ae,decide_eq_true_eq,AI] at hh;obtain⟨⟨w1,w2,w3,w4⟩,q2,q3,q4,q5,q6,q7⟩:=hh;have hu:=Ht (g:=g) (seq:=x.seq) (by omega) x.images ha;obtain⟨_,e2,_,_,_,e6⟩:=Gn x.seq x.images a;simp only [Bj,Bc,BL,BA,Ae,decide_eq_true_eq,AI] at hu |-
 obtain⟨_,_,_,_,u5,u6,u7⟩:=hu;have hm0:0<=(x.pos+x.n).tmod g.sl:=Bw _ (by omega);have hm1:(x.pos+x.n).tmod g.sl<g.sl:=Bh _ (by omega);refine⟨⟨?_,?_,?_,?_⟩,?_,?_,?_,u5,u6,u7⟩
 ·show 0<=a.gen+1/\a.gen+1<=_;omega
 ·show 0<=(BO a x.seq x.images).epoch/\(BO a x.seq x.images).epoch<=_;rw [e2];exact w2
 ·show 0<=a.seq+1/\a.seq+1<=_;omega
 ·show 0<=max a.last a.seq/\max a.last a.seq<=_;omega
 ·show 1<=a.seq+1;omega
 ·show a.seq+1 - 1<=max a.last a.seq;omega
 ·show 0<=(x.pos+x.n).tmod g.sl/\(x.pos+x.n).tmod g.sl<=g.sl - 1;omega
theorem OneTab.eq:∀ {l:List Img} (_:OneTab l) {x y:Img},x∈l->y∈l->x.what=255->y.what=255->x.zone=y.zone->x=y
 | w::l,h,x,y,hx,hy,h1,h2,h3=>by
  obtain⟨q1,q2⟩:=List.pairwise_cons.1 h;rcases AU.1 hx with ex | mx
  ·rcases AU.1 hy with ey | my
   ·rw [ex,ey]
   ·rw [ex] at h1 h3;exact absurd h3 (q1 y my h1 h2)
  ·rcases AU.1 hy with ey | my
   ·rw [ey] at h2 h3;exact absurd h3.symm (q1 x mx h2 h1)
   ·exact OneTab.eq q2 mx my h1 h2 h3
theorem HJ {g:Geo} {a:An} {seq:Int} {w:Wr}:∀ {l:List Img},w∈BS g a seq l↔∃ x∈l,w∈Ce g a seq x
 | []=>by simp [BS]
 | x::r=>by
  rw [BS,A5,HJ];simp
theorem Dl {g:Geo} {x:Img} (h:B4 g x=true):(0<=x.zone/\x.zone<g.z)/\(x.what≠255-> -1<=x.what/\x.what<g.d/\x.bytes.length=8):=by
 simp only [B4,Ae,AI] at h;refine⟨by omega,fun hw=>?_⟩;have h2:=h.2.2;rw [if_neg hw,Ae,AI,decide_eq_true_eq] at h2;omega
theorem Kf {g:Geo} {a:An} (ha:Bj g a=true) {z:Int} (hz:0<=z/\z<g.z):z.toNat<a.homes.length/\Ee g (a.homes.getD z.toNat ⟨[],0,0⟩)=true:=by
 simp only [Bj,Ae,decide_eq_true_eq,Av] at ha;obtain⟨_,_,_,_,_,q6,q7⟩:=ha;have hi:z.toNat<a.homes.length:=by omega
 exact⟨hi,q7 _ (A7 (d:=(⟨[],0,0⟩:Hm)) hi)⟩
theorem Es {g:Geo} (hg:Bq g=true) {a:An} (ha:Bj g a=true) {z w:Int} (hz:0<=z/\z<g.z) (hw : -1<=w/\w<g.d):∃ s,B5 g a z w=Cj g z s/\0<=s/\s<CD g:=by
 obtain⟨g1,g2,g3,g4,g5⟩:=Aq.1 hg;obtain⟨hi,hh⟩:=Kf ha hz;simp only [Ee,Ae,decide_eq_true_eq,AI] at hh;obtain⟨p1,p2,p3,p4⟩:=hh;have hat:0<=E7 g w/\E7 g w<=g.d:=by unfold E7;split <;> omega
 refine⟨_,rfl,?_⟩;have hk:(E7 g w).toNat<(a.homes.getD z.toNat ⟨[],0,0⟩).places.length:=by omega
 have hp:=Av.1 p4 (E7 g w).toNat (by simpa using hk);simp only [Ae,AI] at hp;unfold CD;omega
theorem Fs {g:Geo} (hg:Bq g=true) {z s:Int} (hz:0<=z/\z<g.z) (hs:0<=s/\s<CD g):g.an+2*g.sl+2*g.z<=Cj g z s/\Cj g z s<Aw g:=by
 obtain⟨g1,g2,g3,g4,g5⟩:=Aq.1 hg;have hp:=GU hg;have h1:=Hs hg (z:=z) (by omega);have h2:z*CD g+CD g<=g.z*CD g:=by
  have:=BH (show z+1<=g.z by omega) (show 0<=CD g by omega);rw [Int.add_mul,Int.one_mul] at this;exact this
 unfold Cj Aw;omega
theorem FD {g:Geo} (hg:Bq g=true) {z k:Int} (hz:0<=z/\z<g.z) (hk:0<=k/\k<=1):g.an+2*g.sl<=AG g z k/\AG g z k<g.an+2*g.sl+2*g.z/\AG g z k<Aw g:=by
 obtain⟨g1,g2,g3,g4,g5⟩:=Aq.1 hg;have hp:=GU hg;have h1:=Hs hg (z:=g.z) (by omega);unfold AG Aw;omega
theorem WF {g:Geo} (hg:Bq g=true) {a:An} (ha:Bj g a=true) {x:Img} (hx:B4 g x=true) {seq:Int} {w:Wr} (hw:w∈Ce g a seq x):(x.what=255/\∃ k,(k=0\/k=1)/\w=⟨AG g x.zone k,Bp (AG g x.zone k) seq x.bytes⟩)\/(x.what≠255/\(∃ s,w.addr=Cj g x.zone s/\0<=s/\s<CD g)/\w=⟨B5 g a x.zone x.what,Bp (B5 g a x.zone x.what) seq x.bytes⟩):=by
 obtain⟨hz,hb⟩:=Dl hx;unfold Ce at hw;split at hw
 ·rename_i h;rcases AU.1 hw with rfl | hw
  ·exact .inl ⟨h,0, .inl rfl,rfl⟩
  ·rw [Az] at hw;exact .inl ⟨h,1, .inr rfl,hw⟩
 ·rename_i h;rw [Az] at hw;have hb':=hb h;obtain⟨s,e,hs⟩:=Es (w:=x.what) hg ha hz (by omega);exact .inr ⟨h,⟨s,by rw [hw];exact e,hs⟩,hw⟩
theorem NY {g:Geo} (hg:Bq g=true) {a:An} (ha:Bj g a=true) {l:List Img} (hl:∀ x∈l,B4 g x=true) {seq:Int}:∀ w∈BS g a seq l,g.an+2*g.sl<=w.addr/\w.addr<Aw g:=by
 intro w hw;obtain⟨x,hx,hwx⟩:=HJ.1 hw;obtain⟨hz,_⟩:=Dl (hl x hx);rcases WF hg ha (hl x hx) hwx with ⟨_,k,hk,rfl⟩ | ⟨_,⟨s,e,hs⟩,_⟩
 ·have:=FD hg hz (k:=k) (by omega);exact⟨this.1,this.2.2⟩
 ·have:=Fs hg hz hs;have hz2:=Aq.1 hg;rw [e];omega
theorem Wi (g:Geo) (w:Int):Fn Tryz.prog 148 [.ag (AT g),iv w] fun r=>r = iv (E7 g w):=by
 unfold E7;by_cases h:w = -1
 ·rw [if_pos h];refine zS Tryz.func148 rfl ?_;conv=>whnf
  rw [show (w == -1)=true by simpa using h];exact⟨_,ri,rfl⟩
 ·rw [if_neg h];refine zS Tryz.func148 rfl ?_;conv=>whnf
  rw [show (w == -1)=false by simpa using h];exact⟨_,ri,rfl⟩
theorem Mt (g:Geo) (a:An) (z w:Int) (hg:Bq g=true) (ha:Bj g a=true) (hz:0<=z/\z<g.z) (hw : -1<=w/\w<g.d):Fn Tryz.prog 77 [.ag (AT g), .ag (Ew a),iv z,iv w] fun r=>r = iv (B5 g a z w):=by
 obtain⟨g1,g2,g3,g4,g5⟩:=Aq.1 hg;obtain⟨hi,hh⟩:=Kf ha hz;simp only [Ee,Ae,decide_eq_true_eq,AI] at hh;obtain⟨p1,p2,p3,p4⟩:=hh;have hat:0<=E7 g w/\E7 g w<=g.d:=by unfold E7;split <;> omega
 have hk:(E7 g w).toNat<(a.homes.getD z.toNat ⟨[],0,0⟩).places.length:=by omega
 have hp:=Av.1 p4 (E7 g w).toNat (by simpa using hk);simp only [Ae,AI] at hp;have r1:=Wi g w;have r2:=PM g z ((a.homes.getD z.toNat ⟨[],0,0⟩).places.getD (E7 g w).toNat 0) hg hz (by unfold CD;omega);refine zS Tryz.func77 rfl ?_;conv=>whnf
 apply zP tys_ok mixed (.o [0,1,2,3,4,5,6,7,8,9,10,11,12,13,14] .fin) [8,9,10,11,12,13,14,15,16,17,18,19,20,21,22] (by kernel_rfl)
 ·conv=>whnf
  try (refine Ad (by first | omega | exact ixA | exact ixB | (simp;done)) ?_;conv=>whnf)
  refine z_ r1 ?_;conv=>whnf
  try (refine Ad (by first | omega | exact ixA | exact ixB | (simp;done)) ?_;conv=>whnf)
  refine z_ r2 ?_;exact tA
 exact⟨_,ri,rfl⟩
theorem PL (g:Geo) (x:Gt) (addr root:Int) (hg:Bq g=true) (hl:x.bytes.length<=100000):Fn Tryz.prog 207 [.ag (AT g), .ag (Dz x),iv addr,iv root] fun r=>r = .tp [.ag [Bv ((BV g x addr root).getD [])], .v (.bool (BV g x addr root).isSome)]:=by
 have h1:=II x addr hl;have zs:∀ (c:Ctx) (v:Value),Rd (.tp [.ag [.v (.slice none 0 0)], .v (.bool false)]) c v->Rd (.tp [.ag [Bv []], .v (.bool false)]) c v:=BX (m:= [.ag [Bv []], .v (.bool false)]) ⟨Be ⟨Bt 3 _,tv⟩,ri,tv⟩;unfold BV;cases hs:BR x addr with
 | none=>
  rw [hs] at h1;refine zS Tryz.func207 rfl ?_;conv=>whnf
  refine z_ h1 ?_;exact⟨_,zs,rfl⟩
 | some s=>
  rw [hs] at h1;simp only [B9,Option.isSome_some] at h1;have h2:=Jk g s.pay hg;simp only;by_cases hr:s.stamp=root
  ·rw [if_pos hr];refine zS Tryz.func207 rfl ?_;conv=>whnf
   refine z_ h1 ?_;conv=>whnf
   rw [show (s.stamp != root)=false by simpa using hr];conv=>whnf
   refine z_ h2 ?_;exact⟨_,ri,rfl⟩
  ·rw [if_neg hr];refine zS Tryz.func207 rfl ?_;conv=>whnf
   refine z_ h1 ?_;conv=>whnf
   rw [show (s.stamp != root)=true by simpa using hr];exact⟨_,zs,rfl⟩
theorem TS (x:Gt) (addr:Int) (e:Ent) (hl:x.bytes.length<=100000):Fn Tryz.prog 208 [.ag (Dz x),iv addr, .ag (Co e)] fun r=>r = .tp [bA ((En x addr e).getD []), .v (.bool (En x addr e).isSome)]:=by
 have h1:=II x addr hl;have zs:∀ (c:Ctx) (v:Value),Rd (.tp [.v (.slice none 0 0), .v (.bool false)]) c v->Rd (.tp [bA [], .v (.bool false)]) c v:=BX (m:= [bA [], .v (.bool false)]) ⟨Bt 1 _,ri,tv⟩;unfold En;cases hs:BR x addr with
 | none=>
  rw [hs] at h1;refine zS Tryz.func208 rfl ?_;conv=>whnf
  refine z_ h1 ?_;conv=>whnf
  apply zP tys_ok mixed (.o [0,1,2,3,4,5,6,7,8,9,10,11,12,13,14,15,16,17,19,20,18,21,22] .fin) [16,17,18,19,20,21,22,23,24,25,26,27,28,29,30,31,32,33,34,35,36,37,38] (by kernel_rfl)
  ·conv=>whnf
   (skip)
   exact tA
  conv=>whnf
  exact⟨_,zs,rfl⟩
 | some s=>
  rw [hs] at h1;simp only [B9,Option.isSome_some] at h1;have hp:s.pay.length<=100000:=by
   unfold BR at hs;split at hs
   ·obtain rfl:=Option.some.inj hs;unfold C9;simp;omega
   ·cases hs
  have h2:=JO s.pay (by omega);simp only;by_cases q1:s.stamp=e.stamp
  ·have e1:(s.stamp != e.stamp)=false:=by simpa using q1
   by_cases q2:s.pay.length=8
   ·have e2:((s.pay.length:Int) != 8)=false:=by rw [q2];rfl
    by_cases q3:((CR s.pay:Nat):Int)=e.sum
    ·have e3:(((CR s.pay:Nat):Int) != e.sum)=false:=by simpa using q3
     rw [if_pos ⟨q1,q2,q3⟩];refine zS Tryz.func208 rfl ?_;conv=>whnf
     refine z_ h1 ?_;conv=>whnf
     apply zP tys_ok mixed (.o [0,1,2,3,4,5,6,7,8,9,10,11,12,13,14,15,16,17,19,20,18,21,22] .fin) [16,17,18,19,20,21,22,23,24,25,26,27,28,29,30,31,32,33,34,35,36,37,38] (by kernel_rfl)
     ·conv=>whnf
      (rw [e1];(conv=>whnf);rw [e2];(conv=>whnf);refine z_ h2 ?_)
      exact tA
     conv=>whnf
     conv=>whnf
     rw [e3];exact⟨_,ri,rfl⟩
    ·have e3:(((CR s.pay:Nat):Int) != e.sum)=true:=by simpa using q3
     rw [if_neg fun h=>q3 h.2.2];refine zS Tryz.func208 rfl ?_;conv=>whnf
     refine z_ h1 ?_;conv=>whnf
     apply zP tys_ok mixed (.o [0,1,2,3,4,5,6,7,8,9,10,11,12,13,14,15,16,17,19,20,18,21,22] .fin) [16,17,18,19,20,21,22,23,24,25,26,27,28,29,30,31,32,33,34,35,36,37,38] (by kernel_rfl)
     ·conv=>whnf
      (rw [e1];(conv=>whnf);rw [e2];(conv=>whnf);refine z_ h2 ?_)
      exact tA
     conv=>whnf
     conv=>whnf
     rw [e3];exact⟨_,zs,rfl⟩
   ·have e2:((s.pay.length:Int) != 8)=true:=bne_iff_ne.2 (by omega);rw [if_neg fun h=>q2 h.2.1];refine zS Tryz.func208 rfl ?_;conv=>whnf
    refine z_ h1 ?_;conv=>whnf
    apply zP tys_ok mixed (.o [0,1,2,3,4,5,6,7,8,9,10,11,12,13,14,15,16,17,19,20,18,21,22] .fin) [16,17,18,19,20,21,22,23,24,25,26,27,28,29,30,31,32,33,34,35,36,37,38] (by kernel_rfl)
    ·conv=>whnf
     (rw [e1];(conv=>whnf);rw [e2])
     exact tA
    conv=>whnf
    exact⟨_,zs,rfl⟩
  ·have e1:(s.stamp != e.stamp)=true:=bne_iff_ne.2 q1;rw [if_neg fun h=>q1 h.1];refine zS Tryz.func208 rfl ?_;conv=>whnf
   refine z_ h1 ?_;conv=>whnf
   apply zP tys_ok mixed (.o [0,1,2,3,4,5,6,7,8,9,10,11,12,13,14,15,16,17,19,20,18,21,22] .fin) [16,17,18,19,20,21,22,23,24,25,26,27,28,29,30,31,32,33,34,35,36,37,38] (by kernel_rfl)
   ·conv=>whnf
    (rw [e1])
    exact tA
   conv=>whnf
   exact⟨_,zs,rfl⟩
theorem SB (a b:List UInt8) (h:a.length<=b.length) (hl:a.length<=1000000):Fn Tryz.prog 144 [bA a,bA b] fun r=>r=bA (Fj a b):=by
 have hx:(Fj a b).length=a.length:=by rw [Gv];omega
 refine zS Tryz.func144 rfl ?_;conv=>whnf
 refine zU Nat (fun k=>([(0,bA a),(1,bA b),(5, .ow 0 k),(6,iv k)], [.row 5 1 (((Fj a b).take k).map Eo)])) (fun k=>k<=a.length) (fun k=>a.length - k) 0 (Aj _)
  ⟨_,_,zA _ _, [(5,5,1)],tA, [0],tA⟩ ?_
 intro k hk;conv=>whnf
 refine A8 (fun h6=>?_) (fun h6=>?_) <;> (repeat rw [Ac] at h6) <;> conv=>whnf
 ·have hk':k<a.length:=by omega
  have hml:k=(((Fj a b).take k).map Eo).length:=by rw [Aa,Ar];omega
  have hx2:(((Fj a b).take k).map Eo) ++ [[AV.v (.int .u8 (IntKind.u8.wrap (BitVec.ofInt IntKind.u8.bits ((a.getD k 0).toNat:Int) ^^^ BitVec.ofInt IntKind.u8.bits ((b.getD k 0).toNat:Int)).toNat))]]=((Fj a b).take (k+1)).map Eo:=by
   rw [Vx (a.getD k 0) (b.getD k 0).toNat (b.getD k 0).toNat_lt,UInt8.ofNat_toNat,A_,Af (by omega),A9];have e:(Fj a b)[k]'(by omega)=a.getD k 0 ^^^ b.getD k 0:=by
    unfold Fj;rw [List.getElem_zipWith,Ab,Ab,Af hk',Af (by omega)];rfl
   rw [e];rfl
  repeat' (refine zY ?_;conv=>whnf)
  apply zD (0) tys_ok mixed (.o [0,1,2,3,4,5,6,7,8,9,10,11,12] .fin) [5,13,14,15,16,17,18,19,20,21,22,23,24] (by kernel_rfl)
  ·conv=>whnf
   try (refine tI ?_;conv=>whnf)
   try (refine tI ?_;conv=>whnf)
   try (refine tJ ?_;conv=>whnf)
   try (refine tK ?_;conv=>whnf)
   exact tA
  conv=>whnf
  rw [Ac];exact⟨k+1,hk',by omega,zR (s:= [0]) ⟨⟨rfl,rfl,rfl,AL (by omega),tv⟩,⟨congrArg (fun z=>some (AB.row 5 1 z)) hx2,tv⟩,rfl,rfl,rfl,rfl,rfl⟩⟩
 ·have ek:k=a.length:=by omega
  subst ek;rw [<-hx,As];refine⟨(by rw [Aa]),?_⟩;exact⟨bA (Fj a b),Fp rfl rfl,rfl⟩
theorem JY {t:List Ent} {had:List (List UInt8)} {i k:Nat} (h:E5 t had i k=none):∀ m,k<=m->E5 t had i m=none
 | 0,hm=>by
  obtain rfl:k=0:=by omega
  exact h
 | m+1,hm=>by
  by_cases e:k=m+1
  ·exact e ▸ h
  ·rw [E5,JY h m (by omega)]
def EU (l:List (List UInt8)):AV:= .sl 1 l.length fun i=> [bA (l.getD i [])]
theorem TH (g:Geo) (t:List Ent) (had:List (List UInt8)) (i:Nat) (hg:Bq g=true) (ht:(t.length:Int)=g.d+1) (hh:(had.length:Int)=g.d+1) (hb:∀ b∈had,b.length=0\/b.length=8) (hi:(i:Int)<=g.d):Fn Tryz.prog 142 [.ag (AT g), .ag [Bv t],EU had,iv i] fun r=>r=bA (FL g t had i):=by
 obtain⟨g1,g2,g3,g4,g5⟩:=Aq.1 hg;have hi1:i<t.length:=by omega
 have hi2:i<had.length:=by omega
 unfold FL;cases hL:(t.getD i ⟨0,0,false⟩).lost with
 | true=>
  rw [if_pos (show (t.getD i ez).lost=true from hL)];refine zS Tryz.func142 rfl ?_;refine⟨⟨by omega,by omega⟩,?_⟩;conv=>whnf
  rw [Ac,hL];exact⟨bA [],Bt 1 _,rfl⟩
 | false=>
  rw [if_neg (show ¬(t.getD i ez).lost=true by rw [show t.getD i ez=t.getD i ⟨0,0,false⟩ from rfl,hL];decide)];by_cases h0:0<(had.getD i []).length
  ·rw [if_pos h0];have ht8:=hb _ (A7 (d:= []) hi2);have h2:=Ez (had.getD i []) (by omega);refine zS Tryz.func142 rfl ?_;refine⟨⟨by omega,by omega⟩,?_⟩;conv=>whnf
   rw [Ac,hL];refine⟨⟨by omega,by omega⟩,?_⟩;conv=>whnf
   rw [Ac,show decide (((had.getD i []).length:Int) > 0)=true from decide_eq_true (by omega)];refine⟨⟨by omega,by omega⟩,?_⟩;conv=>whnf
   rw [Ac];refine z_ h2 ?_;exact⟨_,ri,rfl⟩
  ·rw [if_neg h0];have hz8:(List.replicate 8 [AV.v (.int .u8 0)])=zero8.map Eo:=rfl;refine zS Tryz.func142 rfl ?_;refine⟨⟨by omega,by omega⟩,?_⟩;conv=>whnf
   rw [Ac,hL];refine⟨⟨by omega,by omega⟩,?_⟩;conv=>whnf
   rw [Ac,show decide (((had.getD i []).length:Int) > 0)=false from decide_eq_false (by omega)];refine⟨⟨rfl,by decide,by decide⟩,?_⟩;conv=>whnf
   refine zU (Nat × List UInt8) (fun x=>([(2,EU had),(3,iv (i:Nat)),(4, .bp 0 0),(5, .bp 1 0),(9,bA x.2),(10,iv (x.1:Nat))], [.box 23 (AT g), .box 141 [Bv t]])) (fun x=>x.1<=g.d.toNat+1/\E5 t had i x.1=some x.2) (fun x=>g.d.toNat+1 - x.1) (0,zero8) ⟨Aj _,rfl⟩
    (zI (zQ (zN 9 2 rfl rfl) (zL 9 rfl (Fp (L:=zero8) rfl rfl))) (s:= [0,1]) tA) ?_
   rintro⟨k,b⟩ ⟨hk,hI⟩;simp only at hk hI;have hb8:=It hb k b hI;have hstep:E5 t had i (k+1)=if k=i\/(t.getD k ⟨0,0,false⟩).lost=true then some b else if (had.getD k []).length=0 then none else some (Fj b (had.getD k [])):=by rw [E5,hI];rfl
   conv=>whnf
   refine A8 (fun h6=>?_) (fun h6=>?_) <;> (repeat rw [Ac] at h6) <;> conv=>whnf
   ·have hk1:k<t.length:=by omega
    have hk2:k<had.length:=by omega
    have hgo:∀ c,E5 t had i (k+1)=some c->∃ x':Nat × List UInt8,(x'.1<=g.d.toNat+1/\E5 t had i x'.1=some x'.2)/\g.d.toNat+1 - x'.1<g.d.toNat+1 - k/\x'=(k+1,c):=fun c h=>⟨(k+1,c),⟨by show k+1<=_;omega,h⟩,by show g.d.toNat+1 - (k+1)<_;omega,rfl⟩
    repeat' (refine zY ?_;conv=>whnf)
    by_cases hki:k=i
    ·rw [show (((k:Nat):Int) == ((i:Nat):Int))=true by rw [hki];exact beq_self_eq_true _];conv=>whnf
     rw [if_pos (.inl hki)] at hstep;obtain⟨x',h1,h2,rfl⟩:=hgo b hstep;exact⟨_,h1,h2,zR (s:= [0,1]) ⟨⟨rfl,rfl,rfl,rfl,rfl,AL (by omega),tv⟩,tA,rfl,rfl,rfl,rfl,rfl⟩⟩
    ·rw [show (((k:Nat):Int) == ((i:Nat):Int))=false by rw [beq_eq_false_iff_ne];omega];refine⟨⟨by omega,by omega⟩,?_⟩;conv=>whnf
     rw [Ac];cases hkl:(t.getD k ⟨0,0,false⟩).lost with
     | true=>
      conv=>whnf
      rw [if_pos (.inr hkl)] at hstep;obtain⟨x',h1,h2,rfl⟩:=hgo b hstep;exact⟨_,h1,h2,zR (s:= [0,1]) ⟨⟨rfl,rfl,rfl,rfl,rfl,AL (by omega),tv⟩,tA,rfl,rfl,rfl,rfl,rfl⟩⟩
     | false=>
      conv=>whnf
      rw [if_neg (by rw [hkl];simp [hki])] at hstep;repeat' (refine zY ?_;conv=>whnf)
      refine Ad ⟨by show (0:Int)<=(k:Nat);omega,by show ((k:Nat):Int)<_;omega⟩ ?_;conv=>whnf
      rw [show ((((k,b):Nat × List UInt8).1:Nat):Int).toNat=k from Ac k];by_cases h8:(had.getD k []).length=0
      ·rw [show (((had.getD k []).length:Int) == 0)=true by rw [h8];rfl];conv=>whnf
       rw [if_pos h8] at hstep;rw [JY hstep (g.d.toNat+1) (by omega)];exact⟨bA [],Bt 1 _,rfl⟩
      ·rw [show (((had.getD k []).length:Int) == 0)=false by rw [beq_eq_false_iff_ne];omega];conv=>whnf
       refine Ad ⟨by show (0:Int)<=(k:Nat);omega,by show ((k:Nat):Int)<_;omega⟩ ?_;conv=>whnf
       rw [show ((((k,b):Nat × List UInt8).1:Nat):Int).toNat=k from Ac k];rw [if_neg h8] at hstep;have hk8:=hb _ (A7 (d:= []) hk2);have h2:=SB b (had.getD k []) (by omega) (by omega);refine z_ h2 ?_;conv=>whnf
       obtain⟨x',h1,h2,rfl⟩:=hgo _ hstep;exact⟨_,h1,h2,zR (s:= [0,1]) ⟨⟨rfl,rfl,rfl,rfl,rfl,AL (by omega),tv⟩,tA,rfl,rfl,rfl,rfl,rfl⟩⟩
   ·have ek:k=g.d.toNat+1:=by omega
    subst ek;have hs:=JO b (by omega);rw [hI];simp only;apply zP tys_ok mixed (.o [0,2,3,4,5,6,7,1,8] .fin) [58,59,60,61,62,63,64,65,66] (by kernel_rfl)
    ·conv=>whnf
     try (refine Ad (by first | omega | exact ixA | exact ixB | (simp;done)) ?_;conv=>whnf)
     refine z_ hs ?_;exact tA
    conv=>whnf
    conv=>whnf
    rw [Ac];by_cases hq:((CR b:Nat):Int)=(t.getD i ⟨0,0,false⟩).sum
    ·rw [if_pos (show ((CR b:Nat):Int)=(t.getD i ez).sum from hq),show (((CR b:Nat):Int) != (t.getD i ⟨0,0,false⟩).sum)=false by simpa using hq];exact⟨_,ri,rfl⟩
    ·rw [if_neg (show ¬((CR b:Nat):Int)=(t.getD i ez).sum from hq),show (((CR b:Nat):Int) != (t.getD i ⟨0,0,false⟩).sum)=true from bne_iff_ne.2 hq];exact⟨bA [],Bt 1 _,rfl⟩
theorem R5 (g:Geo) (z:Int) (t:List Ent) (par:List UInt8) (at_:Int) (b:List UInt8) (hg:Bq g=true) (ht:GG g t=true) (hp:par.length=8) (hb:b.length=8):Fn Tryz.prog 70 [iv z, .ag [Bv t],bA par,iA [at_],EU [b]] fun r=>r=DH (Cf z t par [at_] [b]):=by
 have h1:=Ez par (by omega);have h2:=Ez b (by omega);have hh:=ht;simp only [GG,Ae,decide_eq_true_eq,Av] at hh;obtain⟨⟨⟨_,t1⟩,t2⟩,_⟩:=hh;obtain⟨g1,g2,g3,g4,g5⟩:=Aq.1 hg;have h3:=S3 t (by omega) (fun e he=>by have:=t2 e he;simp only [DT,Ib,Ae,AI] at this;omega);refine zS Tryz.func70 rfl ?_;conv=>whnf
 refine zU Nat (fun k=>([(0,iv z),(2,bA par),(3,iA [at_]),(4,EU [b]),(6, .bp 0 0),(11, .ow 1 k),(12,iv k)], [.box 141 [Bv t], .row 51 3 ((([⟨z,at_,b⟩]:List Img).take k).map D9)])) (fun k=>k<=1) (fun k=>1 - k) 0 (by decide)
  ⟨_,_,zA _ _, [(11,51,3)],tA, [0,1],tA⟩ ?_
 intro k hk;conv=>whnf
 refine A8 (fun h6=>?_) (fun h6=>?_) <;> conv=>whnf
 ·have ek:k=0:=by simp only [Al,AY] at h6;omega
  subst ek;apply zV (0) tys_ok mixed (.o [0,1,2,3,4,5,6,7,8,9,10,11,12,13,14] .fin) (by kernel_rfl);conv=>whnf
  try (refine tI ?_;conv=>whnf)
  try (refine tI ?_;conv=>whnf)
  refine z_ h2 ?_;conv=>whnf
  try (refine tJ ?_;conv=>whnf)
  try (refine tK ?_;conv=>whnf)
  all_goals exact⟨1,by omega,by omega,zR (s:= [0,1]) tA⟩
 ·have ek:k=1:=by simp only [Al,AY] at h6;omega
  subst ek;apply zV (0) tys_ok mixed (.o [0,1,2,5,6,3,4,7,8,9,10,11] .fin) (by kernel_rfl);conv=>whnf
  refine z_ h1 ?_;conv=>whnf
  refine z_ h3 ?_;conv=>whnf
  try (refine tJ ?_;conv=>whnf)
  try (refine tK ?_;conv=>whnf)
  all_goals refine Ad rfl ?_
  all_goals conv=>whnf
  all_goals exact⟨DH (Cf z t par [at_] [b]),Ba (f:=D9) (Cf z t par [at_] [b]) rfl rfl,rfl⟩
theorem Nm (t:List Ent) (ht:t.length<=1000000):ACalls Tryz.prog false 141 [.ag [Bv t]] [] fun r H=>r = .ag [.ow 0 t.length]/\H=[.row 194 3 (t.map Co)]:=by
 refine zT tys_ok Tryz.func141 rfl rfl (Ag rfl) ?_;refine⟨by omega,?_⟩;exact⟨.ag [.ow 2 t.length], .ag [.ow 0 t.length], [.row 194 3 (t.map Co)],fun _ _ h=>h,zR (s:= [2]) ⟨tA,⟨congrArg (fun z=>some (AB.row 194 3 z)) (H6 (d:=(⟨0,0,false⟩:Ent)) Co t),tv⟩,rfl,rfl,rfl,rfl,rfl⟩,rfl,rfl⟩
section
variable (g:Geo) (t:List Ent) (had:List (List UInt8)) (ats:List Int) (bs:List (List UInt8)) (stamp:Int)
def YG (i k:Nat):List UInt8:=match E0 ats bs i k with
 | some b=>b
 | none=>FL g t had i
def Kp (i k:Nat):Ent:=match E0 ats bs i k with
 | some b=>⟨stamp,(CR b:Nat),false⟩
 | none=>t.getD i ez
def Ey (i:Nat):List Ent:=(List.range i).map (J_ g t had ats bs stamp) ++ t.drop i
theorem JX {i:Nat} (h:i<=t.length):(Ey g t had ats bs stamp i).length=t.length:=by simp [Ey];omega
theorem JW {i:Nat} (h:i<t.length) (e:Ent):(Ey g t had ats bs stamp i).set i e=(List.range i).map (J_ g t had ats bs stamp) ++ e::t.drop (i+1):=by
 rw [Ey,D7 _ _ (by simp),Aa,CM,C_,Bf h];rfl
theorem Wq {i:Nat} (h:i<t.length):(Ey g t had ats bs stamp i).set i (t.getD i ez)=Ey g t had ats bs stamp i:=by
 rw [JW g t had ats bs stamp h,Ey,Bf h,Ab,Af h];rfl
theorem IL {i:Nat} (h:i<t.length):(Ey g t had ats bs stamp i).set i (J_ g t had ats bs stamp i)=Ey g t had ats bs stamp (i+1):=by
 rw [JW g t had ats bs stamp h,Ey,Bm,A9,A6];rfl
end
theorem S7 {α β:Type} (f:α->β) (l:List α) (i:Nat) (c e:α):((l.set i c).map f).set i (f e)=(l.set i e).map f:=by
 rw [Ch,Ch,List.set_set]
theorem SX {l:List Ent} {i:Nat} (h:i<l.length) (c:Ent):((l.set i c).map Co).getD i []=Co c:=by
 rw [Ab,Bo,AC h];rfl
theorem PI (g:Geo) (t:List Ent) (had:List (List UInt8)) (ats:List Int) (bs:List (List UInt8)) (stamp:Int) (hg:Bq g=true) (ht:GG g t=true) (hh:(had.length:Int)=g.d+1) (hb:∀ b∈had,b.length=0\/b.length=8) (hn:ats.length=bs.length) (h8:∀ b∈bs,b.length=8) (hl:ats.length<=1000):Fn Tryz.prog 69 [.ag (AT g), .ag [Bv t],EU had,iA ats,EU bs,iv stamp] fun r=>r = .tp [.ag [Bv (Bx g t had ats bs stamp)],bA (DN g t had ats bs g.d.toNat)]:=by
 obtain⟨g1,g2,g3,g4,g5⟩:=Aq.1 hg;have hh2:=ht;simp only [GG,Ae,decide_eq_true_eq,Av] at hh2;obtain⟨⟨⟨_,t1⟩,t2⟩,_⟩:=hh2;have htw:=Nm t (by omega);refine zS Tryz.func69 rfl ?_;conv=>whnf
 refine zW htw rfl ?_;rintro _ _ ⟨rfl,rfl⟩;refine⟨⟨rfl,by decide,by decide⟩,?_⟩;conv=>whnf
 refine zU Nat (fun i=>([(2,EU had),(3,iA ats),(4,EU bs),(5,iv stamp),(6, .bp 0 0),(7, .bp 1 0),(12, .bp 2 0),(14, .bp 3 0),(15,bA (DN g t had ats bs i)),(16,iv (i:Nat))], [.box 23 (AT g), .box 141 [Bv t], .box 141 [.v (.slice none 0 0)], .box 141 [.ow 4 t.length], .row 194 3 ((Ey g t had ats bs stamp i).map Co)])) (fun i=>i<=g.d.toNat) (fun i=>g.d.toNat - i) 0 (Aj _)
  (zI (zQ (zN 15 5 rfl rfl) (zL 15 rfl (Fp (L:=zero8) rfl rfl))) (s:= [0,1,2,4,3]) tA) ?_
 intro i hi;conv=>whnf
 refine A8 (fun h6=>?_) (fun h6=>?_) <;> (repeat rw [Ac] at h6) <;> conv=>whnf
 ·have hk:=TH g t had i hg t1 hh hb (by omega);have hit:i<t.length:=by omega
  have hlo:=JX g t had ats bs stamp (Nat.le_of_lt hit);refine z_ hk ?_;conv=>whnf
  refine zU Nat (fun k=>([(2,EU had),(3,iA ats),(4,EU bs),(5,iv stamp),(6, .bp 0 0),(7, .bp 1 0),(12, .bp 2 0),(14, .bp 3 0),(15,bA (DN g t had ats bs i)),(16,iv (i:Nat)),(17,bA (YG g t had ats bs i k)),(18,iv (k:Nat))], [.box 23 (AT g), .box 141 [Bv t], .box 141 [.v (.slice none 0 0)], .box 141 [.ow 4 t.length], .row 194 3 (((Ey g t had ats bs stamp i).set i (Kp t ats bs stamp i k)).map Co)])) (fun k=>k<=ats.length) (fun k=>ats.length - k) 0 (Aj _)
   (zR (s:= [0,1,2,3,4]) ⟨tA,⟨rfl,rfl,rfl,rfl,congrArg (fun z=>some (AB.row 194 3 z)) (show (Ey g t had ats bs stamp i).map Co=((Ey g t had ats bs stamp i).set i (Kp t ats bs stamp i 0)).map Co by rw [show Kp t ats bs stamp i 0=t.getD i ez from rfl,Wq g t had ats bs stamp hit]),tv⟩,rfl,rfl,rfl,rfl,rfl⟩) ?_
  intro k hk2;conv=>whnf
  refine A8 (fun h7=>?_) (fun h7=>?_) <;> (repeat rw [Ac] at h7) <;> conv=>whnf
  ·have hk3:k<ats.length:=by omega
   have hp:E0 ats bs i (k+1)=if ats.getD k 0=(i:Int) then some (bs.getD k []) else E0 ats bs i k:=rfl
   repeat' (refine zY ?_;conv=>whnf)
   refine⟨⟨by omega,by omega⟩,?_⟩;conv=>whnf
   rw [Ac];by_cases hq:ats.getD k 0=(i:Int)
   ·rw [if_pos hq] at hp;rw [show (ats.getD k 0 == ((i:Nat):Int))=true by rw [hq];exact beq_self_eq_true _];refine⟨⟨by omega,by omega⟩,?_⟩;conv=>whnf
    rw [Ac];repeat' (refine zY ?_;conv=>whnf)
    have hbk:=h8 _ (A7 (d:= []) (show k<bs.length by omega));have he:=MX stamp (bs.getD k []) (by omega);apply zV (0) tys_ok mixed (.o [0,1,2,3,4,5,6,7] .fin) (by kernel_rfl);conv=>whnf
    refine z_ he ?_;conv=>whnf
    try (refine tI ?_;conv=>whnf)
    try (refine tS ?_;conv=>whnf)
    all_goals rw [Ac,SX (by omega)]
    all_goals conv=>whnf
    all_goals exact⟨k+1,by omega,by omega,WkN.r (s:= [0,1,2,3,4]) ⟨⟨rfl,rfl,rfl,rfl,rfl,rfl,rfl,rfl,rfl,rfl,congrArg bA (by unfold YG;rw [hp]),AL (by omega),tv⟩,⟨rfl,rfl,rfl,rfl,congrArg (fun z=>some (AB.row 194 3 z)) (show (((Ey g t had ats bs stamp i).set i (Kp t ats bs stamp i k)).map Co).set i (Co ⟨stamp,(CR (bs.getD k []):Nat),false⟩)=((Ey g t had ats bs stamp i).set i (Kp t ats bs stamp i (k+1))).map Co by rw [S7];unfold Kp;rw [hp]),tv⟩,rfl,rfl,rfl,rfl,rfl⟩⟩
   ·rw [if_neg hq] at hp;rw [show (ats.getD k 0 == ((i:Nat):Int))=false by rw [beq_eq_false_iff_ne];exact hq];conv=>whnf
    exact⟨k+1,by omega,by omega,WkN.r (s:= [0,1,2,3,4]) ⟨⟨rfl,rfl,rfl,rfl,rfl,rfl,rfl,rfl,rfl,rfl,congrArg bA (by unfold YG;rw [hp]),AL (by omega),tv⟩,⟨rfl,rfl,rfl,rfl,congrArg (fun z=>some (AB.row 194 3 z)) (show ((Ey g t had ats bs stamp i).set i (Kp t ats bs stamp i k)).map Co=((Ey g t had ats bs stamp i).set i (Kp t ats bs stamp i (k+1))).map Co by unfold Kp;rw [hp]),tv⟩,rfl,rfl,rfl,rfl,rfl⟩⟩
  ·have ek:k=ats.length:=by omega
   subst ek;have eB:YG g t had ats bs i ats.length=Gl g t had ats bs i:=rfl;rw [eB];by_cases h0:(Gl g t had ats bs i).length=0
   ·rw [show (((Gl g t had ats bs i).length:Int) == 0)=true by rw [h0];rfl];refine⟨⟨by omega,by omega⟩,?_⟩;refine⟨⟨rfl,by rw [Aa,AW,hlo],by omega⟩,?_⟩;rw [Ac,SX (by omega)];conv=>whnf
    have eP:DN g t had ats bs (i+1)=DN g t had ats bs i:=by rw [DN,if_pos h0]
    have eE : { Kp t ats bs stamp i ats.length with lost:=true }=J_ g t had ats bs stamp i:=by unfold J_;simp only;rw [if_pos h0];rfl
    exact⟨i+1,by omega,by omega,zR (s:= [0,1,2,3,4]) ⟨⟨rfl,rfl,rfl,rfl,rfl,rfl,rfl,rfl,congrArg bA eP.symm,AL (by omega),tv⟩,⟨rfl,rfl,rfl,rfl,congrArg (fun z=>some (AB.row 194 3 z)) (show (((Ey g t had ats bs stamp i).set i (Kp t ats bs stamp i ats.length)).map Co).set i (Co { Kp t ats bs stamp i ats.length with lost:=true })=(Ey g t had ats bs stamp (i+1)).map Co by rw [S7,eE,IL g t had ats bs stamp hit]),tv⟩,rfl,rfl,rfl,rfl,rfl⟩⟩
   ·rw [show (((Gl g t had ats bs i).length:Int) == 0)=false by rw [beq_eq_false_iff_ne];omega];have hn8:=Ql (g:=g) (t:=t) (had:=had) (ats:=ats) (bs:=bs) hb h8 (by omega) i;have hpl:=Fy (g:=g) (t:=t) (had:=had) (ats:=ats) (bs:=bs) hb h8 (by omega) i;have htwo:=SB (DN g t had ats bs i) (Gl g t had ats bs i) (by omega) (by omega);conv=>whnf
    refine z_ htwo ?_;conv=>whnf
    have eP:DN g t had ats bs (i+1)=Fj (DN g t had ats bs i) (Gl g t had ats bs i):=by rw [DN,if_neg h0]
    have eE:Kp t ats bs stamp i ats.length=J_ g t had ats bs stamp i:=by unfold J_;simp only;rw [if_neg h0];rfl
    rw [<-eP];exact⟨i+1,by omega,by omega,zR (s:= [0,1,2,3,4]) ⟨⟨rfl,rfl,rfl,rfl,rfl,rfl,rfl,rfl,rfl,AL (by omega),tv⟩,⟨rfl,rfl,rfl,rfl,congrArg (fun z=>some (AB.row 194 3 z)) (show ((Ey g t had ats bs stamp i).set i (Kp t ats bs stamp i ats.length)).map Co=(Ey g t had ats bs stamp (i+1)).map Co by rw [eE,IL g t had ats bs stamp hit]),tv⟩,rfl,rfl,rfl,rfl,rfl⟩⟩
 ·have ei:i=g.d.toNat:=by omega
  subst ei;have hp8:=Fy (g:=g) (t:=t) (had:=had) (ats:=ats) (bs:=bs) hb h8 (by omega) g.d.toNat;have he:=MX stamp (DN g t had ats bs g.d.toNat) (by omega);apply zV (0) tys_ok mixed (.o [0,1,2,3,4,5,6,7,8] .fin) (by kernel_rfl);conv=>whnf
  refine z_ he ?_;conv=>whnf
  try (refine tI ?_;conv=>whnf)
  try (refine tS ?_;conv=>whnf)
  have hdl:g.d.toNat<t.length:=by omega
  have hlo:=JX g t had ats bs stamp (Nat.le_of_lt hdl);have eW:(Ey g t had ats bs stamp g.d.toNat).set g.d.toNat ⟨stamp,(CR (DN g t had ats bs g.d.toNat):Nat),false⟩=Bx g t had ats bs stamp:=by
   rw [JW g t had ats bs stamp hdl,Bx,AD (by omega)]
  have hgl:((Ey g t had ats bs stamp g.d.toNat).map Co).getD g.d.toNat []=Co ((Ey g t had ats bs stamp g.d.toNat).getD g.d.toNat ez):=Bg (by omega);all_goals refine Ad ⟨rfl,by rw [Aa,hlo],hdl⟩ ?_
  all_goals rw [hgl]
  all_goals conv=>whnf
  have eR:((Ey g t had ats bs stamp g.d.toNat).map Co).set g.d.toNat (Co ⟨stamp,(CR (DN g t had ats bs g.d.toNat):Nat),false⟩)=(Bx g t had ats bs stamp).map Co:=by rw [<-Ch,eW]
  have eN:(Bx g t had ats bs stamp).length=t.length:=by simp [Bx];omega
  all_goals refine Ad (by rw [AW,Aa,hlo]) ?_
  all_goals conv=>whnf
  all_goals exact⟨.tp [.ag [Bv (Bx g t had ats bs stamp)],bA (DN g t had ats bs g.d.toNat)],BX ⟨Be ⟨Ba (f:=Co) (Bx g t had ats bs stamp) eN.symm eR,tv⟩,ri,tv⟩,rfl⟩
inductive TrJ where
 | fin
 | jump (k:Nat)
 | one (i:Nat) (r:TrJ)
 | non
 | alt (i:Nat) (a:TrJ) (r:TrJ)
def TrJ.o (l:List Nat) (t:TrJ):TrJ:=l.foldr .one t
abbrev Seg:=List Nat × Nat × TrJ
def segGet:List Seg->Nat->Option Seg
 | [],_=>none
 | x::_,0=>some x
 | _::r,k+1=>segGet r k
def TrJ.depth (sg:List Seg):TrJ->Nat
 | .fin=>0
 | .jump k=>match segGet sg k with | some s=>s.2.1 | none=>0
 | .one _ r=>r.depth sg+1
 | .non=>0
 | .alt _ a r=>max (a.depth sg+1) (r.depth sg)
def TrJ.alts:TrJ->List Nat
 | .alt i _ r=>i::r.alts
 | _=> []
def eqB:List Bool->List Bool->Bool
 | [], []=>true
 | a::l,b::m=>(a == b)&&eqB l m
 | _,_=>false
theorem eqB_eq:∀ {l m:List Bool},eqB l m=true->l=m
 | [], [],_=>rfl
 | a::l,b::m,h=>by
  simp only [eqB,Ae,beq_iff_eq] at h;rw [h.1,eqB_eq h.2]
 | [],_::_,h=>by simp [eqB] at h
 | _::_, [],h=>by simp [eqB] at h
def eqN:List Nat->List Nat->Bool
 | [], []=>true
 | a::l,b::m=>Nat.beq a b&&eqN l m
 | _,_=>false
theorem eqN_eq:∀ {l m:List Nat},eqN l m=true->l=m
 | [], [],_=>rfl
 | a::l,b::m,h=>by
  simp only [eqN,Ae] at h;rw [Am h.1,eqN_eq h.2]
 | [],_::_,h=>by simp [eqN] at h
 | _::_, [],h=>by simp [eqN] at h
def O2 (n:Nat) (s:List Nat):Array Bool:=s.foldl (fun l i=>l.setIfInBounds i true) (Array.replicate n false)
abbrev Sts:=List (Fr × List AB)
def sget:Sts->Nat->Fr × List AB
 | [],_=>([], [])
 | x::_,0=>x
 | _::r,k+1=>sget r k
section
variable {P:Program} {ops:Array Oper} {B:List Nat} {Q:Exit->Act->World->Prop} {mk:Nat}
def GK (ops:Array Oper) (B:List Nat) (mk:Nat) (sg:List Seg) (me:Nat):TrJ->Bool->Array Bool->Bool
 | .fin,f,l=>f&&(Region.ready .any ops l).isEmpty
 | .jump k,f,l=>f&&Nat.blt me k&&(match segGet sg k with | some s=>eqB l.toList (O2 ops.size s.1).toList | none=>false)
 | .one i r,f,l=>f&&(match ops[i]? with
   | none=>false
   | some o=>match isEff o.op with
    | true=>(match Region.ready .any ops l with | [j]=>Nat.beq i j | _=>false)&&(qM mk i o.op || !Kb ops B mk i)
    | false=>match mk.testBit i with
     | true=>(match Region.ready .any ops l with | [j]=>Nat.beq i j | _=>false)&&(qM mk i o.op || !Kb ops B mk i)
     | false=>Region.free .any ops l i&&(Region.ready .any ops l).contains i)&&GK ops B mk sg me r true (l.setIfInBounds i true)
 | .non,f,_=>!f
 | .alt i a r,f,l=>(!f || eqN (Region.ready .any ops l) (i::r.alts))&&L8 ops B mk i&&GK ops B mk sg me a true (l.setIfInBounds i true)&&GK ops B mk sg me r false l
def Qh (P:Program) (T:Tys) (n mk:Nat) (ops:Array Oper) (ds:List Nat) (st:Sts) (K:Fr->List AB->Prop):TrJ->Fr->List AB->Prop
 | .fin,fr,H=>K fr H
 | .jump k,fr,H=>canonK ds fr fun l=>l=(sget st k).1/\H=(sget st k).2
 | .one i r,fr,H=>Fq P T n mk ops i fr H fun fr H=>Qh P T n mk ops ds st K r fr H
 | .non,_,_=>True
 | .alt i a r,fr,H=>(Fq P T n mk ops i fr H fun fr H=>Qh P T n mk ops ds st K a fr H)/\Qh P T n mk ops ds st K r fr H
def OY (P:Program) (T:Tys) (n mk:Nat) (ops:Array Oper) (ds:List Nat) (st:Sts) (K:Fr->List AB->Prop):List Seg->Nat->Prop
 | [],_=>True
 | s::r,k=>Qh P T n mk ops ds st K s.2.2 (sget st k).1 (sget st k).2/\OY P T n mk ops ds st K r (k+1)
def K5 (ops:Array Oper) (B:List Nat) (mk:Nat) (sg:List Seg):List Seg->Nat->Bool
 | [],_=>true
 | s::r,k=>GK ops B mk sg k s.2.2 true (O2 ops.size s.1)&&Nat.ble (s.2.2.depth sg) s.2.1&&K5 ops B mk sg r (k+1)
variable {T:Tys} {w0:Fl} {M0:Ms} {n d0:Nat} {ce:Ctx}
theorem Mv {ds:List Nat} {st:Sts} {K:Fr->List AB->Prop}:∀ {sg:List Seg} {k0 k:Nat} {s:Seg},OY P T n mk ops ds st K sg k0->segGet sg k=some s->Qh P T n mk ops ds st K s.2.2 (sget st (k0+k)).1 (sget st (k0+k)).2
 | [],_,_,_,_,h=>by simp [segGet] at h
 | x::r,k0,0,s,h,hs=>by
  simp only [segGet,Option.some.injEq] at hs;subst hs;exact h.1
 | x::r,k0,k+1,s,h,hs=>by
  have:=Mv (k:=k) h.2 hs;rw [show k0+(k+1)=k0+1+k by omega];exact this
theorem Mc {sg0:List Seg}:∀ {sg:List Seg} {k0 k:Nat} {s:Seg},K5 ops B mk sg0 sg k0=true->segGet sg k=some s->GK ops B mk sg0 (k0+k) s.2.2 true (O2 ops.size s.1)=true/\s.2.2.depth sg0<=s.2.1
 | [],_,_,_,_,h=>by simp [segGet] at h
 | x::r,k0,0,s,h,hs=>by
  simp only [segGet,Option.some.injEq] at hs;subst hs;simp only [K5,Ae] at h;exact⟨h.1.1,Ag h.1.2⟩
 | x::r,k0,k+1,s,h,hs=>by
  simp only [K5,Ae] at h;have:=Mc (k:=k) h.2 hs;rw [show k0+(k+1)=k0+1+k by omega];exact this
theorem segGet_lt:∀ {sg:List Seg} {k:Nat} {s:Seg},segGet sg k=some s->k<sg.length
 | [],_,_,h=>by simp [segGet] at h
 | _::_,0,_,_=>by simp
 | _::r,k+1,s,h=>by
  have:=segGet_lt (sg:=r) (k:=k) h;simp;omega
def Zi (P:Program) (T:Tys) (ops:Array Oper) (B:List Nat) (mk n:Nat) (Q:Exit->Act->World->Prop) (w0:Fl) (M0:Ms) (ce:Ctx) (st:Sts) (sg:List Seg) (k:Nat):Prop:=
 ∀ (s:Seg) (m:Nat) (c:Ctx) (a:Act),segGet sg k=some s->s.2.1<=m->Cl ops (O2 ops.size s.1)->HS w0 M0 c (sget st k).2->FR w0 c n (sget st k).1 a->Ext ce c->HeldM P ops B mk Q m (O2 ops.size s.1) a c.w
theorem FH (hT:TOk P T) (hB:GN ops B=true) (hns:Region.noSelect ops=true) {ds:List Nat} {st:Sts} {sg:List Seg} {K:Fr->List AB->Prop} (hq:∀ a w,E6 w0 M0 ce n K a w->Q .normal a w) (hpan:∀ c a w,¬Q (.panic c) a w) {me:Nat} (hseg:∀ k,me<k->Zi P T ops B mk n Q w0 M0 ce st sg k) :
  ∀ (r:TrJ) (m:Nat) (l:Array Bool) (c:Ctx) (fr:Fr) (H:List AB) (a:Act),Cl ops l->HS w0 M0 c H->FR w0 c n fr a->Ext ce c->Qh P T n mk ops ds st K r fr H->
   (GK ops B mk sg me r true l=true->r.depth sg<=m->HeldM P ops B mk Q m l a c.w)/\
   (GK ops B mk sg me r false l=true->r.depth sg<=m+1->∀ j∈r.alts,j∈Region.ready .any ops l->wpOp P ops Q j (fun a' w'=>(Kb ops B mk j=true->Old c.w w')/\HeldM P ops B mk Q m (l.setIfInBounds j true) a' w') a c.w)
 | .fin,m,l,c,fr,H,a,hcl,hs,hf,he,h=>by
  refine⟨fun hd hm=>?_,fun _ _ j hj=>by simp [TrJ.alts] at hj⟩;simp only [GK,BF,List.isEmpty_iff] at hd;cases m with
  | zero=>exact⟨hd,hq _ _ ⟨c,fr,H,rfl,h,hs,hf,he⟩⟩
  | succ m=>exact⟨fun _=>hq _ _ ⟨c,fr,H,rfl,h,hs,hf,he⟩,by rw [hd];simp⟩
 | .jump k,m,l,c,fr,H,a,hcl,hs,hf,he,h=>by
  refine⟨fun hd hm=>?_,fun _ _ j hj=>by simp [TrJ.alts] at hj⟩;simp only [GK,BF,Ae] at hd;simp only [TrJ.depth] at hm;obtain⟨hlt,hd⟩:=hd;cases hg:segGet sg k with
  | none=>rw [hg] at hd;simp at hd
  | some s=>
   rw [hg] at hd hm;simp only at hd hm;have hl:l=O2 ops.size s.1:=Array.ext' (eqB_eq hd);obtain⟨e1,e2⟩:=canonK_iff h;subst hl;refine hseg k (At (Nat.lt_succ_self me) (Ag hlt)) s m c a hg hm hcl (e2 ▸ hs) (e1 ▸ hf.canon _) he
 | .non,m,l,c,fr,H,a,hcl,hs,hf,he,h=>by
  refine⟨fun hd hm=>by simp [GK] at hd,fun _ _ j hj=>by simp [TrJ.alts] at hj⟩
 | .alt i x r,m,l,c,fr,H,a,hcl,hs,hf,he,h=>by
  obtain⟨h1,h2⟩:=h;have key:∀ m,TrJ.depth sg (.alt i x r)<=m+1->L8 ops B mk i=true->GK ops B mk sg me x true (l.setIfInBounds i true)=true->i∈Region.ready .any ops l->wpOp P ops Q i (fun a' w'=>(Kb ops B mk i=true->Old c.w w')/\HeldM P ops B mk Q m (l.setIfInBounds i true) a' w') a c.w:=by
   intro m hm hk hx hr;simp only [TrJ.depth] at hm;unfold L8 at hk;split at hk
   ·rename_i o ho;refine FO hT ho hk hs hf he (fun c' fr' H' a' q1 q2 q3 q4=>(FH hT hB hns hq hpan hseg x m _ c' fr' H' a' (hcl.set hr) q1 q2 q3 q4).1 hx (by omega)) h1
   ·cases hk
  refine⟨fun hd hm=>?_,fun hd hm j hj hr=>?_⟩
  ·simp only [GK,Bool.not_true,Bool.false_or,Ae] at hd;obtain⟨⟨⟨hr,hi⟩,hx⟩,hy⟩:=hd;have hr':=eqN_eq hr;cases m with
   | zero=>simp only [TrJ.depth] at hm;omega
   | succ m=>
    refine⟨fun h0=>(by rw [hr'] at h0;cases h0),fun j hj=>?_⟩;have hj0:=hj;rw [hr',AU] at hj;rcases hj with rfl | hj
    ·exact key m hm hi hx hj0
    ·refine(FH hT hB hns hq hpan hseg r m l c fr H a hcl hs hf he h2).2 hy ?_ j hj hj0;simp only [TrJ.depth] at hm;omega
  ·simp only [GK,Bool.not_false,Bool.true_or,BF,Ae] at hd;obtain⟨⟨hi,hx⟩,hy⟩:=hd;simp only [TrJ.alts,AU] at hj;rcases hj with rfl | hj
   ·exact key m hm hi hx hr
   ·refine(FH hT hB hns hq hpan hseg r m l c fr H a hcl hs hf he h2).2 hy ?_ j hj hr;simp only [TrJ.depth] at hm;omega
 | .one i r,m,l,c,fr,H,a,hcl,hs,hf,he,h=>by
  refine⟨fun hd hm=>?_,fun _ _ j hj=>by simp [TrJ.alts] at hj⟩;cases m with
  | zero=>simp [TrJ.depth] at hm
  | succ m=>
   simp only [TrJ.depth,Nat.add_le_add_iff_right] at hm;simp only [GK,BF,Ae] at hd;obtain⟨hd1,hd2⟩:=hd;simp only [Qh] at h;cases ho:ops[i]? with
   | none=>rw [ho] at hd1;simp at hd1
   | some o=>
    rw [ho] at hd1;simp only at hd1;have only:(match Region.ready .any ops l with | [j]=>Nat.beq i j | _=>false)=true->(qM mk i o.op || !Kb ops B mk i)=true->HeldM P ops B mk Q (m+1) l a c.w:=by
     intro hr hmq;have hr':Region.ready .any ops l=[i]:=by
      split at hr
      ·rename_i j hj;rw [hj,Am hr]
      ·cases hr
     have hri:i∈Region.ready .any ops l:=by rw [hr'];simp
     refine⟨fun h0=>(by rw [hr'] at h0;cases h0),fun j hj=>?_⟩;rw [hr',Az] at hj;subst hj;exact FO hT ho hmq hs hf he (fun c' fr' H' a' q1 q2 q3 q4=>(FH hT hB hns hq hpan hseg r m _ c' fr' H' a' (hcl.set hri) q1 q2 q3 q4).1 hd2 hm) h
    cases hE:isEff o.op with
    | true=>
     rw [hE] at hd1;simp only [Ae] at hd1;exact only hd1.1 hd1.2
    | false=>
     rw [hE] at hd1;dsimp only at hd1;cases hM:mk.testBit i with
     | true=>
      rw [hM] at hd1;simp only [Ae] at hd1;exact only hd1.1 hd1.2
     | false=>
     rw [hM] at hd1;simp only [Ae] at hd1;obtain⟨hfree,hr⟩:=hd1;have hri:i∈Region.ready .any ops l:=by simpa using hr
     simp only [Fq,EL] at h;rw [show ops.toList[i]? = some o by simpa using ho] at h;simp only at h;have step:∀ v fr2,YieldsIf P ops (fun w'=>pureOp o.op=true\/Old c.w w') o v a->FR w0 c n fr2 (a.put o.dst v)->Qh P T n mk ops ds st K r fr2 H->HeldM P ops B mk Q (m+1) l a c.w:=by
      intro v fr2 hy hf2 h2;exact HeldM.first1 hB ho hM hE (Region.noSelect_spec hns) (fun c a w h=>(hpan _ _ _ h).elim) m l a c.w hcl (Region.free_spec ho hfree) hri hy
       ((FH hT hB hns hq hpan hseg r m _ c fr2 H _ (hcl.set hri) hs hf2 he h2).1 hd2 hm)
     rcases DI hf h with ⟨hw,fr',hf',h⟩ | ⟨hw,fr',hf',h⟩
     ·unfold In at h;rw [hE] at h;obtain⟨rr,v,h1,h2,h3⟩:=(Ho hT hs hf' h).y;obtain⟨fr2,h4,h5⟩:=CA hf' h3 h1;exact step v fr2 (.inl ⟨hw,h2⟩) h5 h4
     ·obtain⟨fr2,h4,h5⟩:=CA (v:=undef) hf' (by simp [Rd]) h;exact step undef fr2 (.inr ⟨hw,rfl⟩) h5 h4
theorem Mb (hT:TOk P T) (hB:GN ops B=true) (hns:Region.noSelect ops=true) {ds:List Nat} {st:Sts} {sg:List Seg} {K:Fr->List AB->Prop} (hq:∀ a w,E6 w0 M0 ce n K a w->Q .normal a w) (hpan:∀ c a w,¬Q (.panic c) a w) (hok:K5 ops B mk sg sg 0=true) (h:OY P T n mk ops ds st K sg 0):∀ (z k:Nat),sg.length<=z+k->Zi P T ops B mk n Q w0 M0 ce st sg k
 | 0,k,hz,s,m,c,a,hg,_,_,_,_,_=>by
  have:=segGet_lt hg;omega
 | z+1,k,hz,s,m,c,a,hg,hm,hcl,hs,hf,he=>by
  obtain⟨h1,h2⟩:=Mc hok hg;have h3:=Mv h hg;rw [A4] at h1 h3;exact(FH hT hB hns hq hpan (fun k' hk'=>Mb hT hB hns hq hpan hok h z k' (by omega)) s.2.2 m _ c _ _ a hcl hs hf he h3).1 h1 (by omega)
def Zg (ops:Array Oper) (mk:Nat) (sg:List Seg):Bool:=GN ops (KX ops)&&Region.noSelect ops&&(match sg with | ([],d,_)::_=>Nat.ble d ops.size | _=>false)&&K5 ops (KX ops) mk sg sg 0
theorem aDraw.dag (mk:Nat) (hT:TOk P T) (hm:P.follows .mixedOrders=true) {id:Nat} {K:Fr->List AB->Prop} {fr:Fr} {H:List AB} (sg:List Seg) (ds:List Nat) (st:Sts) {F:Fr} {H2:List AB} (hok:Zg ops mk sg=true)
  (h:OY P T n mk ops (ds ++ slots fr) ((fr,H)::st) (fun fr' H'=>canonK (ds ++ slots fr) fr' fun l=>l=F/\H'=H2) sg 0) (hk:K F H2):aDraw P T n d0 id ops K fr H:=by
 simp only [Zg,Ae] at hok;obtain⟨⟨⟨hB,hns⟩,hlen⟩,hok⟩:=hok;refine⟨fun w0 M0 ce c a hs hf he hd Q hQ=>?_⟩;refine wp_mono (Q:=fun e a w=>e = .normal/\E6 w0 M0 ce n (fun fr' H'=>canonK (ds ++ slots fr) fr' fun l=>l=F/\H'=H2) a w) ?_ ?_
 ·refine wp_region_any hm (HeldM.any (B:=KX ops) (mk:=mk) _ _ _ _ ?_);have hb:=(Below.refl c.w.heap.size c.w).drew;obtain⟨h1,h2⟩:=hs.grow hb;have hcl:Cl ops (Array.replicate ops.size false):=by
   intro j o hj hlj;rcases B_ j ops.size with h' | h'
   ·simp [h'] at hlj
   ·simp [BU h'] at hj
  cases sg with
  | nil=>simp at hlen
  | cons s sg=>
   obtain⟨s1,d,tr⟩:=s;cases s1 with
   | cons _ _=>simp at hlen
   | nil=>
    exact Mb (w0:=w0) (M0:=M0) (ce:=ce) (st:=(fr,H)::st) hT hB hns (fun a w hl=>⟨rfl,hl⟩) (fun c a w h=>by cases h.1) hok h _ 0 (Ah _) ([],d,tr) _ { c with w:=c.w.drew } a rfl (Ag hlen) hcl h1 (hf.ext h2) (he.trans h2)
 ·rintro e a w ⟨rfl,c',fr',H',rfl,h1,h2,h3,h4⟩;obtain⟨e1,rfl⟩:=canonK_iff h1;exact hQ c' F H' a hk h2 (e1 ▸ h3.canon _) h4
end
theorem W7 {d:Dk} (hd:DkOk d) (hl:d.left<0) (k:Nat):Lv d k:=⟨hd.r, .inl hl⟩
theorem P5 (k:Nat) (d:Dk) (l:List Int):B8 (d.tick k) l=B8 d l:=rfl
theorem finL_two:∀ (l:List Wr) (cs:List Cel) (a:Nat),((DP cs l).getD a cz).state=2↔(cs.getD a cz).state=2:=fun l cs a=>by
 by_cases ha:a<cs.length
 ·by_cases h:(cs.getD a cz).state=2
  ·rw [finL_stuck l cs a ha h]
  ·rcases finL_any l cs a ha with e | ⟨_,e,_⟩
   ·rw [e]
   ·rw [e];exact⟨fun q=>absurd q (by decide),fun q=>absurd q h⟩
 ·rw [Ab,Ab,AJ (by rw [finL_len];omega),AJ (by omega)]
theorem WQ (l:List Wr) (cs:List Cel):free (DP cs l)=free cs:=by
 funext w;unfold free;rw [DF,decide_eq_true_eq,decide_eq_true_eq];exact not_congr (finL_two l cs _)
def Qm (g:Geo) (w:List Wr):Nat:=g.an.toNat+2*g.sl.toNat+(if w=[] then 0 else w.length+1)+(g.an.toNat+1)
theorem Qn {g:Geo} {d:Dk} {a:An} {j:Nat} {L:List Tx} {w:List Wr} (hg:Bq g=true) (hd:DkOk d) (hn:(d.cells.length:Int)=Aw g) (hc:d.cache=[]) (hl:d.left<0) (hp:G_ g (B8 d (DB g))=some (a,j)) (hs:E9 g a (B8 d (BZ g 0)) (B8 d (BZ g 1))=(L,w,0)) (h1:a.gen≠4294967295) (h2:a.epoch≠4294967295) :
  Dr g d=(⟨DP (DP d.cells w) (AE g (Eb a L.length)), [],(d.tick (Qm g w)).reqs,d.left⟩,if ((AE g (Eb a L.length)).filter (free d.cells)).length=0 then 14 else 0,if ((AE g (Eb a L.length)).filter (free d.cells)).length=0 then st0 else AN (Eb a L.length) L):=by
 obtain⟨g1,g2,g3,g4,g5⟩:=Aq.1 hg;have hao:=JV hg _ hp;have hin:=Me (x:=B8 d (BZ g 0)) (y:=B8 d (BZ g 1)) (n:=d.cells.length) hg hao (by rw [Eu,FJ];omega) (by rw [Eu,FJ];omega) hn;rw [hs] at hin;obtain⟨hw1,hw2⟩:=hin rfl;simp only at hw1 hw2;have hlv:∀ k,d.live k:=fun k=> .inl hl
 have htl:∀ k,(d.tick k).left=d.left:=fun k=>if_pos hl
 have hr:=hd.r;unfold Dr;rw [if_pos (hlv _),hp];simp only;unfold Ju;rw [Nj _ (W7 hd hl _),if_pos (show (d.tick g.an.toNat).live _ from .inl (by rw [htl];exact hl)),P5,P5,hs];rw [Nj _ (show Lv (d.tick g.an.toNat) (2*g.sl.toNat) from JF (W7 hd hl _)),GX _ _ hr.2 (.inl hl)];unfold M5;simp only [ne_eq,not_true,if_false];have hm:(d.tick (g.an.toNat+2*g.sl.toNat)).mend w=(⟨DP d.cells w, [],(d.tick (g.an.toNat+2*g.sl.toNat+(if w=[] then 0 else w.length+1))).reqs,d.left⟩,false):=by
  unfold Dk.mend;by_cases hw:w=[]
  ·subst hw;rw [if_pos rfl,if_pos rfl,Da];simp only [Prod.mk.injEq,and_true];show (d.tick _:Dk)=_;unfold Dk.tick;rw [hc,if_pos hl];rfl
  ·rw [if_neg hw,if_neg hw,JU (JF (W7 hd hl _)) hc (by omega),GX _ _ hr.2 (.inl hl)];simp only [htl];rfl
 rw [hm];simp only [Cr,if_false];unfold M4;rw [if_neg (by rintro(h | h);exact h1 h;exact h2 h)];obtain⟨K,hK⟩:∃ K,K=g.an.toNat+2*g.sl.toNat+(if w=[] then 0 else w.length+1):=⟨_,rfl⟩;rw [<-hK];have hrk:0<=(d.tick K).reqs/\(d.tick K).reqs<=1048576:=by show 0<=min _ _/\min _ _<=_;omega
 have hlen:=Dc g (Eb a L.length);rw [JU (d:=⟨DP d.cells w, [],(d.tick K).reqs,d.left⟩) ⟨hrk, .inl hl⟩ rfl (by omega)];simp only [Cr,if_false,WQ,hlen];have e1:((⟨DP d.cells w, [],(d.tick K).reqs,d.left⟩:Dk).tick (g.an.toNat+1)).left=d.left:=if_pos hl;have e2:((⟨DP d.cells w, [],(d.tick K).reqs,d.left⟩:Dk).tick (g.an.toNat+1)).reqs=(d.tick (Qm g w)).reqs:=by
  show min ((d.tick K).reqs+((g.an.toNat+1:Nat):Int)) _=min _ _;show min (min (d.reqs+(K:Nat)) 1048576+((g.an.toNat+1:Nat):Int)) 1048576=min (d.reqs+(Qm g w:Nat)) 1048576;unfold Qm;rw [<-hK];omega
 rw [e1,e2];split <;> rfl
theorem Mu (g:Geo) (l:List Gt):∀ k,(F9 g l k=none->∀ i,i<k->Fc g (l.getD i ⟨0, []⟩) (i:Nat)=none)/\∀ a j,F9 g l k=some (a,j)->j<k/\Fc g (l.getD j ⟨0, []⟩) (j:Nat)=some a/\∀ i b,i<k->Fc g (l.getD i ⟨0, []⟩) (i:Nat)=some b->b.gen<=a.gen
 | 0=>⟨fun _ i hi=>by omega,fun a j h=>by cases h⟩
 | k+1=>by
  obtain⟨ih1,ih2⟩:=Mu g l k;rw [Jp,Qb];cases hS:Fc g (l.getD k ⟨0, []⟩) (k:Nat) with
  | none=>
   refine⟨fun h i hi=>?_,fun a j h=>?_⟩
   ·by_cases e:i=k
    ·rw [e];exact hS
    ·exact ih1 h i (by omega)
   ·obtain⟨q1,q2,q3⟩:=ih2 a j h;refine⟨by omega,q2,fun i b hi hb=>?_⟩;by_cases e:i=k
    ·rw [e,hS] at hb;cases hb
    ·exact q3 i b (by omega) hb
  | some c=>
   cases hP:F9 g l k with
   | none=>
    refine⟨fun h=>(by cases h),fun a j h=>?_⟩;cases h;refine⟨by omega,hS,fun i b hi hb=>?_⟩;by_cases e:i=k
    ·rw [e,hS] at hb;cases hb;exact CG _
    ·rw [ih1 hP i (by omega)] at hb;cases hb
   | some q=>
    obtain⟨a0,j0⟩:=q;obtain⟨q1,q2,q3⟩:=ih2 a0 j0 hP;simp only;by_cases hlt:a0.gen<c.gen
    ·rw [if_pos hlt];refine⟨fun h=>(by cases h),fun a j h=>?_⟩;cases h;refine⟨by omega,hS,fun i b hi hb=>?_⟩;by_cases e:i=k
     ·rw [e,hS] at hb;cases hb;exact CG _
     ·have:=q3 i b (by omega) hb;omega
    ·rw [if_neg hlt];refine⟨fun h=>(by cases h),fun a j h=>?_⟩;cases h;refine⟨by omega,q2,fun i b hi hb=>?_⟩;by_cases e:i=k
     ·rw [e,hS] at hb;cases hb;omega
     ·exact q3 i b (by omega) hb
theorem Ss {g:Geo} {d:Dk} {i:Nat} (hi:i<g.an.toNat):(B8 d (DB g)).getD i ⟨0, []⟩=Uy d (i:Nat):=by
 rw [B8,Bg (d:=0) (by rw [FQ];exact hi),O5 hi]
theorem Rx {g:Geo} {a:An} {i:Nat} (hg:Bq g=true) (ha:Bj g a=true) (hi:(i:Int)<=65535):Fc g ⟨0,CV a i⟩ i=some a:=by
 obtain⟨e1,e2,e3,e4⟩:=K6 (KZ hg ha (i:=(i:Nat)) ⟨by omega,hi⟩);unfold Fc;rw [if_pos ⟨rfl,e1,e2⟩];show (match F8 g (C9 (CV a i)) with | some a_1=>if a_1.gen=Cv (CV a i) then some a_1 else none | none=>none)=_;rw [show C9 (CV a i)=L1 a from e4,TO hg ha,show Cv (CV a i)=a.gen from e3];simp
section
variable {g:Geo} {a:An} {fill:UInt8} {sizes:List Int}
end
theorem I0 {g:Geo} {c s:Int} (hc:c=0\/c=1) (hs:0<=s/\s<g.sl):g.an<=By g c s/\By g c s<g.an+2*g.sl:=by
 unfold By;rcases hc with rfl | rfl <;> omega
section
variable {g:Geo} {s:ByteArray} {a:An} {fill:UInt8} {sizes:List Int}
theorem Kw {b:An} (hg:Bq g=true) (hb:Bj g b=true) (i:Int):(CV b i).length<=200:=by
 have:=K_ hg hb;rw [CV,Et];omega
end
theorem LB {cs:List Cel} {n:Nat} (h:cs.length=n) {k:Nat} (hk:k<n):(cs.map BG).getD k []=BG (cs.getD k cz):=Bg (by omega)
theorem XS {g:Geo} (hg:Bq g=true):GG g (Fm g)=true:=by
 obtain⟨g1,g2,g3,g4,g5⟩:=Aq.1 hg;have hz:=IG zero8;simp only [GG,hg,Fm,Bk,Ae,decide_eq_true_eq,BF];refine⟨⟨by omega,?_⟩,?_⟩
 ·rw [Av];intro e he;rw [Db he];simp [DT,ent0,Ib,CK];exact decide_eq_true (by omega)
 ·have:HE (List.replicate (g.d+1).toNat ent0) g.d.toNat=false:=by
   unfold HE;rw [Dd (by omega)];rfl
  rw [this];rfl
theorem V4 {g:Geo} (hg:Bq g=true) {a:Int} (ha:0<=a/\a<=65535):Vj a 0 (CY (Fm g)):=by
 obtain⟨g1,g2,g3,g4,g5⟩:=Aq.1 hg;refine⟨ha.1,ha.2,CG _,by decide,?_⟩;rw [Fk,Fm,Bk];omega
section
variable {g:Geo} {s:ByteArray} {a b:An} {fill:UInt8} {sizes:List Int} {d:Dk}
theorem RY {F:Int->List UInt8} {n:Int} (h:Holds d n F) (l:List Int) (hl:∀ x∈l,0<=x/\x<n):B8 d l=l.map fun x=>⟨0,F x⟩:=by
 unfold B8;refine C0 fun x hx=>?_
 exact h.got (hl x hx).1 (hl x hx).2
theorem Ue (hg:Bq g=true) {c:Int} (hc:c=0\/c=1):∀ x∈BZ g c,0<=x/\x<Aw g:=fun x hx=>by
 obtain⟨g1,g2,g3,g4,g5⟩:=Aq.1 hg;have hcg:=EH hg;simp only [BZ,AP,AO] at hx;obtain⟨i,hi,rfl⟩:=hx;have:=I0 (g:=g) hc (s:=(i:Nat)) (by omega);omega
theorem Us {F:Int->List UInt8} (hg:Bq g=true) {c:An} (h:Holds d (Aw g) F) {r:Int} {l:Int}:Holds ⟨DP d.cells (AE g c), [],r,l⟩ (Aw g) (fun x=>if x<g.an then CV c x else F x):=by
 obtain⟨g1,g2,g3,g4,g5⟩:=Aq.1 hg;have hcg:=EH hg;refine⟨by rw [<-h.len];show ((DP d.cells _).length:Int)=_;rw [finL_len],rfl,fun x h0 h1=>?_⟩;obtain⟨e1,e2⟩:=h.cell x h0 h1;have hlt:x.toNat<d.cells.length:=by have:=h.len;omega
 show ((DP d.cells _).getD x.toNat cz).state=0/\((DP d.cells _).getD x.toNat cz).bytes=_;have hmem:∀ w∈AE g c,∃ i:Nat,i<g.an.toNat/\w=⟨(i:Nat),CV c (i:Nat)⟩:=fun w hw=>by
  simp only [AE,AP,AO] at hw;obtain⟨i,hi,rfl⟩:=hw;exact⟨i,hi,rfl⟩
 by_cases hx:x<g.an
 ·rw [if_pos hx];refine MW _ _ _ hlt (by rw [e1];decide) (fun w hw hwa=>?_) (.inl ⟨⟨x,CV c x⟩,?_,rfl⟩)
  ·obtain⟨i,hi,rfl⟩:=hmem w hw;have:((i:Nat):Int).toNat=x.toNat:=hwa;show CV c (i:Nat)=_;congr 1;omega
  ·simp only [AE,AP,AO];exact⟨x.toNat,by omega,by rw [CN h0]⟩
 ·rw [if_neg hx,finL_miss _ _ _ hlt (fun w hw e=>?_)]
  ·exact⟨e1,e2⟩
  ·obtain⟨i,hi,rfl⟩:=hmem w hw;have:((i:Nat):Int).toNat=x.toNat:=e;omega
theorem WR {n:Int} {F:Int->List UInt8} (h:Holds d n F) (l:List Wr) (hl:∀ w∈l,0<=w.addr/\w.addr<n):l.filter (free d.cells)=l:=by
 rw [List.filter_eq_self];intro w hw;unfold free;rw [(h.cell w.addr (hl w hw).1 (hl w hw).2).1];rfl
end



theorem PS (g:Geo) (s:ByteArray) (hg:Bq g=true) (hs:Fi s.data.toList=0):ACalls Tryz.prog false 57 [.ag (AT g), .v (.string s)] [] fun r H=>r = .ag [.ow 0 (Aw g).toNat,nilV,ze 0,ze (-1)]/\H=[.row 84 3 ((Ih g s).cells.map BG)]:=by
 obtain⟨g1,g2,g3,g4,g5⟩:=Aq.1 hg;have hcg:=EH hg;have hp:=GU hg;have hN:1<=(Aw g).toNat/\(Aw g).toNat<=300:=by
  have:g.z*CD g<=4*7:=Int.mul_le_mul (by omega) (by omega) (by omega) (by omega);unfold Aw at hcg |-
  omega
 have hcN:Aw g=((Aw g).toNat:Int):=by omega
 have hao:=Oj hg hs;have hA:=Xb g s hg;have hC:=RJ g hg;rw [hcN] at hC;have hD:=VU (Aw g).toNat hN;refine zT tys_ok Tryz.func57 rfl rfl (Ag rfl) ?_;conv=>whnf
 refine z_ hC ?_;conv=>whnf
 refine zW hD rfl ?_;rintro _ _ ⟨rfl,rfl⟩;conv=>whnf
 refine z_ hA ?_;conv=>whnf
 refine zU Nat (fun k=>([(2, .bp 0 0),(4, .bp 1 0),(5, .bp 2 0),(6, .bp 3 0),(7,ze k)], [.box 23 (AT g), .box 38 [nilV,nilV,ze 0,ze 0], .box 38 [.ow 4 (Aw g).toNat,nilV,ze 0,ze (-1)], .box 28 (Ew (Cc g s)), .row 84 3 ((EN (J2 g) ((AE g (Cc g s)).take k)).map BG)])) (fun k=>k<=g.an.toNat) (fun k=>g.an.toNat - k) 0 (Aj _)
  ?_ ?_
 ·refine zI (zK (zB (k:=2) rfl (es':=(J2 g).map BG) (by simp [J2]) fun i=>?_)) (s:= [0,1,3,4,2]) tA;rw [J2,List.map_replicate];by_cases hi:i<(Aw g).toNat
  ·rw [MF hi,MF hi];exact⟨fun _ _ h=>h,Bt 1 _,Bt 1 _,tv⟩
  ·rw [Ab,Ab,AJ (by simpa using hi),AJ (by simpa using hi)];exact SubL.refl _
 ·intro k hk;conv=>whnf
  refine A8 (fun h6=>?_) (fun h6=>?_) <;> (repeat rw [Ac] at h6) <;> conv=>whnf
  ·have hk':k<(AE g (Cc g s)).length:=by rw [Dc];omega
   have hsx:=IU (J2 g) hk';rw [IA (by omega)] at hsx;have hlx:(EN (J2 g) ((AE g (Cc g s)).take k)).length=(Aw g).toNat:=by rw [F3,ML]
   generalize EN (J2 g) ((AE g (Cc g s)).take k)=cs at hsx hlx |-
   have hnc:=Mr g (Cc g s) k hg hao (by omega);have hE:(cs.map BG).getD (k:Int).toNat []=BG (cs.getD (k:Int).toNat cz):=LB hlx (by omega);repeat' (refine zY ?_;conv=>whnf)
   apply zV (0) tys_ok mixed (.o [0,1,2,3,4,5,6,7,8] .fin) (by kernel_rfl);conv=>whnf
   refine z_ hnc ?_;conv=>whnf
   try (refine tI ?_;conv=>whnf)
   try (refine tS ?_;conv=>whnf)
   (first | rw [hE] | skip)
   conv=>whnf
   all_goals exact⟨k+1,by omega,by omega,zR (s:= [0,1,2,3,4]) ⟨⟨rfl,rfl,rfl,rfl,AL (by omega),tv⟩,⟨rfl,rfl,rfl,rfl,congrArg (fun l=>some (AB.row _ _ l)) (by rw [hsx,Kk];rfl),tv⟩,rfl,rfl,rfl,rfl,rfl⟩⟩
  ·have ek:k=(AE g (Cc g s)).length:=by rw [Dc];omega
   rw [ek,As];repeat' (refine zY ?_;conv=>whnf)
   refine zU Nat (fun c=>([(2, .bp 0 0),(4, .bp 1 0),(5, .bp 2 0),(6, .bp 3 0),(8,ze c)], [.box 23 (AT g), .box 38 [nilV,nilV,ze 0,ze 0], .box 38 [.ow 4 (Aw g).toNat,nilV,ze 0,ze (-1)], .box 28 (Ew (Cc g s)), .row 84 3 ((Pi g s c).map BG)])) (fun c=>c<=2) (fun c=>2 - c) 0 (Aj _)
    (zR (s:= [0,1,2,3,4]) tA) ?_
   intro c hc;conv=>whnf
   refine A8 (fun h7=>?_) (fun h7=>?_) <;> (repeat rw [Ac] at h7) <;> conv=>whnf
   ·have hc01:(c:Int)=0\/(c:Int)=1:=by omega
    repeat' (refine zY ?_;conv=>whnf)
    refine zU Nat (fun i=>([(2, .bp 0 0),(4, .bp 1 0),(5, .bp 2 0),(6, .bp 3 0),(8,ze c),(9,ze i)], [.box 23 (AT g), .box 38 [nilV,nilV,ze 0,ze 0], .box 38 [.ow 4 (Aw g).toNat,nilV,ze 0,ze (-1)], .box 28 (Ew (Cc g s)), .row 84 3 ((EN (Pi g s c) ((HG g c).take i)).map BG)])) (fun i=>i<=g.sl.toNat) (fun i=>g.sl.toNat - i) 0 (Aj _)
     (zR (s:= [0,1,2,3,4]) tA) ?_
    intro i hi;conv=>whnf
    refine A8 (fun h8=>?_) (fun h8=>?_) <;> (repeat rw [Ac] at h8) <;> conv=>whnf
    ·have hlw:(HG g c).length=g.sl.toNat:=by simp [HG]
     have hi':i<(HG g c).length:=by omega
     have hsx:=IU (Pi g s c) hi';rw [show (HG g c).getD i ⟨0, []⟩=⟨By g c (i:Nat),Ca g zeroC c (i:Nat)⟩ from KD (by omega)] at hsx;have hlx:(EN (Pi g s c) ((HG g c).take i)).length=(Aw g).toNat:=by rw [F3,MK]
     generalize EN (Pi g s c) ((HG g c).take i)=cs at hsx hlx |-
     have hokl:Iu g c i=true:=by simp only [Iu,Ae,AI];omega
     have hla:=Du g c i hg hokl;have hin:=F0 (n:=(Aw g).toNat) hg hcN.symm hc01 (s:=i) (by omega);have hrc:=Gq g zeroC c i (IP hg) hokl;have hE:(cs.map BG).getD (By g c i).toNat []=BG (cs.getD (By g c i).toNat cz):=LB hlx (by omega);repeat' (refine zY ?_;conv=>whnf)
     apply zV (0) tys_ok mixed (.o [0,1,2,3,4,6,7,8,9,5,10,11,12,13] .fin) (by kernel_rfl);conv=>whnf
     refine z_ hla ?_;conv=>whnf
     (refine zX [.ag (AT g), .ag (G4 zeroC),ze c,ze i] (by repeat' (first | exact trivial | exact fun _ _ h=>h | exact Bt _ _ | refine Ad ?_ ?_ | refine Be ?_)) ?_;refine z_ hrc ?_)
     conv=>whnf
     try (refine tI ?_;conv=>whnf)
     try (refine tS ?_;conv=>whnf)
     (first | rw [hE] | skip)
     conv=>whnf
     all_goals exact⟨i+1,by omega,by omega,zR (s:= [0,1,2,3,4]) ⟨⟨rfl,rfl,rfl,rfl,rfl,AL (by omega),tv⟩,⟨rfl,rfl,rfl,rfl,congrArg (fun l=>some (AB.row _ _ l)) (by rw [hsx,Kk];rfl),tv⟩,rfl,rfl,rfl,rfl,rfl⟩⟩
    ·have ei:i=(HG g c).length:=by simp [HG];omega
     repeat' (refine zY ?_;conv=>whnf)
     exact⟨c+1,by omega,by omega,zR (s:= [0,1,2,3,4]) ⟨⟨rfl,rfl,rfl,rfl,AL (by omega),tv⟩,⟨rfl,rfl,rfl,rfl,by rw [ei,As];rfl,tv⟩,rfl,rfl,rfl,rfl,rfl⟩⟩
   ·have ec:c=2:=by omega
    subst ec;have hT:=XT g hg;have hz8:=IG zero8;have hB:=S3 (Fm g) (by rw [Fm,Bk];omega) (fun e he=>by rw [Db he];simp only [ent0];omega);repeat' (refine zY ?_;conv=>whnf)
    refine z_ hT ?_;conv=>whnf
    refine z_ hB ?_;conv=>whnf
    repeat' (refine zY ?_;conv=>whnf)
    refine zU Nat (fun z=>([(2, .bp 0 0),(4, .bp 1 0),(5, .bp 2 0),(10,bA (CY (Fm g))),(11,ze z)], [.box 23 (AT g), .box 38 [nilV,nilV,ze 0,ze 0], .box 38 [.ow 4 (Aw g).toNat,nilV,ze 0,ze (-1)], .box 28 (Ew (Cc g s)), .row 84 3 ((HN g s z).map BG)])) (fun z=>z<=g.z.toNat) (fun z=>g.z.toNat - z) 0 (Aj _)
     (zR (s:= [0,1,2,3,4]) tA) ?_
    intro z hz;conv=>whnf
    refine A8 (fun h9=>?_) (fun h9=>?_) <;> (repeat rw [Ac] at h9) <;> conv=>whnf
    ·have htb:∀ k:Nat,k<2->0<=AG g z k/\AG g z k<((Aw g).toNat:Int):=fun k hk=>by unfold AG;omega
     have hmul:(z:Int)*CD g<=(g.z - 1)*CD g:=BH (by omega) (by omega);have hz0:0<=(z:Int)*CD g:=De (by omega) (by omega);have hsb:∀ k:Nat,(k:Int)<CD g->0<=Cj g z k/\Cj g z k<((Aw g).toNat:Int):=fun k hk=>by
      rw [<-hcN];unfold Cj Aw;rw [Int.sub_mul,Int.one_mul] at hmul;omega
     repeat' (refine zY ?_;conv=>whnf)
     refine zU Nat (fun k=>([(2, .bp 0 0),(4, .bp 1 0),(5, .bp 2 0),(10,bA (CY (Fm g))),(11,ze z),(12,ze k)], [.box 23 (AT g), .box 38 [nilV,nilV,ze 0,ze 0], .box 38 [.ow 4 (Aw g).toNat,nilV,ze 0,ze (-1)], .box 28 (Ew (Cc g s)), .row 84 3 ((EN (HN g s z) ((IY g z).take k)).map BG)])) (fun k=>k<=2) (fun k=>2 - k) 0 (Aj _)
      (zR (s:= [0,1,2,3,4]) tA) ?_
     intro k hk;conv=>whnf
     refine A8 (fun h10=>?_) (fun h10=>?_) <;> (repeat rw [Ac] at h10) <;> conv=>whnf
     ·have hlw:(IY g z).length=2:=by simp [IY]
      have hk':k<(IY g z).length:=by omega
      have hsx:=IU (HN g s z) hk';rw [show (IY g z).getD k ⟨0, []⟩=⟨AG g z (k:Nat),Bp (AG g z (k:Nat)) 0 (CY (Fm g))⟩ from KD (by omega)] at hsx;have hlx:(EN (HN g s z) ((IY g z).take k)).length=(Aw g).toNat:=by rw [F3,Hi]
      generalize EN (HN g s z) ((IY g z).take k)=cs at hsx hlx |-
      have hgt:=IJ g z k hg (by omega) (by omega);have hin:=htb k (by omega);have hmk:=FF (AG g z k) 0 (CY (Fm g)) (V4 hg (by omega));have hE:(cs.map BG).getD (AG g z k).toNat []=BG (cs.getD (AG g z k).toNat cz):=LB hlx (by omega);repeat' (refine zY ?_;conv=>whnf)
      refine z_ hgt ?_;conv=>whnf
      apply zV (0) tys_ok mixed (.o [0,1,2,3,4,5,6,7,8] .fin) (by kernel_rfl);conv=>whnf
      refine z_ hmk ?_;conv=>whnf
      try (refine tI ?_;conv=>whnf)
      try (refine tS ?_;conv=>whnf)
      (first | rw [hE] | skip)
      conv=>whnf
      all_goals exact⟨k+1,by omega,by omega,zR (s:= [0,1,2,3,4]) ⟨⟨rfl,rfl,rfl,rfl,rfl,AL (by omega),tv⟩,⟨rfl,rfl,rfl,rfl,congrArg (fun l=>some (AB.row _ _ l)) (by rw [hsx,Kk];rfl),tv⟩,rfl,rfl,rfl,rfl,rfl⟩⟩
     ·have ek:k=(IY g z).length:=by simp [IY];omega
      rw [ek,As];have hpr:=OL g hg;repeat' (refine zY ?_;conv=>whnf)
      refine zU Nat (fun i=>([(2, .bp 0 0),(4, .bp 1 0),(5, .bp 2 0),(10,bA (CY (Fm g))),(11,ze z),(14,ze i)], [.box 23 (AT g), .box 38 [nilV,nilV,ze 0,ze 0], .box 38 [.ow 4 (Aw g).toNat,nilV,ze 0,ze (-1)], .box 28 (Ew (Cc g s)), .row 84 3 ((EN (EN (HN g s z) (IY g z)) ((H_ g z).take i)).map BG)])) (fun i=>i<=(CD g).toNat) (fun i=>(CD g).toNat - i) 0 (Aj _)
       (zR (s:= [0,1,2,3,4]) tA) ?_
      intro i hi;conv=>whnf
      refine z_ hpr ?_;conv=>whnf
      refine A8 (fun h11=>?_) (fun h11=>?_) <;> (repeat rw [Ac] at h11) <;> conv=>whnf
      ·have hlw:(H_ g z).length=(CD g).toNat:=by simp [H_]
       have hi':i<(H_ g z).length:=by omega
       have hsx:=IU (EN (HN g s z) (IY g z)) hi';rw [show (H_ g z).getD i ⟨0, []⟩=⟨Cj g z (i:Nat),Bp (Cj g z (i:Nat)) 0 zero8⟩ from KD (by omega)] at hsx;have hlx:(EN (EN (HN g s z) (IY g z)) ((H_ g z).take i)).length=(Aw g).toNat:=by rw [F3,F3,Hi]
       generalize EN (EN (HN g s z) (IY g z)) ((H_ g z).take i)=cs at hsx hlx |-
       have hgt:=PM g z i hg (by omega) (by omega);have hin:=hsb i (by omega);have hmk:=FF (Cj g z i) 0 zero8 ⟨hin.1,by omega,CG _,by decide,by decide⟩;have hE:(cs.map BG).getD (Cj g z i).toNat []=BG (cs.getD (Cj g z i).toNat cz):=LB hlx (by omega);repeat' (refine zY ?_;conv=>whnf)
       refine z_ hgt ?_;conv=>whnf
       apply zV (0) tys_ok mixed (.o [0,1,2,3,4,5,6,7,8] .fin) (by kernel_rfl);conv=>whnf
       (try (refine Ad ⟨rfl,by decide,by decide⟩ ?_;conv=>whnf);refine zO hmk.go ?_;(conv=>whnf);refine Ad rfl ?_;(conv=>whnf);refine zX [ze (Cj g z i),ze 0,bA zero8] ⟨ri,ri,fun c v h=>zC rfl (fun i hi=>by have hi':i<8:=hi;rw [MF (by exact hi'),Tm hi'];rfl) h,tv⟩ ?_;refine z_ hmk ?_)
       conv=>whnf
       try (refine tI ?_;conv=>whnf)
       try (refine tS ?_;conv=>whnf)
       (first | rw [hE] | skip)
       conv=>whnf
       all_goals exact⟨i+1,by omega,by omega,zR (s:= [0,1,2,3,4]) ⟨⟨rfl,rfl,rfl,rfl,rfl,AL (by omega),tv⟩,⟨rfl,rfl,rfl,rfl,congrArg (fun l=>some (AB.row _ _ l)) (by rw [hsx,Kk];rfl),tv⟩,rfl,rfl,rfl,rfl,rfl⟩⟩
      ·have ei:i=(H_ g z).length:=by simp [H_];omega
       repeat' (refine zY ?_;conv=>whnf)
       exact⟨z+1,by omega,by omega,zR (s:= [0,1,2,3,4]) ⟨⟨rfl,rfl,rfl,rfl,AL (by omega),tv⟩,⟨rfl,rfl,rfl,rfl,by rw [ei,As];rfl,tv⟩,rfl,rfl,rfl,rfl,rfl⟩⟩
    ·have ez:z=g.z.toNat:=by omega
     subst ez;exact⟨_, .ag [.ow 0 (Aw g).toNat,nilV,ze 0,ze (-1)], [.row 84 3 ((HN g s g.z.toNat).map BG)],fun _ _ h=>h,zR (s:= [4]) tA,rfl,rfl⟩
theorem R8 (g:Geo) (s:ByteArray) (hg:Bq g=true) (hs:Fi s.data.toList=0):Fn Tryz.prog 57 [.ag (AT g), .v (.string s)] fun r=>r = .ag (FX (Ih g s)):=by
 refine ACalls.fn (PS g s hg hs) ?_;rintro _ _ ⟨rfl,rfl⟩;refine⟨_,zz _,?_⟩;conv=>whnf
 refine Ad (by rw [Aa];exact(Hi g s _).symm) ?_;exact⟨.ag (FX (Ih g s)),Be ⟨Ba (f:=BG) (HN g s g.z.toNat) (by rw [Hi]) rfl,Bt 2 _,ri,ri,tv⟩,rfl⟩


section
variable {g:Geo} {s:ByteArray} {b:An} {fill:UInt8} {sizes:List Int} {D:Dk}
end
theorem StSm.big {S:Stt} (h:StSm S):StBig S:=
 ⟨by have:=h.l;omega,by have:=h.h.1;omega,⟨by have:=h.t.1;omega,fun t ht=>⟨by have:=(h.t.2 t ht).1;omega,fun x hx=>by have:=(h.t.2 t ht).2 x hx;omega⟩⟩,by have:=h.o;omega⟩
structure Vol (g:Geo) (K:Int) (d:Dk) (s:Stt):Prop where
 gd:∃ F,Gd (Aw g) d F
 an:Bj g s.a=true
 ring:C4 g s.txns s.a.seq s.a.pos g.sl=true
 rest:s.only=false/\s.cursor=0/\s.found=0/\s.fixed=0/\s.moved=0/\s.lost=[]
 gen:s.a.gen<=K
 seq:s.a.seq+s.txns.length<=K
 one:∀ t∈s.txns,OneTab t.images
theorem Er {g:Geo} {a:An} (ha:Bj g a=true):(0<=a.gen/\a.gen<=4294967295)/\(1<=a.seq/\a.seq<=4294967295)/\(0<=a.pos/\a.pos<g.sl)/\(a.homes.length:Int)=g.z:=by
 simp only [Bj,Bc,BL,BA,Ae,decide_eq_true_eq,AI] at ha;omega
theorem Ln {g:Geo}:∀ {l:List Tx} {seq pos a b:Int},a<=b->C4 g l seq pos a=true->C4 g l seq pos b=true
 | [],_,_,_,_,_,_=>rfl
 | t::r,seq,pos,a,b,hab,h=>by
  simp only [C4,Ae,decide_eq_true_eq] at h |-
  obtain⟨⟨h1,h2,h3,h4,h5,h6,h7⟩,h8⟩:=h;exact⟨⟨h1,h2,h3,h4,by omega,h6,h7⟩,Ln (by omega) h8⟩
theorem Dx {g:Geo}:∀ {l:List Tx} {seq pos left:Int},C4 g l seq pos left=true->∀ t∈l,t.images.all (B4 g)=true/\t.n=t.images.length+1/\2<=t.n/\t.n<=max left 0
 | t::r,seq,pos,left,h,x,hx=>by
  simp only [C4,Ae,decide_eq_true_eq] at h;obtain⟨⟨h1,h2,h3,h4,h5,h6,h7⟩,h8⟩:=h;rcases AU.1 hx with rfl | hx
  ·exact⟨h7,h6,h4,by omega⟩
  ·have:=Dx h8 x hx;exact⟨this.1,this.2.1,this.2.2.1,by omega⟩
theorem EM {g:Geo} (hg:Bq g=true) {x:Img} (h:B4 g x=true):x.bytes.length<=45:=by
 obtain⟨g1,g2,g3,g4,g5⟩:=Aq.1 hg;by_cases hw:x.what=255
 ·simp only [B4,Ae] at h;have h2:=h.2.2;rw [if_pos hw] at h2;by_cases hl:x.bytes.length=9*(g.d+1).toNat
  ·omega
  ·rw [KB (.inl hl)] at h2;cases h2
 ·have:=(Dl h).2 hw;omega
theorem Vol.st {g:Geo} {K:Int} {d:Dk} {s:Stt} (hg:Bq g=true) (h:Vol g K d s):P9 g d s=true:=by
 obtain⟨F,hF⟩:=h.gd;obtain⟨r1,r2,r3,r4,r5,r6⟩:=h.rest;have hu:=P3 hg;have hh:F1 g s=true:=by
  unfold F1;rw [r3,r4,r5,r6];rfl
 unfold P9;rw [hg,Wv.2 hF.ok,decide_eq_true hF.len,h.an,h.ring,r2,hh,decide_eq_true (show (0:Int)<Hu g by omega)];rfl
theorem Vol.sm {g:Geo} {K:Int} {d:Dk} {s:Stt} (hg:Bq g=true) (h:Vol g K d s):StSm s:=by
 obtain⟨g1,g2,g3,g4,g5⟩:=Aq.1 hg;have hr:=Dx h.ring;have hin:=Gu hg (CG _) h.ring;have hlen:(s.txns.length:Int)<=30:=by
  have:∀ l:List Tx,(∀ t∈l,2<=t.n)->2*(l.length:Int)<=sumT l:=by
   intro l;induction l with
   | nil=>intro _;simp [sumT]
   | cons t r ih=>
    intro hl;have h1:=hl t (by simp);have h2:=ih fun x hx=>hl x (Bd _ hx)
    rw [sumT,Al];omega
  have:=this s.txns fun t ht=>(hr t ht).2.2.1
  have:=hin.2;omega
 refine⟨⟨(EV hg h.an 0 (Aj _)).2.1,fun x hx=>L0 hg h.an x hx⟩,(EV hg h.an 0 (Aj _)).2.2.2.1,⟨by omega,fun t ht=>?_⟩,by rw [h.rest.2.2.2.2.2];simp⟩;obtain⟨q1,q2,q3,q4⟩:=hr t ht;refine⟨by omega,fun i hi=>?_⟩;have:=EM hg (Av.1 q1 i hi);omega
theorem Vol.add {g:Geo} {K:Int} {d d':Dk} {s:Stt} (hg:Bq g=true) (h:Vol g K d s) (hK:K<=4294967294) (hd:∃ F,Gd (Aw g) d' F) {x:Tx} (e1:x.seq=s.a.seq+s.txns.length) (e3:x.pos=(s.a.pos+Cp s.txns).tmod g.sl) (e4:2<=x.n) (e5:x.n<=g.sl - Cp s.txns) (e6:x.n=x.images.length+1) (e7:∀ y∈x.images,B4 g y=true) (e8:OneTab x.images):Vol g (K+1) d' { s with txns:=s.txns ++ [x] }:=by
 obtain⟨a1,a2,a3,a4⟩:=Er h.an;have hin:=Gu hg (CG _) h.ring;rw [Kz hin.1] at e3 e5;have hs:=h.seq;refine⟨hd,h.an,Lm hg a3.1 a3.2 (CG _) h.ring e1 (by omega) e3 e4 e5 e6 (Av.2 e7),h.rest,by have:=h.gen;show s.a.gen<=K+1;omega,?_,fun t ht=>?_⟩
 ·show s.a.seq+((s.txns ++ [x]).length:Nat)<=K+1;simp only [Ai,Al,AY];omega
 ·rcases A5.1 ht with q | q
  ·exact h.one t q
  ·rw [Az] at q;exact q ▸ e8
theorem Vol.home {g:Geo} {K:Int} {d d':Dk} {s:Stt} (hg:Bq g=true) {x:Tx} {r:List Tx} (hx:s.txns=x::r) (h:Vol g K d s) (hK:K<=4294967294) (hd:∃ F,Gd (Aw g) d' F):Vol g (K+1) d' { s with a:=Bz g s.a x,txns:=r }:=by
 obtain⟨a1,a2,a3,a4⟩:=Er h.an;have hs:=h.seq;have hgn:=h.gen;have hr:=h.ring;rw [hx,Al] at hs;rw [hx] at hr;have hin:=(Gu hg (CG _) hr).1 x (by simp);simp only [C4,Ae,decide_eq_true_eq] at hr;obtain⟨⟨h1,h2,h3,h4,h5,h6,h7⟩,h8⟩:=hr;refine⟨hd,JH hg h.an (by omega) (by omega) h1 (by omega) (by omega),?_,h.rest,by show s.a.gen+1<=K+1;omega,?_,fun t ht=>h.one t (by rw [hx];exact Bd _ ht)⟩
 ·show C4 g r (s.a.seq+1) ((x.pos+x.n).tmod g.sl) g.sl=true;rw [h3];exact Ln (by omega) h8
 ·show s.a.seq+1+(r.length:Int)<=K+1;omega
theorem Kv {g:Geo} {a:An} {w:Wr} (hw:w∈AE g a):∃ i:Nat,(i:Int)<g.an/\w=⟨(i:Nat),CV a (i:Nat)⟩:=by
 simp only [AE,AP,AO] at hw;obtain⟨i,hi,rfl⟩:=hw;exact⟨i,by omega,rfl⟩
def DY (g:Geo) (a:An) (x:Tx) (F:Int->List UInt8):Int->List UInt8:=GR (GR F (BS g a x.seq x.images)) (AE g (Bz g a x))
theorem Rl {g:Geo} {a:An} (ha:Bj g a=true) {t:Tx} (hl:∀ x∈t.images,B4 g x=true) {x:Img} (hx:x∈t.images) (h255:x.what=255):((Bz g a t).homes.getD x.zone.toNat ⟨[],0,0⟩).root=t.seq:=by
 obtain⟨hz,_⟩:=Dl (hl x hx);exact Im t.images (Kf ha hz).1 ⟨x,hx,h255,rfl⟩
def bn (g:Geo):Stt:=AN (Eb (Cc g ⟨#[]⟩) 0) []
def aN (g:Geo) (a:An) (q:Int):List UInt8:=if q<g.an then CV a q else HM g ⟨#[]⟩ q
theorem Q3 {g:Geo} (hg:Bq g=true) {d:Dk} (h:Holds d (Aw g) (HM g ⟨#[]⟩)) {c:Int} (hc:c=0\/c=1):B8 d (BZ g c)=GV g [] 0 c g.sl.toNat:=by
 rw [RY h _ (Ue hg hc)];unfold BZ GV;rw [List.map_map];refine C0 fun i hi=>?_
 have hi:=AO.1 hi;show (⟨0,HM g ⟨#[]⟩ (By g c (i:Nat))⟩:Gt)=_;rw [MJ hc (by omega)];rfl
theorem VB {g:Geo} (hg:Bq g=true) {b:An} (hp:b.pos=0) (hl:¬b.seq - 1<b.last) {d:Dk} (h:Holds d (Aw g) (HM g ⟨#[]⟩)):E9 g b (B8 d (BZ g 0)) (B8 d (BZ g 1))=([], [],0):=by
 obtain⟨g1,g2,g3,g4,g5⟩:=Aq.1 hg;have hok:LogOk g [] 0:=⟨by simp,by simp,fun s i k _ h=>(nomatch (show (none:Option (Nat × Int))=some (i,k) from h)),fun s _=>IP hg⟩;rw [OG,Q3 hg h (.inl rfl),Q3 hg h (.inr rfl),SA hg hok (.inl rfl),SA hg hok (.inr rfl)];obtain⟨n,hn⟩:∃ n,g.sl.toNat=n+1:=⟨g.sl.toNat - 1,by omega⟩;have hz:Ia g [] 0 (fun _=>false) 0=some zeroC:=by
  unfold Ia;rw [if_pos (by omega)];rfl
 have hs:DZ g 0 0=0:=by
  show (IntKind.i64.wrap 0).tmod g.sl=0;rw [show IntKind.i64.wrap 0=0 from rfl,Int.zero_tmod]
 have h0:DA zeroC b b.seq 0 0 g.sl=false:=decide_eq_false fun h=>h.1 rfl
 have hr:(CJ g b (Ia g [] 0 fun _=>false) (Ia g [] 0 fun _=>false) 0 b.seq g.sl 0 0).2.1=2:=by
  show (CH (Ia g [] 0 (fun _=>false) (DZ g 0 0)) (Ia g [] 0 (fun _=>false) (DZ g 0 0)) (ED (Ia g [] 0 (fun _=>false) (DZ g 0 0)) b b.seq 0 0 g.sl) (ED (Ia g [] 0 (fun _=>false) (DZ g 0 0)) b b.seq 0 0 g.sl)).2.2=2;rw [hs,hz];show (CH (some zeroC) (some zeroC) (DA zeroC b b.seq 0 0 g.sl) (DA zeroC b b.seq 0 0 g.sl)).2.2=2;rw [h0];rfl
 have ht:(Gz g b (Ia g [] 0 fun _=>false) (Ia g [] 0 fun _=>false) 0 b.seq g.sl).1=2:=by
  unfold Gz;simp only;rw [if_pos (by rw [hr];decide)];exact hr
 unfold N8;rw [hn,hp,FE];split
 ·simp only;rw [ht,if_neg (by decide),if_pos (by decide),Gi hl]
 ·exact Gi hl
theorem Sb {g:Geo} (hg:Bq g=true) (hb:Bj g (Cc g ⟨#[]⟩)=true) (x:Int):(HM g ⟨#[]⟩ x).length<=200:=by
 unfold HM;split
 ·exact Kw hg hb x
 ·split
  ·exact Cg (IP hg) _ _
  ·split
   ·exact Cg (IP hg) _ _
   ·split
    ·rw [Et,Fk];unfold Fm;rw [Bk];have:=(Aq.1 hg).2.1;omega
    ·rw [Et];decide
theorem YB {g:Geo} (hg:Bq g=true) (hb:Bj g (Cc g ⟨#[]⟩)=true):DkOk (Ih g ⟨#[]⟩):=by
 have hcb:=EI hg;have h:=Oe (g:=g) (s:=⟨#[]⟩) hg;have hlen:=h.len;refine⟨by omega,by rw [h.cache];simp,by show (0:Int)<=0/\(0:Int)<=_;decide,by show (-1:Int)<= -1/\(-1:Int)<=_;decide,fun c hc=>?_,fun w hw=>by rw [h.cache] at hw;cases hw⟩;obtain⟨i,hi,rfl⟩:=DW hc;have hci:=Q7 (g:=g) (s:=⟨#[]⟩) hg (a:=((i:Nat):Int)) (by omega) (by omega);have e:(Ih g ⟨#[]⟩).cells.getD ((i:Nat):Int).toNat cz=(Ih g ⟨#[]⟩).cells[i]:=by
  rw [Ac,Ab,Af hi];rfl
 rw [e] at hci;rw [hci];exact⟨⟨CG _,by show (0:Int)<=2;decide⟩,Sb hg hb _,by simp⟩
theorem ZC {g:Geo} (hg:Bq g=true) (hb:Bj g (Cc g ⟨#[]⟩)=true) {d:Dk} (h:Holds d (Aw g) (HM g ⟨#[]⟩)):G_ g (B8 d (DB g))=some (Cc g ⟨#[]⟩,(bz (G_ g (B8 d (DB g))))):=by
 obtain⟨g1,g2,g3,g4,g5⟩:=Aq.1 hg;have hcg:=EH hg;have hsp:=Mu g (B8 d (DB g)) (B8 d (DB g)).length;rw [Eu,FQ] at hsp;have hsay:∀ i,i<g.an.toNat->Fc g ((B8 d (DB g)).getD i ⟨0, []⟩) (i:Nat)=some (Cc g ⟨#[]⟩):=fun i hi=>by
  rw [Ss hi,h.got (by omega) (by omega),SZ (by omega)];exact Rx hg hb (by omega)
 have hpk:G_ g (B8 d (DB g))=F9 g (B8 d (DB g)) g.an.toNat:=by rw [G_,Eu,FQ]
 rw [hpk];cases hP:F9 g (B8 d (DB g)) g.an.toNat with
 | none=>
  have:=hsp.1 hP 0 (by omega);rw [hsay 0 (by omega)] at this;cases this
 | some q=>
  obtain⟨a0,j⟩:=q;obtain⟨q1,q2,q3⟩:=hsp.2 a0 j hP;rw [hsay j q1] at q2;cases q2;rfl
theorem Z8 {g:Geo} (hg:Bq g=true):∃ D,Dr g (Ih g ⟨#[]⟩)=(D,0,bn g)/\DkOk (Ih g ⟨#[]⟩)/\((Ih g ⟨#[]⟩).cells.length:Int)=Aw g/\Vol g 2 D (bn g)/\Gd (Aw g) D (aN g (Eb (Cc g ⟨#[]⟩) 0)):=by
 obtain⟨g1,g2,g3,g4,g5⟩:=Aq.1 hg;have hs:Fi (⟨#[]⟩:ByteArray).data.toList=0:=lab_nil;have hf:=Oe (g:=g) (s:=⟨#[]⟩) hg;have hb:=Oj (g:=g) (s:=⟨#[]⟩) hg hs;have hdk:DkOk (Ih g ⟨#[]⟩):=YB hg hb;have hcg:=EH hg;have hsc:=VB hg (b:=Cc g ⟨#[]⟩) rfl (by show ¬(1:Int) - 1<0;decide) hf;have hm:=Qn hg hdk hf.len hf.cache (by show (-1:Int)<0;decide) (ZC hg hb hf) hsc (by show (1:Int)≠_;decide) (by show (0:Int)≠_;decide);have hna:=Dc g (Eb (Cc g ⟨#[]⟩) ([]:List Tx).length);rw [WR hf _ (fun w hw=>by
  simp only [AE,AP,AO] at hw;obtain⟨i,hi,rfl⟩:=hw;exact⟨by show (0:Int)<=(i:Nat);omega,by show ((i:Nat):Int)<_;omega⟩),if_neg (by omega),if_neg (by omega)] at hm
 have hD:=Ub hg hdk hf.len;rw [hm] at hD;have hn:=Mz (n:=0) hb (by show (1:Int)≠_;decide) (by show (0:Int)≠_;decide) (by show (1:Int)+0 - 1<=_;decide);have hfin:=Us (r:=((Ih g ⟨#[]⟩).tick (Qm g [])).reqs) (l:=(Ih g ⟨#[]⟩).left) hg (c:=Eb (Cc g ⟨#[]⟩) ([]:List Tx).length) hf;have hgd:Gd (Aw g) _ (aN g (Eb (Cc g ⟨#[]⟩) 0)):=⟨hD.1,rfl,hfin.len,hfin.cache,hfin.cell⟩;exact⟨_,hm,hdk,hf.len,⟨⟨_,hgd⟩,hn,rfl,tA,(by show (1:Int)+1<=2;decide),(by show (1:Int)+(0:Nat)<=2;decide),fun t ht=>by cases ht⟩,hgd⟩
theorem flat_by1:∀ b:List UInt8,((b.map Eo).flatten.all flatX)=true
 | []=>rfl
 | x::b=>by rw [A0,AM,Dn,flat_by1 b];rfl
structure LogB (l:List Tx):Prop where
 n:l.length<=1000000
 i:∀ t∈l,t.images.length<=1000000/\∀ x∈t.images,x.bytes.length<=1000000000
def Ex (g:Geo) (s:Stt) (F:Int->List UInt8) (z:Int):Option (List Ent):=match CO s.txns z 255 with
 | some p=>C8 g p.1.bytes
 | none=>match BV g ⟨0,F (AG g z 0)⟩ (AG g z 0) (Cs s.a s.txns z) with
  | some t=>some t
  | none=>BV g ⟨0,F (AG g z 1)⟩ (AG g z 1) (Cs s.a s.txns z)
theorem Gf {m:Nat} (h:Nat.ble 6 m=true):∀ z∈ [0,1,2,3,4,5],z<m:=fun z hz=>by
 have:=Ag h;simp at hz;omega
theorem VK (g:Geo) (s:Stt) (d:Dk) (F:Int->List UInt8) (z:Int) (hg:Bq g=true) (hl:LogB s.txns) (ha:Bj g s.a=true) (h:Gd (Aw g) d F) (hF:∀ a,(F a).length<=100000) (hz:0<=z/\z<g.z) :
    ACalls Tryz.prog false 139 [.bp 0 0,iv z] (F7 g s 0 d) fun r H=>r = .tp [.ag [Bv ((Ex g s F z).getD [])], .v (.bool (Ex g s F z).isSome)]/\∃ d',Gd (Aw g) d' F/\H=F7 g s 0 d':=by
  have hf:=KA s.txns z 255 hl.n hl.i;unfold Ex;cases hL:CO s.txns z 255 with
  | some p=>
    obtain⟨x,q⟩:=p;rw [hL] at hf;have hr:=Jk g x.bytes hg;simp only;refine zT tys_ok Tryz.func139 rfl rfl (Ag rfl) ?_;conv=>whnf
    refine FnO.lend (hf.subA (args:= [.sl 4 s.txns.length fun i=>(s.txns.map CI).getD i [],iv z,iv 255]) ⟨Ba (f:=CI) s.txns rfl rfl,fun _ _ h=>h,fun _ _ h=>h,tv⟩) ⟨(Aa _).symm,rfl⟩ ?_;rintro _ _ ⟨rfl,rfl⟩;refine⟨⟨rfl,by rw [flatR,flat_by1];rfl⟩,?_⟩;conv=>whnf
    refine zO hr.go ?_;refine Ad (Aa _).symm ?_;conv=>whnf
    refine zX [.ag (AT g),bA x.bytes] ⟨ri,Fp rfl rfl,tv⟩ ?_;refine z_ hr ?_;exact⟨.tp [.ag [Bv ((C8 g x.bytes).getD [])], .v (.bool (C8 g x.bytes).isSome)], .tp [.ag [Bv ((C8 g x.bytes).getD [])], .v (.bool (C8 g x.bytes).isSome)],F7 g s 0 d,fun _ _ h=>h,zR (s:= [0,1,2,3,4,5]) tA,rfl,d,h,rfl⟩
  | none=>
    rw [hL] at hf;simp only;have hG1:∀ k:Nat,k<2->(∀ j:Nat,j<k->BV g ⟨0,F (AG g z (j:Nat))⟩ (AG g z (j:Nat)) (Cs s.a s.txns z)=none)->∀ t,BV g ⟨0,F (AG g z (k:Nat))⟩ (AG g z (k:Nat)) (Cs s.a s.txns z)=some t->(match BV g ⟨0,F (AG g z 0)⟩ (AG g z 0) (Cs s.a s.txns z) with | some t=>some t | none=>BV g ⟨0,F (AG g z 1)⟩ (AG g z 1) (Cs s.a s.txns z))=some t:=fun k hk hno t ht=>by
      match k,hk with
      | 0,_=>
        have ht:BV g ⟨0,F (AG g z 0)⟩ (AG g z 0) (Cs s.a s.txns z)=some t:=ht;rw [ht]
      | 1,_=>
        have h0:BV g ⟨0,F (AG g z 0)⟩ (AG g z 0) (Cs s.a s.txns z)=none:=hno 0 (by decide);rw [h0];exact ht
    have hG2:(∀ j:Nat,j<2->BV g ⟨0,F (AG g z (j:Nat))⟩ (AG g z (j:Nat)) (Cs s.a s.txns z)=none)->(match BV g ⟨0,F (AG g z 0)⟩ (AG g z 0) (Cs s.a s.txns z) with | some t=>some t | none=>BV g ⟨0,F (AG g z 1)⟩ (AG g z 1) (Cs s.a s.txns z))=none:=fun hno=>by
      have h0:BV g ⟨0,F (AG g z 0)⟩ (AG g z 0) (Cs s.a s.txns z)=none:=hno 0 (by decide);rw [h0];exact hno 1 (by decide)
    generalize (match BV g ⟨0,F (AG g z 0)⟩ (AG g z 0) (Cs s.a s.txns z) with | some t=>some t | none=>BV g ⟨0,F (AG g z 1)⟩ (AG g z 1) (Cs s.a s.txns z))=G at hG1 hG2 |-
    have zs:∀ (c:Ctx) (v:Value),Rd (.tp [.ag [.v (.slice none 0 0)], .v (.bool false)]) c v->Rd (.tp [.ag [Bv []], .v (.bool false)]) c v:=BX (m:= [.ag [Bv []], .v (.bool false)]) ⟨Be ⟨Bt 3 _,tv⟩,ri,tv⟩;have hR:=VN g s.a s.txns z (Er ha).2.2.2 hz hl.n hl.i;refine zT tys_ok Tryz.func139 rfl rfl (Ag rfl) ?_;conv=>whnf
    refine FnO.lend (hf.subA (args:= [.sl 4 s.txns.length fun i=>(s.txns.map CI).getD i [],iv z,iv 255]) ⟨Ba (f:=CI) s.txns rfl rfl,fun _ _ h=>h,fun _ _ h=>h,tv⟩) ⟨(Aa _).symm,rfl⟩ ?_;rintro _ _ ⟨rfl,rfl⟩;refine⟨tA,?_⟩;conv=>whnf
    repeat' (refine zY ?_;conv=>whnf)
    apply zP tys_ok mixed (.o [0,1,2,3,4,5,6,7,8,9,10,11,12] .fin) [9,34,35,36,37,38,39,40,41,42,43,44,45] (by kernel_rfl)
    · conv=>whnf
      (refine zp (args':= [.ag (Nl s.a (.sl 3 s.a.homes.length fun i=>(s.a.homes.map DU).getD i [])), .sl 4 s.txns.length fun i=>(s.txns.map CI).getD i [],iv z]) (hR.subA ⟨Be ⟨ri,ri,ri,ri,ri,ri,Ba (f:=DU) s.a.homes rfl rfl,tv⟩,Ba (f:=CI) s.txns rfl rfl,ri,tv⟩) ⟨(Aa _).symm,(Aa _).symm,rfl⟩ ?_;rintro _ rfl;refine⟨rfl,?_⟩)
      exact tA
    conv=>whnf
    have htab:∀ k:Nat,k<2->g.an+2*g.sl<=AG g z (k:Nat)/\AG g z (k:Nat)<Aw g:=fun k hk=>by have:=FD hg hz (k:=(k:Nat)) (by omega);omega
    refine zU (Nat × Dk) (fun x=>([(0, .bp 0 0),(1,iv z),(4, .bp 6 0),(9,iv (Cs s.a s.txns z)),(10,iv (x.1:Nat))],F7 g s 0 x.2 ++ ([.box 141 [.v (.slice none 0 0)]]:List AB))) (fun x=>x.1<=2/\Gd (Aw g) x.2 F/\∀ j:Nat,j<x.1->BV g ⟨0,F (AG g z (j:Nat))⟩ (AG g z (j:Nat)) (Cs s.a s.txns z)=none) (fun x=>2 - x.1) (0,d) ⟨Aj _,h,fun j hj=>absurd hj (Ap j)⟩
      (zR (s:= [0,1,2,3,4,5,6]) tA) ?_
    rintro⟨k,d1⟩ ⟨hk,hd1,hno⟩;simp only at hk hd1 hno;conv=>whnf
    refine A8 (fun h6=>?_) (fun h6=>?_) <;> (repeat rw [Ac] at h6) <;> conv=>whnf
    · have hk2:k<2:=by omega
      have hta:=IJ g z (k:Nat) hg hz (by omega);obtain⟨q1,q2⟩:=htab k hk2;have hz2:=Aq.1 hg;have hrd:=bh g s (Aw g) d1 F (AG g z (k:Nat)) hd1 (by omega);have hGk:=hG1 k hk2 hno;have hto:=PL g ⟨0,F (AG g z (k:Nat))⟩ (AG g z (k:Nat)) (Cs s.a s.txns z) hg (hF _);repeat' (refine zY ?_;conv=>whnf)
      refine z_ hta ?_;conv=>whnf
      repeat' (refine zY ?_;conv=>whnf)
      apply zV (8+2 ^ 134) tys_ok mixed (.o [0,1,2,4,5,7,8] (.three 3 (.two 6 (.two 9 (.o [10,11,12,13,14,15] .fin) 13 (.o [9,10,11,12,14,15] .fin)) 13 (.o [6,9,10,11,12,14,15] .fin)) 6 (.two 3 (.two 9 (.o [10,11,12,13,14,15] .fin) 13 (.o [9,10,11,12,14,15] .fin)) 13 (.o [3,9,10,11,12,14,15] .fin)) 13 (.two 3 (.o [6,9,10,11,12,14,15] .fin) 6 (.o [3,9,10,11,12,14,15] .fin)))) (by kernel_rfl);refine Ad ?_ (Ad ?_ ?_);refine Ad ?_ ?_;conv=>whnf
      (refine ze9 [0,1,2,3,4,5] hrd ?_;rintro _ _ ⟨rfl,d2,hd2,rfl⟩)
      refine Ad ?_ ?_;conv=>whnf
      refine z_ hto ?_;conv=>whnf
      try (refine tS ?_;conv=>whnf)
      rotate_left 1;conv=>whnf
      refine z_ hto ?_;conv=>whnf
      try (refine tS ?_;conv=>whnf)
      rotate_left 1;conv=>whnf
      (refine ze9 [0,1,2,3,4,5] hrd ?_;rintro _ _ ⟨rfl,d2,hd2,rfl⟩)
      conv=>whnf
      refine z_ hto ?_;conv=>whnf
      try (refine tS ?_;conv=>whnf)
      rotate_left 1;conv=>whnf
      (refine ze9 [0,1,2,3,4,5] hrd ?_;rintro _ _ ⟨rfl,d2,hd2,rfl⟩)
      refine Ad ?_ ?_;refine Ad ?_ ?_;conv=>whnf
      refine z_ hto ?_;conv=>whnf
      try (refine tS ?_;conv=>whnf)
      rotate_left 1;conv=>whnf
      refine z_ hto ?_;conv=>whnf
      try (refine tS ?_;conv=>whnf)
      rotate_left 1;conv=>whnf
      refine z_ hto ?_;conv=>whnf
      try (refine tS ?_;conv=>whnf)
      rotate_left 1;refine Ad ?_ ?_;conv=>whnf
      (refine ze9 [0,1,2,3,4,5] hrd ?_;rintro _ _ ⟨rfl,d2,hd2,rfl⟩)
      conv=>whnf
      refine z_ hto ?_;conv=>whnf
      try (refine tS ?_;conv=>whnf)
      rotate_left 1;conv=>whnf
      (refine ze9 [0,1,2,3,4,5] hrd ?_;rintro _ _ ⟨rfl,d2,hd2,rfl⟩)
      conv=>whnf
      refine z_ hto ?_;conv=>whnf
      try (refine tS ?_;conv=>whnf)
      rotate_left 1;all_goals
        cases hT:BV g ⟨0,F (AG g z (k:Nat))⟩ (AG g z (k:Nat)) (Cs s.a s.txns z)
      all_goals
        conv=>whnf
        first
        | exact⟨(k+1,d2),⟨by show k+1<=2;omega,hd2,fun j hj=>by by_cases e:j=k;exact e ▸ hT;exact hno j (by have:j<k+1:=hj;omega)⟩,by show 2 - (k+1)<2 - k;omega,zR (s:= [0,1,2,3,4,5,6]) ⟨⟨rfl,rfl,rfl,rfl,AL (by omega),tv⟩,tA,rfl,rfl,rfl,rfl,rfl⟩⟩
        | (rename_i t
           have e:=hGk _ hT;subst e;exact⟨.tp [.ag [Bv t], .v (.bool true)], .tp [.ag [Bv t], .v (.bool true)],F7 g s 0 d2,fun _ _ h=>h,zR (s:= [0,1,2,3,4,5]) tA,rfl,d2,hd2,rfl⟩)
    · have ek:k=2:=by omega
      subst ek;rw [hG2 hno];exact⟨.tp [.ag [Bv []], .v (.bool false)], .tp [.ag [Bv []], .v (.bool false)],F7 g s 0 d1,zs,zR (s:= [0,1,2,3,4,5]) tA,rfl,d1,hd1,rfl⟩
def G6 (g:Geo) (s:Stt) (F:Int->List UInt8) (t:List Ent) (z w:Int):List UInt8:=match CO s.txns z w with
 | some p=>p.1.bytes
 | none=>(En ⟨0,F (B5 g s.a z w)⟩ (B5 g s.a z w) (t.getD (E7 g w).toNat ez)).getD []
theorem Sx (g:Geo) (s:Stt) (d:Dk) (F:Int->List UInt8) (t:List Ent) (z w:Int) (hg:Bq g=true) (hl:LogB s.txns) (ha:Bj g s.a=true) (h:Gd (Aw g) d F) (hF:∀ a,(F a).length<=100000) (ht:(t.length:Int)=g.d+1) (hz:0<=z/\z<g.z) (hw : -1<=w/\w<g.d) :
    ACalls Tryz.prog false 140 [.bp 0 0, .ag [Bv t],iv z,iv w] (F7 g s 0 d) fun r H=>r=bA (G6 g s F t z w)/\∃ d',Gd (Aw g) d' F/\H=F7 g s 0 d':=by
  have hf:=KA s.txns z w hl.n hl.i;unfold G6;cases hL:CO s.txns z w with
  | some p=>
    obtain⟨x,q⟩:=p;rw [hL] at hf;simp only;refine zT tys_ok Tryz.func140 rfl rfl (Ag rfl) ?_;conv=>whnf
    refine FnO.lend (hf.subA (args:= [.sl 4 s.txns.length fun i=>(s.txns.map CI).getD i [],iv z,iv w]) ⟨Ba (f:=CI) s.txns rfl rfl,fun _ _ h=>h,fun _ _ h=>h,tv⟩) ⟨(Aa _).symm,rfl⟩ ?_;rintro _ _ ⟨rfl,rfl⟩;refine⟨⟨rfl,by rw [flatR,flat_by1];rfl⟩,?_⟩;exact⟨.ow 7 (x.bytes.length),bA x.bytes,F7 g s 0 d,fun _ _ h=>h,zI (zQ (zN 0 7 (congrArg (AV.ow 7) (Aa _).symm) rfl) (zL 0 rfl (Fp (Aa _) rfl))) (s:= [0,1,2,3,4,5]) tA,rfl,d,h,rfl⟩
  | none=>
    rw [hL] at hf;simp only;have hA:=Mt g s.a z w hg ha hz hw;obtain⟨sl,e1,e2,e3⟩:=Es hg ha hz hw;obtain⟨q1,q2⟩:=Fs hg hz ⟨e2,e3⟩;have hz2:=Aq.1 hg;have hrd:=bh g s (Aw g) d F (B5 g s.a z w) h (by omega);have hat:=Wi g w;have hb:=TS ⟨0,F (B5 g s.a z w)⟩ (B5 g s.a z w) (t.getD (E7 g w).toNat ez) (hF _);have a1:0<=E7 g w/\E7 g w<g.d+1:=by unfold E7;split <;> omega
    refine zT tys_ok Tryz.func140 rfl rfl (Ag rfl) ?_;conv=>whnf
    refine FnO.lend (hf.subA (args:= [.sl 4 s.txns.length fun i=>(s.txns.map CI).getD i [],iv z,iv w]) ⟨Ba (f:=CI) s.txns rfl rfl,fun _ _ h=>h,fun _ _ h=>h,tv⟩) ⟨(Aa _).symm,rfl⟩ ?_;rintro _ _ ⟨rfl,rfl⟩;refine⟨tA,?_⟩;conv=>whnf
    repeat' (refine zY ?_;conv=>whnf)
    apply zP tys_ok mixed (.o [0,1,2,3,4,5,6,7,8,9,10,11,12] .fin) [12,29,30,31,32,33,34,35,36,37,38,39,40] (by kernel_rfl)
    · conv=>whnf
      (refine zp (args':= [.ag (AT g), .ag (Nl s.a (.sl 3 s.a.homes.length fun i=>(s.a.homes.map DU).getD i [])),iv z,iv w]) (hA.subA ⟨ri,Be ⟨ri,ri,ri,ri,ri,ri,Ba (f:=DU) s.a.homes rfl rfl,tv⟩,ri,ri,tv⟩) ⟨(Aa _).symm,rfl⟩ ?_;rintro _ rfl;refine⟨rfl,?_⟩)
      exact tA
    conv=>whnf
    cases hb2:En ⟨0,F (B5 g s.a z w)⟩ (B5 g s.a z w) (t.getD (E7 g w).toNat ez);all_goals
      rw [hb2] at hb;repeat' (refine zY ?_;conv=>whnf)
      apply zV (544+2 ^ 130) tys_ok mixed (.o [0,1,3,4,6,7,8,10] (.three 2 (.two 5 (.o [9,11,12,13,14,15,16,17,18,19] .fin) 9 (.two 5 (.o [11,12,13,14,15,16,17,18,19] .fin) 11 (.o [5,12,13,14,15,16,17,18,19] .fin))) 5 (.two 2 (.o [9,11,12,13,14,15,16,17,18,19] .fin) 9 (.o [2,11,12,13,14,15,16,17,18,19] .fin)) 9 (.two 2 (.two 5 (.o [11,12,13,14,15,16,17,18,19] .fin) 11 (.o [5,12,13,14,15,16,17,18,19] .fin)) 5 (.o [2,11,12,13,14,15,16,17,18,19] .fin)))) (by kernel_rfl);refine Ad ?_ (Ad ?_ ?_);conv=>whnf
      (refine ze9 [0,1,2,3,4,5] hrd ?_;rintro _ _ ⟨rfl,d2,hd2,rfl⟩)
      refine Ad ?_ ?_;conv=>whnf
      refine z_ hat ?_;conv=>whnf
      try (refine tI ?_;conv=>whnf)
      refine z_ hb ?_;conv=>whnf
      rotate_left 1;refine Ad ?_ ?_;conv=>whnf
      refine z_ hat ?_;conv=>whnf
      try (refine tI ?_;conv=>whnf)
      refine z_ hb ?_;conv=>whnf
      rotate_left 1;conv=>whnf
      refine z_ hat ?_;conv=>whnf
      try (refine tI ?_;conv=>whnf)
      refine z_ hb ?_;conv=>whnf
      rotate_left 1;refine Ad ?_ ?_;conv=>whnf
      (refine ze9 [0,1,2,3,4,5] hrd ?_;rintro _ _ ⟨rfl,d2,hd2,rfl⟩)
      conv=>whnf
      refine z_ hat ?_;conv=>whnf
      try (refine tI ?_;conv=>whnf)
      refine z_ hb ?_;conv=>whnf
      rotate_left 1;conv=>whnf
      (refine ze9 [0,1,2,3,4,5] hrd ?_;rintro _ _ ⟨rfl,d2,hd2,rfl⟩)
      conv=>whnf
      refine z_ hat ?_;conv=>whnf
      try (refine tI ?_;conv=>whnf)
      refine z_ hb ?_;conv=>whnf
      rotate_left 1;refine Ad ?_ ?_;conv=>whnf
      (refine ze9 [0,1,2,3,4,5] hrd ?_;rintro _ _ ⟨rfl,d2,hd2,rfl⟩)
      refine Ad ?_ ?_;conv=>whnf
      refine z_ hat ?_;conv=>whnf
      try (refine tI ?_;conv=>whnf)
      refine z_ hb ?_;conv=>whnf
      rotate_left 1;conv=>whnf
      refine z_ hat ?_;conv=>whnf
      try (refine tI ?_;conv=>whnf)
      refine z_ hb ?_;conv=>whnf
      rotate_left 1;conv=>whnf
      (refine ze9 [0,1,2,3,4,5] hrd ?_;rintro _ _ ⟨rfl,d2,hd2,rfl⟩)
      conv=>whnf
      refine z_ hat ?_;conv=>whnf
      try (refine tI ?_;conv=>whnf)
      refine z_ hb ?_;conv=>whnf
      rotate_left 1
    all_goals
      first
      | (rename_i b
         exact⟨bA b,bA b,F7 g s 0 d2,fun _ _ h=>h,zR (s:= [0,1,2,3,4,5]) tA,rfl,d2,hd2,rfl⟩)
      | exact⟨bA [],bA [],F7 g s 0 d2,Bt 1 _,zR (s:= [0,1,2,3,4,5]) tA,rfl,d2,hd2,rfl⟩
def GO (b:List UInt8):List AV:= [bA b]
theorem ConvF.sealTp {fr:Fr} {H:List AB} (i k:Nat) {x z:AV} {t:TypeId} {sz:Nat} {es:List (List AV)} (hx:fget fr i = .tp [x, .ow k es.length,z]) (hk:hget H k=some (.row t sz es)):ConvF fr H ((i, .tp [x, .sl sz es.length fun j=>es.getD j [],z])::fr) (H.set k .dead):=fun _ _ c _ _ hs hf=>by
 rw [hget_eq] at hk;obtain⟨c1,e1,s1,x1,r1⟩:=hs.freeze hk;refine⟨c1,e1,s1,(hf.ext x1).cons i _ ?_,x1⟩;have h0:=hf.get i;have h1:=(hf.ext x1).get i;rw [hx] at h0 h1;simp only [Rd] at h0 h1;obtain⟨us,e,h0⟩:=h0;obtain⟨us',e',h1⟩:=h1;have eu:us'=us:=by
  have:=e.symm.trans e';injection this with this
  simpa using this.symm
 subst eu;obtain⟨y1,l1,rfl,a1,y2,l2,rfl,a2,y3,l3,rfl,a3,rfl⟩:=h0;obtain⟨z1,m1,q1,b1,z2,m2,q2,b2,z3,m3,q3,b3,q4⟩:=h1;subst q2 q3 q4;simp only [List.cons.injEq,and_true] at q1;obtain⟨rfl,rfl,rfl⟩:=q1;simp only [Rd];exact⟨_,e,_,_,rfl,b1,_,_,rfl,r1 _ a2,_,_,rfl,b3,rfl⟩
theorem DQ {L:List (List UInt8)} {n:Nat} {es:List (List AV)} (hn:n=L.length) (he:es=L.map GO) (c:Ctx) (v:Value) (h:Rd (.sl 1 n fun i=>es.getD i []) c v):Rd (EU L) c v:=Ba (f:=GO) L hn he c v h
def J0 (g:Geo) (s:Stt) (F:Int->List UInt8) (t:List Ent) (z:Int) (k:Nat):List (List UInt8):=(List.range k).map fun i=>G6 g s F t z (i:Nat)
def Cx (g:Geo) (s:Stt) (F:Int->List UInt8) (t:List Ent) (z:Int):List (List UInt8):=J0 g s F t z g.d.toNat ++ [G6 g s F t z (-1)]
theorem Hw {g:Geo} {s:Stt} {F:Int->List UInt8} {z:Int} {t:List Ent} (h:Ex g s F z=some t):GG g t=true:=by
 have hr:∀ {b:List UInt8} {t:List Ent},C8 g b=some t->GG g t=true:=fun {b t} h=>by
  unfold C8 at h;split at h
  ·rename_i hh;obtain rfl:=Option.some.inj h;exact hh.1
  ·cases h
 have ho:∀ {x:Gt} {a r:Int} {t:List Ent},BV g x a r=some t->GG g t=true:=fun {x a r t} h=>by
  unfold BV at h;split at h
  ·split at h
   ·exact hr h
   ·cases h
  ·cases h
 unfold Ex at h;split at h
 ·exact hr h
 ·split at h
  ·rename_i hh;obtain rfl:=Option.some.inj h;exact ho hh
  ·exact ho h
theorem IN {g:Geo} {t:List Ent} (h:GG g t=true):(t.length:Int)=g.d+1:=by
 unfold GG at h
 grind
theorem Hb {g:Geo} {s:Stt} {F:Int->List UInt8} {t:List Ent} {z w:Int} (hi:∀ t∈s.txns,∀ x∈t.images,B4 g x=true) (hw:w≠255):(G6 g s F t z w).length=0\/(G6 g s F t z w).length=8:=by
 unfold G6;split
 ·rename_i p hp;obtain⟨x,q⟩:=p;obtain⟨t',ht, -,hx, -,e⟩:=Ok (Ah _) hp;exact .inr ((Dl (hi t' ht x hx)).2 (by rw [e];exact hw)).2.2
 ·unfold En;split
  ·split
   ·rename_i h;exact .inr h.2.1
   ·exact .inl rfl
  ·exact .inl rfl
theorem R7 (g:Geo) (s:Stt) (d:Dk) (F:Int->List UInt8) (z:Int) (hg:Bq g=true) (hl:LogB s.txns) (ha:Bj g s.a=true) (h:Gd (Aw g) d F) (hF:∀ a,(F a).length<=100000) (hz:0<=z/\z<g.z) :
  ACalls Tryz.prog false 68 [.bp 0 0,iv z] (F7 g s 0 d) fun r H=>r=(match Ex g s F z with | some t=> .tp [.ag [Bv t],EU (Cx g s F t z), .v (.bool true)] | none=> .tp [.ag [Bv []],EU [], .v (.bool false)])/\∃ d',Gd (Aw g) d' F/\H=F7 g s 0 d':=by
 have hT:=VK g s d F z hg hl ha h hF hz;obtain⟨g1,g2,g3,g4,g5⟩:=Aq.1 hg;cases hq:Ex g s F z with
 | none=>
  rw [hq] at hT;refine zT tys_ok Tryz.func68 rfl rfl (Ag rfl) ?_;conv=>whnf
  refine ze9 [0,1,2,3,4,5] hT ?_;rintro _ _ ⟨rfl,d2,hd2,rfl⟩;exact⟨.tp [.ag [Bv []],EU [], .v (.bool false)], .tp [.ag [Bv []],EU [], .v (.bool false)],F7 g s 0 d2,BX ⟨Be ⟨Bt 3 _,tv⟩,Bt 1 _,ri,tv⟩,zR (s:= [0,1,2,3,4,5]) tA,rfl,d2,hd2,rfl⟩
 | some t=>
  rw [hq] at hT;have htl:=IN (Hw hq);refine zT tys_ok Tryz.func68 rfl rfl (Ag rfl) ?_;conv=>whnf
  refine ze9 [0,1,2,3,4,5] hT ?_;rintro _ _ ⟨rfl,d2,hd2,rfl⟩;conv=>whnf
  refine zU (Nat × Dk) (fun x=>([(0, .bp 0 0),(1,iv z),(4, .bp 6 0),(7, .bp 7 0),(9, .ow 8 x.1),(10,iv (x.1:Nat))],F7 g s 0 x.2 ++ ([.box 141 [.v (.slice none 0 0)], .box 141 [Bv t], .row 49 1 ((J0 g s F t z x.1).map GO)]:List AB))) (fun x=>(x.1:Int)<=g.d/\Gd (Aw g) x.2 F) (fun x=>g.d.toNat - x.1) (0,d2) ⟨by show ((0:Nat):Int)<=g.d;omega,hd2⟩
   ⟨_,_,zA _ _, [(9,49,1)],tA, [0,1,2,3,4,5,6,7,8],tA,tA,rfl,rfl,rfl,rfl,rfl⟩ ?_
  rintro⟨k,d1⟩ ⟨hk,hd1⟩;simp only at hk hd1;conv=>whnf
  refine A8 (fun h6=>?_) (fun h6=>?_) <;> (repeat rw [Ac] at h6) <;> conv=>whnf
  ·have hk1:(J0 g s F t z k).map GO ++ [GO (G6 g s F t z (k:Nat))]=(J0 g s F t z (k+1)).map GO:=by simp [J0,Bm]
   have h1:=Sx g s d1 F t z (k:Nat) hg hl ha hd1 hF htl hz (by omega);repeat' (refine zY ?_;conv=>whnf)
   refine ze9 [0,1,2,3,4,5] h1 ?_;rintro _ _ ⟨rfl,d3,hd3,rfl⟩;refine⟨rfl,?_⟩;refine⟨⟨by simp [J0],by omega⟩,?_⟩;conv=>whnf
   exact⟨(k+1,d3),⟨by show ((k+1:Nat):Int)<=g.d;omega,hd3⟩,by show g.d.toNat - (k+1)<g.d.toNat - k;omega,zR (s:= [0,1,2,3,4,5,6,7,8]) ⟨⟨rfl,rfl,rfl,rfl,rfl,AL (by omega),tv⟩,⟨rfl,rfl,rfl,rfl,rfl,rfl,rfl,rfl,congrArg (fun es=>some (AB.row 49 1 es)) hk1,tv⟩,rfl,rfl,rfl,rfl,rfl⟩⟩
  ·have ek:k=g.d.toNat:=by omega
   subst ek;have hlen:(Cx g s F t z).length=g.d.toNat+1:=by simp [Cx,J0]
   have hrow:(J0 g s F t z g.d.toNat).map GO ++ [GO (G6 g s F t z (-1))]=(Cx g s F t z).map GO:=by simp [Cx]
   have h1:=Sx g s d1 F t z (-1) hg hl ha hd1 hF htl hz (by omega);refine ze9 [0,1,2,3,4,5] h1 ?_;rintro _ _ ⟨rfl,d3,hd3,rfl⟩;refine⟨rfl,?_⟩;refine⟨⟨by simp [J0],by omega⟩,?_⟩;conv=>whnf
   apply zV (32) tys_ok mixed (.o [0,1,2,3,4] (.two 5 (.o [6,7,8,9] .fin) 7 (.o [8,5,6,9] .fin))) (by kernel_rfl);refine Ad ?_ ?_;conv=>whnf
   try (refine tS ?_;conv=>whnf)
   rotate_left 1;conv=>whnf
   try (refine tS ?_;conv=>whnf)
   rotate_left 1;all_goals
    conv=>whnf
    exact⟨.tp [.ag [Bv t], .ow 8 (Cx g s F t z).length, .v (.bool true)], .tp [.ag [Bv t],EU (Cx g s F t z), .v (.bool true)],F7 g s 0 d3,BX (m:= [.ag [Bv t], .ow 8 (Cx g s F t z).length, .v (.bool true)]) ⟨ri,by rw [hlen];exact fun _ _ h=>h,ri,tv⟩,zI (zQ (ConvF.sealTp 0 8 (es:=(Cx g s F t z).map GO) (by rw [Aa];rfl) (congrArg (fun es=>some (AB.row 49 1 es)) hrow)) (zL 0 rfl (BX (m:= [.ag [Bv t],EU (Cx g s F t z), .v (.bool true)]) ⟨ri,DQ (Aa _) rfl,ri,tv⟩))) (s:= [0,1,2,3,4,5]) tA,rfl,d3,hd3,rfl⟩
end
end Go.Proofs.YtkolckdakddggaaGreatDoor.A
