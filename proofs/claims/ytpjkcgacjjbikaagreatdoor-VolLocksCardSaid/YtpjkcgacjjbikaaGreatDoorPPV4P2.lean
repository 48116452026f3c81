/-
Several texts in one.
-/
import Derived.Test.YtpjkcgacjjbikaaGreatDoorPPV4P1
import Derived.Lib.MapLaws
import Derived.Laws.Cover4
import Derived.Lib.AppendStr
import Derived.Laws.IdiomStrings
import Derived.RangeFuncNested
import Derived.RangeFuncBound
import Derived.RangeFuncCalls
import Derived.RangeFuncLeaves
import Derived.RangeFuncBox
import Derived.TacticsIn
import Derived.Shelf.Abstract
import Derived.Shelf.RegionOpen
import Derived.OwnWalkIn
import Derived.TacticsInMore
import Derived.LoopNIn
import Derived.LoopIn
set_option linter.defProp false
set_option maxRecDepth 100000
set_option maxHeartbeats 8000000
set_option linter.unusedSimpArgs false
set_option linter.unusedVariables false
set_option linter.deprecated false
namespace Go.Proofs.YtpjkcgacjjbikaaGreatDoor.A
section
open Go.RowKit
def Nk {α:Type} (p:α->Bool) (l:List α):Int:=if l.any p then ((l.findIdx p:Nat):Int) else -1
theorem Er {α:Type} {p:α->Bool} {l:List α} {k:Nat} {d:α} (hk:k<l.length) (h:(l.take k).any p=false) (hp:p (l.getD k d)=true):Nk p l=k:=by
 rw [Ab,Af hk] at hp;have hp:p l[k]=true:=hp;unfold Nk;rw [CT.2 ⟨l[k],Cu hk,hp⟩];simp only [if_true,Int.natCast_inj];refine(List.findIdx_eq hk).2 ⟨hp,fun j hj=>?_⟩;rw [List.any_eq_false] at h;have:=h l[j] (List.mem_take_iff_getElem.2 ⟨j,by omega,rfl⟩);simpa using this
theorem Dz {α:Type} {p:α->Bool} {l:List α} (h:l.any p=false):Nk p l = -1:=by
 unfold Nk;rw [h];try rfl
theorem FQ {α:Type} {p:α->Bool} {l:List α}:decide (0<=Nk p l)=l.any p:=by
 unfold Nk;cases h:l.any p with
 | true=>simp
 | false=>rfl
theorem Vu {α:Type} {p:α->Bool} {l:List α} (h:l.any p=true):Nk p l=(l.findIdx p:Nat)/\l.findIdx p<l.length:=by
 refine⟨by unfold Nk;rw [h];try rfl,?_⟩;obtain⟨x,hx,hp⟩:=CT.1 h;exact List.findIdx_lt_length_of_exists ⟨x,hx,hp⟩
theorem Cj {α:Type} {p:α->Bool} {l:List α} {k:Nat} {d:α} (hk:k<l.length) (h:(l.take k).any p=false) (hp:p (l.getD k d)=false):(l.take (k+1)).any p=false:=by
 rw [AM hk,List.any_append,h];rw [Ab,Af hk] at hp;simpa using hp
def Dr (x:Ent):List AV:= [iv x.stamp,iv x.sum, .v (.bool x.lost)]
def BX (l:List Ent):AV:= .sl 3 l.length fun i=>Dr (l.getD i ⟨0,0,false⟩)
theorem WG (n:Int):Fn Tryz.prog 266 [iv n] fun r=>r = .v (.bool (I0 n)):=by
 refine zT Tryz.func266 rfl ?_;conv=>whnf
 repeat' (first | (refine Ak (fun h=>?_) (fun h=>?_) <;> (try simp at h) <;> conv=>whnf) | (refine zH tys_ok mixed (by kernel_rfl) ?_;conv=>whnf) | (refine zZ ?_;conv=>whnf) | (refine Ai (by omega) ?_;conv=>whnf))
 all_goals exact⟨_,ri,by simp [I0,Dv, *] <;> omega⟩
theorem Um (x:Ent):Fn Tryz.prog 265 [.ag (Dr x)] fun r=>r = .v (.bool (!Em x)):=by
 refine zT Tryz.func265 rfl ?_;conv=>whnf
 repeat' (first | (refine Ak (fun h=>?_) (fun h=>?_) <;> (try simp at h) <;> conv=>whnf) | (refine zH tys_ok mixed (by kernel_rfl) ?_;conv=>whnf) | (refine zZ ?_;conv=>whnf) | (refine zY (WG _) ?_;conv=>whnf) | (refine Ai (by omega) ?_;conv=>whnf))
 all_goals exact⟨_,ri,by simp [Em, *]⟩
theorem Zk (l:List Ent)  (hl:l.length<=1000000):Fn Tryz.prog 328 [BX l, .v (.func (.func 265) #[] #[])] fun r=>r = iv (Nk (fun x=>!Em x) l):=by
 refine zT Tryz.func328 rfl ?_;conv=>whnf
 refine zP Nat (fun k=>([(0,BX l),(1, .v (.func (.func 265) #[] #[])),(7,iv l.length),(8,iv k)], [])) (fun k=>k<=l.length/\(l.take k).any (fun x=>!Em x)=false) (fun k=>l.length - k) 0 ⟨Aj _,by simp⟩ ⟨[],tv,tA,tv,rfl,rfl,rfl⟩ ?_;rintro k ⟨hk,hI⟩;conv=>whnf
 refine Ak (fun h2=>?_) (fun h2=>?_) <;> simp at h2 <;> conv=>whnf
 ·refine⟨by first | omega | (refine⟨rfl,?_,?_⟩ <;> first | omega | (simp only [Aa];done) | (simp only [Aa];omega)) | (simp only [Aa];omega),?_⟩;conv=>whnf
  refine zY (Um (l.getD k ⟨0,0,false⟩)) ?_;conv=>whnf
  refine Ak (fun h3=>?_) (fun h3=>?_) <;> conv=>whnf
  ·exact⟨_,ri,by rw [Er (d:=⟨0,0,false⟩) h2 hI (by first | exact h3 | (rw [Ac] at h3;exact h3) | simpa using h3)]⟩
  ·refine⟨k+1,⟨by omega,Cj (d:=⟨0,0,false⟩) h2 hI (by first | exact h3 | (rw [Ac] at h3;exact h3) | simpa using h3)⟩,by omega, [],tv,⟨rfl,rfl,rfl,AT (by omega),tv⟩,tv,rfl,rfl,rfl⟩
 ·exact⟨_,ri,by rw [At h2] at hI;rw [Dz hI]⟩
theorem Zl (l:List Ent)  (hl:l.length<=1000000):Fn Tryz.prog 267 [BX l, .v (.func (.func 265) #[] #[])] fun r=>r = .v (.bool (l.any (fun x=>!Em x))):=by
 refine zT Tryz.func267 rfl ?_;conv=>whnf
 refine zY (Zk l  hl) ?_;exact⟨_,ri,by rw [FQ]⟩

theorem MS (g:Geo) (l:List Ent) (hl:l.length<=1000000):Fn Tryz.prog 188 [.ag (Bm g), .ag [BX l]] fun r=>r = .v (Ew (If g l)):=by
 have hG:Fn Tryz.prog 118 [.ag (Bm g)] fun r=>r = .v (Ew (Bq g)):=Ct g.z g.d g.sp g.sl g.an
 cases hg:Bq g with
 | false=>
  rw [hg] at hG;rw [show If g l=false by simp [If,hg]];refine zT Tryz.func188 rfl ?_;conv=>whnf
  refine zY hG ?_;exact⟨_,ri,rfl⟩
 | true=>
  rw [hg] at hG;obtain⟨h1,h2,h3,h4,h5⟩:=A2.1 hg;have hw:IntKind.i64.wrap (g.d+1)=g.d+1:=IntWalk.i64_in _ (by omega);by_cases hn:(l.length:Int)=g.d+1
  ·have hc:=Zl l hl;cases ha:l.any (fun x=>!Em x) with
   | true=>
    rw [ha] at hc;rw [show If g l=false by rw [If];simp only [Bool.and_eq_false_iff];refine .inl (.inr ?_);rw [Bx,ha];try rfl];refine zT Tryz.func188 rfl ?_;conv=>whnf
    refine zY hG ?_;conv=>whnf
    rw [hw,show ((l.length:Int) != g.d+1)=false by rw [hn];exact bne_self_eq_false _];conv=>whnf
    refine zY hc ?_;exact⟨_,ri,rfl⟩
   | false=>
    rw [ha] at hc;have hal:l.all Em=true:=by rw [Bx,ha];try rfl
    have hlo:II l g.d.toNat=(l.getD g.d.toNat ⟨0,0,false⟩).lost:=by
     rw [II,Ab,Af (by omega)];try rfl
    rw [show If g l = !(l.getD g.d.toNat ⟨0,0,false⟩).lost by rw [If,hg,hal,decide_eq_true hn,hlo];try rfl];refine zT Tryz.func188 rfl ?_;conv=>whnf
    refine zY hG ?_;conv=>whnf
    rw [hw,show ((l.length:Int) != g.d+1)=false by rw [hn];exact bne_self_eq_false _];conv=>whnf
    refine zY hc ?_;refine⟨by omega,?_⟩;conv=>whnf
    refine Ak (fun h=>?_) (fun h=>?_) <;> conv=>whnf
    ·exact⟨_,ri,by rw [h];try rfl⟩
    ·exact⟨_,ri,by rw [h];try rfl⟩
  ·rw [show If g l=false by simp [If,hn]];refine zT Tryz.func188 rfl ?_;conv=>whnf
   refine zY hG ?_;conv=>whnf
   rw [hw,show ((l.length:Int) != g.d+1)=true from bne_iff_ne.2 hn];exact⟨_,ri,rfl⟩
theorem JI (g:Geo) (l:List Ent) (hl:l.length<=1000):Fn Tryz.prog 105 [.ag (Bm g), .ag [BX l]] fun r=>r = .tp [bA (if If g l then Di l else []), .v (Ew (If g l))]:=by
 have hc:=MS g l (by omega);cases hok:If g l with
 | false=>
  rw [hok] at hc;refine zT Tryz.func105 rfl ?_;conv=>whnf
  refine zY hc ?_;exact⟨.tp [bA [],iv 1],fun c v h=>by
   simp only [Rd,RdL] at h |-
   obtain⟨xs,rfl,y,ys,rfl,rfl,h⟩:=h;exact⟨_,rfl,_,_,rfl,Bv 1 (fun i=> [.v (.int .u8 (([]:List UInt8).getD i 0).toNat)]) c (.slice none 0 0) (by simp [Rd]),h⟩,rfl⟩
 | true=>
  rw [hok] at hc;have hall:∀ x∈l,Em x=true:=by
   simp only [If,Ad] at hok;exact fun x hx=>Av.1 hok.1.2 x hx
  refine zT Tryz.func105 rfl ?_;conv=>whnf
  refine zY hc ?_;conv=>whnf
  refine zt Nat (fun k=>([(7, .ow 2 (Di (l.take k)).length),(20,BX l),(21,iv l.length),(22,iv k)], [.dead, .dead, .row 5 1 ((Di (l.take k)).map EI)])) (fun k=>k<=l.length) (fun k=>l.length - k) 0 (Aj _) (zL ⟨[(7,5,1)],tA,tA,tA,rfl,rfl,rfl⟩) ?_;rintro k hk;conv=>whnf
  refine AS (fun h2=>?_) (fun h2=>?_) <;> (repeat rw [Ac] at h2) <;> conv=>whnf
  ·have hk':k<l.length:=by omega
   have hx:=hall _ (AC (d:=⟨0,0,false⟩) hk');have hst:=SU hk';have e9:l.getD k ⟨0,0,false⟩=l[k]:=by rw [Ab,Af hk'];try rfl
   rw [<-e9] at hst;have hr:=Jo [(l.getD k ⟨0,0,false⟩).stamp,(l.getD k ⟨0,0,false⟩).sum,CX (l.getD k ⟨0,0,false⟩).lost] [4,4,1] rfl (by show 3<=1000;decide) (VS hx);refine zZ ?_;refine⟨by omega,?_⟩;conv=>whnf
   rw [Ac];refine zZ ?_;conv=>whnf
   refine Ak (fun hx2=>?_) (fun hx2=>?_) <;> conv=>whnf
   ·rw [hx2] at hr;refine zS hr.go ?_;refine⟨rfl,?_⟩;refine⟨rfl,?_⟩;conv=>whnf
    refine zV [iA [(l.getD k ⟨0,0,false⟩).stamp,(l.getD k ⟨0,0,false⟩).sum,CX true],iA [4,4,1]] ⟨(Bi (l:= [(l.getD k ⟨0,0,false⟩).stamp,(l.getD k ⟨0,0,false⟩).sum,CX true]) rfl).1,(Bi (l:= [4,4,1]) rfl).1,tv⟩ ?_;refine zX hr rfl ?_;rintro _ _ ⟨rfl,rfl⟩;refine⟨by simp,?_⟩;conv=>whnf
    refine Ai ⟨by simp,by rw [EZ,tot_rowB [(l.getD k ⟨0,0,false⟩).stamp,(l.getD k ⟨0,0,false⟩).sum,CX true] [4,4,1] rfl];simp [tot];omega⟩ ?_;conv=>whnf
    have he:JA (l.getD k ⟨0,0,false⟩)=rowB [(l.getD k ⟨0,0,false⟩).stamp,(l.getD k ⟨0,0,false⟩).sum,CX true] [4,4,1]:=by rw [JA,hx2]
    refine⟨k+1,by omega,by omega,zL ⟨[],tv,⟨?_,rfl,rfl,AT (by omega),tv⟩,⟨?_,tv⟩,rfl,rfl,rfl⟩⟩
    ·rw [hst,he,Ah];try rfl
    ·rw [hst,he,A0]
   ·rw [hx2] at hr;refine zS hr.go ?_;refine⟨rfl,?_⟩;refine⟨rfl,?_⟩;conv=>whnf
    refine zV [iA [(l.getD k ⟨0,0,false⟩).stamp,(l.getD k ⟨0,0,false⟩).sum,CX false],iA [4,4,1]] ⟨(Bi (l:= [(l.getD k ⟨0,0,false⟩).stamp,(l.getD k ⟨0,0,false⟩).sum,CX false]) rfl).1,(Bi (l:= [4,4,1]) rfl).1,tv⟩ ?_;refine zX hr rfl ?_;rintro _ _ ⟨rfl,rfl⟩;refine⟨by simp,?_⟩;conv=>whnf
    refine Ai ⟨by simp,by rw [EZ,tot_rowB [(l.getD k ⟨0,0,false⟩).stamp,(l.getD k ⟨0,0,false⟩).sum,CX false] [4,4,1] rfl];simp [tot];omega⟩ ?_;conv=>whnf
    have he:JA (l.getD k ⟨0,0,false⟩)=rowB [(l.getD k ⟨0,0,false⟩).stamp,(l.getD k ⟨0,0,false⟩).sum,CX false] [4,4,1]:=by rw [JA,hx2]
    refine⟨k+1,by omega,by omega,zL ⟨[],tv,⟨?_,rfl,rfl,AT (by omega),tv⟩,⟨?_,tv⟩,rfl,rfl,rfl⟩⟩
    ·rw [hst,he,Ah];try rfl
    ·rw [hst,he,A0]
  ·have hk2:k=l.length:=by omega
   subst hk2;rw [A6];refine⟨by simp,?_⟩;exact⟨.tp [bA (Di l),iv 0],fun c v h=>by
    simp only [Rd,RdL] at h |-
    obtain⟨xs,rfl,y,ys,rfl,h1,h⟩:=h;exact⟨_,rfl,y,ys,rfl,z7 (u:=y) rfl (fun i hi=>AP (f:=EI) (l:=Di l) (d:=0) hi) (by simp only [Rd];exact h1),h⟩,rfl⟩
theorem ConvH.sealBox {H:List AB} (j k:Nat) {t t':TypeId} {sz':Nat} {cs cs2:List AV} {es':List (List AV)} (hj:H[j]? = some (.box t cs)) (hk:H[k]? = some (.row t' sz' es'))
  (he:cs.map (AV.slIn k es'.length (.sl sz' es'.length fun i=>es'.getD i []))=cs2):ConvH H ((H.set k .dead).set j (.box t cs2)):=by
 intro w0 M0 c hs;subst he;have hjk:j≠k:=by rintro rfl;rw [hj] at hk;cases hk
 obtain⟨c1,e1,s1,x1,r1⟩:=hs.freeze hk;have hj1:(H.set k .dead)[j]? = some (.box t cs):=by rw [A4 (Ne.symm hjk)];exact hj
 refine⟨c1,e1,s1.recell hj1 rfl ?_,x1⟩;rintro⟨g,xs,h1,h2,_,h4⟩;obtain⟨g0,ys,q1,q2,q3,_⟩:=hs.blk j _ hj;have hg:=x1.box j _ (hs.klt hj) q1;rw [h1] at hg;injection hg with hg
 injection hg with hg
 injection hg with hg
 subst hg;rw [e1,q2] at h2;injection h2 with h2
 have hxy:ys.toArray=xs.toArray:=by injection h2
 have hxy:ys=xs:=by simpa using hxy
 subst hxy;refine⟨g,ys,h1,by rw [e1];exact q2,?_,h4⟩;have h8:∀ (l:List AV) (us:List Value),RdL l c us->RdL (l.map (AV.slIn k es'.length (.sl sz' es'.length fun i=>es'.getD i []))) c1 us:=by
  intro l;induction l with
  | nil=>intro us h;simp only [RdL] at h;subst h;simp [RdL]
  | cons x l ih=>
   intro us h;simp only [RdL] at h;obtain⟨u,vs,rfl,a1,a2⟩:=h;simp only [A5,RdL];refine⟨u,vs,rfl,?_,ih vs a2⟩;unfold AV.slIn;split
   ·rename_i i n;split
    ·rename_i hik;subst hik;split
     ·rename_i hn;subst hn;exact r1 u a1
     ·simp [Rd]
    ·exact Rd.ext _ x1 a1
   ·exact Rd.ext _ x1 a1
 exact h8 _ _ q3
def zp:=@ConvH.sealBox
def D5 (g:Geo) (b:List UInt8):Int:=if Bq g=false then 1 else if (CV g b).isSome then 0 else 4
theorem KT (e:Int) (c:Ctx) (v:Value) (h:Rd (.tp [.ag [.v (.slice none 0 0)],iv e]) c v):Rd (.tp [.ag [BX []],iv e]) c v:=by
 have e1:SubL [.ag [.v (.slice none 0 0)],iv e] [.ag [BX []],iv e]:=⟨Bg ⟨fun c u h=>Bv 3 _ c u h,tv⟩,ri,tv⟩;simp only [Rd] at h |-
 obtain⟨xs,rfl,h⟩:=h;exact⟨_,rfl,e1.rdl (c:=c) (xs:=xs) (by simpa only [RdL,Rd] using h)⟩
def av (g:Geo) (b:List UInt8) (k:Nat):Bool->List AB
 | false=> [.box 24 (Bm g), .box 145 [.v (.slice none 0 0)], .box 145 [.ow 3 k], .row 189 3 ((entsOf k b).map Dr)]
 | true=> [.box 24 (Bm g), .box 145 [.v (.slice none 0 0)], .box 145 [.sl 3 ((entsOf k b).map Dr).length fun i=>((entsOf k b).map Dr).getD i []], .dead]
theorem Jg (g:Geo) (b:List UInt8) (hl:b.length<=100000):Fn Tryz.prog 160 [.ag (Bm g),bA b] fun r=>r = .tp [.ag [BX (if Bq g then (CV g b).getD [] else [])],iv (D5 g b)]:=by
 have hG:Fn Tryz.prog 118 [.ag (Bm g)] fun r=>r = .v (Ew (Bq g)):=Ct g.z g.d g.sp g.sl g.an
 cases hg:Bq g with
 | false=>
  rw [hg] at hG;rw [show D5 g b=1 by rw [D5,if_pos hg]];refine zT Tryz.func160 rfl ?_;conv=>whnf
  refine zY hG ?_;exact⟨_,KT 1,rfl⟩
 | true=>
  rw [hg] at hG;obtain⟨h1,h2,h3,h4,h5⟩:=A2.1 hg;obtain⟨n,hn⟩:∃ n:Nat,g.d+1=n:=⟨(g.d+1).toNat,by omega⟩;have hnn:(g.d+1).toNat=n:=by omega
  have hw:IntKind.i64.wrap (g.d+1)=(n:Int):=by rw [IntWalk.i64_in _ (by omega),hn]
  by_cases hs:9*n<=b.length
  ·refine zT Tryz.func160 rfl ?_;conv=>whnf
   refine zY hG ?_;conv=>whnf
   refine zt (Nat × Bool) (fun s=>([(1,bA b),(2, .bp 0 0),(4, .bp 1 0),(5,iv 0),(6, .bp 2 0),(7,bA (b.drop (9*s.1))),(20,iv n),(21,iv s.1)],av g b s.1 s.2)) (fun s=>s.1<=n/\(s.2=false->s.1<n)/\(s.2=true->s.1=n)) (fun s=>n - s.1) (0,false) ⟨Aj _,fun _=>by show 0<n;omega,fun h=>by cases h⟩ (zL ⟨[(1002000,189,3)],tA,⟨rfl,rfl,rfl,rfl,rfl,rfl,congrArg (fun x=>AV.v (.int .i64 x)) hw,rfl,tv⟩,tA,rfl,rfl,rfl⟩) ?_;rintro⟨k,sd⟩ ⟨hk,hf,ht⟩;simp only at hk hf ht;cases sd with
   | false=>
    have hk1:=hf rfl;obtain⟨x,y,z,hxy,hen⟩:=UQ (b.drop (9*k));have hu:=EJ (b.drop (9*k)) [4,4,1] (by decide) (by rw [Al];omega) (by show 3<=1000;decide) (by rw [Al];show 9<=_;omega);rw [hxy] at hu;have hst:=entsOf_step k b;have hel:=entsOf_len k b;conv=>whnf
    refine AS (fun h6=>?_) (fun h6=>?_) <;> (repeat rw [Ac] at h6) <;> conv=>whnf
    ·refine zS hu.go ?_;refine⟨rfl,?_⟩;conv=>whnf
     refine zV [bA (b.drop (9*k)),iA [4,4,1]] ⟨ri,(Bi (l:= [4,4,1]) rfl).1,tv⟩ ?_;refine zX (hu) rfl ?_;rintro _ _ ⟨rfl,rfl⟩;conv=>whnf
     apply zf (0) tys_ok mixed (.o [0,1,2,3,4,5,6,7,8,9,10,11,12,13,14,15,16] .fin) [33,34,35,36,37,38,39,40,41,42,43,44,45,46,47,48] (by kernel_rfl)
     ·conv=>whnf
      try (first | (refine Ai ⟨by decide,by decide⟩ ?_;(conv=>whnf);refine Ai ⟨rfl,rfl,by decide⟩ ?_;(conv=>whnf)) | skip;conv=>whnf)
      try (refine tI ?_;conv=>whnf)
      try (first | (refine Ai ⟨by decide,by decide⟩ ?_;(conv=>whnf);refine Ai ⟨rfl,rfl,by decide⟩ ?_;(conv=>whnf)) | skip;conv=>whnf)
      try (refine tI ?_;conv=>whnf)
      try (first | (refine Ai ⟨by decide,by decide⟩ ?_;(conv=>whnf);refine Ai ⟨rfl,rfl,by decide⟩ ?_;(conv=>whnf)) | skip;conv=>whnf)
      try (refine tI ?_;conv=>whnf)
      try (first | (refine Ai ⟨by decide,by decide⟩ ?_;(conv=>whnf);refine Ai ⟨rfl,rfl,by decide⟩ ?_;(conv=>whnf)) | skip;conv=>whnf)
      try (refine tJ ?_;conv=>whnf)
      try (refine tK ?_;conv=>whnf)
      try (refine tS ?_;conv=>whnf)
      (skip)
      exact tA
     conv=>whnf
     have hes:(entsOf k b).map Dr ++ [[iv x,iv y, .v (.bool (z == 1))]]=(entsOf (k+1) b).map Dr:=by rw [hst,A0,hen];try rfl
     have hdr:bA ((b.drop (9*k)).drop 9)=bA (b.drop (9*(k+1))):=by rw [AZ];try rfl
     by_cases hlast:k+1<n
     ·exact⟨(k+1,false),⟨by show k+1<=n;omega,fun _=>hlast,fun h=>by cases h⟩,by show n - (k+1)<n - k;omega,zL ⟨[],tv,⟨rfl,rfl,rfl,rfl,rfl,hdr,rfl,AT (by omega),tv⟩,⟨rfl,rfl,rfl,congrArg (AB.row _ _) hes.symm,tv⟩,rfl,rfl,rfl⟩⟩
     ·refine⟨(k+1,true),⟨by show k+1<=n;omega,(fun h=>by cases h),fun _=>by show k+1=n;omega⟩,by show n - (k+1)<n - k;omega,_,zp 2 3 (es':=(entsOf (k+1) b).map Dr) (cs2:= [.sl 3 ((entsOf (k+1) b).map Dr).length fun i=>((entsOf (k+1) b).map Dr).getD i []]) rfl (congrArg (fun e=>some (AB.row _ _ e)) hes) ?_, [],tv,⟨rfl,rfl,rfl,rfl,rfl,hdr,rfl,AT (by omega),tv⟩,tA,rfl,rfl,rfl⟩;have hel2:k+1=((entsOf (k+1) b).map Dr).length:=by rw [Aa,entsOf_len]
      show [AV.slIn 3 _ _ (.ow 3 (k+1))]=_;rw [AV.slIn,if_pos rfl,if_pos hel2]
    ·exfalso;omega
   | true=>
    have hk1:=ht rfl;subst hk1;have hlen:=entsOf_len k b;have esub:∀ (c:Ctx) (u:Value),Rd (.sl 3 ((entsOf k b).map Dr).length fun i=>((entsOf k b).map Dr).getD i []) c u->Rd (BX (entsOf k b)) c u:=fun c u h=>
     z7 (by rw [Aa]) (fun i hi=>AP (f:=Dr) (d:=⟨0,0,false⟩) (by rw [Aa] at hi;exact hi)) h
    have hb:=JI g (entsOf k b) (by omega);have hq:=J8 (Di (entsOf k b)) b;have hRR:CV g b=if If g (entsOf k b)=true/\Di (entsOf k b)=b then some (entsOf k b) else none:=by rw [CV,hnn]
    conv=>whnf
    refine AS (fun h6=>?_) (fun h6=>?_) <;> (repeat rw [Ac] at h6) <;> conv=>whnf
    ·exfalso;omega
    ·refine zV [.ag (Bm g), .ag [BX (entsOf k b)]] ⟨ri,Bg ⟨esub,tv⟩,tv⟩ ?_;cases hok:If g (entsOf k b) with
     | false=>
      rw [hok] at hb;have hN:CV g b=none:=by rw [hRR,if_neg (fun h=>by rw [hok] at h;cases h.1)]
      rw [show D5 g b=4 by rw [D5,if_neg (by rw [hg];decide),hN];try rfl,hN];refine zY hb ?_;exact⟨_,KT 4,rfl⟩
     | true=>
      rw [hok] at hb;by_cases he:Di (entsOf k b)=b
      ·have hN:CV g b=some (entsOf k b):=by rw [hRR,if_pos ⟨hok,he⟩]
       rw [show D5 g b=0 by rw [D5,if_neg (by rw [hg];decide),hN];try rfl,hN];rw [decide_eq_true he] at hq;refine zY hb ?_;conv=>whnf
       refine zY hq ?_;exact⟨.tp [.ag [BX (entsOf k b)],iv 0],fun c v h=>by
        have e1:SubL [.ag [.sl 3 ((entsOf k b).map Dr).length fun i=>((entsOf k b).map Dr).getD i []],iv 0] [.ag [BX (entsOf k b)],iv 0]:=⟨Bg ⟨esub,tv⟩,ri,tv⟩;simp only [Rd] at h |-
        obtain⟨xs,rfl,h⟩:=h;exact⟨_,rfl,e1.rdl (c:=c) (xs:=xs) (by simpa only [RdL,Rd] using h)⟩,rfl⟩
      ·have hN:CV g b=none:=by rw [hRR,if_neg (fun h=>he h.2)]
       rw [show D5 g b=4 by rw [D5,if_neg (by rw [hg];decide),hN];try rfl,hN];rw [decide_eq_false he] at hq;refine zY hb ?_;conv=>whnf
       refine zY hq ?_;exact⟨_,KT 4,rfl⟩
  ·have hN:CV g b=none:=Px (by rw [hnn];omega);rw [show D5 g b=4 by rw [D5,if_neg (by rw [hg];decide),hN];try rfl,hN];refine zT Tryz.func160 rfl ?_;conv=>whnf
   refine zY hG ?_;conv=>whnf
   refine zt Nat (fun k=>([(1,bA b),(2, .bp 0 0),(4, .bp 1 0),(5,iv 0),(6, .bp 2 0),(7,bA (b.drop (9*k))),(20,iv n),(21,iv k)],av g b k false)) (fun k=>k<=n/\9*k<=b.length) (fun k=>n - k) 0 ⟨Aj _,Aj _⟩ (zL ⟨[(1002000,189,3)],tA,⟨rfl,rfl,rfl,rfl,rfl,rfl,congrArg (fun x=>AV.v (.int .i64 x)) hw,rfl,tv⟩,tA,rfl,rfl,rfl⟩) ?_;rintro k ⟨hk,hkb⟩;conv=>whnf
   refine AS (fun h6=>?_) (fun h6=>?_) <;> (repeat rw [Ac] at h6) <;> conv=>whnf
   ·by_cases h9:9*(k+1)<=b.length
    ·obtain⟨x,y,z,hxy,hen⟩:=UQ (b.drop (9*k));have hu:=EJ (b.drop (9*k)) [4,4,1] (by decide) (by rw [Al];omega) (by show 3<=1000;decide) (by rw [Al];show 9<=_;omega);rw [hxy] at hu;have hst:=entsOf_step k b;have hel:=entsOf_len k b;refine zS hu.go ?_;refine⟨rfl,?_⟩;conv=>whnf
     refine zV [bA (b.drop (9*k)),iA [4,4,1]] ⟨ri,(Bi (l:= [4,4,1]) rfl).1,tv⟩ ?_;refine zX (hu) rfl ?_;rintro _ _ ⟨rfl,rfl⟩;conv=>whnf
     apply zf (0) tys_ok mixed (.o [0,1,2,3,4,5,6,7,8,9,10,11,12,13,14,15,16] .fin) [33,34,35,36,37,38,39,40,41,42,43,44,45,46,47,48] (by kernel_rfl)
     ·conv=>whnf
      try (first | (refine Ai ⟨by decide,by decide⟩ ?_;(conv=>whnf);refine Ai ⟨rfl,rfl,by decide⟩ ?_;(conv=>whnf)) | skip;conv=>whnf)
      try (refine tI ?_;conv=>whnf)
      try (first | (refine Ai ⟨by decide,by decide⟩ ?_;(conv=>whnf);refine Ai ⟨rfl,rfl,by decide⟩ ?_;(conv=>whnf)) | skip;conv=>whnf)
      try (refine tI ?_;conv=>whnf)
      try (first | (refine Ai ⟨by decide,by decide⟩ ?_;(conv=>whnf);refine Ai ⟨rfl,rfl,by decide⟩ ?_;(conv=>whnf)) | skip;conv=>whnf)
      try (refine tI ?_;conv=>whnf)
      try (first | (refine Ai ⟨by decide,by decide⟩ ?_;(conv=>whnf);refine Ai ⟨rfl,rfl,by decide⟩ ?_;(conv=>whnf)) | skip;conv=>whnf)
      try (refine tJ ?_;conv=>whnf)
      try (refine tK ?_;conv=>whnf)
      try (refine tS ?_;conv=>whnf)
      (skip)
      exact tA
     conv=>whnf
     have hes:(entsOf k b).map Dr ++ [[iv x,iv y, .v (.bool (z == 1))]]=(entsOf (k+1) b).map Dr:=by rw [hst,A0,hen];try rfl
     have hdr:bA ((b.drop (9*k)).drop 9)=bA (b.drop (9*(k+1))):=by rw [AZ];try rfl
     exact⟨k+1,⟨by omega,h9⟩,by omega,zL ⟨[],tv,⟨rfl,rfl,rfl,rfl,rfl,hdr,rfl,AT (by omega),tv⟩,⟨rfl,rfl,rfl,congrArg (AB.row _ _) hes.symm,tv⟩,rfl,rfl,rfl⟩⟩
    ·have hu:=He (b.drop (9*k)) [4,4,1] (by decide) (by rw [Al];omega) (by show 3<=1000;decide) (by rw [Al];show _<9;omega);refine zS hu.go ?_;refine⟨rfl,?_⟩;conv=>whnf
     refine zV [bA (b.drop (9*k)),iA [4,4,1]] ⟨ri,(Bi (l:= [4,4,1]) rfl).1,tv⟩ ?_;refine zY hu ?_;exact⟨_,KT 4,rfl⟩
   ·exfalso;have:k=n:=by omega
    subst this;omega
theorem Ka (g:Geo) (x:Img) (hl:x.bytes.length<=100000):Fn Tryz.prog 148 [.ag (Bm g), .ag (GV x)] fun r=>r = .v (Ew (BW g x)):=by
 have hG:Fn Tryz.prog 118 [.ag (Bm g)] fun r=>r = .v (Ew (Bq g)):=Ct g.z g.d g.sp g.sl g.an
 have ht:=Jg g x.bytes hl;cases hg:Bq g with
 | false=>
  rw [hg] at hG;rw [show BW g x=false by simp [BW,hg]];refine zT Tryz.func148 rfl ?_;conv=>whnf
  refine zY hG ?_;exact⟨_,ri,rfl⟩
 | true=>
  rw [hg] at hG ht;obtain⟨h1,h2,h3,h4,h5⟩:=A2.1 hg;have hwz:IntKind.i64.wrap (g.z - 1)=g.z - 1:=IntWalk.i64_in _ (by omega);have hwd:IntKind.i64.wrap (g.d - 1)=g.d - 1:=IntWalk.i64_in _ (by omega);have hi1:=IB x.zone 0 (g.z - 1);have hi2:=IB x.what (-1) (g.d - 1);have hE:BW g x=(Dv x.zone 0 (g.z - 1)&&(if x.what=255 then (CV g x.bytes).isSome else Dv x.what (-1) (g.d - 1)&&decide (x.bytes.length=8))):=by rw [BW,hg];try rfl
  rw [hE];cases hz:Dv x.zone 0 (g.z - 1) with
  | false=>
   rw [hz] at hi1;refine zT Tryz.func148 rfl ?_;conv=>whnf
   refine zY hG ?_;conv=>whnf
   rw [hwz];refine zY hi1 ?_;exact⟨_,ri,rfl⟩
  | true=>
   rw [hz] at hi1;by_cases hw:x.what=255
   ·rw [if_pos hw];cases hr:CV g x.bytes with
    | none=>
     rw [show D5 g x.bytes=4 by rw [D5,if_neg (by rw [hg];decide),hr];try rfl] at ht;refine zT Tryz.func148 rfl ?_;conv=>whnf
     refine zY hG ?_;conv=>whnf
     rw [hwz];refine zY hi1 ?_;conv=>whnf
     refine AS (fun h=>?_) (fun h=>?_) <;> conv=>whnf
     ·refine zY ht ?_;exact⟨_,ri,rfl⟩
     ·exact absurd hw h
    | some l=>
     rw [show D5 g x.bytes=0 by rw [D5,if_neg (by rw [hg];decide),hr];try rfl] at ht;refine zT Tryz.func148 rfl ?_;conv=>whnf
     refine zY hG ?_;conv=>whnf
     rw [hwz];refine zY hi1 ?_;conv=>whnf
     refine AS (fun h=>?_) (fun h=>?_) <;> conv=>whnf
     ·refine zY ht ?_;exact⟨_,ri,rfl⟩
     ·exact absurd hw h
   ·rw [if_neg hw];cases hh:Dv x.what (-1) (g.d - 1) with
    | false=>
     rw [hh] at hi2;refine zT Tryz.func148 rfl ?_;conv=>whnf
     refine zY hG ?_;conv=>whnf
     rw [hwz];refine zY hi1 ?_;conv=>whnf
     refine AS (fun h=>?_) (fun h=>?_) <;> conv=>whnf
     ·exact absurd h hw
     rw [hwd];refine zY hi2 ?_;exact⟨_,ri,rfl⟩
    | true=>
     rw [hh] at hi2;refine zT Tryz.func148 rfl ?_;conv=>whnf
     refine zY hG ?_;conv=>whnf
     rw [hwz];refine zY hi1 ?_;conv=>whnf
     refine AS (fun h=>?_) (fun h=>?_) <;> conv=>whnf
     ·exact absurd h hw
     rw [hwd];refine zY hi2 ?_;conv=>whnf
     refine AS (fun h=>?_) (fun h=>?_) <;> conv=>whnf
     ·exact⟨_,ri,by rw [decide_eq_false (by omega)];try rfl⟩
     ·exact⟨_,ri,by rw [decide_eq_true (by omega)];try rfl⟩
theorem Xk (x:Img):Fn Tryz.prog 324 [.ag (GV x)] fun r=>r = .v (.bool (I1 x)):=by
 refine zT Tryz.func324 rfl ?_;conv=>whnf
 repeat' (first | (refine Ak (fun h=>?_) (fun h=>?_) <;> (try simp at h) <;> conv=>whnf) | (refine zH tys_ok mixed (by kernel_rfl) ?_;conv=>whnf) | (refine zZ ?_;conv=>whnf) | (refine Ai (by omega) ?_;conv=>whnf))
 all_goals exact⟨_,ri,by simp [I1, *]⟩
def GY (r:Rc):AV:=if r.kind=0 then .v .nilIface else if r.kind=1 then .ic 368 [.ag (GV r.img)] else if r.kind=2 then .ic 365 [.ag []] else .v .nilIface
theorem Uf (g:Geo) (r:Rc) (hl:r.img.bytes.length<=100000):Fn Tryz.prog 261 [.ag (Bm g), .ag (Hq r)] fun x=>x = .tp [GY r, .v (.bool (Fg g r))]:=by
 have hi:=Ka g r.img hl;have hn:=Xk r.img;have hw:Dv r.of_ 2 30=true->IntKind.i64.wrap (r.of_ - 2)=r.of_ - 2/\IntKind.i64.wrap (r.of_ - 1)=r.of_ - 1:=fun h=>by
  have:=AK.1 h;rw [IntKind.wrap_i64,IntKind.wrap_i64];omega
 by_cases h0:r.kind=0
 ·rw [show GY r = .v .nilIface by rw [GY,if_pos h0],Fg,if_pos h0];refine zT Tryz.func261 rfl ?_;conv=>whnf
  repeat' (first | (refine Ak (fun h=>?_) (fun h=>?_) <;> (try simp at h) <;> conv=>whnf) | (refine zH tys_ok mixed (by kernel_rfl) ?_;conv=>whnf) | (refine zZ ?_;conv=>whnf) | (refine zY hn ?_;conv=>whnf) | (refine Ai (by omega) ?_;conv=>whnf))
  all_goals first | (exfalso;simp_all;done) | (refine⟨_,fun _ _ h=>h,?_⟩;simp [*];done)
 by_cases h1:r.kind=1
 ·rw [show GY r = .ic 368 [.ag (GV r.img)] by rw [GY,if_neg h0,if_pos h1],Fg,if_neg h0,if_pos h1];cases hI:BW g r.img <;> rw [hI] at hi;all_goals
   refine zT Tryz.func261 rfl ?_;conv=>whnf
   repeat' (first | (refine Ak (fun h=>?_) (fun h=>?_) <;> (try simp at h) <;> conv=>whnf) | (refine zH tys_ok mixed (by kernel_rfl) ?_;conv=>whnf) | (refine zZ ?_;conv=>whnf) | (refine zY (IB _ _ _) ?_;conv=>whnf) | (refine zY hi ?_;conv=>whnf) | (refine Ai (by omega) ?_;conv=>whnf))
   all_goals first | (exfalso;simp_all;done) | (refine⟨.tp [.ic 368 [.ag (GV r.img)], .v (.bool _)],fun _ _ h=>h,?_⟩;simp_all [Iz];done) | trace_state
 by_cases h2:r.kind=2
 ·rw [show GY r = .ic 365 [.ag []] by rw [GY,if_neg h0,if_neg h1,if_pos h2],Fg,if_neg h0,if_neg h1,if_pos h2];refine zT Tryz.func261 rfl ?_;conv=>whnf
  repeat' (first | (refine Ak (fun h=>?_) (fun h=>?_) <;> (try simp at h) <;> conv=>whnf) | (refine zH tys_ok mixed (by kernel_rfl) ?_;conv=>whnf) | (refine zZ ?_;conv=>whnf) | (refine zY (IB _ _ _) ?_;conv=>whnf) | (refine zY hn ?_;conv=>whnf) | (refine Ai (by omega) ?_;conv=>whnf))
  all_goals first | (exfalso;simp_all;done) | (refine⟨.tp [.ic 365 [.ag []], .v (.bool _)],fun _ _ h=>h,?_⟩;simp_all [Iz];done) | trace_state
 ·rw [show GY r = .v .nilIface by rw [GY,if_neg h0,if_neg h1,if_neg h2],Fg,if_neg h0,if_neg h1,if_neg h2];refine zT Tryz.func261 rfl ?_;conv=>whnf
  repeat' (first | (refine Ak (fun h=>?_) (fun h=>?_) <;> (try simp at h) <;> conv=>whnf) | (refine zH tys_ok mixed (by kernel_rfl) ?_;conv=>whnf) | (refine zZ ?_;conv=>whnf) | (refine zY (IB _ _ _) ?_;conv=>whnf) | (refine zY hn ?_;conv=>whnf) | (refine Ai (by omega) ?_;conv=>whnf))
  all_goals first | (exfalso;simp_all;done) | (refine⟨_,fun _ _ h=>h,?_⟩;rfl)
theorem sizes_own:ACalls Tryz.prog false 262 [] [] fun r H=>r = .ow 0 5/\H=[.row 3 1 (szR.map TB)]:=by
 refine zJ tys_ok Tryz.func262 rfl rfl (Ae rfl) ?_;exact⟨.ow 0 5,_, [.row 3 1 (szR.map TB)],fun _ _ h=>h,zL ⟨[],tv,tA,tA,rfl,rfl,rfl⟩,rfl,rfl⟩
theorem Ic (g:Geo) (r:Rc) (hl:r.img.bytes.length<=100000):Fn Tryz.prog 185 [.ag (Bm g), .ag (Hq r)] fun x=>x = .tp [bA (if EN g r then Et r else []), .v (Ew (EN g r))]:=by
 have hb:=Uf g r hl;have hG:Fn Tryz.prog 118 [.ag (Bm g)] fun r=>r = .v (Ew (Bq g)):=Ct g.z g.d g.sp g.sl g.an
 have no:∀ (c:Ctx) (v:Value),Rd (.tp [.v (.slice none 0 0),iv 1]) c v->Rd (.tp [bA [],iv 1]) c v:=fun c v h=>by
  simp only [Rd,RdL] at h |-
  obtain⟨xs,rfl,y,ys,rfl,rfl,h⟩:=h;exact⟨_,rfl,_,_,rfl,Bv 1 (fun i=> [.v (.int .u8 (([]:List UInt8).getD i 0).toNat)]) c (.slice none 0 0) (by simp [Rd]),h⟩
 have hk:GY r = .v .nilIface\/GY r = .ic 368 [.ag (GV r.img)]\/GY r = .ic 365 [.ag []]:=by
  unfold GY;split
  ·exact .inl rfl
  ·split
   ·exact .inr (.inl rfl)
   ·split
    ·exact .inr (.inr rfl)
    ·exact .inl rfl
 cases hok:EN g r with
 | false=>
  cases hg:Bq g with
  | false=>
   rw [hg] at hG;rcases hk with hk | hk | hk <;> rw [hk] at hb
   all_goals
    refine zT Tryz.func185 rfl ?_;conv=>whnf
    refine zY hb ?_;conv=>whnf
    refine zY hG ?_;exact⟨_,no,rfl⟩
  | true=>
   rw [hg] at hG;have hbo:Fg g r=false:=by simpa [EN,hg] using hok
   rw [hbo] at hb;rcases hk with hk | hk | hk <;> rw [hk] at hb
   all_goals
    refine zT Tryz.func185 rfl ?_;conv=>whnf
    refine zY hb ?_;conv=>whnf
    refine zY hG ?_;exact⟨_,no,rfl⟩
 | true=>
  have hg:Bq g=true:=by simp only [EN,Ad] at hok;exact hok.1
  have hbo:Fg g r=true:=by simp only [EN,Ad] at hok;exact hok.2
  rw [hg] at hG;rw [hbo] at hb;have hrow:=Jo (CW r) szR rfl (by show 5<=1000;decide) (Pv hok);have fin0:∀ (L:List UInt8) (n:Nat) (es:List (List AV)),n=L.length->es=L.map EI->∀ (c:Ctx) (v:Value),Rd (.tp [.sl 1 n fun i=>es.getD i [],iv 0]) c v->Rd (.tp [bA L,iv 0]) c v:=fun L n es hn he c v h=>by
   subst he;simp only [Rd,RdL] at h |-
   obtain⟨xs,rfl,y,ys,rfl,h1,h⟩:=h;exact⟨_,rfl,y,ys,rfl,z7 (u:=y) hn (fun i hi=>AP (f:=EI) (l:=L) (d:=0) (hn ▸ hi)) (by simp only [Rd];exact h1),h⟩
  by_cases h1:r.kind=1
  ·have hI:BW g r.img=true:=by
    rw [Fg,if_neg (by omega),if_pos h1] at hbo;simp only [Ad] at hbo;exact hbo.2.2
   have hs:=Ii hI;have e1:=Jp r;have e2:(rowB [r.img.zone,D2 r.img.what] [1,1]).length=2:=by rw [tot_rowB [r.img.zone,D2 r.img.what] [1,1] rfl];try rfl
   have hhead:=Jo [r.img.zone,D2 r.img.what] [1,1] rfl (by show 2<=1000;decide) (PM hI);have hpart:=UK r.img.bytes (by omega);rw [show GY r = .ic 368 [.ag (GV r.img)] by rw [GY,if_neg (by omega),if_pos h1]] at hb;refine zT Tryz.func185 rfl ?_;conv=>whnf
   refine zY hb ?_;conv=>whnf
   refine zY hG ?_;conv=>whnf
   apply zW (0) tys_ok mixed (.o [0,1,2,3,4,5,6,7,8,9] (.two 10 (.o [11,12,13,14,15,16,17] .fin) 11 (.o [10,12,13,14,15,16,17] .fin))) (by kernel_rfl);refine Ai ?_ ?_;conv=>whnf
   (refine zX sizes_own rfl ?_;rintro _ _ ⟨rfl,rfl⟩)
   conv=>whnf
   (refine zS hrow.go ?_;(conv=>whnf);refine Ai rfl ?_;(conv=>whnf);refine Ai rfl ?_;(conv=>whnf);refine zV [iA (CW r),iA szR] ⟨(Bi (l:=CW r) rfl).1,(Bi (l:=szR) rfl).1,tv⟩ ?_;refine zX hrow rfl ?_;rintro _ _ ⟨rfl,rfl⟩)
   conv=>whnf
   rotate_left 1;conv=>whnf
   (refine zX sizes_own rfl ?_;rintro _ _ ⟨rfl,rfl⟩)
   conv=>whnf
   (refine zS hrow.go ?_;(conv=>whnf);refine Ai rfl ?_;(conv=>whnf);refine Ai rfl ?_;(conv=>whnf);refine zV [iA (CW r),iA szR] ⟨(Bi (l:=CW r) rfl).1,(Bi (l:=szR) rfl).1,tv⟩ ?_;refine zX hrow rfl ?_;rintro _ _ ⟨rfl,rfl⟩)
   conv=>whnf
   rotate_left 1;all_goals
    refine zZ ?_;conv=>whnf
    refine AS (fun h2=>?_) (fun h2=>?_) <;> conv=>whnf
    ·have hz:D2 r.img.what=254:=by rw [D2,if_pos h2]
     refine zS hhead.go ?_;refine⟨rfl,?_⟩;refine⟨rfl,?_⟩;conv=>whnf
     refine zV [iA [r.img.zone,D2 r.img.what],iA [1,1]] ⟨(Bi (l:= [r.img.zone,D2 r.img.what]) (by rw [hz];try rfl)).1,(Bi (l:= [1,1]) rfl).1,tv⟩ ?_;refine zX hhead rfl ?_;rintro _ _ ⟨rfl,rfl⟩;conv=>whnf
     refine zX (hpart) rfl ?_;rintro _ _ ⟨rfl,rfl⟩;refine⟨by simp,?_⟩;refine⟨⟨by simp,by omega⟩,?_⟩;refine⟨by simp,?_⟩;conv=>whnf
     refine Ai ⟨by simp,by simp only [Ao];omega⟩ ?_;conv=>whnf
     refine Ai (by simp;omega) ?_;conv=>whnf
     exact⟨.tp [bA (Et r),iv 0],fin0 _ _ _ (by rw [Et,if_pos h1,J0];simp;omega) (by rw [Et,if_pos h1,J0];simp),rfl⟩
    ·have hz:D2 r.img.what=r.img.what:=by rw [D2,if_neg h2]
     refine zS hhead.go ?_;refine⟨rfl,?_⟩;refine⟨rfl,?_⟩;conv=>whnf
     refine zV [iA [r.img.zone,D2 r.img.what],iA [1,1]] ⟨(Bi (l:= [r.img.zone,D2 r.img.what]) (by rw [hz];try rfl)).1,(Bi (l:= [1,1]) rfl).1,tv⟩ ?_;refine zX hhead rfl ?_;rintro _ _ ⟨rfl,rfl⟩;conv=>whnf
     refine zX (hpart) rfl ?_;rintro _ _ ⟨rfl,rfl⟩;refine⟨by simp,?_⟩;refine⟨⟨by simp,by omega⟩,?_⟩;refine⟨by simp,?_⟩;conv=>whnf
     refine Ai ⟨by simp,by simp only [Ao];omega⟩ ?_;conv=>whnf
     refine Ai (by simp;omega) ?_;conv=>whnf
     exact⟨.tp [bA (Et r),iv 0],fin0 _ _ _ (by rw [Et,if_pos h1,J0];simp;omega) (by rw [Et,if_pos h1,J0];simp),rfl⟩
  have hk2:GY r = .v .nilIface\/GY r = .ic 365 [.ag []]:=by
   rcases hk with h | h | h
   ·exact .inl h
   ·exfalso;unfold GY at h;rw [if_neg h1] at h;split at h
    ·cases h
    ·split at h <;> simp at h
   ·exact .inr h
  rcases hk2 with hk | hk <;> rw [hk] at hb
  ·refine zT Tryz.func185 rfl ?_;conv=>whnf
   refine zY hb ?_;conv=>whnf
   refine zY hG ?_;conv=>whnf
   apply zW (0) tys_ok mixed (.o [0,1,2,3,4,5,6,7,8,9] (.two 10 (.o [11,12,13,14,15,16,17] .fin) 11 (.o [10,12,13,14,15,16,17] .fin))) (by kernel_rfl);refine Ai ?_ ?_;conv=>whnf
   (refine zX sizes_own rfl ?_;rintro _ _ ⟨rfl,rfl⟩)
   conv=>whnf
   (refine zS hrow.go ?_;(conv=>whnf);refine Ai rfl ?_;(conv=>whnf);refine Ai rfl ?_;(conv=>whnf);refine zV [iA (CW r),iA szR] ⟨(Bi (l:=CW r) rfl).1,(Bi (l:=szR) rfl).1,tv⟩ ?_;refine zX hrow rfl ?_;rintro _ _ ⟨rfl,rfl⟩)
   conv=>whnf
   rotate_left 1;conv=>whnf
   (refine zX sizes_own rfl ?_;rintro _ _ ⟨rfl,rfl⟩)
   conv=>whnf
   (refine zS hrow.go ?_;(conv=>whnf);refine Ai rfl ?_;(conv=>whnf);refine Ai rfl ?_;(conv=>whnf);refine zV [iA (CW r),iA szR] ⟨(Bi (l:=CW r) rfl).1,(Bi (l:=szR) rfl).1,tv⟩ ?_;refine zX hrow rfl ?_;rintro _ _ ⟨rfl,rfl⟩)
   conv=>whnf
   rotate_left 1;all_goals
    refine⟨by simp,?_⟩;conv=>whnf
    exact⟨.tp [bA (rowB (CW r) szR),iv 0],fin0 _ _ _ rfl rfl,by simp only [Et,if_neg h1,AE,if_true];rfl⟩
  ·refine zT Tryz.func185 rfl ?_;conv=>whnf
   refine zY hb ?_;conv=>whnf
   refine zY hG ?_;conv=>whnf
   apply zW (0) tys_ok mixed (.o [0,1,2,3,4,5,6,7,8,9] (.two 10 (.o [11,12,13,14,15,16,17] .fin) 11 (.o [10,12,13,14,15,16,17] .fin))) (by kernel_rfl);refine Ai ?_ ?_;conv=>whnf
   (refine zX sizes_own rfl ?_;rintro _ _ ⟨rfl,rfl⟩)
   conv=>whnf
   (refine zS hrow.go ?_;(conv=>whnf);refine Ai rfl ?_;(conv=>whnf);refine Ai rfl ?_;(conv=>whnf);refine zV [iA (CW r),iA szR] ⟨(Bi (l:=CW r) rfl).1,(Bi (l:=szR) rfl).1,tv⟩ ?_;refine zX hrow rfl ?_;rintro _ _ ⟨rfl,rfl⟩)
   conv=>whnf
   rotate_left 1;conv=>whnf
   (refine zX sizes_own rfl ?_;rintro _ _ ⟨rfl,rfl⟩)
   conv=>whnf
   (refine zS hrow.go ?_;(conv=>whnf);refine Ai rfl ?_;(conv=>whnf);refine Ai rfl ?_;(conv=>whnf);refine zV [iA (CW r),iA szR] ⟨(Bi (l:=CW r) rfl).1,(Bi (l:=szR) rfl).1,tv⟩ ?_;refine zX hrow rfl ?_;rintro _ _ ⟨rfl,rfl⟩)
   conv=>whnf
   rotate_left 1;all_goals
    refine⟨by simp,?_⟩;conv=>whnf
    exact⟨.tp [bA (rowB (CW r) szR),iv 0],fin0 _ _ _ rfl rfl,by simp only [Et,if_neg h1,AE,if_true];rfl⟩
theorem Pb (b:List UInt8):∃ x y:Int,nums [1,1] b=[x,y]:=⟨_,_,rfl⟩
theorem SZ (b:List UInt8) (hl:b.length<=100000) (hs:FH b=true):Fn Tryz.prog 411 [bA b] fun r=>r = .tp [.ag (GV (Ed b)),iv 0]:=by
 simp only [FH,Ad,decide_eq_true_eq] at hs;have hu:=EJ b [1,1] (fun s h=>by simp at h;exact .inl h) (by omega) (by show 2<=1000;decide) (show 2<=b.length from hs.1);have hp:=I9 (b.drop (tot [1,1])) (by rw [Al];omega) hs.2;obtain⟨x,y,hxy⟩:=Pb b;have hi:Ed b=⟨x,FF y,((b.drop 2).drop 1).take (CL (b.drop 2))⟩:=by rw [Ed,hxy];try rfl
 rw [hxy] at hu;rw [hi];refine zT Tryz.func411 rfl ?_;conv=>whnf
 refine zS hu.go ?_;refine⟨rfl,?_⟩;conv=>whnf
 refine zV [bA b,iA [1,1]] ⟨ri,(Bi (l:= [1,1]) rfl).1,tv⟩ ?_;refine zX (hu) rfl ?_;rintro _ _ ⟨rfl,rfl⟩;conv=>whnf
 refine zY hp ?_;conv=>whnf
 refine zZ ?_;refine⟨⟨by decide,by decide⟩,?_⟩;refine⟨⟨rfl,rfl,by decide⟩,?_⟩;conv=>whnf
 refine AS (fun h=>?_) (fun h=>?_) <;> conv=>whnf
 ·rw [show FF y = -1 by rw [FF,if_pos h]];refine⟨⟨by decide,by decide⟩,?_⟩;refine⟨⟨rfl,rfl,by decide⟩,?_⟩;conv=>whnf
  refine zw tys_ok mixed [0,1,2,3,4,5,6,7,8,9,10] (by kernel_rfl) ?_;refine⟨⟨by decide,by decide⟩,?_⟩;refine⟨⟨rfl,rfl,by decide⟩,?_⟩;refine⟨⟨by decide,by decide⟩,?_⟩;refine⟨⟨rfl,rfl,by decide⟩,?_⟩;exact⟨_,ri,rfl⟩
 ·rw [show FF y=y by rw [FF,if_neg h]];refine zw tys_ok mixed [0,1,2,3,4,5,6,7,8,9,10] (by kernel_rfl) ?_;refine⟨⟨by decide,by decide⟩,?_⟩;refine⟨⟨rfl,rfl,by decide⟩,?_⟩;refine⟨⟨by decide,by decide⟩,?_⟩;refine⟨⟨rfl,rfl,by decide⟩,?_⟩;exact⟨_,ri,rfl⟩
theorem Ok (x y e:Int) (c:Ctx) (v:Value) (h:Rd (.tp [.ag [iv x,iv y, .v (.slice none 0 0)],iv e]) c v):Rd (.tp [.ag (GV ⟨x,y, []⟩),iv e]) c v:=by
 simp only [GV,Rd,RdL] at h |-
 obtain⟨xs,rfl,a,as',rfl,⟨zs,rfl,p,ps,rfl,hp,q,qs,rfl,hq,r,rs,rfl,rfl,hr⟩,h⟩:=h;exact⟨_,rfl,_,_,rfl,⟨_,rfl,_,_,rfl,hp,_,_,rfl,hq,_,_,rfl,Bv 1 (fun i=> [.v (.int .u8 (([]:List UInt8).getD i 0).toNat)]) c (.slice none 0 0) (by simp [Rd]),hr⟩,h⟩
theorem U4 (b:List UInt8) (hl:b.length<=100000) (hs:FH b=false):∃ x:Img,x.bytes=[]/\Fn Tryz.prog 411 [bA b] fun r=>r = .tp [.ag (GV x),iv 4]:=by
 have hz:∀ s∈ [(1:Int),1],Ee s:=fun s h=>by simp at h;exact .inl h
 by_cases h2:2<=b.length
 ·have hpo:Fz (b.drop 2)=false:=by simpa [FH,h2] using hs
  have hu:=EJ b [1,1] hz (by omega) (by show 2<=1000;decide) (show 2<=b.length from h2);have hp:=MQ (b.drop (tot [1,1])) hpo;obtain⟨x,y,hxy⟩:=Pb b;rw [hxy] at hu;refine⟨⟨x,FF y, []⟩,rfl,?_⟩;refine zT Tryz.func411 rfl ?_;conv=>whnf
  refine zS hu.go ?_;refine⟨rfl,?_⟩;conv=>whnf
  refine zV [bA b,iA [1,1]] ⟨ri,(Bi (l:= [1,1]) rfl).1,tv⟩ ?_;refine zX (hu) rfl ?_;rintro _ _ ⟨rfl,rfl⟩;conv=>whnf
  refine zY hp ?_;conv=>whnf
  refine zZ ?_;refine⟨⟨by decide,by decide⟩,?_⟩;refine⟨⟨rfl,rfl,by decide⟩,?_⟩;conv=>whnf
  refine AS (fun h=>?_) (fun h=>?_) <;> conv=>whnf
  ·rw [show FF y = -1 by rw [FF,if_pos h]];refine⟨⟨by decide,by decide⟩,?_⟩;refine⟨⟨rfl,rfl,by decide⟩,?_⟩;conv=>whnf
   refine zw tys_ok mixed [0,1,2,3,4,5,6,7,8,9,10] (by kernel_rfl) ?_;refine⟨⟨by decide,by decide⟩,?_⟩;refine⟨⟨rfl,rfl,by decide⟩,?_⟩;refine⟨⟨by decide,by decide⟩,?_⟩;refine⟨⟨rfl,rfl,by decide⟩,?_⟩;exact⟨_,Ok _ _ _,rfl⟩
  ·rw [show FF y=y by rw [FF,if_neg h]];refine zw tys_ok mixed [0,1,2,3,4,5,6,7,8,9,10] (by kernel_rfl) ?_;refine⟨⟨by decide,by decide⟩,?_⟩;refine⟨⟨rfl,rfl,by decide⟩,?_⟩;refine⟨⟨by decide,by decide⟩,?_⟩;refine⟨⟨rfl,rfl,by decide⟩,?_⟩;exact⟨_,Ok _ _ _,rfl⟩
 ·have hu:=He b [1,1] hz (by omega) (by show 2<=1000;decide) (show b.length<2 by omega);refine⟨⟨0,0, []⟩,rfl,?_⟩;refine zT Tryz.func411 rfl ?_;conv=>whnf
  refine zS hu.go ?_;refine⟨rfl,?_⟩;conv=>whnf
  refine zV [bA b,iA [1,1]] ⟨ri,(Bi (l:= [1,1]) rfl).1,tv⟩ ?_;refine zY hu ?_;exact⟨_,Ok _ _ _,rfl⟩
theorem Hp (k s e a o z w err:Int) (c:Ctx) (v:Value) (h:Rd (.tp [.ag [iv k,iv s,iv e,iv a,iv o,iv z,iv w, .v (.slice none 0 0)],iv err]) c v) :
  Rd (.tp [.ag (Hq ⟨k,s,e,a,o,⟨z,w, []⟩⟩),iv err]) c v:=by
 have e1:SubL [.ag [iv k,iv s,iv e,iv a,iv o,iv z,iv w, .v (.slice none 0 0)],iv err] [.ag (Hq ⟨k,s,e,a,o,⟨z,w, []⟩⟩),iv err]:=
  ⟨Bg ⟨ri,ri,ri,ri,ri,ri,ri,fun c u h=>Bv 1 _ c u h,tv⟩,ri,tv⟩
 simp only [Rd] at h |-
 obtain⟨xs,rfl,h⟩:=h;have:=e1.rdl (c:=c) (xs:=xs) (by simpa only [RdL,Rd] using h);exact⟨_,rfl,this⟩
theorem szR_ok:∀ s∈szR,Ee s:=by decide
theorem QY (g:Geo) (b:List UInt8) (hl:b.length<=100000):Fn Tryz.prog 406 [.ag (Bm g),bA b] fun r=>r = .tp [.ag (Hq (if Bq g then (DL g b).getD zeroC else zeroC)),iv (DS g b)]:=by
 have hG:Fn Tryz.prog 118 [.ag (Bm g)] fun r=>r = .v (Ew (Bq g)):=Ct g.z g.d g.sp g.sl g.an
 cases hg:Bq g with
 | false=>
  rw [hg] at hG;rw [show DS g b=1 by rw [DS,if_pos hg]];refine zT Tryz.func406 rfl ?_;conv=>whnf
  refine zY hG ?_;exact⟨_,Hp _ _ _ _ _ _ _ _,rfl⟩
 | true=>
  rw [hg] at hG;by_cases h11:11<=b.length
  ·have hu:=EJ b szR szR_ok (by omega) (by show 5<=1000;decide) (show 11<=b.length from h11);obtain⟨K,S,E,A,O,hn,hP⟩:=Zz b;rw [hn] at hu;refine zT Tryz.func406 rfl ?_;conv=>whnf
   refine zY hG ?_;conv=>whnf
   refine zX (sizes_own) rfl ?_;rintro _ _ ⟨rfl,rfl⟩;conv=>whnf
   refine zS hu.go ?_;refine⟨rfl,?_⟩;conv=>whnf
   refine zV [bA b,iA szR] ⟨ri,(Bi (l:=szR) rfl).1,tv⟩ ?_;refine zX (hu) rfl ?_;rintro _ _ ⟨rfl,rfl⟩;conv=>whnf
   refine zw tys_ok mixed [0,1,2,3,4,5,6,7,8,9,10,11,12,13,14,15,16,17] (by kernel_rfl) ?_;refine⟨⟨by decide,by decide⟩,?_⟩;refine⟨⟨rfl,rfl,by decide⟩,?_⟩;refine⟨⟨by decide,by decide⟩,?_⟩;refine⟨⟨rfl,rfl,by decide⟩,?_⟩;refine⟨⟨by decide,by decide⟩,?_⟩;refine⟨⟨rfl,rfl,by decide⟩,?_⟩;refine⟨⟨by decide,by decide⟩,?_⟩;refine⟨⟨rfl,rfl,by decide⟩,?_⟩;refine⟨⟨by decide,by decide⟩,?_⟩;refine⟨⟨rfl,rfl,by decide⟩,?_⟩;conv=>whnf
   refine zZ ?_;conv=>whnf
   refine AS (fun h=>?_) (fun h=>?_) <;> conv=>whnf
   ·have hP1:F0 b=⟨K,S,E,A,O,Ed (b.drop 11)⟩:=by rw [hP,if_pos h]
    cases hs:FH (b.drop 11) with
    | true=>
     have hb:=Ic g ⟨K,S,E,A,O,Ed (b.drop 11)⟩ (by have:=TA (b.drop 11);rw [Al] at this;show (Ed (b.drop 11)).bytes.length<=_;omega);have hq:=J8 (Et ⟨K,S,E,A,O,Ed (b.drop 11)⟩) b;have hRR:DL g b=if EN g ⟨K,S,E,A,O,Ed (b.drop 11)⟩=true/\Et ⟨K,S,E,A,O,Ed (b.drop 11)⟩=b then some ⟨K,S,E,A,O,Ed (b.drop 11)⟩ else none:=by
      rw [DL,hP1];simp [h11,hs]
     refine zY (SZ (b.drop 11) (by rw [Al];omega) hs) ?_;conv=>whnf
     cases hok:EN g ⟨K,S,E,A,O,Ed (b.drop 11)⟩ with
     | false=>
      rw [hok] at hb;have hN:DL g b=none:=by rw [hRR,if_neg (fun h=>by rw [hok] at h;cases h.1)]
      rw [show DS g b=4 by rw [DS,if_neg (by rw [hg];decide),hN];try rfl,hN];refine zY hb ?_;exact⟨_,Hp _ _ _ _ _ _ _ _,rfl⟩
     | true=>
      rw [hok] at hb;by_cases he:Et ⟨K,S,E,A,O,Ed (b.drop 11)⟩=b
      ·have hN:DL g b=some ⟨K,S,E,A,O,Ed (b.drop 11)⟩:=by rw [hRR,if_pos ⟨hok,he⟩]
       rw [show DS g b=0 by rw [DS,if_neg (by rw [hg];decide),hN];try rfl,hN];rw [decide_eq_true he] at hq;refine zY hb ?_;conv=>whnf
       refine zY hq ?_;exact⟨_,ri,rfl⟩
      ·have hN:DL g b=none:=by rw [hRR,if_neg (fun h=>he h.2)]
       rw [show DS g b=4 by rw [DS,if_neg (by rw [hg];decide),hN];try rfl,hN];rw [decide_eq_false he] at hq;refine zY hb ?_;conv=>whnf
       refine zY hq ?_;exact⟨_,Hp _ _ _ _ _ _ _ _,rfl⟩
    | false=>
     obtain⟨x,hx,hf⟩:=U4 (b.drop 11) (by rw [Al];omega) hs;have hN:DL g b=none:=by rw [DL,if_neg (fun hh=>by have:=hh.2.1 (by rw [hP1];exact h);rw [hs] at this;cases this)]
     rw [show DS g b=4 by rw [DS,if_neg (by rw [hg];decide),hN];try rfl,hN];have hb:=Ic g ⟨K,S,E,A,O,x⟩ (by show x.bytes.length<=_;rw [hx];decide);cases hok:EN g ⟨K,S,E,A,O,x⟩ <;> rw [hok] at hb;all_goals
      refine zY hf ?_;conv=>whnf
      refine zY hb ?_;exact⟨_,Hp _ _ _ _ _ _ _ _,rfl⟩
   ·have hP1:F0 b=⟨K,S,E,A,O,noImg⟩:=by rw [hP,if_neg h]
    have hb:=Ic g ⟨K,S,E,A,O,noImg⟩ (by show 0<=100000;decide);have hq:=J8 (Et ⟨K,S,E,A,O,noImg⟩) b;have hRR:DL g b=if EN g ⟨K,S,E,A,O,noImg⟩=true/\Et ⟨K,S,E,A,O,noImg⟩=b then some ⟨K,S,E,A,O,noImg⟩ else none:=by
     rw [DL,hP1];simp [h11,h]
    refine zV [.ag (Bm g), .ag (Hq ⟨K,S,E,A,O,noImg⟩)] ⟨ri,Bg ⟨ri,ri,ri,ri,ri,ri,ri,fun c u h=>Bv 1 _ c u h,tv⟩,tv⟩ ?_;cases hok:EN g ⟨K,S,E,A,O,noImg⟩ with
    | false=>
     rw [hok] at hb;have hN:DL g b=none:=by rw [hRR,if_neg (fun h=>by rw [hok] at h;cases h.1)]
     rw [show DS g b=4 by rw [DS,if_neg (by rw [hg];decide),hN];try rfl,hN];refine zY hb ?_;exact⟨_,Hp _ _ _ _ _ _ _ _,rfl⟩
    | true=>
     rw [hok] at hb;by_cases he:Et ⟨K,S,E,A,O,noImg⟩=b
     ·have hN:DL g b=some ⟨K,S,E,A,O,noImg⟩:=by rw [hRR,if_pos ⟨hok,he⟩]
      rw [show DS g b=0 by rw [DS,if_neg (by rw [hg];decide),hN];try rfl,hN];rw [decide_eq_true he] at hq;refine zY hb ?_;conv=>whnf
      refine zY hq ?_;exact⟨_,Hp _ _ _ _ _ _ _ _,rfl⟩
     ·have hN:DL g b=none:=by rw [hRR,if_neg (fun h=>he h.2)]
      rw [show DS g b=4 by rw [DS,if_neg (by rw [hg];decide),hN];try rfl,hN];rw [decide_eq_false he] at hq;refine zY hb ?_;conv=>whnf
      refine zY hq ?_;exact⟨_,Hp _ _ _ _ _ _ _ _,rfl⟩
  ·have hu:=He b szR szR_ok (by omega) (by show 5<=1000;decide) (show b.length<11 by omega);have hr:DL g b=none:=by rw [DL,if_neg (fun h=>h11 h.1)]
   rw [show DS g b=4 by rw [DS,if_neg (by rw [hg];decide),hr];try rfl,hr];refine zT Tryz.func406 rfl ?_;conv=>whnf
   refine zY hG ?_;conv=>whnf
   refine zX (sizes_own) rfl ?_;rintro _ _ ⟨rfl,rfl⟩;conv=>whnf
   refine zS hu.go ?_;refine⟨rfl,?_⟩;conv=>whnf
   refine zV [bA b,iA szR] ⟨ri,(Bi (l:=szR) rfl).1,tv⟩ ?_;refine zY hu ?_;exact⟨_,Hp _ _ _ _ _ _ _ _,rfl⟩
theorem H7 (n lo hi:Int):Fn Tryz.prog 159 [iv n,iv lo,iv hi] fun r=>r = .v (.bool (Dv n lo hi)):=by
 refine zT Tryz.func159 rfl ?_;conv=>whnf
 repeat' (first | (refine Ak (fun h=>?_) (fun h=>?_) <;> (try simp at h) <;> conv=>whnf) | (refine zH tys_ok mixed (by kernel_rfl) ?_;conv=>whnf) | (refine zZ ?_;conv=>whnf) | (refine Ai (by omega) ?_;conv=>whnf))
 all_goals exact⟨_,ri,by simp [Dv, *] <;> omega⟩
theorem HU (g:Geo) (n:Int) (b:Bool):Fn Tryz.prog 182 [.ag (Bm g),iv n, .v (.bool b)] fun r=>r = .tp [iv (if Bq g&&b then n else 0),iv (if Bq g&&b then 0 else 1)]:=by
 have s1:Fn Tryz.prog 118 [.ag (Bm g)] fun r=>r = .v (Ew (Bq g)):=Ct g.z g.d g.sp g.sl g.an
 cases hg:Bq g <;> cases b;all_goals
  rw [hg] at s1;refine zT Tryz.func182 rfl ?_;conv=>whnf
  refine zY s1 ?_;exact⟨_,ri,rfl⟩
theorem LG (g:Geo) (copy slot:Int):Fn Tryz.prog 102 [.ag (Bm g),iv copy,iv slot] fun r=>r = .tp [iv (if Bq g&&IY g copy slot then Ba g copy slot else 0),iv (if Bq g&&IY g copy slot then 0 else 1)]:=by
 refine zT Tryz.func102 rfl ?_;conv=>whnf
 refine zw tys_ok mixed [0,1,2,3,4,5,6,7,8,9,10,11,12,13,14,15,16,17,18,19,20,21,22,23] (by kernel_rfl) ?_;conv=>whnf
 refine zY (H7 _ _ _) ?_;conv=>whnf
 refine Ak (fun t1=>?_) (fun t1=>?_) <;> conv=>whnf
 ·refine zY (H7 _ _ _) ?_;conv=>whnf
  refine zY (HU g _ _) ?_;refine⟨_,fun _ _ h=>h,?_⟩;cases hg:Bq g with
  | false=>rfl
  | true=>
   obtain⟨h1,h2,h3,h4,h5⟩:=A2.1 hg;rw [wi (n:=g.sl - 1) (by omega)];have e:IY g copy slot=Dv slot 0 (g.sl - 1):=by rw [IY,t1];try rfl
   rw [e];cases hb:Dv slot 0 (g.sl - 1) with
   | false=>rfl
   | true=>
    obtain⟨c1,c2⟩:=AK.1 t1;obtain⟨b1,b2⟩:=AK.1 hb;have hm:0<=copy*g.sl/\copy*g.sl<=30:=by
     rcases(show copy=0\/copy=1 by omega) with rfl | rfl
     ·omega
     ·omega
    rw [wi (n:=copy*g.sl) (by omega),wi (n:=g.an+copy*g.sl) (by omega),wi (n:=g.an+copy*g.sl+slot) (by omega)];try rfl
 ·refine zY (HU g _ _) ?_;refine⟨_,fun _ _ h=>h,?_⟩;have e:IY g copy slot=false:=by rw [IY,t1];try rfl
  rw [e];cases Bq g <;> rfl
def CQ (g:Geo) (x:Gt) (copy slot:Int):Option Rc:=
 if Bq g&&IY g copy slot&&decide (x.err=0)&&decide (DU x.bytes=0)&&decide (B_ x.bytes=Ba g copy slot) then
  match DL g (Cx x.bytes) with
  | some r=>if r.seq=Cr x.bytes then some r else none
  | none=>none
 else none
theorem BV {l m:List AV} (h:SubL l m) (c:Ctx) (u:Value) (hr:Rd (.tp l) c u):Rd (.tp m) c u:=by
 simp only [Rd] at hr |-
 obtain⟨xs,rfl,h1⟩:=hr;exact⟨xs,rfl,h.rdl h1⟩
theorem Fv (c:Ctx) (u:Value) (b:Bool) (h:Rd (.tp [.ag [iv 0,iv 0,iv 0,iv 0,iv 0,iv 0,iv 0, .v (.slice none 0 0)], .v (.bool b)]) c u):Rd (.tp [.ag (Hq zeroC), .v (.bool b)]) c u:=by
 refine BV ?_ c u h;exact⟨Bg ⟨ri,ri,ri,ri,ri,ri,ri,Bv _ _,tv⟩,ri,tv⟩
theorem RY (g:Geo) (x:Gt) (copy slot:Int) (hl:x.bytes.length<=100000):Fn Tryz.prog 392 [.ag (Bm g), .ag (Eg x),iv copy,iv slot] fun r=>r = .tp [.ag (Hq ((CQ g x copy slot).getD zeroC)), .v (.bool (CQ g x copy slot).isSome)]:=by
 have s1:=LG g copy slot;have s2:=Lr x.bytes hl;cases hQ:Bq g&&IY g copy slot with
 | false=>
  have e:CQ g x copy slot=none:=by rw [CQ,hQ];try rfl
  rw [hQ] at s1;rw [e];refine zT Tryz.func392 rfl ?_;conv=>whnf
  refine zY s1 ?_;exact⟨_,fun c v h=>Fv c v false h,rfl⟩
 | true=>
  rw [hQ] at s1;have hg:Bq g=true:=by simp at hQ;exact hQ.1
  by_cases hO:DU x.bytes=0
  ·rw [if_pos hO,hO] at s2;have s3:=QY g (Cx x.bytes) (by simp [Cx];omega);rw [hg,if_pos rfl] at s3;refine zT Tryz.func392 rfl ?_;conv=>whnf
   refine zY s1 ?_;conv=>whnf
   refine Ak (fun t1=>?_) (fun t1=>?_) <;> simp only [bne_iff_ne,ne_eq,bne_eq_false_iff_eq] at t1 <;> conv=>whnf
   ·have e:CQ g x copy slot=none:=by rw [CQ,decide_eq_false t1];simp
    exact⟨_,fun c v h=>Fv c v false h,by rw [e];try rfl⟩
   refine zY s2 ?_;conv=>whnf
   refine Ak (fun t2=>?_) (fun t2=>?_) <;> simp only [bne_iff_ne,ne_eq,bne_eq_false_iff_eq,if_true] at t2 <;> conv=>whnf
   ·have e:CQ g x copy slot=none:=by rw [CQ,decide_eq_false (p:=B_ x.bytes=Ba g copy slot) t2];simp
    exact⟨_,fun c v h=>Fv c v false h,by rw [e];try rfl⟩
   have es:CQ g x copy slot=match DL g (Cx x.bytes) with | some r=>if r.seq=Cr x.bytes then some r else none | none=>none:=by
    rw [CQ,hQ,decide_eq_true t1,decide_eq_true hO,decide_eq_true (p:=B_ x.bytes=Ba g copy slot) t2];try rfl
   cases hR:DL g (Cx x.bytes) with
   | none=>
    rw [hR] at s3 es;have e4:DS g (Cx x.bytes)=4:=by simp [DS,hg,hR]
    rw [e4] at s3;refine zY s3 ?_;conv=>whnf
    exact⟨_,fun c v h=>Fv c v false h,by rw [es];try rfl⟩
   | some r=>
    rw [hR] at s3 es;have e4:DS g (Cx x.bytes)=0:=by simp [DS,hg,hR]
    rw [e4] at s3;refine zY s3 ?_;conv=>whnf
    refine Ak (fun t3=>?_) (fun t3=>?_) <;> simp only [bne_iff_ne,ne_eq,bne_eq_false_iff_eq,BO] at t3 <;> conv=>whnf
    ·exact⟨_,fun c v h=>Fv c v false h,by rw [es];simp only [if_neg t3];rfl⟩
    ·exact⟨_,ri,by rw [es];simp only [if_pos t3];rfl⟩
  ·have e:CQ g x copy slot=none:=by rw [CQ,decide_eq_false hO];simp
   rw [if_neg hO] at s2;rw [e];refine zT Tryz.func392 rfl ?_;conv=>whnf
   refine zY s1 ?_;conv=>whnf
   refine Ak (fun t1=>?_) (fun t1=>?_) <;> conv=>whnf
   ·exact⟨_,fun c v h=>Fv c v false h,rfl⟩
   refine zY s2 ?_;conv=>whnf
   refine Ak (fun t2=>?_) (fun t2=>?_) <;> simp only [bne_iff_ne,ne_eq,bne_eq_false_iff_eq] at t2 <;> conv=>whnf
   ·exact⟨_,fun c v h=>Fv c v false h,rfl⟩
   ·exact absurd t2 hO
end
end Go.Proofs.YtpjkcgacjjbikaaGreatDoor.A
section

end
namespace Go.Proofs.YtpjkcgacjjbikaaGreatDoor.A
section
open Go.RowKit
theorem HS.rerow {w0:Fl} {M0:Ms} {c:Ctx} {H:List AB} (hs:HS w0 M0 c H) {j:Nat} {t:TypeId} {sz:Nat} {es es':List (List AV)} (hj:H[j]? = some (.row t sz es)) {w':World} {v':Value} {zs:List Value}
  (ho':w'.ownsRow c.base t sz v' es'.length zs) (hgr:c.w.grownBy w' (oB (c.rho j))) (hat:oB v'=oB (c.rho j)\/oB v'=some c.w.heap.size\/oB v'=none) (hz:0<sz) (hle:∀ e∈es',e.length=sz)
  (hr:RdL es'.flatten c.closed zs) (h1:∀ u∈zs,u.oneCell'=true) :
  HS w0 M0 (c.new w' v' es'.length) (H.set j .dead ++ [.row t sz es'])/\Ext c (c.new w' v' es'.length)/\Rd (.ow H.length es'.length) (c.new w' v' es'.length) v':=by
 have hjl:=hs.klt hj;have hmg:∀ g,oB (c.rho j)=some g->c.M g/\¬w0.old g:=fun g hg=>hs.own j _ g hj rfl hg
 have hog:∀ g,oB v'=some g->g<w'.heap.size:=by
  intro g hg;rcases ho'.2 with ⟨e,_⟩ | ⟨g',cap,cur,e,q,hh,_⟩
  ·rw [e] at hg;simp [oB] at hg
  ·rw [e] at hg;simp [oB] at hg;subst hg;exact(Aw.1 hh).1
 have hold:∀ g,oB v'=some g->¬w0.old g:=by
  intro g hg ho;rcases hat with h7 | h7 | h7
  ·rw [h7] at hg;exact(hmg g hg).2 ho
  ·rw [h7] at hg;cases hg;have:=As (w0.lt _ ho) hs.low.size;omega
  ·rw [h7] at hg;cases hg
 have e:Ext c (c.new w' v' es'.length):=by
  refine⟨hgr.os,hgr.tape,hgr.output,hgr.size,fun b hb hmb=>⟨fun hm'=>?_,hgr.block b hb fun e=>?_⟩,Nat.le_succ _,fun k hk=>?_,fun k hk _=>?_,fun k g hk hg=>?_⟩
  ·rcases hm' with h | h
   ·exact hmb h
   ·rcases hat with h7 | h7 | h7
    ·rw [h7] at h;exact hmb (hmg b h).1
    ·rw [h7] at h;cases h;omega
    ·rw [h7] at h;cases h
  ·exact hmb (hmg b e.symm).1
  ·simp only [Ctx.new];rw [if_neg (by omega)];exact Ag _
  ·simp only [Ctx.new];rw [if_neg (by omega)]
  ·simp only [Ctx.new];rw [if_neg (by omega)];exact hg
 have hget:∀ k y,(H.set j .dead ++ [AB.row t sz es'])[k]? = some y->y.live=true->(k=c.dom/\y = .row t sz es')\/(k<c.dom/\k≠j/\H[k]? = some y):=by
  intro k y hk hl;rw [hs.dom];rcases Nat.lt_trichotomy k H.length with hlt | rfl | hgt
  ·rw [AD (by simpa using hlt)] at hk;by_cases hkj:k=j
   ·subst hkj;rw [A3 hlt] at hk;cases hk;cases hl
   ·rw [A4 (Ne.symm hkj)] at hk;exact .inr ⟨hlt,hkj,hk⟩
  ·rw [AL (by simp)] at hk;simp at hk;exact .inl ⟨rfl,hk.symm⟩
  ·rw [AF (by simp;omega)] at hk;cases hk
 have hother:∀ k y g,k≠j->H[k]? = some y->y.live=true->oB (c.rho k)=some g->w'.heap[g]? = c.w.heap[g]? :=by
  intro k y g hkj hk hl hg;exact hgr.block g (hs.sub hk hl hg) fun e=>hkj (hs.dis k j y _ g hk hj hl rfl hg e.symm)
 have hlow:LowF w0 w':=⟨hgr.os.trans hs.low.os,hgr.tape.trans hs.low.tape,hgr.output.trans hs.low.output,AW hs.low.size hgr.size,fun b hb=>(hgr.block b (As (w0.lt b hb) hs.low.size) fun e=>(hmg b e.symm).2 hb).trans (hs.low.block b hb)⟩;have hrho:∀ k,k<c.dom->(c.new w' v' es'.length).rho k=c.rho k:=fun k hk=>by simp only [Ctx.new];rw [if_neg (by omega)]
 have hrhod:(c.new w' v' es'.length).rho c.dom=v':=by simp [Ctx.new]
 have hx:∀ g k,oB v'=some g->k<c.dom->k≠j->∀ y,H[k]? = some y->y.live=true->oB (c.rho k)=some g->False:=by
  intro g k hg hk hkj y hy hl ho;rcases hat with h7 | h7 | h7
  ·rw [h7] at hg;exact hkj (hs.dis k j y _ g hy hj hl rfl ho hg)
  ·rw [h7] at hg;cases hg;have:=hs.sub hy hl ho;omega
  ·rw [h7] at hg;cases hg
 refine⟨⟨hlow,hs.base,by simp [Ctx.new,hs.dom],fun b hb=>?_,fun b hmb=>?_,fun k y hk=>?_,fun k y g hk hl hg=>?_,fun i k y z g hi hk hly hlz hgi hgk=>?_⟩,e,?_⟩
 ·refine⟨fun hmb=>?_,fun hmb=> .inl ((hs.foreign b hb).2 hmb)⟩;rcases hmb with h | h
  ·exact(hs.foreign b hb).1 h
  ·exact(hold b h hb).elim
 ·rcases hmb with h | h
  ·exact As (hs.lt b h) hgr.size
  ·exact hog b h
 ·cases hy:y.live with
  | false=>cases y <;> simp [AB.live] at hy;trivial
  | true=>
   rcases hget k y hk hy with ⟨rfl,rfl⟩ | ⟨hkd,hkj,hk'⟩
   ·exact⟨by simp [Ctx.new],hz,hle,zs,by rw [hrhod];exact ho',RdL.ext _ e.closed hr,h1⟩
   ·exact zu e rfl hkd (by simp only [Ctx.new];rw [if_neg (by omega)]) (fun g hl hg=>hother k y g hkj hk' hl hg) (hs.blk k y hk')
 ·rcases hget k y hk hl with ⟨rfl,rfl⟩ | ⟨hkd,hkj,hk'⟩
  ·rw [hrhod] at hg;exact⟨.inr hg,hold g hg⟩
  ·rw [hrho k hkd] at hg;have:=hs.own k y g hk' hl hg;exact⟨.inl this.1,this.2⟩
 ·rcases hget i y hi hly with ⟨rfl,rfl⟩ | ⟨hid,hij,hi'⟩ <;> rcases hget k z hk hlz with ⟨rfl,rfl⟩ | ⟨hkd,hkj,hk'⟩
  ·rfl
  ·rw [hrhod] at hgi;rw [hrho k hkd] at hgk;exact(hx g k hgi hkd hkj z hk' hlz hgk).elim
  ·rw [hrhod] at hgk;rw [hrho i hid] at hgi;exact(hx g i hgk hid hij y hi' hly hgi).elim
  ·rw [hrho i hid] at hgi;rw [hrho k hkd] at hgk;exact hs.dis i k y z g hi' hk' hly hlz hgi hgk
 ·simp only [Rd];refine⟨by simp [Ctx.new,hs.dom],by simp [Ctx.new,hs.dom],?_,fun _=>by simp [Ctx.new,hs.dom]⟩;rcases ho'.2 with ⟨rfl,hn⟩ | ⟨g',cap,cur,rfl,_⟩
  ·exact⟨none,0,by rw [hn],fun e=>absurd hn e⟩
  ·exact⟨_,_,rfl,fun _=>⟨g',rfl⟩⟩

theorem Nq {es:List (List AV)} {sz:Nat} (h:∀ e∈es,e.length=sz) (i:Nat):(es.take i).flatten=es.flatten.take (i*sz):=by
 induction es generalizing i with
 | nil=>simp
 | cons e es ih=>
  cases i with
  | zero=>simp
  | succ i=>
   have he:=h e (by simp);rw [C2,A8,A8,ih (fun x hx=>h x (by simp [hx])),List.take_append,At (l:=e) (by rw [he,Bb];omega),he,Bb,Nat.one_mul,Cp]
theorem Mh {es:List (List AV)} {sz:Nat} (h:∀ e∈es,e.length=sz) (i:Nat):(es.drop i).flatten=es.flatten.drop (i*sz):=by
 induction es generalizing i with
 | nil=>simp
 | cons e es ih=>
  cases i with
  | zero=>simp
  | succ i=>
   have he:=h e (by simp);rw [List.drop_succ_cons,A8,ih (fun x hx=>h x (by simp [hx])),BZ,@A9 _ e _ (by rw [he,Bb];omega),he,Bb,Nat.one_mul,Cp,Bk]
def al (P:Program) (f:FuncId) (t:TypeId) (sz:Nat):Prop:=∀ (v:Value) (n i:Nat) (xs ys:List Value) (vb base:Nat) (w:World),w.ownsRow base t sz v n xs->∀ (vc:Nat) (vcur:Array Value),w.heap[vb]? = some (.cells vcur t (0,0))->vcur.toList.take sz=ys->ys.length=sz->
  (∀ u∈xs,u.oneCell'=true)->(∀ u∈ys,u.oneCell'=true)->v.ownBlock≠some vb->i<=n->n<=1000000->base<=w.heap.size->
  Calls P f #[v, .int .i64 i, .slice (some ⟨vb,0,none⟩) 1 vc] w fun e w'=>∃ v',e = .returned v'/\w'.ownsRow base t sz v' (n+1) (xs.take (i*sz) ++ ys ++ xs.drop (i*sz))/\w.grownBy w' v.ownBlock/\(v'.ownBlock=v.ownBlock\/v'.ownBlock=some w.heap.size)
theorem ACalls.insert {P:Program} {f:FuncId} {t:TypeId} {sz:Nat} (hg:Q5 P f) (hc:al P f t sz) (es:List (List AV)) (e:List AV) (i:Nat) (hi:i<=es.length) (hn:es.length<=1000000) :
  ACalls P false f [.ow 0 es.length,iv i, .ow 1 1] [.row t sz es, .row t sz [e]] fun r H=>r = .ow 2 (es.length+1)/\H=[.dead, .row t sz [e], .row t sz (es.take i ++ [e] ++ es.drop i)]:=by
 refine⟨hg,fun w0 M0 c us hs hr=>?_⟩;have hj:([.row t sz es, .row t sz [e]]:List AB)[0]? = some (.row t sz es):=rfl;have hk:([.row t sz es, .row t sz [e]]:List AB)[1]? = some (.row t sz [e]):=rfl;obtain⟨h1,h2,h3,xs,h4,h5,h6⟩:=hs.blk 0 _ hj;obtain⟨k1,k2,k3,ys,k4,k5,k6⟩:=hs.blk 1 _ hk;simp only [RdL] at hr;obtain⟨v,us1,rfl,r1,v1,us2,rfl,r2,v2,us3,rfl,r3,rfl⟩:=hr;simp only [Rd] at r1 r2 r3;have hv:=r1.2.2.2 h1.symm;have hv2:=r3.2.2.2 k1.symm;subst r2;have hob:=L4 h4;rcases k4.2 with ⟨_,h0⟩ | ⟨g2,vc,vcur,q1,q2,q3,q4,q5,q6,q7⟩
 ·cases h0
 have hys:ys.length=sz:=by rw [k4.1];simp
 have hne:v.ownBlock≠some g2:=by
  rw [hv,<-hob];intro e;have:=hs.dis 0 1 _ _ g2 hj hk rfl rfl e (by rw [q1];try rfl);cases this
 have hbase:c.base<=c.w.heap.size:=by rw [hs.base];exact Aj _
 have:=hc v es.length i xs ys g2 c.base c.w (by rw [hv];exact h4) vc vcur q3 (by rw [<-q7];simp) hys h6 k6 hne hi hn hbase;rw [hv2,q1];refine this.mono ?_;rintro e' w' ⟨v',rfl,p1,p2,p3⟩;have hlen:(es.take i ++ [e] ++ es.drop i).length=es.length+1:=by simp only [Ah,Aq,Al,Ao,AN];omega
 have hob':=L4 p1;rw [hv,<-hob] at p2 p3;rw [<-hob'] at p3;obtain⟨s1,s2,s3⟩:=hs.rerow (es':=es.take i ++ [e] ++ es.drop i) hj (by rw [hlen];exact p1) p2 (by rcases p3 with p | p;exact .inl p;exact .inr (.inl p)) h2 (fun x hx=>by
   rcases Az.1 hx with hx | hx
   ·rcases Az.1 hx with hx | hx
    ·exact h3 x (Bo hx)
    ·exact k3 x hx
   ·exact h3 x (BG hx)) (by
   rw [AX,AX,Nq h3,Mh h3];exact((h5.take _).append k5).append (h5.drop _)) (fun u hu=>by
   rcases Az.1 hu with hu | hu
   ·rcases Az.1 hu with hu | hu
    ·exact h6 u (Bo hu)
    ·exact k6 u hu
   ·exact h6 u (BG hu))
 exact⟨v',_,_,_,rfl,rfl,tA,s1,s2,by rw [<-hlen];exact s3,fun e=>by cases e⟩
structure Hd where
 id:Int
 lbas:List Int
 blocks:List (List UInt8)
deriving DecidableEq
def Pr (l:List (List UInt8)):AV:= .sl 1 l.length fun i=> [bA (l.getD i [])]
def Eh (h:Hd):List AV:= [iv h.id,iA h.lbas,Pr h.blocks]
def CJ (l:List Hd):AV:= .sl 3 l.length fun i=>Eh (l.getD i ⟨0, [], []⟩)
def DC (x:Int):List AV:= [iv x]
def My (b:List UInt8):List AV:= [bA b]
theorem Ge {α:Type} {d:α} {β:Type} (f:α->β) (l:List α):(List.range l.length).map (fun i=>f (l.getD i d))=l.map f:=by
 refine List.ext_getElem (by simp) fun i h1 h2=>?_
 simp only [Aa,CH] at h1;simp [Ab,Af h1]

theorem IL (l:List Int) (hl:l.length<=1000000000):ACalls Tryz.prog false 83 [iA l] [] fun r H=>r = .ow 0 l.length/\H=[.row 3 1 (l.map DC)]:=by
 refine zJ tys_ok Tryz.func83 rfl rfl (by show 1<=_;decide) ?_;refine Ai (fun h=>?_) ?_
 ·conv=>whnf
  have h0:=AG.1 h;subst h0;exact⟨_, .ow 0 0, [.row 3 1 []],fun _ _ h=>h,zL ⟨[(0,3,1)],tA,tA,tA,rfl,rfl,rfl⟩,rfl,rfl⟩
 ·refine⟨⟨rfl,by omega⟩,?_⟩;exact⟨.ow 0 l.length, .ow 0 l.length, [.row 3 1 (l.map DC)],fun _ _ h=>by rwa [Au] at h,zL ⟨[],tv,tA,⟨(congrArg (AB.row _ _) (Ge (d:=0) DC l)).symm,tv⟩,rfl,rfl,rfl⟩,rfl,rfl⟩
theorem Rb (l:List (List UInt8)) (hl:l.length<=1000000000):ACalls Tryz.prog false 208 [Pr l] [] fun r H=>r = .ow 0 l.length/\H=[.row 22 1 (l.map My)]:=by
 refine zJ tys_ok Tryz.func208 rfl rfl (by show 1<=_;decide) ?_;refine Ai (fun h=>?_) ?_
 ·conv=>whnf
  have h0:=AG.1 h;subst h0;exact⟨_, .ow 0 0, [.row 22 1 []],fun _ _ h=>h,zL ⟨[(0,22,1)],tA,tA,tA,rfl,rfl,rfl⟩,rfl,rfl⟩
 ·refine⟨⟨rfl,by omega⟩,?_⟩;exact⟨.ow 0 l.length, .ow 0 l.length, [.row 22 1 (l.map My)],fun _ _ h=>by rwa [Au] at h,zL ⟨[],tv,tA,⟨(congrArg (AB.row _ _) (Ge (d:= []) My l)).symm,tv⟩,rfl,rfl,rfl⟩,rfl,rfl⟩
theorem LX (l:List Hd) (hl:l.length<=1000000000):ACalls Tryz.prog false 119 [CJ l] [] fun r H=>r = .ow 0 l.length/\H=[.row 78 3 (l.map Eh)]:=by
 refine zJ tys_ok Tryz.func119 rfl rfl (by show 1<=_;decide) ?_;refine Ai (fun h=>?_) ?_
 ·conv=>whnf
  have h0:=AG.1 h;subst h0;exact⟨_, .ow 0 0, [.row 78 3 []],fun _ _ h=>h,zL ⟨[(0,78,3)],tA,tA,tA,rfl,rfl,rfl⟩,rfl,rfl⟩
 ·refine⟨⟨rfl,by omega⟩,?_⟩;exact⟨.ow 0 l.length, .ow 0 l.length, [.row 78 3 (l.map Eh)],fun _ _ h=>by rwa [Au] at h,zL ⟨[],tv,tA,⟨(congrArg (AB.row _ _) (Ge (d:=⟨0, [], []⟩) Eh l)).symm,tv⟩,rfl,rfl,rfl⟩,rfl,rfl⟩
theorem TC {α β:Type} {d:α} (f:α->β) (l:List α) (k:Nat):(l.map f).set k (f (l.getD k d))=l.map f:=by
 by_cases h:k<l.length
 ·rw [Ab,Af h];apply List.ext_getElem (by simp);intro i h1 h2;rw [List.getElem_set];split
  ·rename_i e;subst e;simp
  ·rfl
 ·rw [List.set_eq_of_length_le (by simp;omega)]
theorem Kb (h:Hd) (hl:h.lbas.length<=1000) (hb:h.blocks.length<=1000) (hbb:∀ b∈h.blocks,b.length<=1000000) :
  ACalls Tryz.prog false 120 [.ag (Eh h)] [] fun r H=>r = .ag [iv h.id, .ow 2 h.lbas.length, .ow 3 h.blocks.length]/\H=[.dead, .dead, .row 3 1 (h.lbas.map DC), .row 22 1 (h.blocks.map My)]:=by
 refine zJ tys_ok Tryz.func120 rfl rfl (Ae rfl) ?_;conv=>whnf
 apply zI tys_ok mixed (.o [0,1,3,4,2,6,5,7,8,9] .fin) [5,6,7,8,9,10,11,12] (by kernel_rfl)
 ·conv=>whnf
  (refine zX (IL h.lbas (by omega)) rfl ?_;rintro _ _ ⟨rfl,rfl⟩)
  conv=>whnf
  (refine zX (Rb h.blocks (by omega)) rfl ?_;rintro _ _ ⟨rfl,rfl⟩)
  conv=>whnf
  try (refine tS ?_;conv=>whnf)
  try (refine tS ?_;conv=>whnf)
  exact tA
 conv=>whnf
 refine zP Nat (fun k=>([(1, .bp 0 0),(2, .bp 1 0),(14, .ow 3 h.blocks.length),(15,iv h.blocks.length),(16,iv k)], [.box 78 [iv h.id, .ow 2 h.lbas.length, .ow 3 h.blocks.length], .box 78 [iv 0, .v (.slice none 0 0), .v (.slice none 0 0)], .row 3 1 (h.lbas.map DC), .row 22 1 (h.blocks.map My)])) (fun k=>k<=h.blocks.length) (fun k=>h.blocks.length - k) 0 (Aj _) ⟨[],tv,tA,tA,rfl,rfl,rfl⟩ ?_;rintro k hk;conv=>whnf
 refine AS (fun h2=>?_) (fun h2=>?_) <;> (repeat rw [Ac] at h2) <;> conv=>whnf
 ·have hk':k<h.blocks.length:=by omega
  have hE:(h.blocks.map My).getD k []=My (h.blocks.getD k []):=AP hk';refine⟨by first | omega | (refine⟨rfl,?_,?_⟩ <;> first | omega | (simp only [Aa];done) | (simp only [Aa];omega)) | (simp only [Aa];omega),?_⟩;refine⟨⟨rfl,(Aa _).symm,by simpa using hk'⟩,?_⟩;conv=>whnf
  rw [show ((k:Int)).toNat=k from Ac k,hE];conv=>whnf
  apply zI tys_ok mixed (.o [0,1,2,3,4,5,6] .fin) [21,22,23,24,25,26] (by kernel_rfl)
  ·conv=>whnf
   refine zx (BS (h.blocks.getD k []) (by have:=hbb _ (AC (d:= []) hk');omega)) rfl ?_;rintro _ rfl;conv=>whnf
   try (refine Ai (by first | omega | exact ixA | exact ixB | (simp;done)) ?_;conv=>whnf)
   try (refine tS ?_;conv=>whnf)
   (rw [Ac,hE])
   exact tA
  refine⟨k+1,by omega,by omega, [],tv,⟨rfl,rfl,rfl,rfl,AT (by omega),tv⟩,⟨rfl,rfl,rfl,?_,tv⟩,rfl,rfl,rfl⟩;exact congrArg (AB.row _ _) (TC (d:= []) My h.blocks k).symm
 ·exact⟨.ag [iv h.id, .ow 2 h.lbas.length, .ow 3 h.blocks.length],_, [.dead, .dead, .row 3 1 (h.lbas.map DC), .row 22 1 (h.blocks.map My)],fun _ _ h=>h,zL ⟨[],tv,tA,tA,rfl,rfl,rfl⟩,rfl,rfl⟩
theorem NA (p:Nat->Bool) (k:Nat):(List.range (k+1)).all p=((List.range k).all p&&p k):=by
 rw [By,List.all_append];simp
theorem S9 {p:Nat->Bool} {k n:Nat} (hk:k<n) (h:p k=false):(List.range n).all p=false:=by
 rw [List.all_eq_false];exact⟨k,AJ.2 hk,by rw [h];simp⟩
theorem Ww {p:Nat->Bool} {n:Nat} (h:(List.range n).all p=true) {k:Nat} (hk:k<n):p k=true:=Av.1 h k (AJ.2 hk)
def Ga (l:List Int) (i:Nat):Bool:=decide (0<=l.getD i 0)&&(decide (i=0) || decide (l.getD (i - 1) 0<l.getD i 0))
def KY (l:List Int):Bool:=(List.range l.length).all (Ga l)
theorem WT {l:List Int} (h:KY l=true) {i:Nat} (hi:i+1<l.length):l.getD i 0<l.getD (i+1) 0:=by
 have:=Ww h hi;simp only [Ga,Ad,Bool.or_eq_true,decide_eq_true_eq] at this;rcases this.2 with h | h
 ·omega
 ·simpa using h
theorem Y7 {l:List Int} (h:KY l=true) {i j:Nat} (hij:i<j) (hj:j<l.length):l.getD i 0<l.getD j 0:=by
 induction j with
 | zero=>omega
 | succ j ih=>
  have h1:=WT h hj;by_cases e:i=j
  ·subst e;exact h1
  ·have:=ih (by omega) (by omega);omega
theorem NN {l:List Int} (h:KY l=true) {i j:Nat} (hij:i<=j) (hj:j<l.length):l.getD i 0<=l.getD j 0:=by
 rcases Nat.lt_or_eq_of_le hij with h1 | h1
 ·exact Int.le_of_lt (Y7 h h1 hj)
 ·rw [h1];exact CC _
def Ef (l:List Int) (x:Int):Nat:=l.countP (· < x)
theorem Yg {l:List Int} {i:Nat} {x:Int} (hi:i<=l.length) (h1:∀ j,j<i->l.getD j 0<x) (h2:∀ j,i<=j->j<l.length->x<=l.getD j 0):Ef l x=i:=by
 unfold Ef;have e:l=l.take i ++ l.drop i:=(Cg i l).symm;rw [e,List.countP_append];have a:(l.take i).countP (· < x)=(l.take i).length:=List.countP_eq_length.2 fun y hy=>by
  obtain⟨j,hj,rfl⟩:=List.mem_iff_getElem.1 hy;simp only [Aq] at hj;have:=h1 j (by omega);rw [Ab,Af (by omega)] at this;simpa using this
 have b:(l.drop i).countP (· < x)=0:=List.countP_eq_zero.2 fun y hy=>by
  obtain⟨j,hj,rfl⟩:=List.mem_iff_getElem.1 hy;simp only [Al] at hj;have:=h2 (i+j) (by omega) (by omega);rw [Ab,Af (by omega)] at this;simp only [List.getElem_drop,decide_eq_true_eq];simp at this;omega
 rw [a,b,Aq];omega
theorem MV (l:List Int) (hl:l.length<=1000):Fn Tryz.prog 332 [iA l] fun r=>r = .v (.bool (KY l)):=by
 refine zT Tryz.func332 rfl ?_;conv=>whnf
 refine zP Nat (fun k=>([(0,iA l),(5,iA l),(6,iv l.length),(7,iv k)], [])) (fun k=>k<=l.length/\(List.range k).all (Ga l)=true) (fun k=>l.length - k) 0 ⟨Aj _,by simp⟩ ⟨[],tv,tA,tv,rfl,rfl,rfl⟩ ?_;rintro k ⟨hk,hI⟩;conv=>whnf
 refine Ak (fun h2=>?_) (fun h2=>?_) <;> simp at h2 <;> conv=>whnf
 ·refine⟨by first | omega | (refine⟨rfl,?_,?_⟩ <;> first | omega | (simp only [Aa];done) | (simp only [Aa];omega)) | (simp only [Aa];omega),?_⟩;conv=>whnf
  have e0:∀ b,Ga l k=b->b=false->KY l=false:=fun b e1 e2=>S9 h2 (by rw [e1,e2])
  have wr:∀ b,Ga l k=b->b=true->(List.range (k+1)).all (Ga l)=true:=fun b e1 e2=>by rw [NA,hI,e1,e2];try rfl
  refine Ak (fun h3=>?_) (fun h3=>?_) <;> conv=>whnf
  ·exact⟨_,ri,by rw [e0 _ rfl (by simp only [Ac,decide_eq_true_eq] at h3;rw [Ga,decide_eq_false (show ¬0<=l.getD k 0 by omega),Dd])]⟩
  refine Ak (fun h4=>?_) (fun h4=>?_) <;> conv=>whnf
  ·simp only [Ac,decide_eq_true_eq,decide_eq_false_iff_not] at h3 h4;have w1:IntKind.i64.wrap ((k:Int) - 1)=((k - 1:Nat):Int):=by rw [wi (by omega)];omega
   refine⟨by rw [w1];constructor <;> omega,?_⟩;conv=>whnf
   rw [w1];refine Ak (fun h5=>?_) (fun h5=>?_) <;> conv=>whnf
   ·exact⟨_,ri,by
     simp only [Ac,decide_eq_true_eq] at h5;rw [e0 _ rfl];have:¬k=0:=by omega
     simp [Ga,this];intro _;simpa using h5⟩
   ·simp only [Ac,decide_eq_false_iff_not] at h5;exact⟨k+1,⟨by omega,wr _ rfl (by simp [Ga];simp at h3 h5;omega)⟩,by omega, [],tv,⟨rfl,rfl,rfl,AT (by omega),tv⟩,tv,rfl,rfl,rfl⟩
  ·simp only [Ac,decide_eq_false_iff_not] at h3 h4;have:k=0:=by omega
   exact⟨k+1,⟨by omega,wr _ rfl (by simp at h3;simp [Ga,this];simpa [this] using h3)⟩,by omega, [],tv,⟨rfl,rfl,rfl,AT (by omega),tv⟩,tv,rfl,rfl,rfl⟩
 ·exact⟨_,ri,by rw [show k=l.length by omega] at hI;rw [KY,hI]⟩
theorem Xe (b:List UInt8):Fn Tryz.prog 377 [bA b] fun r=>r = .v (.bool (decide (b.length≠8))):=by
 refine zT Tryz.func377 rfl ?_;conv=>whnf
 exact⟨_,ri,by congr 2;rw [Bool.eq_iff_iff];simp;omega⟩
theorem Xd (l:List (List UInt8))  (hl:l.length<=1000000):Fn Tryz.prog 316 [Pr l, .v (.func (.func 377) #[] #[])] fun r=>r = iv (Nk (fun b=>decide (b.length≠8)) l):=by
 refine zT Tryz.func316 rfl ?_;conv=>whnf
 refine zP Nat (fun k=>([(0,Pr l),(1, .v (.func (.func 377) #[] #[])),(7,iv l.length),(8,iv k)], [])) (fun k=>k<=l.length/\(l.take k).any (fun b=>decide (b.length≠8))=false) (fun k=>l.length - k) 0 ⟨Aj _,by simp⟩ ⟨[],tv,tA,tv,rfl,rfl,rfl⟩ ?_;rintro k ⟨hk,hI⟩;conv=>whnf
 refine Ak (fun h2=>?_) (fun h2=>?_) <;> simp at h2 <;> conv=>whnf
 ·refine⟨by first | omega | (refine⟨rfl,?_,?_⟩ <;> first | omega | (simp only [Aa];done) | (simp only [Aa];omega)) | (simp only [Aa];omega),?_⟩;conv=>whnf
  refine zY (Xe (l.getD k [])) ?_;conv=>whnf
  refine Ak (fun h3=>?_) (fun h3=>?_) <;> conv=>whnf
  ·exact⟨_,ri,by rw [Er (d:= []) h2 hI (by first | exact h3 | (rw [Ac] at h3;exact h3) | simpa using h3)]⟩
  ·refine⟨k+1,⟨by omega,Cj (d:= []) h2 hI (by first | exact h3 | (rw [Ac] at h3;exact h3) | simpa using h3)⟩,by omega, [],tv,⟨rfl,rfl,rfl,AT (by omega),tv⟩,tv,rfl,rfl,rfl⟩
 ·exact⟨_,ri,by rw [At h2] at hI;rw [Dz hI]⟩
theorem Xf (l:List (List UInt8))  (hl:l.length<=1000000):Fn Tryz.prog 244 [Pr l, .v (.func (.func 377) #[] #[])] fun r=>r = .v (.bool (l.any (fun b=>decide (b.length≠8)))):=by
 refine zT Tryz.func244 rfl ?_;conv=>whnf
 refine zY (Xd l  hl) ?_;exact⟨_,ri,by rw [FQ]⟩

def IM (h:Hd):Bool:=decide (h.lbas.length=h.blocks.length)&&(decide (h.lbas.length<=4)&&(KY h.lbas&&h.blocks.all fun b=>decide (b.length=8)))
theorem YE (h:Hd) (hl:h.lbas.length<=1000) (hb:h.blocks.length<=1000):Fn Tryz.prog 335 [.ag (Eh h)] fun r=>r = .v (.bool (IM h)):=by
 refine zT Tryz.func335 rfl ?_;conv=>whnf
 refine Ak (fun h1=>?_) (fun h1=>?_) <;> conv=>whnf
 ·refine Ak (fun h2=>?_) (fun h2=>?_) <;> conv=>whnf
  ·refine zY (MV h.lbas hl) ?_;conv=>whnf
   refine Ak (fun h3=>?_) (fun h3=>?_) <;> conv=>whnf
   ·refine zY (Xf h.blocks (by omega)) ?_;exact⟨_,ri,by
     simp only [beq_iff_eq,Int.natCast_inj] at h1;simp only [decide_eq_true_eq] at h2;unfold IM;rw [decide_eq_true h1,decide_eq_true (show h.lbas.length<=4 by omega),h3,Bx];simp⟩
   ·exact⟨_,ri,by unfold IM;rw [h3];simp⟩
  ·exact⟨_,ri,by simp only [decide_eq_false_iff_not] at h2;unfold IM;rw [decide_eq_false (show ¬h.lbas.length<=4 by omega)];simp⟩
 ·exact⟨_,ri,by
   have h1:¬h.lbas.length=h.blocks.length:=fun e=>by rw [e] at h1;simp at h1
   unfold IM;rw [decide_eq_false h1];simp⟩
theorem Rw (h:Hd) (hl:h.lbas.length<=1000) (hb:h.blocks.length<=1000):Fn Tryz.prog 334 [.ag (Eh h)] fun r=>r = .v (.bool (!IM h)):=by
 refine zT Tryz.func334 rfl ?_;conv=>whnf
 refine zY (YE h hl hb) ?_;exact⟨_,ri,rfl⟩
def am (h:Hd):Prop:=h.lbas.length<=1000/\h.blocks.length<=1000
theorem XN (l:List Hd) (hs:∀ h∈l,am h) (hl:l.length<=1000000):Fn Tryz.prog 348 [CJ l, .v (.func (.func 334) #[] #[])] fun r=>r = iv (Nk (fun h=>!IM h) l):=by
 refine zT Tryz.func348 rfl ?_;conv=>whnf
 refine zP Nat (fun k=>([(0,CJ l),(1, .v (.func (.func 334) #[] #[])),(7,iv l.length),(8,iv k)], [])) (fun k=>k<=l.length/\(l.take k).any (fun h=>!IM h)=false) (fun k=>l.length - k) 0 ⟨Aj _,by simp⟩ ⟨[],tv,tA,tv,rfl,rfl,rfl⟩ ?_;rintro k ⟨hk,hI⟩;conv=>whnf
 refine Ak (fun h2=>?_) (fun h2=>?_) <;> simp at h2 <;> conv=>whnf
 ·refine⟨by first | omega | (refine⟨rfl,?_,?_⟩ <;> first | omega | (simp only [Aa];done) | (simp only [Aa];omega)) | (simp only [Aa];omega),?_⟩;conv=>whnf
  refine zx (Rw (l.getD k ⟨0, [], []⟩) (hs _ (AC h2)).1 (hs _ (AC h2)).2) rfl ?_;rintro _ rfl;conv=>whnf
  refine Ak (fun h3=>?_) (fun h3=>?_) <;> conv=>whnf
  ·exact⟨_,ri,by rw [Er (d:=⟨0, [], []⟩) h2 hI (by first | exact h3 | (rw [Ac] at h3;exact h3) | simpa using h3)]⟩
  ·refine⟨k+1,⟨by omega,Cj (d:=⟨0, [], []⟩) h2 hI (by first | exact h3 | (rw [Ac] at h3;exact h3) | simpa using h3)⟩,by omega, [],tv,⟨rfl,rfl,rfl,AT (by omega),tv⟩,tv,rfl,rfl,rfl⟩
 ·exact⟨_,ri,by rw [At h2] at hI;rw [Dz hI]⟩
theorem S6 (l:List Hd) (hs:∀ h∈l,am h) (hl:l.length<=1000000):Fn Tryz.prog 333 [CJ l, .v (.func (.func 334) #[] #[])] fun r=>r = .v (.bool (l.any (fun h=>!IM h))):=by
 refine zT Tryz.func333 rfl ?_;conv=>whnf
 refine zY (XN l hs hl) ?_;exact⟨_,ri,by rw [FQ]⟩

theorem Zf (h:Hd) (id:Int):Fn Tryz.prog 349 [.ag (Eh h), .rp [iv id]] fun r=>r = .v (.bool (h.id == id)):=by
 refine zT Tryz.func349 rfl ?_;exact⟨_,ri,rfl⟩
theorem Ze (l:List Hd) (id:Int) (hl:l.length<=1000000):Fn Tryz.prog 348 [CJ l, .fn 349 [.rp [iv id]]] fun r=>r = iv (Nk (fun h=>h.id == id) l):=by
 refine zT Tryz.func348 rfl ?_;conv=>whnf
 refine zP Nat (fun k=>([(0,CJ l),(1, .fn 349 [.rp [iv id]]),(7,iv l.length),(8,iv k)], [])) (fun k=>k<=l.length/\(l.take k).any (fun h=>h.id == id)=false) (fun k=>l.length - k) 0 ⟨Aj _,by simp⟩ ⟨[],tv,tA,tv,rfl,rfl,rfl⟩ ?_;rintro k ⟨hk,hI⟩;conv=>whnf
 refine Ak (fun h2=>?_) (fun h2=>?_) <;> simp at h2 <;> conv=>whnf
 ·refine⟨by first | omega | (refine⟨rfl,?_,?_⟩ <;> first | omega | (simp only [Aa];done) | (simp only [Aa];omega)) | (simp only [Aa];omega),?_⟩;conv=>whnf
  refine zY (Zf (l.getD k ⟨0, [], []⟩) id) ?_;conv=>whnf
  refine Ak (fun h3=>?_) (fun h3=>?_) <;> conv=>whnf
  ·exact⟨_,ri,by rw [Er (d:=⟨0, [], []⟩) h2 hI (by first | exact h3 | (rw [Ac] at h3;exact h3) | simpa using h3)]⟩
  ·refine⟨k+1,⟨by omega,Cj (d:=⟨0, [], []⟩) h2 hI (by first | exact h3 | (rw [Ac] at h3;exact h3) | simpa using h3)⟩,by omega, [],tv,⟨rfl,rfl,rfl,AT (by omega),tv⟩,tv,rfl,rfl,rfl⟩
 ·exact⟨_,ri,by rw [At h2] at hI;rw [Dz hI]⟩
theorem ZE (l:List Hd) (id:Int) (hl:l.length<=1000000):Fn Tryz.prog 282 [CJ l,iv id] fun r=>r = .tp [iv (max (Nk (fun h:Hd=>h.id == id) l) 0), .v (.bool (l.any fun h=>h.id == id))]:=by
 refine zT Tryz.func282 rfl ?_;conv=>whnf
 refine zY (Ze l id hl) ?_;conv=>whnf
 exact⟨_,ri,by rw [<-FQ];congr 4;show (if _<(0:Int) then (0:Int) else _)=_;split <;> omega⟩
theorem ZC (l:List Int) (x:Int) (hl:l.length<=1000000):Fn Tryz.prog 153 [iA l,iv x] fun r=>r = iv (Nk (fun y=>x == y) l):=by
 refine zT Tryz.func153 rfl ?_;conv=>whnf
 refine zP Nat (fun k=>([(0,iA l),(1,iv x),(7,iv l.length),(8,iv k)], [])) (fun k=>k<=l.length/\(l.take k).any (fun y=>x == y)=false) (fun k=>l.length - k) 0 ⟨Aj _,by simp⟩ ⟨[],tv,tA,tv,rfl,rfl,rfl⟩ ?_;rintro k ⟨hk,hI⟩;conv=>whnf
 refine Ak (fun h2=>?_) (fun h2=>?_) <;> simp at h2 <;> conv=>whnf
 ·refine⟨by first | omega | (refine⟨rfl,?_,?_⟩ <;> first | omega | (simp only [Aa];done) | (simp only [Aa];omega)) | (simp only [Aa];omega),?_⟩;conv=>whnf
  refine Ak (fun h3=>?_) (fun h3=>?_) <;> conv=>whnf
  ·exact⟨_,ri,by rw [Er (d:=0) h2 hI (by first | exact h3 | (rw [Ac] at h3;exact h3) | simpa using h3)]⟩
  ·refine⟨k+1,⟨by omega,Cj (d:=0) h2 hI (by first | exact h3 | (rw [Ac] at h3;exact h3) | simpa using h3)⟩,by omega, [],tv,⟨rfl,rfl,rfl,AT (by omega),tv⟩,tv,rfl,rfl,rfl⟩
 ·exact⟨_,ri,by rw [At h2] at hI;rw [Dz hI]⟩
theorem Yo (l:List Int) (x:Int) (hl:l.length<=1000000):Fn Tryz.prog 80 [iA l,iv x] fun r=>r = .v (.bool (l.any (fun y=>x == y))):=by
 refine zT Tryz.func80 rfl ?_;conv=>whnf
 refine zY (ZC l x hl) ?_;exact⟨_,ri,by rw [FQ]⟩

theorem Ow (h:Hd) (x:Int) (hl:h.lbas.length<=1000):Fn Tryz.prog 201 [.ag (Eh h),iv x] fun r=>r = .v (.bool (decide (4<=h.lbas.length)&&!h.lbas.any fun y=>x == y)):=by
 refine zT Tryz.func201 rfl ?_;conv=>whnf
 refine Ak (fun h1=>?_) (fun h1=>?_) <;> conv=>whnf
 ·refine zY (Yo h.lbas x (by omega)) ?_;conv=>whnf
  exact⟨_,ri,by simp only [decide_eq_true_eq] at h1;rw [decide_eq_true (show 4<=h.lbas.length by omega)];try rfl⟩
 ·exact⟨_,ri,by simp only [decide_eq_false_iff_not] at h1;rw [decide_eq_false (show ¬4<=h.lbas.length by omega)];try rfl⟩
theorem XK (x:Int):Fn Tryz.prog 384 [iv x] fun r=>r = .v (.bool false):=by
 refine zT Tryz.func384 rfl ?_;exact⟨_,ri,by simp⟩
theorem WI (x:Int):Fn Tryz.prog 345 [iv x] fun r=>r = .v (.bool false):=by
 refine zT Tryz.func345 rfl ?_;exact⟨_,ri,by simp⟩
theorem Xv (x y:Int):Fn Tryz.prog 344 [iv x,iv y] fun r=>r = .v (.bool (decide (x<y))):=by
 refine zT Tryz.func344 rfl ?_;conv=>whnf
 refine zY (XK x) ?_;exact⟨_,ri,rfl⟩
theorem Mx (l:List Int) (x:Int) (hl:l.length<=1000) (hr:KY l=true):Fn Tryz.prog 280 [iA l,iv x] fun r=>r = .tp [iv (Ef l x:Nat), .v (.bool (decide (Ef l x<l.length)&&(l.getD (Ef l x) 0 == x)))]:=by
 refine zT Tryz.func280 rfl ?_;conv=>whnf
 refine zP (Nat × Nat) (fun k=>([(0,iA l),(1,iv x),(6,iv l.length),(7,iv k.1),(8,iv k.2)], [])) (fun k=>k.1<=k.2/\k.2<=l.length/\(∀ t,t<k.1->l.getD t 0<x)/\(∀ t,k.2<=t->t<l.length->x<=l.getD t 0)) (fun k=>k.2 - k.1) (0,l.length) ⟨Aj _,Ag _,fun t ht=>absurd ht (Ap _),fun t h1 h2=>by omega⟩ ⟨[],tv,tA,tv,rfl,rfl,rfl⟩ ?_;rintro⟨lo,hi⟩ ⟨h1,h2,h3,h4⟩;simp only at h1 h2 h3 h4;conv=>whnf
 refine Ak (fun h5=>?_) (fun h5=>?_) <;> simp only [decide_eq_true_eq,decide_eq_false_iff_not] at h5 <;> conv=>whnf
 ·refine⟨by decide,?_⟩;conv=>whnf
  have wm:IntKind.i64.wrap ((IntKind.u64.wrap (IntKind.i64.wrap ((lo:Int)+hi))).fdiv (2 ^ min (Int.toNat 1) IntKind.u64.bits))=(((lo+hi) / 2:Nat):Int):=by
   rw [wi (n:=(lo:Int)+hi) (by omega),show IntKind.u64.wrap ((lo:Int)+hi)=(lo:Int)+hi from IntWalk.u64_in _ (by omega),show (2 ^ min (Int.toNat 1) IntKind.u64.bits:Int)=2 by decide,Int.fdiv_eq_ediv_of_nonneg _ (by omega),wi (by omega)];omega
  rw [wm];refine⟨⟨by omega,by omega⟩,?_⟩;conv=>whnf
  rw [Ac];refine zx (Xv (l.getD ((lo+hi) / 2) 0) x) rfl ?_;rintro _ rfl;conv=>whnf
  refine Ak (fun h6=>?_) (fun h6=>?_) <;> simp only [decide_eq_true_eq,decide_eq_false_iff_not] at h6 <;> conv=>whnf
  ·exact⟨((lo+hi) / 2+1,hi),⟨by show (lo+hi) / 2+1<=hi;omega,h2,fun t ht=>by have:=NN hr (i:=t) (j:=(lo+hi) / 2) (by simp only at ht;omega) (by omega);omega,h4⟩,by show hi - ((lo+hi) / 2+1)<hi - lo;omega, [],tv,⟨rfl,rfl,rfl,by show AV.v (.int .i64 (IntKind.i64.wrap ((((lo+hi) / 2:Nat):Int)+1)))=_;exact AT (by omega),rfl,tv⟩,tv,rfl,rfl,rfl⟩
  ·exact⟨(lo,(lo+hi) / 2),⟨by show lo<=(lo+hi) / 2;omega,by show (lo+hi) / 2<=_;omega,h3,fun t ht ht2=>by have:=NN hr (i:=(lo+hi) / 2) (j:=t) ht ht2;omega⟩,by show (lo+hi) / 2 - lo<hi - lo;omega, [],tv,tA,tv,rfl,rfl,rfl⟩
 ·have e:lo=hi:=by omega
  subst e;have el:=Yg h2 h3 h4;refine Ak (fun h6=>?_) (fun h6=>?_) <;> simp only [decide_eq_true_eq,decide_eq_false_iff_not] at h6 <;> conv=>whnf
  ·refine⟨⟨by omega,by omega⟩,?_⟩;conv=>whnf
   refine Ak (fun h7=>?_) (fun h7=>?_) <;> (repeat rw [Ac] at h7) <;> conv=>whnf
   ·exact⟨_,ri,by rw [el,h7,decide_eq_true (show lo<l.length by omega)];try rfl⟩
   ·refine⟨⟨by omega,by omega⟩,?_⟩;conv=>whnf
    refine zY (WI _) ?_;exact⟨_,ri,by rw [el,h7,Bool.and_false]⟩
  ·exact⟨_,ri,by rw [el,decide_eq_false (show ¬lo<l.length by omega),Dd]⟩
theorem E6 {α:Type} {sz n:Nat} {f:α->List AV} {l:List α} {d:α} (hn:n=l.length) (c:Ctx) (u:Value) (h:Rd (.sl sz n fun i=>(l.map f).getD i []) c u):Rd (.sl sz l.length fun i=>f (l.getD i d)) c u:=by
 subst hn;exact z7 rfl (fun i hi=>AP hi) h
theorem Fn.sub {P:Program} {f:FuncId} {args args':List AV} {K:AV->Prop} (h:Fn P f args' K) (hs:SubL args args'):Fn P f args K:=
 ⟨h.go,fun c us hd hM hg hr=>h.calls c us hd hM hg (hs.rdl hr)⟩
def DO (l:List Hd):Bool:=decide (l.length<=3)&&(KY (l.map Hd.id)&&((decide (l.length=0) || decide ((l.map Hd.id).getD (l.length - 1) 0<=99))&&l.all IM))
def eB (b:Bool):Int:=if b then 0 else 1
theorem Gl (l:List Hd) (hl:l.length<=1000) (hs:∀ h∈l,am h):Fn Tryz.prog 276 [CJ l] fun r=>r = iv (eB (DO l)):=by
 refine zT Tryz.func276 rfl ?_;conv=>whnf
 refine zP Nat (fun k=>([(0,CJ l),(3, .ow 0 k),(6,CJ l),(7,iv l.length),(8,iv k)], [.row 3 1 (((l.take k).map Hd.id).map DC)])) (fun k=>k<=l.length) (fun k=>l.length - k) 0 (Aj _) ⟨[(3,3,1)],tA,tA,tA,rfl,rfl,rfl⟩ ?_;rintro k hk;conv=>whnf
 refine AS (fun h2=>?_) (fun h2=>?_) <;> (repeat rw [Ac] at h2) <;> conv=>whnf
 ·refine⟨by first | omega | (refine⟨rfl,?_,?_⟩ <;> first | omega | (simp only [Aa];done) | (simp only [Aa];omega)) | (simp only [Aa];omega),?_⟩;refine⟨rfl,?_⟩;conv=>whnf
  refine Ai ⟨by simp;omega,by omega⟩ ?_;refine⟨k+1,by omega,by omega, [],tv,⟨rfl,rfl,rfl,rfl,AT (by omega),tv⟩,⟨?_,tv⟩,rfl,rfl,rfl⟩;rw [Ac,Iu (d:=⟨0, [], []⟩) h2,A0];try rfl
 ·have e:k=l.length:=by omega
  subst e;rw [A6];refine Ak (fun h3=>?_) (fun h3=>?_) <;> simp only [decide_eq_true_eq,decide_eq_false_iff_not] at h3 <;> conv=>whnf
  ·exact⟨_,ri,by rw [DO,decide_eq_false (show ¬l.length<=3 by omega),Dd];try rfl⟩
  have d3:decide (l.length<=3)=true:=decide_eq_true (by omega);refine zq (args':= [.sl 1 l.length fun i=>((l.map Hd.id).map DC).getD i []]) ((MV (l.map Hd.id) (by simpa using hl)).sub ⟨fun c u h=>E6 (f:=DC) (d:=0) (by simp) c u h,tv⟩) ⟨by simp,rfl⟩ ?_;rintro _ rfl;refine⟨rfl,?_⟩;conv=>whnf
  refine Ak (fun h4=>?_) (fun h4=>?_) <;> conv=>whnf
  ·exact⟨_,ri,by rw [DO,d3,show KY (l.map Hd.id)=false by simpa using h4];try rfl⟩
  have d4:KY (l.map Hd.id)=true:=by simpa using h4
  refine Ak (fun h5=>?_) (fun h5=>?_) <;> simp only [decide_eq_true_eq,decide_eq_false_iff_not] at h5 <;> conv=>whnf
  ·have w1:IntKind.i64.wrap ((l.length:Int) - 1)=((l.length - 1:Nat):Int):=by rw [wi (by omega)];omega
   refine⟨by rw [w1];constructor <;> omega,?_⟩;conv=>whnf
   refine Ai ⟨rfl,by simp,by rw [w1];omega⟩ ?_;conv=>whnf
   rw [w1,Ac,show ((l.map Hd.id).map DC).getD (l.length - 1) []=DC ((l.map Hd.id).getD (l.length - 1) 0) from AP (by simp;omega)];conv=>whnf
   refine Ak (fun h6=>?_) (fun h6=>?_) <;> simp only [decide_eq_true_eq,decide_eq_false_iff_not] at h6 <;> conv=>whnf
   ·exact⟨_,ri,by rw [DO,d3,d4,decide_eq_false (show ¬l.length=0 by omega),decide_eq_false (show ¬(l.map Hd.id).getD (l.length - 1) 0<=99 by omega)];try rfl⟩
   ·refine zY (S6 l hs (by omega)) ?_;conv=>whnf
    have d5:(decide (l.length=0) || decide ((l.map Hd.id).getD (l.length - 1) 0<=99))=true:=by rw [decide_eq_true (show (l.map Hd.id).getD (l.length - 1) 0<=99 by omega),Bool.or_true]
    refine Ak (fun h7=>?_) (fun h7=>?_) <;> conv=>whnf
    ·exact⟨_,ri,by rw [DO,d3,d4,d5,Bx,h7];try rfl⟩
    ·exact⟨_,ri,by rw [DO,d3,d4,d5,Bx,h7];try rfl⟩
  ·refine zY (S6 l hs (by omega)) ?_;conv=>whnf
   have d5:(decide (l.length=0) || decide ((l.map Hd.id).getD (l.length - 1) 0<=99))=true:=by rw [decide_eq_true (show l.length=0 by omega),Bool.true_or]
   refine Ak (fun h7=>?_) (fun h7=>?_) <;> conv=>whnf
   ·exact⟨_,ri,by rw [DO,d3,d4,d5,Bx,h7];try rfl⟩
   ·exact⟨_,ri,by rw [DO,d3,d4,d5,Bx,h7];try rfl⟩
def ao (P:Program) (f:FuncId) (t:TypeId) (sz:Nat):Prop:=∀ (g c n i:Nat) (xs:List Value) (base:Nat) (w:World),w.ownsRow base t sz (.slice (some ⟨g,0,none⟩) n c) n xs->(∀ u∈xs,u.oneCell'=true)->i<n->n<=1000000->
  Calls P f #[.slice (some ⟨g,0,none⟩) n c, .int .i64 i, .int .i64 (i+1:Nat)] w fun e w'=>∃ v',e = .returned v'/\w'.ownsRow base t sz v' (n - 1) (xs.take (i*sz) ++ xs.drop ((i+1)*sz))/\w.grownBy w' (some g)/\v'.ownBlock=some g
theorem ACalls.delete {P:Program} {f:FuncId} {t:TypeId} {sz:Nat} (hg:Q5 P f) (hc:ao P f t sz) (es:List (List AV)) (i:Nat) (hi:i<es.length) (hn:es.length<=1000000) :
  ACalls P false f [.ow 0 es.length,iv i,iv (i+1:Nat)] [.row t sz es] fun r H=>r = .ow 1 (es.length - 1)/\H=[.dead, .row t sz (es.take i ++ es.drop (i+1))]:=by
 refine⟨hg,fun w0 M0 c us hs hr=>?_⟩;have hj:([.row t sz es]:List AB)[0]? = some (.row t sz es):=rfl;obtain⟨h1,h2,h3,xs,h4,h5,h6⟩:=hs.blk 0 _ hj;simp only [RdL] at hr;obtain⟨v,us1,rfl,r1,v1,us2,rfl,r2,v2,us3,rfl,r3,rfl⟩:=hr;simp only [Rd] at r1 r2 r3;have hv:=r1.2.2.2 h1.symm;subst r2 r3;have hob:=L4 h4;rcases h4.2 with ⟨_,h0⟩ | ⟨g,cc,cur,q1,q2,q3,q4,q5,q6,q7⟩
 ·omega
 have hv':v = .slice (some ⟨g,0,none⟩) es.length cc:=hv.trans q1;have:=hc g cc es.length i xs c.base c.w (by rw [<-hv',hv];exact h4) h6 hi hn;rw [hv'];refine this.mono ?_;rintro e' w' ⟨v',rfl,p1,p2,p3⟩;have hlen:(es.take i ++ es.drop (i+1)).length=es.length - 1:=by simp only [Ah,Aq,Al];omega
 have hob':=L4 p1;have hog:oB (c.rho 0)=some g:=by rw [q1];try rfl
 rw [<-hog] at p2 p3;rw [<-hob'] at p3;obtain⟨s1,s2,s3⟩:=hs.rerow (es':=es.take i ++ es.drop (i+1)) hj (by rw [hlen];exact p1) p2 (.inl p3) h2 (fun x hx=>by
   rcases Az.1 hx with hx | hx
   ·exact h3 x (Bo hx)
   ·exact h3 x (BG hx)) (by
   rw [AX,Nq h3,Mh h3];exact(h5.take _).append (h5.drop _)) (fun u hu=>by
   rcases Az.1 hu with hu | hu
   ·exact h6 u (Bo hu)
   ·exact h6 u (BG hu))
 exact⟨v',_,_,_,rfl,rfl,tA,s1,s2,by rw [<-hlen];exact s3,fun e=>by cases e⟩
def I4 (h:Hd):Prop:=h.lbas.length<=1000/\h.blocks.length<=1000/\∀ b∈h.blocks,b.length<=1000000
theorem XY (l:List Int):SubL [.sl 1 l.length fun i=>(l.map DC).getD i []] [iA l]:=⟨fun c u h=>E6 (f:=DC) (d:=0) rfl c u h,tv⟩
theorem YQ (h:Hd):SubL [iv h.id, .sl 1 h.lbas.length fun i=>(h.lbas.map DC).getD i [], .sl 1 h.blocks.length fun i=>(h.blocks.map My).getD i []] (Eh h):=
 ⟨fun _ _ h=>h,fun c u h=>E6 (f:=DC) (d:=0) rfl c u h,fun c u h=>E6 (f:=My) (d:= []) rfl c u h,tv⟩
theorem WL {l:List Hd} {k:Nat} {e:List AV} (hk:k<l.length) (h:SubL e (Eh (l.getD k (⟨0, [], []⟩:Hd)))) (i:Nat):SubL (((l.map Eh).set k e).getD i []) ((l.map Eh).getD i []):=by
 by_cases e:i=k
 ·subst e;rw [Ab,A3 (by simpa using hk),AP hk];exact h
 ·rw [Ab,A4 (Ne.symm e),<-Ab];exact SubL.refl _
theorem LQ (l:List Hd) (hl:l.length<=1000) (hs:∀ h∈l,I4 h):ACalls Tryz.prog false 48 [CJ l] [] fun r H=>r = .ow 0 l.length/\H=[.row 78 3 (l.map Eh)]:=by
 refine zJ tys_ok Tryz.func48 rfl rfl (Ae rfl) ?_;conv=>whnf
 refine zX (LX l (by omega)) rfl ?_;rintro _ _ ⟨rfl,rfl⟩;conv=>whnf
 refine zt Nat (fun k=>([(0, .ow 0 l.length),(7, .ow 0 l.length),(8,iv l.length),(9,iv k)], [.row 78 3 (l.map Eh)])) (fun k=>k<=l.length) (fun k=>l.length - k) 0 (Aj _) (zL ⟨[],tv,tA,tA,rfl,rfl,rfl⟩) ?_;rintro k hk;conv=>whnf
 refine AS (fun h2=>?_) (fun h2=>?_) <;> (repeat rw [Ac] at h2) <;> conv=>whnf
 ·have hk':k<l.length:=by omega
  have hE:(l.map Eh).getD k []=Eh (l.getD k (⟨0, [], []⟩:Hd)):=AP hk';refine⟨⟨by omega,by omega⟩,?_⟩;refine⟨⟨rfl,(Aa _).symm,by simpa using hk'⟩,?_⟩;conv=>whnf
  rw [show ((k:Int)).toNat=k from Ac k,hE];conv=>whnf
  have hb:=hs _ (AC (d:=(⟨0, [], []⟩:Hd)) hk');refine zX (Kb (l.getD k (⟨0, [], []⟩:Hd)) hb.1 hb.2.1 hb.2.2) rfl ?_;rintro _ _ ⟨rfl,rfl⟩;refine⟨⟨by omega,by omega⟩,?_⟩;refine Ai (Aa _).symm ?_;refine Ai (Aa _).symm ?_;conv=>whnf
  refine Ai ⟨rfl,(Aa _).symm,by rw [Ac];exact hk'⟩ ?_;conv=>whnf
  rw [show ((k:Int)).toNat=k from Ac k,hE];refine⟨k+1,by omega,by omega,_,zm (k:=0) rfl (es':=l.map Eh) (by simp) (fun i=>?_), [],tv,⟨rfl,rfl,rfl,AT (by omega),tv⟩,tA,rfl,rfl,rfl⟩;exact WL hk' (YQ _) i
 ·exact⟨.ow 0 l.length,_, [.row 78 3 (l.map Eh)],fun _ _ h=>h,zL ⟨[],tv,tA,tA,rfl,rfl,rfl⟩,rfl,rfl⟩
theorem Sw (l:List Hd):AV.ltL (l.map Eh).flatten 0=true:=by
 rw [CP];intro x hx;obtain⟨e,he,hxe⟩:=BP.1 hx;obtain⟨h,_,rfl⟩:=AI.1 he;simp only [Eh,AQ,D1,or_false] at hxe;rcases hxe with rfl | rfl | rfl <;> rfl
theorem Xo {f g:AV->AV} {B:List (List AV)} (j:Nat):((B.map (List.map f)).map (List.map g)).getD j []=((B.getD j []).map f).map g:=by
 rw [Ab,Ab,Bd,Bd];cases B[j]? <;> rfl
theorem Lw {B:List (List AV)} {k:Nat} {f g:AV->AV} {X:List AV} (hk:k<B.length) (hB:∀ j,j≠k->SubL (((B.getD j []).map f).map g) (B.getD j [])) (hX:SubL ((X.map f).map g) (B.getD k [])) (j:Nat) :
  SubL ((((B.set k X).map (List.map f)).map (List.map g)).getD j []) (B.getD j []):=by
 rw [Xo];by_cases e:j=k
 ·subst e;rw [BK hk];exact hX
 ·rw [DQ (Ne.symm e)];exact hB j e
def To (h:Hd) (a b:Nat):List AV:= [iv h.id, .ow a h.lbas.length, .ow b h.blocks.length]
def ZU (l:List Hd) (i:Nat):List AB:= [.rowo 78 3 ((l.map Eh).set i (To (l.getD i (⟨0, [], []⟩:Hd)) 4 5)) 6, .dead, .dead, .dead, .row 3 1 ((l.getD i (⟨0, [], []⟩:Hd)).lbas.map DC), .row 22 1 ((l.getD i (⟨0, [], []⟩:Hd)).blocks.map My)]
def aB (l:List Hd) (i:Nat):Bool->List AB
 | false=> [.rowo 78 3 (l.map Eh) 0]
 | true=>ZU l i
theorem Js {n n':Nat} {a:Nat} {s:AV} (h:n=n'):AV.slIn a n' s (.ow a n)=s:=by
 subst h;simp [AV.slIn]
theorem Id {n n':Nat} {a b:Nat} {s:AV} (h:¬b=a):AV.slIn a n' s (.ow b n) = .ow b n:=by
 simp [AV.slIn,h]
theorem Ol {a b:Nat} (hab:¬b=a) (h:Hd):SubL (((To h a b).map (AV.slIn a (h.lbas.map DC).length (.sl 1 (h.lbas.map DC).length fun i=>(h.lbas.map DC).getD i []))).map (AV.slIn b (h.blocks.map My).length (.sl 1 (h.blocks.map My).length fun i=>(h.blocks.map My).getD i []))) (Eh h):=by
 simp only [To,A5,Bp,Js (Aa _).symm,Id hab];exact⟨fun _ _ h=>h,fun c u h'=>E6 (f:=DC) (d:=0) (Aa _) c u h',fun c u h'=>E6 (f:=My) (d:= []) (Aa _) c u h',tv⟩
theorem PP (l:List Hd) (i:Nat) (hi:i<l.length) (hl:l.length<=1000) (hs:∀ h∈l,I4 h):ACalls Tryz.prog false 48 [CJ l] [] fun r H=>r = .ow 0 l.length/\H=ZU l i:=by
 refine zJ tys_ok Tryz.func48 rfl rfl (Ae rfl) ?_;conv=>whnf
 refine zX (LX l (by omega)) rfl ?_;rintro _ _ ⟨rfl,rfl⟩;conv=>whnf
 refine zt (Nat × Bool) (fun k=>([(0, .ow 0 l.length),(7, .ow 0 l.length),(8,iv l.length),(9,iv k.1)],aB l i k.2)) (fun k=>k.1<=l.length/\(k.2=false->k.1<=i)/\(k.2=true->i<k.1)) (fun k=>l.length - k.1) (0,false) ⟨Aj _,fun _=>Aj _,fun h=>by cases h⟩ ⟨_,ConvH.rowo (k:=0) rfl, [],tv,tA,tA,rfl,rfl,rfl⟩ ?_;rintro⟨k,b⟩ ⟨hk,hf,ht⟩;simp only at hk hf ht;cases b with
 | false=>
  have hki:=hf rfl;conv=>whnf
  refine AS (fun h2=>?_) (fun h2=>?_) <;> (repeat rw [Ac] at h2) <;> conv=>whnf
  ·have hk':k<l.length:=by simpa using h2
   have hE:(l.map Eh).getD k []=Eh (l.getD k (⟨0, [], []⟩:Hd)):=AP hk';refine⟨⟨by simp,by simpa using hk'⟩,?_⟩;refine⟨⟨rfl,(Aa _).symm,by simpa using hk'⟩,?_⟩;conv=>whnf
   rw [show (((k,false).1:Int)).toNat=k from Ac k,hE];conv=>whnf
   have hb:=hs _ (AC (d:=(⟨0, [], []⟩:Hd)) hk');refine zX (Kb (l.getD k (⟨0, [], []⟩:Hd)) hb.1 hb.2.1 hb.2.2) rfl ?_;rintro _ _ ⟨rfl,rfl⟩;refine⟨⟨by simp,by simpa using hk'⟩,?_⟩;refine⟨⟨rfl,(Aa _).symm,by simpa using hk'⟩,?_⟩;conv=>whnf
   rw [show (((k,false).1:Int)).toNat=k from Ac k,hE];conv=>whnf
   by_cases e:k=i
   ·subst e;exact⟨(k+1,true),⟨hk',fun h=>(by cases h),fun _=>Br _⟩,by show l.length - (k+1)<l.length - k;omega,zL ⟨[],tv,⟨rfl,rfl,rfl,AT (by omega),tv⟩,tA,rfl,rfl,rfl⟩⟩
   ·refine⟨(k+1,false),⟨hk',fun _=>by show k+1<=i;omega,fun h=>by cases h⟩,by show l.length - (k+1)<l.length - k;omega,_,zC (zz 0 4 rfl rfl rfl) (zC (zz 0 5 rfl rfl rfl) (zr (k:=0) rfl (es':=l.map Eh) (m':=0) (by simp) (fun j=>?_) (Sw l))), [],tv,⟨rfl,rfl,rfl,AT (by omega),tv⟩,tA,rfl,rfl,rfl⟩;refine Lw (by simpa using hk') (fun j hj=>?_) ?_ j
    ·by_cases hj2:j<l.length
     ·rw [AP (d:=(⟨0, [], []⟩:Hd)) hj2];exact SubL.refl _
     ·rw [show (l.map Eh).getD j []=[] by rw [Ab,AF (by simpa using hj2)];try rfl];trivial
    ·rw [hE];exact Ol (by decide) _
  ·simp at h2;omega
 | true=>
  have hki:=ht rfl;conv=>whnf
  refine AS (fun h2=>?_) (fun h2=>?_) <;> (repeat rw [Ac] at h2) <;> conv=>whnf
  ·have hk':k<l.length:=by simpa using h2
   have hE:((l.map Eh).set i (To (l.getD i (⟨0, [], []⟩:Hd)) 4 5)).getD k []=Eh (l.getD k (⟨0, [], []⟩:Hd)):=by rw [DQ (by omega)];exact AP hk'
   have hL:l.length=((l.map Eh).set i (To (l.getD i (⟨0, [], []⟩:Hd)) 4 5)).length:=by simp
   refine⟨⟨by simp,by simpa using hk'⟩,?_⟩;refine⟨⟨rfl,hL,by simpa using hk'⟩,?_⟩;conv=>whnf
   rw [show (((k,true).1:Int)).toNat=k from Ac k,hE];conv=>whnf
   have hb:=hs _ (AC (d:=(⟨0, [], []⟩:Hd)) hk');refine zX (Kb (l.getD k (⟨0, [], []⟩:Hd)) hb.1 hb.2.1 hb.2.2) rfl ?_;rintro _ _ ⟨rfl,rfl⟩;refine⟨⟨by simp,by simpa using hk'⟩,?_⟩;refine⟨⟨rfl,hL,by simpa using hk'⟩,?_⟩;conv=>whnf
   rw [show (((k,true).1:Int)).toNat=k from Ac k,hE];conv=>whnf
   refine⟨(k+1,true),⟨hk',fun h=>(by cases h),fun _=>by show i<k+1;omega⟩,by show l.length - (k+1)<l.length - k;omega,_,zC (zz 0 9 rfl rfl rfl) (zC (zz 0 10 rfl rfl rfl) (zr (k:=0) rfl (es':=(l.map Eh).set i (To (l.getD i (⟨0, [], []⟩:Hd)) 4 5)) (m':=6) (by simp) (fun j=>?_) ?_)), [],tv,⟨rfl,rfl,rfl,AT (by omega),tv⟩,tA,rfl,rfl,rfl⟩
   ·refine Lw (by simpa using hk') (fun j hj=>?_) ?_ j
    ·by_cases hji:j=i
     ·subst hji;rw [BK (by simpa using hi)];simp only [To,A5,Bp];rw [Id (by decide),Id (by decide),Id (by decide),Id (by decide)];exact SubL.refl _
     ·rw [DQ (Ne.symm hji)];by_cases hj2:j<l.length
      ·rw [AP (d:=(⟨0, [], []⟩:Hd)) hj2];exact SubL.refl _
      ·rw [show (l.map Eh).getD j []=[] by rw [Ab,AF (by simpa using hj2)];try rfl];trivial
    ·rw [hE];exact Ol (by decide) _
   ·rw [CP];intro x hx;obtain⟨e,he,hxe⟩:=BP.1 hx;rcases Cd he with he | rfl
    ·exact AV.lt_mono x (Aj 6) (CP.1 (Sw l) x (BP.2 ⟨e,he,hxe⟩))
    ·simp only [To,AQ,D1,or_false] at hxe;rcases hxe with rfl | rfl | rfl <;> rfl
  ·exact⟨.ow 0 l.length,_,ZU l i,fun _ _ h=>h,zL ⟨[],tv,tA,tA,rfl,rfl,rfl⟩,rfl,rfl⟩
structure Lck where
 lba:Int
 reads:List Int
 writer:Int
def lz:Lck:=⟨0, [],0⟩
def DX (x:Lck):List AV:= [iv x.lba,iA x.reads,iv x.writer]
def BH (l:List Lck):AV:= .sl 3 l.length fun i=>DX (l.getD i lz)
def GB (x:Lck):Bool:=decide (x.reads.length<=8)&&(KY x.reads&&(decide (-1<=x.writer)&&(decide (0<x.reads.length) != (x.writer != -1))))
def Hy (l:List Lck):Bool:=decide (l.length<=64)&&(KY (l.map Lck.lba)&&l.all GB)
theorem Sn (l:List Int) (hl:l.length<=1000):Fn Tryz.prog 338 [iA l] fun r=>r = .v (.bool (KY l)):=by
 refine zT Tryz.func338 rfl ?_;conv=>whnf
 refine zP Nat (fun k=>([(0,iA l),(5,iA l),(6,iv l.length),(7,iv k)], [])) (fun k=>k<=l.length/\(List.range k).all (Ga l)=true) (fun k=>l.length - k) 0 ⟨Aj _,by simp⟩ ⟨[],tv,tA,tv,rfl,rfl,rfl⟩ ?_;rintro k ⟨hk,hI⟩;conv=>whnf
 refine Ak (fun h2=>?_) (fun h2=>?_) <;> simp at h2 <;> conv=>whnf
 ·refine⟨by first | omega | (refine⟨rfl,?_,?_⟩ <;> first | omega | (simp only [Aa];done) | (simp only [Aa];omega)) | (simp only [Aa];omega),?_⟩;conv=>whnf
  have e0:∀ b,Ga l k=b->b=false->KY l=false:=fun b e1 e2=>S9 h2 (by rw [e1,e2])
  have wr:∀ b,Ga l k=b->b=true->(List.range (k+1)).all (Ga l)=true:=fun b e1 e2=>by rw [NA,hI,e1,e2];try rfl
  refine Ak (fun h3=>?_) (fun h3=>?_) <;> conv=>whnf
  ·exact⟨_,ri,by rw [e0 _ rfl (by simp only [Ac,decide_eq_true_eq] at h3;rw [Ga,decide_eq_false (show ¬0<=l.getD k 0 by omega),Dd])]⟩
  refine Ak (fun h4=>?_) (fun h4=>?_) <;> conv=>whnf
  ·simp only [Ac,decide_eq_true_eq,decide_eq_false_iff_not] at h3 h4;have w1:IntKind.i64.wrap ((k:Int) - 1)=((k - 1:Nat):Int):=by rw [wi (by omega)];omega
   refine⟨by rw [w1];constructor <;> omega,?_⟩;conv=>whnf
   rw [w1];refine Ak (fun h5=>?_) (fun h5=>?_) <;> conv=>whnf
   ·exact⟨_,ri,by
     simp only [Ac,decide_eq_true_eq] at h5;rw [e0 _ rfl];have:¬k=0:=by omega
     simp [Ga,this];intro _;simpa using h5⟩
   ·simp only [Ac,decide_eq_false_iff_not] at h5;exact⟨k+1,⟨by omega,wr _ rfl (by simp [Ga];simp at h3 h5;omega)⟩,by omega, [],tv,⟨rfl,rfl,rfl,AT (by omega),tv⟩,tv,rfl,rfl,rfl⟩
  ·simp only [Ac,decide_eq_false_iff_not] at h3 h4;have:k=0:=by omega
   exact⟨k+1,⟨by omega,wr _ rfl (by simp at h3;simp [Ga,this];simpa [this] using h3)⟩,by omega, [],tv,⟨rfl,rfl,rfl,AT (by omega),tv⟩,tv,rfl,rfl,rfl⟩
 ·exact⟨_,ri,by rw [show k=l.length by omega] at hI;rw [KY,hI]⟩
theorem Xu (x:Lck) (hx:GB x=true):Fn Tryz.prog 341 [.ag (DX x)] fun r=>r = .v (.bool true):=by
 simp only [GB,Ad,decide_eq_true_eq] at hx;obtain⟨h1,h2,h3,h4⟩:=hx;have c1:=Sn x.reads (by omega);rw [h2] at c1;refine zT Tryz.func341 rfl ?_;conv=>whnf
 rw [decide_eq_false (show ¬(8:Int)<(x.reads.length:Nat) by omega)];conv=>whnf
 refine zY c1 ?_;conv=>whnf
 rw [decide_eq_false (show ¬x.writer < -1 by omega)];conv=>whnf
 exact⟨_,ri,by rw [show decide ((x.reads.length:Int) > 0)=decide (0<x.reads.length) from decide_eq_decide.2 (by omega)];exact congrArg (fun b=>AV.v (.bool b)) h4⟩
theorem Vk (x:Lck) (hx:GB x=true):Fn Tryz.prog 340 [.ag (DX x)] fun r=>r = .v (.bool (!GB x)):=by
 have c:=Xu x hx;refine zT Tryz.func340 rfl ?_;conv=>whnf
 refine zY c ?_;exact⟨_,ri,by rw [hx]⟩
theorem Xy (l:List Lck) (hs:∀ x∈l,GB x=true) (hl:l.length<=1000000):Fn Tryz.prog 379 [BH l, .v (.func (.func 340) #[] #[])] fun r=>r = iv (Nk (fun x=>!GB x) l):=by
 refine zT Tryz.func379 rfl ?_;conv=>whnf
 refine zP Nat (fun k=>([(0,BH l),(1, .v (.func (.func 340) #[] #[])),(7,iv l.length),(8,iv k)], [])) (fun k=>k<=l.length/\(l.take k).any (fun x=>!GB x)=false) (fun k=>l.length - k) 0 ⟨Aj _,by simp⟩ ⟨[],tv,tA,tv,rfl,rfl,rfl⟩ ?_;rintro k ⟨hk,hI⟩;conv=>whnf
 refine Ak (fun h2=>?_) (fun h2=>?_) <;> simp at h2 <;> conv=>whnf
 ·refine⟨by first | omega | (refine⟨rfl,?_,?_⟩ <;> first | omega | (simp only [Aa];done) | (simp only [Aa];omega)) | (simp only [Aa];omega),?_⟩;conv=>whnf
  refine zx (Vk (l.getD k lz) (hs _ (AC h2))) rfl ?_;rintro _ rfl;conv=>whnf
  refine Ak (fun h3=>?_) (fun h3=>?_) <;> conv=>whnf
  ·exact⟨_,ri,by rw [Er (d:=lz) h2 hI (by first | exact h3 | (rw [Ac] at h3;exact h3) | simpa using h3)]⟩
  ·refine⟨k+1,⟨by omega,Cj (d:=lz) h2 hI (by first | exact h3 | (rw [Ac] at h3;exact h3) | simpa using h3)⟩,by omega, [],tv,⟨rfl,rfl,rfl,AT (by omega),tv⟩,tv,rfl,rfl,rfl⟩
 ·exact⟨_,ri,by rw [At h2] at hI;rw [Dz hI]⟩
theorem Xz (l:List Lck) (hs:∀ x∈l,GB x=true) (hl:l.length<=1000000):Fn Tryz.prog 339 [BH l, .v (.func (.func 340) #[] #[])] fun r=>r = .v (.bool (l.any (fun x=>!GB x))):=by
 refine zT Tryz.func339 rfl ?_;conv=>whnf
 refine zY (Xy l hs hl) ?_;exact⟨_,ri,by rw [FQ]⟩

theorem DW (l:List Lck) (hok:Hy l=true):Fn Tryz.prog 278 [BH l] fun r=>r = iv 0:=by
 simp only [Hy,Ad,decide_eq_true_eq] at hok;obtain⟨hl,hr,hs⟩:=hok;have hs:=Av.1 hs;have c2:=Xz l hs (by omega);rw [show l.any (fun x=>!GB x)=false from List.any_eq_false.2 fun x hx=>by rw [hs x hx];decide] at c2;refine zT Tryz.func278 rfl ?_;conv=>whnf
 refine zP Nat (fun k=>([(0,BH l),(3, .ow 0 k),(6,BH l),(7,iv l.length),(8,iv k)], [.row 3 1 (((l.take k).map Lck.lba).map DC)])) (fun k=>k<=l.length) (fun k=>l.length - k) 0 (Aj _) ⟨[(3,3,1)],tA,tA,tA,rfl,rfl,rfl⟩ ?_;rintro k hk;conv=>whnf
 refine AS (fun h2=>?_) (fun h2=>?_) <;> (repeat rw [Ac] at h2) <;> conv=>whnf
 ·refine⟨by first | omega | (refine⟨rfl,?_,?_⟩ <;> first | omega | (simp only [Aa];done) | (simp only [Aa];omega)) | (simp only [Aa];omega),?_⟩;refine⟨rfl,?_⟩;conv=>whnf
  refine Ai ⟨by simp;omega,by omega⟩ ?_;refine⟨k+1,by omega,by omega, [],tv,⟨rfl,rfl,rfl,rfl,AT (by omega),tv⟩,⟨?_,tv⟩,rfl,rfl,rfl⟩;rw [Ac,Iu (d:=lz) h2,A0];try rfl
 ·have e:k=l.length:=by omega
  subst e;rw [A6,decide_eq_false (show ¬(64:Int)<(l.length:Nat) by omega)];conv=>whnf
  refine zq (args':= [.sl 1 l.length fun i=>((l.map Lck.lba).map DC).getD i []]) ((Sn (l.map Lck.lba) (by simp;omega)).sub ⟨fun c u h=>E6 (f:=DC) (d:=0) (by simp) c u h,tv⟩) ⟨by simp,rfl⟩ ?_;rintro _ rfl;refine⟨rfl,?_⟩;rw [hr];conv=>whnf
  refine zY c2 ?_;exact⟨_,ri,rfl⟩
end
section
open Go.RowKit Go.Lib
def Gj (s:ByteArray):List UInt8:=UInt8.ofNat s.size::s.data.toList
theorem F5 (s:ByteArray):(Gj s).length=1+s.size:=by simp [Gj,CA]
theorem Qm (l:List UInt8):(decodeL l).2<=4:=by
 rw [decodeL_N];rcases decodeN_shape l.length (l.getD 0 0).toNat (l.getD 1 0).toNat (l.getD 2 0).toNat (l.getD 3 0).toNat with ⟨_,e⟩ | ⟨_,_,_,_,e⟩ | ⟨_,_,_,_,_,_,e⟩ | ⟨_,_,_,_,_,_,_,e⟩ | e <;> rw [e] <;> simp
theorem Tc (n:Nat):∀ l:List UInt8,l.length=n->l.length<=4*Fx l:=by
 induction n using Nat.strongRecOn with
 | ind n ih=>
  intro l hl;by_cases h:l=[]
  ·subst h;simp
  ·have h1:=Im h;have h2:=ih _ (by rw [<-hl];exact h1) _ rfl;have h3:=Qm l;rw [Kz l h];rw [Al] at h2;omega
theorem Hz {l:List UInt8} (h:Ev l=0):l.length<=24:=by
 have h1:=Tc _ l rfl;unfold Ev at h;split at h
 ·cases h
 ·split at h
  ·cases h
  ·omega
def LL (b:List UInt8):Option (ByteArray × Nat):=
 if b.length<1+(b.getD 0 0).toNat then none
 else if Ev ((b.drop 1).take (b.getD 0 0).toNat)=0 then some (⟨((b.drop 1).take (b.getD 0 0).toNat).toArray⟩,1+(b.getD 0 0).toNat) else none
theorem Nj {b:List UInt8} {s:ByteArray} {n:Nat} (h:LL b=some (s,n)):n<=b.length/\Gj s=b.take n/\n=1+s.size/\Ev s.data.toList=0:=by
 unfold LL at h;split at h
 ·cases h
 ·rename_i h1;split at h
  ·rename_i h2;simp only [Option.some.injEq,Prod.mk.injEq] at h;obtain⟨rfl,rfl⟩:=h;have hl:((b.drop 1).take (b.getD 0 0).toNat).length=(b.getD 0 0).toNat:=by rw [Aq,Al];omega
   have hb:b=b.getD 0 0::b.drop 1:=by
    cases b with
    | nil=>simp at h1
    | cons x r=>rfl
   refine⟨by omega,?_,by show _=1+(List.toArray _).size;simp only [Bw,hl],h2⟩;have e:(⟨((b.drop 1).take (b.getD 0 0).toNat).toArray⟩:ByteArray).size=(b.getD 0 0).toNat:=by show (List.toArray _).size=_;simp only [Bw,hl]
   unfold Gj;rw [e];simp only;rw [CA,hb];simp
  ·cases h
theorem T4 {s:ByteArray} (h:Ev s.data.toList=0) (r:List UInt8):LL (Gj s ++ r)=some (s,1+s.size):=by
 have h24:=Hz h;have hs:s.size=s.data.toList.length:=rfl;have e0:((Gj s ++ r).getD 0 0).toNat=s.size:=by
  show (UInt8.ofNat s.size).toNat=s.size;simp;omega
 have e1:((Gj s ++ r).drop 1).take s.size=s.data.toList:=by
  show (s.data.toList ++ r).take s.size=_;rw [List.take_append_of_le_length (by omega),At (by omega)]
 unfold LL;rw [e0,e1,if_neg (by rw [Ah,F5];omega),if_pos h]

def FC (n:Nat):List Int:=List.replicate n 1
def szA:List Int:= [4,4,4,4,1]
def Km (a:An):List Int:= [a.gen,a.epoch,a.seq,a.last,a.pos]
def NW (l:List Int):List UInt8:=rowB l (FC l.length)
def M9 (h:Hm):List UInt8:=NW h.places ++ rowB [h.next,h.root] [1,4]
def JE (a:An):List UInt8:=rowB (Km a) szA ++ Gj a.label ++ (a.homes.map M9).flatten
def HZ (n:Nat):List Int:=FC (n+1) ++ [4]
def LU (n:Nat) (c:List UInt8):Hm:=⟨(nums (HZ n) c).take n,(nums (HZ n) c).getD n 0,(nums (HZ n) c).getD (n+1) 0⟩
def Ez (n k:Nat) (c:List UInt8):List Hm:=(List.range k).map fun i=>LU n (c.drop ((n+5)*i))
def MG (n k:Nat) (b:List UInt8) (s:ByteArray) (u:Nat):An:=⟨(nums szA b).getD 0 0,(nums szA b).getD 1 0,(nums szA b).getD 4 0,(nums szA b).getD 2 0,(nums szA b).getD 3 0,s,Ez n k (b.drop (17+u))⟩
def DM (g:Geo) (b:List UInt8):Option An:=
 if b.length<17 then none else
 match LL (b.drop 17) with
 | none=>none
 | some (s,u)=>if b.length≠17+u+g.z.toNat*(g.d.toNat+6) then none
  else if B7 g (MG (g.d.toNat+1) g.z.toNat b s u) then some (MG (g.d.toNat+1) g.z.toNat b s u) else none

theorem tot_ones:∀ n,tot (FC n)=n
 | 0=>rfl
 | n+1=>by show 1+tot (FC n)=n+1;rw [tot_ones n];omega
theorem tot_app:∀ (a b:List Int),tot (a ++ b)=tot a+tot b
 | [],b=>by simp [tot]
 | x::a,b=>by simp only [Bj,tot,tot_app a b];omega
theorem ET (n:Nat):tot (HZ n)=n+5:=by rw [HZ,tot_app,tot_ones];try rfl
theorem EU (n:Nat):(HZ n).length=n+2:=by simp [HZ,FC]
theorem Jt (n:Nat):(FC n).length=n:=by simp [FC]
theorem rowB_app:∀ (a s b t:List Int),a.length=s.length->rowB (a ++ b) (s ++ t)=rowB a s ++ rowB b t
 | [], [],b,t,_=>rfl
 | x::a,y::s,b,t,h=>by simp only [Bj,rowB,rowB_app a s b t (by simpa using h),AA]
theorem M_ (n:Nat):FC (n+1)=FC n ++ [1]:=by simp [FC,List.replicate_succ']
theorem J1 (h:Hm):M9 h=rowB (h.places ++ [h.next,h.root]) (HZ h.places.length):=by
 rw [HZ,M_,AA,rowB_app _ _ _ _ (Jt _).symm];try rfl
theorem PH {l:List Int} {n:Nat} (h:l.length=n+2):l=l.take n ++ [l.getD n 0,l.getD (n+1) 0]:=by
 have h1:n<l.length:=by omega
 have h2:n+1<l.length:=by omega
 conv=>lhs;rw [<-Cg n l]
 congr 1;rw [BE h1,BE h2,A9 (by omega)];simp [Ab,Af h1,Af h2]
theorem VA (n:Nat) (c:List UInt8) (hc:n+5<=c.length):M9 (LU n c)=c.take (n+5):=by
 have hl:(nums (HZ n) c).length=n+2:=by rw [nums_len,EU]
 have hp:(LU n c).places.length=n:=by show ((nums (HZ n) c).take n).length=n;rw [Aq];omega
 rw [J1,hp,show (LU n c).places ++ [(LU n c).next,(LU n c).root]=nums (HZ n) c from (PH hl).symm,rowB_nums _ _ (by rw [ET];exact hc),ET]
theorem Su (n:Nat):∀ (k:Nat) (c:List UInt8),(n+5)*k<=c.length->((Ez n k c).map M9).flatten=c.take ((n+5)*k)
 | 0,c,_=>by simp [Ez]
 | k+1,c,h=>by
  have h':(n+5)*k+(n+5)<=c.length:=by rw [Nat.mul_succ] at h;exact h
  have ih:=Su n k c (by omega);rw [Ez,By,A0,A0,AX,show ((List.map (fun i=>LU n (List.drop ((n+5)*i) c)) (List.range k)).map M9).flatten=_ from ih];simp only [A5,Bp,A8,List.flatten_nil,AE];rw [VA n _ (by rw [Al];omega),Nat.mul_succ,<-List.take_add]
theorem Q1 (n k:Nat) (b:List UInt8) (s:ByteArray) (u:Nat) (h17:17<=b.length) (hl:LL (b.drop 17)=some (s,u)) (hk:17+u+(n+5)*k<=b.length):JE (MG n k b s u)=b.take (17+u+(n+5)*k):=by
 obtain⟨h1,h2,h3,h4⟩:=Nj hl;have e1:Km (MG n k b s u)=nums szA b:=rfl;have e2:rowB (nums szA b) szA=b.take 17:=rowB_nums szA b h17;have e3:=Su n k (b.drop (17+u)) (by rw [Al];omega);rw [JE,e1,e2,show (MG n k b s u).homes=Ez n k (b.drop (17+u)) from rfl,e3,show Gj (MG n k b s u).label=Gj s from rfl,h2,<-List.take_add,<-List.take_add]

theorem LT {g:Geo} {h:Hm} (hg:Bq g=true) (hh:EP g h=true):h.places.length=g.d.toNat+1/\(∀ p∈h.places,0<=p/\p<256)/\(0<=h.next/\h.next<256)/\0<=h.root/\h.root<4294967296:=by
 obtain⟨h1,h2,h3,h4,h5⟩:=A2.1 hg;simp only [EP,Ad,decide_eq_true_eq,AK,Tm,Av,AJ] at hh;obtain⟨q1,q2,q3,q4⟩:=hh;refine⟨by omega,fun p hp=>?_,by omega,by omega⟩;obtain⟨i,hi,rfl⟩:=List.getElem_of_mem hp;have:=(q4 i hi).1;rw [Ab,Af hi] at this;simp only [BO] at this;omega
theorem UL {l:List Int} (h:∀ p∈l,0<=p/\p<256):∀ k (a:k<l.length) (b:k<(FC l.length).length),Ee (FC l.length)[k]/\0<=l[k]/\l[k]<CS (FC l.length)[k]:=fun k a b=>by
 have e:(FC l.length)[k]=1:=by simp [FC]
 rw [e];exact⟨.inl rfl,h _ (Cu a)⟩
theorem XF {a s b t:List Int} (ha:a.length=s.length) (h1:∀ k (p:k<a.length) (q:k<s.length),Ee s[k]/\0<=a[k]/\a[k]<CS s[k]) (h2:∀ k (p:k<b.length) (q:k<t.length),Ee t[k]/\0<=b[k]/\b[k]<CS t[k]) :
  ∀ k (p:k<(a ++ b).length) (q:k<(s ++ t).length),Ee (s ++ t)[k]/\0<=(a ++ b)[k]/\(a ++ b)[k]<CS (s ++ t)[k]:=fun k p q=>by
 by_cases hk:k<a.length
 ·rw [List.getElem_append_left hk,List.getElem_append_left (by omega)];exact h1 k hk (by omega)
 ·rw [List.getElem_append_right (by omega),List.getElem_append_right (by omega)];have:=h2 (k - a.length) (by rw [Ah] at p;omega) (by rw [Ah] at q;omega);simpa only [ha] using this
theorem RS {x y:Int} (h1:0<=x/\x<256) (h2:0<=y/\y<4294967296):∀ k (_:k < [x,y].length) (_:k<([1,4]:List Int).length),Ee ([1,4]:List Int)[k]/\0<= [x,y][k]/\ [x,y][k]<CS ([1,4]:List Int)[k]:=fun k p _=>by
 have hk:k=0\/k=1:=by simp at p;omega
 rcases hk with rfl | rfl
 ·exact⟨.inl rfl,h1⟩
 ·exact⟨.inr (.inr rfl),h2⟩
theorem XA {g:Geo} {h:Hm} (hg:Bq g=true) (hh:EP g h=true):(M9 h).length=g.d.toNat+6:=by
 obtain⟨h1,_⟩:=LT hg hh;rw [J1,tot_rowB _ _ (by rw [Ah,EU];try rfl),ET,h1]
theorem V9 {g:Geo} {h:Hm} (hg:Bq g=true) (hh:EP g h=true) (r:List UInt8):LU (g.d.toNat+1) (M9 h ++ r)=h:=by
 obtain⟨h1,h2,h3,h4⟩:=LT hg hh;have e:nums (HZ (g.d.toNat+1)) (M9 h ++ r)=h.places ++ [h.next,h.root]:=by
  rw [<-h1,J1];refine nums_rowB _ _ _ (by rw [Ah,EU];try rfl) ?_;rw [HZ,M_,AA];exact XF (Jt _).symm (UL h2) (RS h3 h4)
 unfold LU;rw [e,<-h1];obtain⟨p,n,ro⟩:=h;simp [Ab]
theorem Lc {g:Geo} (hg:Bq g=true):∀ (l:List Hm),(∀ h∈l,EP g h=true)->Ez (g.d.toNat+1) l.length (l.map M9).flatten=l/\(l.map M9).flatten.length=l.length*(g.d.toNat+6)
 | [],_=>⟨rfl,by simp⟩
 | h::l,hh=>by
  obtain⟨ih,ih2⟩:=Lc hg l fun x hx=>hh x (by simp [hx])
  have hB:=XA hg (hh h (by simp));refine⟨?_,by simp only [A5,A8,Ah,ih2,hB,Ao,Bb];omega⟩;simp only [Ez,A5,A8,Ao,List.range_succ_eq_map,List.map_map];rw [Nat.mul_zero,List.drop_zero,V9 hg (hh h (by simp))];congr 1;refine Eq.trans (Dx fun i _=>?_) ih;simp only [Function.comp,Nat.succ_eq_add_one];rw [show (g.d.toNat+1+5)*(i+1)=(M9 h).length+(g.d.toNat+1+5)*i by rw [hB,Nat.mul_succ];omega,BZ];rw [A9 (by omega),Bk,Nat.add_sub_cancel_left]
theorem Tk {g:Geo} {a:An} (hg:Bq g=true) (ha:B7 g a=true):DM g (JE a)=some a:=by
 obtain⟨g1,g2,g3,g4,g5⟩:=A2.1 hg;have ha0:=ha;simp only [B7,Ad,decide_eq_true_eq,AR,BA,B6,AK,Av] at ha;obtain⟨⟨q1,q2,q3,q4⟩,_,_,q5,q6,q7,q8⟩:=ha;have hz:a.homes.length=g.z.toNat:=by omega
 obtain⟨e1,e2⟩:=Lc hg a.homes q8;have hf:∀ k (p:k<(Km a).length) (q:k<szA.length),Ee szA[k]/\0<=(Km a)[k]/\(Km a)[k]<CS szA[k]:=fun k p q=>by
  have hk:k=0\/k=1\/k=2\/k=3\/k=4:=by simp [Km] at p;omega
  have l4:CS 4=4294967296:=rfl;have l1:CS 1=256:=rfl;rcases hk with rfl | rfl | rfl | rfl | rfl
  ·exact⟨.inr (.inr rfl),q1.1,by show a.gen<CS 4;omega⟩
  ·exact⟨.inr (.inr rfl),q2.1,by show a.epoch<CS 4;omega⟩
  ·exact⟨.inr (.inr rfl),q3.1,by show a.seq<CS 4;omega⟩
  ·exact⟨.inr (.inr rfl),q4.1,by show a.last<CS 4;omega⟩
  ·exact⟨.inl rfl,q5.1,by show a.pos<CS 1;omega⟩
 have hn:nums szA (JE a)=Km a:=by
  rw [JE,AA];exact nums_rowB _ _ _ rfl hf
 have h17:(rowB (Km a) szA).length=17:=tot_rowB _ _ rfl;have hd:(JE a).drop 17=Gj a.label ++ (a.homes.map M9).flatten:=by
  rw [JE,AA,<-h17,BZ,A9 (Ag _),B9];simp
 have hlen:(JE a).length=17+(1+a.label.size)+g.z.toNat*(g.d.toNat+6):=by
  rw [JE,Ah,Ah,h17,F5,e2,hz]
 have hdu:(JE a).drop (17+(1+a.label.size))=(a.homes.map M9).flatten:=by
  rw [<-AZ,hd,<-F5,BZ,A9 (Ag _),B9];simp
 have ho:MG (g.d.toNat+1) g.z.toNat (JE a) a.label (1+a.label.size)=a:=by
  unfold MG;rw [hn,hdu,<-hz,e1];try rfl
 unfold DM;rw [if_neg (by omega),hd,T4 q6];simp only;rw [if_neg (by omega),ho,if_pos ha0]
theorem Ra {g:Geo} {b:List UInt8} {a:An} (hg:Bq g=true) (h:DM g b=some a):B7 g a=true/\JE a=b:=by
 obtain⟨g1,g2,g3,g4,g5⟩:=A2.1 hg;unfold DM at h;split at h
 ·cases h
 ·rename_i h17;split at h
  ·cases h
  ·rename_i s u hl;split at h
   ·cases h
   ·rename_i hlen;split at h
    ·rename_i hok;cases h;refine⟨hok,?_⟩;have hm:(g.d.toNat+1+5)*g.z.toNat=g.z.toNat*(g.d.toNat+6):=Nat.mul_comm _ _;rw [Q1 _ _ _ _ _ (by omega) hl (by omega),At (by omega)]
    ·cases h
end
section
open Go.Lib
theorem Ft (n:Nat) (z:Int) (h:z=n):UInt8.ofNat n=z.toNat.toUInt8:=by subst h;rfl
theorem YU (r:Nat) (h:r<=1114111) (hv:r<55296\/57344<=r):(Utf8.encode (r:Int)).data.toList=encodeRune (r:Int):=by
 have v:Utf8.valid (r:Int)=true:=by simp [Utf8.valid];omega
 unfold encodeRune;by_cases c1:r<128
 ·rw [encodeRuneZ_one (by omega) (by omega)];simp [Utf8.encode,v,c1]
 by_cases c2:r<2048
 ·rw [encodeRuneZ_two (by omega) (by omega),show (Utf8.encode (r:Int)).data.toList=[UInt8.ofNat (192+r / 64),UInt8.ofNat (128+r % 64)] by simp [Utf8.encode,v,c1,c2]];exact congr (congrArg List.cons (Ft _ _ (by omega))) (congr (congrArg List.cons (Ft _ _ (by omega))) rfl)
 by_cases c3:r<65536
 ·rw [encodeRuneZ_three (by omega),show (Utf8.encode (r:Int)).data.toList=[UInt8.ofNat (224+r / 4096),UInt8.ofNat (128+r / 64 % 64),UInt8.ofNat (128+r % 64)] by simp [Utf8.encode,v,c1,c2,c3]];exact congr (congrArg List.cons (Ft _ _ (by omega))) (congr (congrArg List.cons (Ft _ _ (by omega))) (congr (congrArg List.cons (Ft _ _ (by omega))) rfl))
 ·rw [encodeRuneZ_four (by omega) (by omega),show (Utf8.encode (r:Int)).data.toList=[UInt8.ofNat (240+r / 262144),UInt8.ofNat (128+r / 4096 % 64),UInt8.ofNat (128+r / 64 % 64),UInt8.ofNat (128+r % 64)] by simp [Utf8.encode,v,c1,c2,c3]];exact congr (congrArg List.cons (Ft _ _ (by omega))) (congr (congrArg List.cons (Ft _ _ (by omega))) (congr (congrArg List.cons (Ft _ _ (by omega))) (congr (congrArg List.cons (Ft _ _ (by omega))) rfl)))
def D8 (l:List UInt8):List Int:=if _h:l=[] then [] else ((decodeL l).1:Int)::D8 (l.drop (decodeL l).2)
termination_by l.length
decreasing_by exact Im _h
theorem runesL_nil:D8 []=[]:=by rw [D8];simp
theorem Hj (l:List UInt8) (h:¬l=[]):D8 l=((decodeL l).1:Int)::D8 (l.drop (decodeL l).2):=by rw [D8,dif_neg h]
theorem RB {l:List UInt8}:(decodeL l).1<55296\/57344<=(decodeL l).1:=by
 rw [decodeL_N];have k0:=(l.getD 0 0).toNat_lt;have k1:=(l.getD 1 0).toNat_lt;have k2:=(l.getD 2 0).toNat_lt;rcases decodeN_shape l.length (l.getD 0 0).toNat (l.getD 1 0).toNat (l.getD 2 0).toNat (l.getD 3 0).toNat with ⟨_,e⟩ | ⟨_,_,_,_,e⟩ | ⟨_,_,_,_,_,_,e⟩ | ⟨_,_,_,_,_,_,_,e⟩ | e <;> rw [e] <;> simp only <;> omega
theorem QV (n:Nat):∀ l:List UInt8,l.length=n->(D8 l).length<=l.length:=by
 induction n using Nat.strongRecOn with
 | ind n ih=>
  intro l hl;by_cases h:l=[]
  ·subst h;rw [runesL_nil];simp
  ·have h1:=Im h;have h2:=ih _ (by rw [<-hl];exact h1) _ rfl;rw [Hj l h,Ao];omega
theorem TV (n:Nat):∀ (l:List UInt8) (b:ByteArray),l.length=n->validD l=true->((D8 l).foldl (fun r n=>r ++ Utf8.encode n) b).data.toList=b.data.toList ++ l:=by
 induction n using Nat.strongRecOn with
 | ind n ih=>
  intro l b hl hv;by_cases h:l=[]
  ·subst h;rw [runesL_nil];simp
  ·have h1:=Im h;rw [validD_step l h] at hv;split at hv
   ·cases hv
   ·rename_i hn;rw [Hj l h,List.foldl_cons,ih _ (by rw [<-hl];exact h1) _ _ rfl hv];have e:(b ++ Utf8.encode ((decodeL l).1:Int)).data.toList=b.data.toList ++ (Utf8.encode ((decodeL l).1:Int)).data.toList:=by simp [ByteArray.data_append]
    rw [e,YU _ (decodeL_rune l) RB,encode_decode l h hn,AA,Cg]
theorem JN {s:ByteArray} (h:validD s.data.toList=true):runesBytes (D8 s.data.toList)=s:=by
 have:=TV _ s.data.toList ByteArray.empty rfl h;apply ByteArray.ext;apply Array.ext';rw [runesBytes,this];try rfl
theorem Jm (s:ByteArray):∀ (bound i:Nat) (acc:Array Value),s.size<=i+bound->Conv.runesFrom s bound i acc=acc ++ ((D8 (s.data.toList.drop i)).map (Value.int .i32)).toArray
 | 0,i,acc,h=>by
  have:s.data.toList.drop i=[]:=A9 (by rw [Gy];omega);rw [this,runesL_nil];simp [Conv.runesFrom]
 | bound+1,i,acc,h=>by
  unfold Conv.runesFrom;split
  ·rename_i hi;have hne:¬s.data.toList.drop i=[]:=by
    intro e;have:=congrArg List.length e;rw [Al,Gy] at this;simp at this;omega
   have hd:=H9 s i;have hw:1<=(Utf8.decode s i).2:=by rw [hd];exact decodeL_width _
   show Conv.runesFrom s bound (i+(Utf8.decode s i).2) (acc.push (Value.int IntKind.i32 (Int.ofNat (Utf8.decode s i).1)))=_;rw [Jm s bound _ _ (by omega),Hj _ hne,<-hd,AZ];simp
  ·have:s.data.toList.drop i=[]:=A9 (by rw [Gy];omega);rw [this,runesL_nil];simp
end
end Go.Proofs.YtpjkcgacjjbikaaGreatDoor.A
namespace Go.Proofs.YtpjkcgacjjbikaaGreatDoor
section
open Go.RowKit
attribute [local go_sem ↓] Go.wp_at_zero Go.wp_at_succ

theorem Bn {P:Program} {w:World} {ops:Array Oper} {rest:List Oper} {o:Oper} {a:Act} {Q:Exit->Act->World->Prop} (hgd:o.guard=none) (d s:Operand) (t t':TypeId)
  (ho:o.op = .call { callee:= .builtin .append,args:= #[d,s],argTypes:= #[t,t'] }) {v u:Value} (hd:a.eval d=v) (hs:a.eval s=u) {v':Value} {w':World}
  (hr:(Builtin.append_ #[t,t'] o.type #[v,u]).run P w = .ok v' w') (h:wpList P ops Q rest (a.put o.dst v') w'):wpList P ops Q (o::rest) a w:=by
 refine wpList_plain hgd fun _ hK=>?_
 unfold Oper.wp execOp;simp only [ho,resolve,invoke,builtin,Sem.run_bind,Sem.run_pure,Result.andThen_ok,List.map_toArray,A5,Bp,hd,hs,hr];exact hK _ _ h
theorem Mr (w:World) (M:Ms) (n:Int) (x:UInt8) (hx:n=(x.toNat:Int)) (s:ByteArray):Elems (Rp.sz UInt8) (Rp.E w M) ([Value.int .u8 n] ++ Lib.strCells s) (x::s.data.toList):=by
 subst hx;refine⟨[.int .u8 x.toNat],_,rfl,rfl,rfl,?_⟩;unfold Lib.strCells;induction s.data.toList with
 | nil=>rfl
 | cons y l ih=>exact⟨[.int .u8 y.toNat],_,rfl,rfl,rfl,ih⟩

theorem Tf (s:ByteArray) (w:World) (M:Ms) (hs:s.size<=255) :
  Calls Tryz.prog 219 #[.string s] w fun e w'=>∃ r,e = .returned r/\OwR w' M w.heap.size 5 r (UInt8.ofNat s.size::s.data.toList)/\Below w.heap.size w w':=by
 obtain⟨i,h1,h2,h3,h4⟩:=info_parts (show (Tryz.prog.info? 5).map (fun i=>(i.zero,i.size,i.bytes))=some (some (.int .u8 0),1,1) by kernel_rfl);have hw8:IntKind.u8.wrap (s.size:Int)=s.size:=by rw [IntKind.wrap_u8];omega
 have hN:(s.size:Int)=((UInt8.ofNat s.size).toNat:Int):=by simp;omega
 have hB:=(Below.refl w.heap.size w).alloc (Ag _) (.cells #[Value.int .u8 (s.size:Int)] 5);have ho:(w.alloc (.cells #[Value.int .u8 (s.size:Int)] 5)).ownsRow w.heap.size 5 1 (.slice (some ⟨w.heap.size,0,none⟩) 1 1) 1 [.int .u8 (s.size:Int)]:=
  ⟨rfl, .inr ⟨w.heap.size,1,_,rfl,Ag _,heap_alloc_new w _,Ag _,by decide,rfl,rfl⟩⟩
 obtain⟨v',w',hr,hr2,hr3,_⟩:=Lib.run_append_own_string (P:=Tryz.prog) (w.alloc (.cells #[Value.int .u8 (s.size:Int)] 5)) w.heap.size 22 9 22 5 i Tryz.underlying22 Tryz.underlying9 h1 h2 h3 h4 _ 1 _ ho s (by unfold maxLen;omega) (by omega) hB.size;have HO:=Lib.hid (Ai (⟨_,by simp only [Ao,BC];rw [CA];exact hr2,Mr _ _ _ _ hN s⟩:OwR w' M w.heap.size 5 v' (UInt8.ofNat s.size::s.data.toList)) (hB.grown hr3 hB.size (fun b e=>by cases e;exact Ag _)));clear hr2 hr3 ho hB hN h1 h2 h3 h4
 go_enter Tryz.func219,Tryz.ntmps219
 go_wp2_with (at_builtin;refine Bn rfl _ _ _ _ rfl (by rfl) (by rfl) hr ?_)
 go_ret
 exact⟨_,rfl,HO.out⟩
theorem X5 (s:ByteArray) (w:World) (e0:Int) (he:(e0 != 0)=true) (hc:Calls Tryz.prog 181 #[.string s] w fun e w'=>e = .returned (.int .i64 e0)/\Below w.heap.size w w') :
  Calls Tryz.prog 260 #[.string s] w fun e w'=>e = .returned (.tuple #[.slice none 0 0, .int .i64 e0])/\Below w.heap.size w w':=by
 have HC:=Lib.hid hc;clear hc
 go_enter Tryz.func260,Tryz.ntmps260
 go_wp2_with (go_at_call 181;go_must (with_reducible refine HC.out.mono ?_);rintro e w1 ⟨rfl,hB1⟩)
 have HB:=Lib.hid hB1;clear hB1
 go_wp2
 go_ret2
 exact⟨rfl,HB.out⟩
theorem Vl (s:ByteArray) (w:World) (M:Ms) (hs:s.size<=255) (hv:Lib.validD s.data.toList=true) (hc:Calls Tryz.prog 181 #[.string s] w fun e w'=>e = .returned (.int .i64 0)/\Below w.heap.size w w') :
  Calls Tryz.prog 260 #[.string s] w fun e w'=>∃ r,e = .returned (.tuple #[r, .int .i64 0])/\OwR w' M w.heap.size 5 r (UInt8.ofNat s.size::s.data.toList)/\Below w.heap.size w w':=by
 obtain⟨i,h1,h2,h3,h4⟩:=info_parts (show (Tryz.prog.info? 5).map (fun i=>(i.zero,i.size,i.bytes))=some (some (.int .u8 0),1,1) by kernel_rfl);have HI:=Lib.hid (Ai h1 (Ai h2 (Ai h3 h4)));have hw8:IntKind.u8.wrap (s.size:Int)=s.size:=by rw [IntKind.wrap_u8];omega
 have HC:=Lib.hid hc;have HV:=Lib.hid hv;have HS:=Lib.hid hs;clear hc h1 h2 h3 h4 hv hs
 go_enter Tryz.func260,Tryz.ntmps260
 go_wp2_with (go_at_call 181;go_must (with_reducible refine HC.out.mono ?_);rintro e w1 ⟨rfl,hB1⟩)
 have hrf:=A.Jm s s.size 0 #[] (by omega);rw [List.drop_zero,Array.empty_append] at hrf;have hrl:=A.QV _ s.data.toList rfl;have hsz:s.data.toList.length=s.size:=rfl;have hrs:(Conv.runesFrom s s.size 0 #[]).size=(A.D8 s.data.toList).length:=by rw [hrf];simp
 have hconv:=run_runes_of_string (P:=Tryz.prog) w1 9 429 21 s Tryz.underlying9 Tryz.underlying429 Tryz.underlying21 (by rw [hrs];have:=HS.out;omega);rw [hconv];have hB2:=hB1.trans (((GK w1).trans ((Below.refl w1.drew.heap.size w1.drew).alloc (Ag _) (.cells (Conv.runesFrom s s.size 0 #[] ++ Array.replicate (grownCap w1 (Conv.runesFrom s s.size 0 #[]).size 0 21 - (Conv.runesFrom s s.size 0 #[]).size) (.int .i32 0)) 21))).mono hB1.size);have hcell:∀ j,j<(A.D8 s.data.toList).length->(w1.drew.alloc (.cells (Conv.runesFrom s s.size 0 #[] ++ Array.replicate (grownCap w1 (Conv.runesFrom s s.size 0 #[]).size 0 21 - (Conv.runesFrom s s.size 0 #[]).size) (.int .i32 0)) 21)).cell? ⟨w1.heap.size,j,none⟩=some (.int .i32 ((A.D8 s.data.toList).getD j 0)):=fun j hj=>by
  rw [cell_of_row _ w1.heap.size _ _ 21 (0,0) (heap_alloc_new w1.drew _),Array.getElem?_append_left (by rw [hrs];exact hj),hrf];simp [Ab,Af hj]
 generalize w1.drew.alloc (.cells (Conv.runesFrom s s.size 0 #[] ++ Array.replicate (grownCap w1 (Conv.runesFrom s s.size 0 #[]).size 0 21 - (Conv.runesFrom s s.size 0 #[]).size) (.int .i32 0)) 21)=w2 at hB2 hcell |-
 rw [hrs] at *
 generalize grownCap w1 (A.D8 s.data.toList).length 0 21=cap;have hgl:w1.heap.size<w2.heap.size\/(A.D8 s.data.toList).length=0:=by
  rcases Da (A.D8 s.data.toList).length with h | h
  ·exact .inr h
  ·exact .inl (World.block_lt_of_cell? _ _ (hcell 0 h))
 generalize w1.heap.size=g at hcell hgl |-
 have hN:(s.size:Int)=((UInt8.ofNat s.size).toNat:Int):=by have:=HS.out;simp;omega
 have hB3:=hB2.trans (((Below.refl w2.heap.size w2).alloc (Ag _) (.cells #[Value.int .u8 (s.size:Int)] 5)).mono hB2.size);have hcv:(convert 429 9 (.slice (some ⟨g,0,none⟩) (A.D8 s.data.toList).length cap)).run Tryz.prog (w2.alloc (.cells #[Value.int .u8 (s.size:Int)] 5)) = .ok (.string s) (w2.alloc (.cells #[Value.int .u8 (s.size:Int)] 5)):=by
  rw [run_convert_runes (P:=Tryz.prog) _ 429 9 21 ⟨g,0,none⟩ (A.D8 s.data.toList).length cap (A.D8 s.data.toList) (Ag _) Tryz.underlying429 Tryz.underlying21 Tryz.underlying9 (fun j hj=>by
   rw [Addr.add_lit,Au];exact IX ((Below.refl w2.heap.size w2).alloc (Ag _) _) (hcell j hj)),A6,A.JN HV.out]
 have ho:(w2.alloc (.cells #[Value.int .u8 (s.size:Int)] 5)).ownsRow w.heap.size 5 1 (.slice (some ⟨w2.heap.size,0,none⟩) 1 1) 1 [.int .u8 (s.size:Int)]:=
  ⟨rfl, .inr ⟨w2.heap.size,1,_,rfl,hB2.size,heap_alloc_new w2 _,Ag _,by decide,rfl,rfl⟩⟩
 obtain⟨v',w',hr,hr2,hr3,_⟩:=Lib.run_append_own_string (P:=Tryz.prog) (w2.alloc (.cells #[Value.int .u8 (s.size:Int)] 5)) w.heap.size 22 9 22 5 i Tryz.underlying22 Tryz.underlying9 HI.out.1 HI.out.2.1 HI.out.2.2.1 HI.out.2.2.2 _ 1 _ ho s (by have:=HS.out;unfold maxLen;omega) (by have:=HS.out;omega) hB3.size;have HO:=Lib.hid (Ai (⟨_,by simp only [Ao,BC];rw [CA];exact hr2,Mr _ _ _ _ hN s⟩:OwR w' M w.heap.size 5 v' (UInt8.ofNat s.size::s.data.toList)) (hB3.grown hr3 hB3.size (fun b e=>by cases e;exact hB2.size)));clear hr2 hr3 ho hB3 hB2 hB1 hN hcell hgl hconv hrf hrl hsz hrs
 go_wp2_with (at_builtin;refine Bn rfl _ _ _ _ rfl (by rfl) (by rfl) hr ?_)
 go_ret2
 exact⟨_,rfl,HO.out⟩
end
end Go.Proofs.YtpjkcgacjjbikaaGreatDoor
namespace Go.Proofs.YtpjkcgacjjbikaaGreatDoor.A
section
open Go.RowKit
def LK (b:List UInt8):AV:=match LL b with
 | some (s,n)=> .tp [.v (.string s),iv n,iv 0]
 | none=> .tp [.v (.string ⟨#[]⟩),iv 0,iv 4]
theorem Vg (b:List UInt8) (hl:b.length<=100000):Fn Tryz.prog 399 [bA b] fun r=>r=LK b:=by
 have hb0:=(b.getD 0 0).toNat_lt;have hw:IntKind.i64.wrap (1+IntKind.i64.wrap ((b.getD 0 0).toNat:Int))=((1+(b.getD 0 0).toNat:Nat):Int):=by rw [wi (n:=((b.getD 0 0).toNat:Int)) (by omega),wi (by omega)];omega
 by_cases hs:b.length<1+(b.getD 0 0).toNat
 ·have hr:LK b = .tp [.v (.string ⟨#[]⟩),iv 0,iv 4]:=by rw [LK,LL,if_pos hs]
  rw [hr];refine zT Tryz.func399 rfl ?_;conv=>whnf
  refine AS (fun h=>?_) (fun h=>?_) <;> (repeat rw [Ac] at h) <;> conv=>whnf
  ·exact⟨_,ri,rfl⟩
  ·refine⟨by first | omega | (refine⟨rfl,?_,?_⟩ <;> first | omega | (simp only [Aa];done) | (simp only [Aa];omega)) | (simp only [Aa];omega),?_⟩;conv=>whnf
   refine AS (fun h2=>?_) (fun h2=>?_) <;> (repeat rw [Ac] at h2) <;> conv=>whnf
   ·exact⟨_,ri,rfl⟩
   ·exfalso;have h2:IntKind.i64.wrap (1+IntKind.i64.wrap ((b.getD 0 0).toNat:Int))<=(b.length:Int):=h2;rw [hw] at h2;omega
 ·have hlen:((b.drop 1).take (b.getD 0 0).toNat).length=(b.getD 0 0).toNat:=by rw [Aq,Al];omega
  have hc:=GD ⟨((b.drop 1).take (b.getD 0 0).toNat).toArray⟩ (by show (List.toArray _).size<=_;simp only [Bw];omega);have e1:(IntKind.i64.wrap (1+IntKind.i64.wrap ((b.getD 0 0).toNat:Int)) - 1).toNat=(b.getD 0 0).toNat:=by rw [hw];omega
  refine zT Tryz.func399 rfl ?_;conv=>whnf
  refine AS (fun h=>?_) (fun h=>?_) <;> (repeat rw [Ac] at h) <;> conv=>whnf
  ·exfalso;have h:(b.length:Int)=0:=h;omega
  ·refine⟨by first | omega | (refine⟨rfl,?_,?_⟩ <;> first | omega | (simp only [Aa];done) | (simp only [Aa];omega)) | (simp only [Aa];omega),?_⟩;conv=>whnf
   refine AS (fun h2=>?_) (fun h2=>?_) <;> (repeat rw [Ac] at h2) <;> conv=>whnf
   ·exfalso;have h2:(b.length:Int)<IntKind.i64.wrap (1+IntKind.i64.wrap ((b.getD 0 0).toNat:Int)):=h2;rw [hw] at h2;omega
   ·refine⟨by first | omega | (refine⟨rfl,?_,?_⟩ <;> first | omega | (simp only [Aa];done) | (simp only [Aa];omega)) | (simp only [Aa];omega),?_⟩;conv=>whnf
    have hw':IntKind.i64.wrap (1+IntKind.i64.wrap ((b.getD (Int.toNat 0) 0).toNat:Int))=((1+(b.getD 0 0).toNat:Nat):Int):=hw;rw [hw'];refine⟨⟨by omega,by omega,by omega,by omega⟩,?_⟩;conv=>whnf
    refine⟨(b.drop 1).take (b.getD 0 0).toNat,⟨rfl,by rw [hlen];omega,fun i hi=>?_⟩,?_⟩
    ·have hi':i<(b.getD 0 0).toNat:=by omega
     show [AV.v (Value.int IntKind.u8 ((b.getD (i+1) 0).toNat:Int))]=_;rw [show ((b.drop 1).take (b.getD 0 0).toNat).getD i 0=b.getD (i+1) 0 by rw [Ab,Cm hi',Cq,CA];try rfl]
    conv=>whnf
    refine zY hc ?_;conv=>whnf
    refine AS (fun h3=>?_) (fun h3=>?_) <;> (repeat rw [Ac] at h3) <;> conv=>whnf
    ·have h3:Ev ((b.drop 1).take (b.getD 0 0).toNat)≠0:=h3;exact⟨_,ri,by rw [LK,LL,if_neg hs,if_neg h3]⟩
    ·have h3:Ev ((b.drop 1).take (b.getD 0 0).toNat)=0:=h3;exact⟨_,ri,by rw [LK,LL,if_neg hs,if_pos h3]⟩
theorem UA (s:ByteArray) (hs:s.size<=255):Fn Tryz.prog 219 [.v (.string s)] fun r=>r=bA (Gj s):=by
 refine⟨⟨_,Tryz.func219,rfl,by decide⟩,fun c0 us hd hM _ hr=>?_⟩;obtain⟨u1,rfl,h1⟩:=Zu hr;simp only [Rd] at h1;subst h1;refine(Tf s c0.w noM hs).mono ?_;rintro e w' ⟨r,rfl,ho,hB⟩;exact⟨_,_,rfl,rfl,hB,UP ho hM⟩
theorem T1 (s:ByteArray) (hs:s.size<=1000000):Fn Tryz.prog 260 [.v (.string s)] fun r=>r = .tp [bA (if Ev s.data.toList=0 then Gj s else []),iv (Ev s.data.toList)]:=by
 have hc:=GD s hs;refine⟨⟨_,Tryz.func260,rfl,by decide⟩,fun c0 us hd hM hg hr=>?_⟩;have hr0:=hr;obtain⟨u1,rfl,h1⟩:=Zu hr;simp only [Rd] at h1;subst h1;have hC:=hc.calls c0 _ hd hM hg hr0;by_cases h0:Ev s.data.toList=0
 ·have h24:=Hz h0;have hv:Lib.validD s.data.toList=true:=by
   unfold Ev at h0;split at h0
   ·cases h0
   ·rename_i h;simp at h;exact h.2
  rw [if_pos h0];rw [h0] at hC |-
  refine(Vl s c0.w noM (by have:s.size=s.data.toList.length:=rfl;omega) hv (hC.mono ?_)).mono ?_
  ·rintro e w' ⟨v,r,rfl,rfl,q1,q2⟩;simp only [Rd] at q2;exact⟨by rw [q2],q1⟩
  ·rintro e w' ⟨r,rfl,ho,hB⟩;exact⟨_,_,rfl,rfl,hB,Oc (UP ho hM) (NT _)⟩
 ·rw [if_neg h0];refine(X5 s c0.w (Ev s.data.toList) (by simpa using h0) (hC.mono ?_)).mono ?_
  ·rintro e w' ⟨v,r,rfl,rfl,q1,q2⟩;simp only [Rd] at q2;exact⟨by rw [q2],q1⟩
  ·rintro e w' ⟨rfl,hB⟩;refine⟨_,_,rfl,rfl,hB,Oc ?_ (NT _)⟩;exact Bv 1 (fun i=> [.v (.int .u8 (([]:List UInt8).getD i 0).toNat)]) _ (.slice none 0 0) (by simp [Rd])
theorem P0 (l:List Int) (j:Nat) (h:j<l.length):NW (l.take (j+1))=NW (l.take j) ++ leB 1 (l.getD j 0).toNat:=by
 have e:∀ n,n<=l.length->NW (l.take n)=rowB (l.take n) ((FC l.length).take n):=fun n hn=>by
  rw [NW,Aq,Cn hn,FC,FC,List.take_replicate,Cn hn]
 rw [e _ (by omega),e _ (by omega),rowB_step l (FC l.length) j h (by rw [Jt];exact h)];simp [FC,Ab,Af h]
theorem KZ (l:List Int):(NW l).length=l.length:=by rw [NW,tot_rowB _ _ (Jt _).symm,tot_ones]
def FD (a:An) (k:Nat):List UInt8:=rowB (Km a) szA ++ Gj a.label ++ ((a.homes.take k).map M9).flatten
theorem N8 (a:An) (k:Nat) (h:k<a.homes.length):FD a (k+1)=FD a k ++ M9 (a.homes.getD k ⟨[],0,0⟩):=by
 rw [FD,FD,AM h,A0,AX,AA];simp only [A5,Bp,A8,List.flatten_nil,AE,Ab,Af h,BO,AA]
theorem Q0 (a:An):FD a a.homes.length=JE a:=by rw [FD,A6,JE]
theorem XU {g:Geo} {a:An} (hg:Bq g=true) (ha:B7 g a=true):∀ k (_:k<(Km a).length) (_:k<szA.length),Ee szA[k]/\0<=(Km a)[k]/\(Km a)[k]<CS szA[k]:=by
 obtain⟨g1,g2,g3,g4,g5⟩:=A2.1 hg;simp only [B7,Ad,decide_eq_true_eq,AR,BA,B6,AK,Av] at ha;obtain⟨⟨q1,q2,q3,q4⟩,_,_,q5,q6,q7,q8⟩:=ha;intro k p _;have hk:k=0\/k=1\/k=2\/k=3\/k=4:=by simp [Km] at p;omega
 have l4:CS 4=4294967296:=rfl;have l1:CS 1=256:=rfl;rcases hk with rfl | rfl | rfl | rfl | rfl
 ·exact⟨.inr (.inr rfl),q1.1,by show a.gen<CS 4;omega⟩
 ·exact⟨.inr (.inr rfl),q2.1,by show a.epoch<CS 4;omega⟩
 ·exact⟨.inr (.inr rfl),q3.1,by show a.seq<CS 4;omega⟩
 ·exact⟨.inr (.inr rfl),q4.1,by show a.last<CS 4;omega⟩
 ·exact⟨.inl rfl,q5.1,by show a.pos<CS 1;omega⟩
theorem DE {g:Geo} {a:An} (hg:Bq g=true) (ha:B7 g a=true) (k:Nat) (hk:k<=a.homes.length):(FD a k).length<=200/\a.homes.length<=4/\Ev a.label.data.toList=0/\a.label.size<=24/\(∀ h∈a.homes,EP g h=true):=by
 obtain⟨g1,g2,g3,g4,g5⟩:=A2.1 hg;simp only [B7,Ad,decide_eq_true_eq,AR,BA,B6,AK,Av] at ha;obtain⟨_,_,_,q5,q6,q7,q8⟩:=ha;have h24:=Hz q6;have hs:a.label.size=a.label.data.toList.length:=rfl;have hr:(rowB (Km a) szA).length=17:=tot_rowB _ _ rfl;have hm:((a.homes.take k).map M9).flatten.length=(a.homes.take k).length*(g.d.toNat+6):=(Lc hg (a.homes.take k) fun h hh=>q8 h (Bo hh)).2;have hk4:(a.homes.take k).length<=4:=by rw [Aq];omega
 have hmul:(a.homes.take k).length*(g.d.toNat+6)<=4*10:=C_ hk4 (by omega);refine⟨?_,by omega,q6,by omega,q8⟩;rw [FD,Ah,Ah,hr,F5,hm];omega
theorem Mw {L:List UInt8} {n:Nat} {es:List (List AV)} (hn:n=L.length) (he:es=L.map EI) (c:Ctx) (v:Value) (h:Rd (.sl 1 n fun i=>es.getD i []) c v):Rd (bA L) c v:=by
 subst he;exact z7 hn (fun i hi=>AP (f:=EI) (l:=L) (d:=0) (hn ▸ hi)) h
theorem JR {α:Type} {d:α} {β:Type} (f:α->β) (l:List α):(List.range l.length).map (fun i=>f (l.getD i d))=l.map f:=by
 refine List.ext_getElem (by simp) fun i h1 h2=>?_
 simp only [Aa,CH] at h1;simp [Ab,Af h1]
theorem Qu (L:List UInt8):((List.range L.length).map fun i=> [AV.v (Value.int IntKind.u8 ((L.getD i 0).toNat:Int))])=L.map EI:=JR (d:=0) EI L
theorem Ko (g:Geo) (a:An) (hl:a.label.size<=1000000) (hh:a.homes.length<=1000000):Fn Tryz.prog 184 [.ag (Bm g), .ag (Fp a)] fun r=>r = .tp [bA (if Bq g&&B7 g a then JE a else []), .v (Ew (Bq g&&B7 g a))]:=by
 have hc:=Gu g a hl hh;have no:∀ (c:Ctx) (v:Value),Rd (.tp [.v (.slice none 0 0),iv 1]) c v->Rd (.tp [bA [],iv 1]) c v:=fun c v h=>by
  simp only [Rd,RdL] at h |-
  obtain⟨xs,rfl,y,ys,rfl,rfl,h⟩:=h;exact⟨_,rfl,_,_,rfl,Bv 1 (fun i=> [.v (.int .u8 (([]:List UInt8).getD i 0).toNat)]) c (.slice none 0 0) (by simp [Rd]),h⟩
 cases hok:(Bq g&&B7 g a) with
 | false=>
  rw [hok] at hc;refine zT Tryz.func184 rfl ?_;conv=>whnf
  refine zY hc ?_;exact⟨_,no,rfl⟩
 | true=>
  rw [hok] at hc;have hg:Bq g=true:=by simp only [Ad] at hok;exact hok.1
  have ha:B7 g a=true:=by simp only [Ad] at hok;exact hok.2
  obtain⟨q1,q2,q3,q4,q5⟩:=DE hg ha 0 (Aj _);have hrow:=Jo (Km a) szA rfl (by show 5<=1000;decide) (XU hg ha);have hlb:=T1 a.label hl;rw [if_pos q3,q3] at hlb;refine zT Tryz.func184 rfl ?_;conv=>whnf
  refine zY hc ?_;conv=>whnf
  refine zS (hrow).go ?_;refine⟨rfl,?_⟩;refine⟨rfl,?_⟩;conv=>whnf
  refine zV [iA (Km a),iA szA] ⟨(Bi (l:=(Km a)) rfl).1,(Bi (l:=szA) rfl).1,tv⟩ ?_;refine zX (hrow) rfl ?_;rintro _ _ ⟨rfl,rfl⟩;conv=>whnf
  refine zY hlb ?_;conv=>whnf
  have hr17:(rowB (Km a) szA).length=17:=tot_rowB _ _ rfl;refine Ai ⟨by simp,by rw [hr17,F5];omega⟩ ?_;conv=>whnf
  have e0:(rowB (Km a) szA).map EI ++ ((List.range (Gj a.label).length).map fun i=> [AV.v (Value.int IntKind.u8 (((Gj a.label).getD i 0).toNat:Int))])=(FD a 0).map EI:=by
   rw [Qu,<-A0];simp [FD]
  have e1:(rowB (Km a) szA).length+(Gj a.label).length=(FD a 0).length:=by simp [FD]
  refine zd Nat (fun k=>([(2, .bp 0 0),(3, .bp 1 0),(7, .ow 4 (FD a k).length),(49,GW a.homes),(50,iv a.homes.length),(51,iv k)], [.box 24 (Bm g), .box 28 (Fp a), .dead, .dead, .row 5 1 ((FD a k).map EI)])) (fun k=>k<=a.homes.length) (fun k=>a.homes.length - k) 0 (Aj _)
   (zL ⟨[],tv,⟨rfl,rfl,congrArg (AV.ow 4) e1,rfl,rfl,rfl,tv⟩,⟨rfl,rfl,congrArg (AB.row _ _) e0.symm,tv⟩,rfl,rfl,rfl⟩) ?_
  intro k hk;conv=>whnf
  refine AS (fun h6=>?_) (fun h6=>?_) <;> (repeat rw [Ac] at h6) <;> conv=>whnf
  ·refine⟨by first | omega | (refine⟨rfl,?_,?_⟩ <;> first | omega | (simp only [Aa];done) | (simp only [Aa];omega)) | (simp only [Aa];omega),?_⟩;conv=>whnf
   have hk':k<a.homes.length:=by omega
   have hh4:=q5 _ (AC (d:=(⟨[],0,0⟩:Hm)) hk');obtain⟨f1,f2,f3,f4,f5⟩:=LT hg hh4;have hst:=N8 a k hk';have hB:=(DE hg ha k hk).1;have hB2:=(DE hg ha (k+1) hk').1;generalize hX:FD a k=X at hst hB |-
   rw [show a.homes.getD (k:Int).toNat ⟨[],0,0⟩=a.homes.getD k ⟨[],0,0⟩ by rw [Ac]];generalize a.homes.getD k ⟨[],0,0⟩=h at hh4 f1 f2 f3 f4 f5 hst |-
   rw [hst] at hB2;have hlm:(M9 h).length=h.places.length+5:=by rw [J1,tot_rowB _ _ (by rw [Ah,EU];try rfl),ET]
   rw [Ah,hlm] at hB2;refine zd Nat (fun j=>([(2, .bp 0 0),(3, .bp 1 0),(7, .ow 4 (X ++ NW (h.places.take j)).length),(12, .bp 5 0),(49,GW a.homes),(50,iv a.homes.length),(51,iv k),(56,iA h.places),(57,iv h.places.length),(58,iv j)], [.box 24 (Bm g), .box 28 (Fp a), .dead, .dead, .row 5 1 ((X ++ NW (h.places.take j)).map EI), .box 108 (M8 h)])) (fun j=>j<=h.places.length) (fun j=>h.places.length - j) 0 (Aj _)
    (zL ⟨[],tv,⟨rfl,rfl,congrArg (fun l=>AV.ow 4 (List.length l)) (AE X).symm,rfl,rfl,rfl,rfl,rfl,rfl,rfl,tv⟩,⟨rfl,rfl,congrArg (fun l=>AB.row _ _ (List.map EI l)) (AE X),rfl,tv⟩,rfl,rfl,rfl⟩) ?_
   intro j hj;conv=>whnf
   refine AS (fun h7=>?_) (fun h7=>?_) <;> (repeat rw [Ac] at h7) <;> conv=>whnf
   ·refine⟨by first | omega | (refine⟨rfl,?_,?_⟩ <;> first | omega | (simp only [Aa];done) | (simp only [Aa];omega)) | (simp only [Aa];omega),?_⟩;conv=>whnf
    rw [Ac];have hj':j<h.places.length:=by omega
    have hp:=f2 _ (AC (d:=(0:Int)) hj');have hpl:=KZ (h.places.take j);have hps:=P0 h.places j hj';have hput:=W_ (X ++ NW (h.places.take j)) (h.places.getD j 0) 1 (.inl rfl) (by rw [Ah,hpl,Aq];omega) hp.1 hp.2;rw [show (1:Int).toNat=1 from rfl,AA,<-hps] at hput;refine zS (hput).go ?_;conv=>whnf
    repeat' (refine Ai (by first | rfl | omega | (simp;done) | (simp only [Aa];omega) | (simp;omega)) ?_;conv=>whnf)
    refine zV [bA (X ++ NW (h.places.take j)),iv (h.places.getD j 0),iv 1] ⟨Mw rfl rfl,ri,ri,tv⟩ ?_;refine zX (hput) rfl ?_;rintro _ _ ⟨rfl,rfl⟩;refine⟨j+1,by omega,by omega,zQ (s:= [0,1,2,3,6,5]) ⟨⟨rfl,rfl,rfl,rfl,rfl,rfl,rfl,rfl,rfl,AT (by omega),tv⟩,tA,rfl,rfl,rfl,rfl,rfl⟩⟩
   ·have ej:j=h.places.length:=by omega
    subst ej;have hr2:=Jo [h.next,h.root] [1,4] rfl (by show 2<=1000;decide) (RS f3 ⟨f4,f5⟩);have l5:(rowB [h.next,h.root] [1,4]).length=5:=tot_rowB _ _ rfl;have hpl:=KZ (h.places.take h.places.length);rw [A6] at hpl |-
    refine zS (hr2).go ?_;refine⟨rfl,?_⟩;refine⟨rfl,?_⟩;conv=>whnf
    refine zV [iA [h.next,h.root],iA [1,4]] ⟨(Bi (l:= [h.next,h.root]) rfl).1,(Bi (l:= [1,4]) rfl).1,tv⟩ ?_;refine zX (hr2) rfl ?_;rintro _ _ ⟨rfl,rfl⟩;refine⟨by simp,?_⟩;conv=>whnf
    refine Ai ⟨by simp,by rw [l5,Ah,hpl];omega⟩ ?_;conv=>whnf
    refine⟨k+1,hk',by omega,zQ (s:= [0,1,2,3,4]) ⟨⟨rfl,rfl,congrArg (AV.ow 4) (by rw [hst];simp [M9,Nat.add_assoc]),rfl,rfl,AT (by omega),tv⟩,⟨rfl,rfl,tv,tv,congrArg (fun l=>some (AB.row _ _ l)) (by rw [hst];simp [M9]),tv⟩,rfl,rfl,rfl,rfl,rfl⟩⟩
  ·have ek:k=a.homes.length:=by omega
   subst ek;rw [Q0];refine⟨by simp,?_⟩;exact⟨.tp [bA (JE a),iv 0],fun c v h=>by
    simp only [Rd,RdL] at h |-
    obtain⟨xs,rfl,y,ys,rfl,h1,h⟩:=h;exact⟨_,rfl,y,ys,rfl,Mw rfl rfl c y (by simp only [Rd];exact h1),h⟩,rfl⟩
section
variable {P:Program} {T:Tys} {w0:Fl} {M0:Ms} {n d0:Nat} {ce:Ctx} {l m:Nat}
theorem NM {row:String} {args:Array Value} {w:World} {R:Value->World->Prop} (h:Rows P row args w R):RowsIn (Fence.wide.inRound l) m P row args w R:=
 fun c cs _=>let ⟨v,w',r,s⟩:=h c cs;⟨v,w',r,stepsIn_wide.2 s⟩
theorem G6 {o:Oper} {a:Act} {w:World} {next:Act->World->Prop} {Q:Exit->Act->World->Prop} (hd:∀ c,o.op≠ .defer c) (h:o.wp P a w next Q):o.wpIn (Fence.wide.inRound l) m P a w next Q:=by
 refine⟨fun _ _=>trivial,?_⟩;rw [show (Fence.wide.inRound l).round=some l from rfl,Oper.semAt_some l a.eval o hd];unfold Oper.wp at h;revert h;generalize (execOp a.eval o).run P w=r;intro h;cases r with
 | ok x w'=>
  cases x with
  | value v=>exact h
  | skip=>exact h
  | defer d=>exact h
  | enter f args=>exact⟨fun e=>(by cases e),CallsIn.inRound l (callsIn_wide.2 h)⟩
  | row r args=>exact⟨fun e=>(by cases e),NM h⟩
  | _=>exact h.elim
 | halt x w'=>
  cases x with
  | panic v=>exact h
  | _=>exact h.elim
def roundOk:Code->Bool
 | .skip=>true
 | .exit _=>true
 | .ret=>true
 | .region _ ops draw=>!draw&&ops.toList.all Zw
 | .seq a b=>roundOk a&&roundOk b
 | .cond _ a b=>roundOk a&&roundOk b
 | .block _ c=>roundOk c
 | .rangeFunc _ _ _ body=>noRF body
 | _=>false
theorem YD {o:Oper} (h:Zw o=true):∀ c,o.op≠ .defer c:=by
 intro c e;unfold Zw at h;rw [e] at h;cases h
theorem IE (hT:TOk P T) {ops:Array Oper} {K:Fr->List AB->Prop} {Q:Exit->Act->World->Prop} (hq:∀ a w,DP w0 M0 ce n K a w->Q .normal a w) :
  ∀ (r:List Oper) (c:Ctx) (fr:Fr) (H:List AB) (a:Act),r.all Zw=true->HS w0 M0 c H->FR w0 c n fr a->Ext ce c->NY P T n ops.toList r fr H K->wpListIn (Fence.wide.inRound l) m P ops Q r a c.w
 | [],c,fr,H,a,_,hs,hf,he,h=>hq _ _ ⟨c,fr,H,rfl,h,hs,hf,he⟩
 | o::r,c,fr,H,a,hr,hs,hf,he,h=>by
  simp only [AR,Ad] at hr;simp only [NY] at h;unfold wpListIn;rcases Dn (ops:=ops) hf h with ⟨hw,fr',hf',h⟩ | ⟨hw,fr',hf',h⟩
  ·rw [if_pos hw];refine G6 (YD hr.1) (E_ hT hs hf' he h ?_);rintro a' w' ⟨c',fr2,H',rfl,h1,h2,h3,h4⟩ -
   exact IE hT hq r c' fr2 H' a' hr.2 h2 h3 h4 h1
  ·rw [if_neg (by rw [hw];simp)];obtain⟨fr2,h1,h2⟩:=Co (v:=undef) hf' (by simp [Rd]) h;exact⟨fun _ _=>trivial,IE hT hq r c fr2 H _ hr.2 hs h2 he h1⟩
theorem Cs (hT:TOk P T) (hd:ce.dom=d0):∀ (cd:Code) (Q:QA) (Q':Exit->Act->World->Prop) (c:Ctx) (fr:Fr) (H:List AB) (a:Act),roundOk cd=true->(noRF cd=true\/(3<=m/\∃ r,ce.w.heap[l]? = some (.loop r)/\¬ce.M l))->(∀ e a w,LiftQ w0 M0 ce n Q e a w->Q' e a w)->HS w0 M0 c H->FR w0 c n fr a->Ext ce c->
  Ck P T n d0 cd Q fr H->cd.wpIn (Fence.wide.inRound l) m P Q' a c.w
 | .skip,Q,Q',c,fr,H,a,_,_,hq,hs,hf,he,h=>wpIn_skip (hq .normal _ _ ⟨c,fr,H,rfl,h,hs,hf,he⟩)
 | .region id ops draw,Q,Q',c,fr,H,a,hr,hm,hq,hs,hf,he,h=>by
  simp only [roundOk,Ad,Cf] at hr;obtain⟨rfl,hr⟩:=hr;simp only [Ck] at h;exact wpIn_region_list (IE hT (fun a w hl=>hq .normal a w hl) ops.toList c fr H a hr hs hf he h)
 | .seq x y,Q,Q',c,fr,H,a,hr,hm,hq,hs,hf,he,h=>by
  simp only [roundOk,Ad] at hr;have hm1:=hm.imp_left fun h=>(by simp only [noRF,Ad] at h;exact h.1)
  have hm2:=hm.imp_left fun h=>(by simp only [noRF,Ad] at h;exact h.2)
  simp only [Ck] at h;have plain:Ck P T n d0 x (EX.then (fun fr H=>Ck P T n d0 y Q fr H) Q) fr H->(Code.seq x y).wpIn (Fence.wide.inRound l) m P Q' a c.w:=by
   intro h;refine wpIn_seq_k fun K hK=>Cs hT hd x _ _ c fr H a hr.1 hm1 (zD ?_ hq) hs hf he h
   rintro a' w' ⟨c',fr',H',rfl,h1,h2,h3,h4⟩;exact hK _ _ (Cs hT hd y Q Q' c' fr' H' a' hr.2 hm2 hq h2 h3 h4 h1)
  split at h
  ·rcases h.ex with h | ⟨ι,st,I,h,hk⟩ | ⟨ι,st,I,h,hk⟩ | ⟨ι,st,I,h,hk⟩
   ·exact plain h
   ·refine wpIn_seq_k fun K hK=>Cs hT hd x _ _ c fr H a hr.1 hm1 (zD ?_ hq) hs hf he h
    rintro a' w' ⟨c',fr',H',rfl,⟨z,hI,hw⟩,h2,h3,h4⟩;obtain⟨c4,e4,hs4,hf4,he4⟩:=hw.sound hd h2 h3 h4;rw [<-e4];exact hK _ _ (Cs hT hd y Q Q' c4 _ _ a' hr.2 hm2 hq hs4 hf4 he4 (hk z hI))
   ·refine wpIn_seq_k fun K hK=>Cs hT hd x _ _ c fr H a hr.1 hm1 (zD ?_ hq) hs hf he h
    rintro a' w' ⟨c',fr',H',rfl,⟨z,hI,hw⟩,h2,h3,h4⟩;obtain⟨c4,e4,hs4,hf4,he4⟩:=hw.sound hd h2 h3 h4;rw [<-e4];exact hK _ _ (Cs hT hd y Q Q' c4 _ _ a' hr.2 hm2 hq hs4 hf4 he4 (hk z hI))
   ·refine wpIn_seq_k fun K hK=>Cs hT hd x _ _ c fr H a hr.1 hm1 (zD ?_ hq) hs hf he h
    rintro a' w' ⟨c',fr',H',rfl,⟨z,hI,hw⟩,h2,h3,h4⟩;obtain⟨c4,e4,hs4,hf4,he4⟩:=hw.sound hd h2 h3 h4;rw [<-e4];exact hK _ _ (Cs hT hd y Q Q' c4 _ _ a' hr.2 hm2 hq hs4 hf4 he4 (hk z hI))
  ·exact plain h
 | .cond x y z,Q,Q',c,fr,H,a,hr,hm,hq,hs,hf,he,h=>by
  simp only [roundOk,Ad] at hr;have hm1:=hm.imp_left fun h=>(by simp only [noRF,Ad] at h;exact h.1)
  have hm2:=hm.imp_left fun h=>(by simp only [noRF,Ad] at h;exact h.2)
  simp only [Ck] at h;split at h
  ·rename_i t ht;have hrd:=hf.ev x;rw [ht] at hrd;simp only [Rd] at hrd;obtain⟨h1,h2⟩:=E0 h;refine wpIn_cond_split hrd (fun e=>?_) fun e=>?_
   ·exact Cs hT hd y Q Q' c fr H a hr.1 hm1 hq hs hf he (h1 e)
   ·exact Cs hT hd z Q Q' c fr H a hr.2 hm2 hq hs hf he (h2 e)
  ·exact h.elim
 | .block id x,Q,Q',c,fr,H,a,hr,hm,hq,hs,hf,he,h=>by
  simp only [roundOk] at hr;simp only [noRF] at hm;simp only [Ck] at h;refine wpIn_block (Cs hT hd x _ _ c fr H a hr hm ?_ hs hf he h);intro e a' w' hl;cases e with
  | normal=>exact hq .normal _ _ hl
  | exit i=>
   simp only [Exit.inBlock];have hl:DP w0 M0 ce n (match Nat.beq i id with | true=>Q .normal | false=>Q (.exit i)) a' w':=by
    have e:(EX.inBlock id Q (EX.exit i))=(match Nat.beq i id with | true=>Q .normal | false=>Q (.exit i)):=by
     funext fr H;simp only [EX.inBlock];cases Nat.beq i id <;> rfl
    rw [<-e];exact hl
   by_cases hi:i=id
   ·subst hi;rw [if_pos rfl];rw [Nat.beq_refl] at hl;exact hq .normal _ _ hl
   ·rw [if_neg hi];have hb:Nat.beq i id=false:=by
     cases hq:Nat.beq i id with
     | true=>exact absurd (Am hq) hi
     | false=>rfl
    rw [hb] at hl;exact hq (.exit i) _ _ hl
  | ret=>exact hq .ret _ _ hl
  | _=>exact hl.elim
 | .exit id,Q,Q',c,fr,H,a,_,_,hq,hs,hf,he,h=>wpIn_exit (hq (.exit id) _ _ ⟨c,fr,H,rfl,h,hs,hf,he⟩)
 | .ret,Q,Q',c,fr,H,a,_,_,hq,hs,hf,he,h=>wpIn_ret (hq .ret _ _ ⟨c,fr,H,rfl,h,hs,hf,he⟩)
 | .loop _,_,_,_,_,_,_,hr,_,_,_,_,_,_=>by simp [roundOk] at hr
 | .rangeFunc g ps asg body,Q,Q',c,fr,H,a,hr,hm,hq,hs,hf,he,h=>by
  simp only [roundOk] at hr;rcases hm with hm | ⟨hm,r,h1,h2⟩
  ·simp [noRF] at hm
  ·simp only [Ck] at h;have hk:=he.keep l (Aw.1 h1).1 h2;exact h.wpR hr w0 M0 ce c a hs hf he hd l r m (hk.2.trans h1) hm Q' fun ex c' fr' H' a' q1 q2 q3 q4=>by
    cases ex <;> exact hq _ _ _ ⟨c',fr',H',rfl,q1,q2,q3,q4⟩
 | .label _,_,_,_,_,_,_,hr,_,_,_,_,_,_=>by simp [roundOk] at hr
 | .goto _,_,_,_,_,_,_,hr,_,_,_,_,_,_=>by simp [roundOk] at hr
 | .scope _,_,_,_,_,_,_,hr,_,_,_,_,_,_=>by simp [roundOk] at hr
 | .refuse _,_,_,_,_,_,_,hr,_,_,_,_,_,_=>by simp [roundOk] at hr
end
def CR (n j:Nat):List Nat:=(List.range j).map fun i=>n - 1 - i
structure IsBack (P:Program) (gf:FuncId) (sz:Nat):Prop where
 enters:∀ args w,(callFunc gf args).run P w = .ok (.enter gf args) w
 seq:∀ (m:Nat),1<=m->∀ (B:Nat) (a:Option Addr) (len cap:Nat) (X:Nat->List Value) (w:World),len<=1000000000->w.cell? ⟨B,0,none⟩=some (.slice a len cap)->(∀ j,(X j).length=sz)->
  (0<len->∃ b off,a=some ⟨b,off,none⟩/\b<w.heap.size/\∀ j,j<len->∀ (i:Nat) (u:Value),(X j)[i]? = some u->w.cell? ⟨b,off+j*sz+i,none⟩=some u)->
  SeqStopsK Fence.wide m P gf #[.pointer (some ⟨B,0,none⟩)] (fun x:Fin len=> #[Value.int .i64 x.val, .agg (X x.val).toArray]) (Below w.heap.size) (fun ys=>ys.map Fin.val=CR len len) (fun pre=>∃ k,k<=len/\pre.map Fin.val=CR len k) len w

section
variable {P:Program} {T:Tys} {w0:Fl} {M0:Ms} {n d0:Nat} {ce:Ctx}
theorem RdAt.raw:∀ (l:List AV) {c:Ctx} {b off:Nat},RdAt l c b off->RdL l c ((List.range' off l.length).map fun i=>(c.w.cell? ⟨b,i,none⟩).getD undef)
 | [],_,_,_,_=>by simp [RdL]
 | x::l,c,b,off,h=>by
  simp only [RdAt] at h;obtain⟨⟨u,h1,_,h3⟩,h4⟩:=h;simp only [Ao,List.range'_succ,A5,RdL];exact⟨_,_,rfl,by rw [h1];exact h3,RdAt.raw l h4⟩
theorem RdAt.some:∀ (l:List AV) {c:Ctx} {b off:Nat},RdAt l c b off->∀ i,i<l.length->∃ u,c.w.cell? ⟨b,off+i,none⟩=some u
 | [],_,_,_,_,i,hi=>by simp at hi
 | x::l,c,b,off,h,i,hi=>by
  simp only [RdAt] at h;obtain⟨⟨u,h1,_,h3⟩,h4⟩:=h;cases i with
  | zero=>exact⟨u,h1⟩
  | succ i=>
   obtain⟨v,hv⟩:=RdAt.some l h4 i (by simpa using hi);exact⟨v,by rw [show off+(i+1)=off+1+i by omega];exact hv⟩
def noIter:List AB->Bool
 | []=>true
 | .iter _ _::_=>false
 | _::r=>noIter r
theorem noIter_get:∀ {H:List AB},noIter H=true->∀ (k:Nat) (s:ByteArray) (p:Nat),H[k]? ≠some (.iter s p)
 | [],_,_,_,_,h=>by simp at h
 | x::r,h,k,s,p,hk=>by
  cases k with
  | zero=>simp at hk;subst hk;simp [noIter] at h
  | succ k=>
   simp at hk;refine noIter_get (H:=r) ?_ k s p hk;cases x <;> first | exact h | (simp [noIter] at h)
theorem HS.cells {c:Ctx} {H:List AB} (h:HS w0 M0 c H) (hni:noIter H=true) {k:Nat} {x:AB} {g:Nat} (hk:H[k]? = some x) (hl:x.live=true) (hg:oB (c.rho k)=some g):∃ o:Obj,c.w.heap[g]? = some o/\o.isCells=true:=by
 have hx:=h.blk k x hk;cases x with
 | dead=>cases hl
 | iter s p=>exact absurd hk (noIter_get hni k s p)
 | box t cs=>
  obtain⟨g',xs,h1,h2,_⟩:=hx;rw [h1] at hg;simp only [oB,Option.some.injEq] at hg;subst hg;exact⟨_,h2,rfl⟩
 | row t sz es=>
  obtain⟨_,_,_,xs,⟨_,h4⟩,_⟩:=hx;rcases h4 with ⟨e,_⟩ | ⟨g',cap,cur,e,_,hh,_⟩
  ·rw [e] at hg;cases hg
  ·rw [e] at hg;simp only [oB,Option.some.injEq] at hg;subst hg;exact⟨_,hh,rfl⟩
 | rowo t sz es m=>
  obtain⟨_,_,_,_,xs,⟨_,h4⟩,_⟩:=hx;rcases h4 with ⟨e,_⟩ | ⟨g',cap,cur,e,_,hh,_⟩
  ·rw [e] at hg;cases hg
  ·rw [e] at hg;simp only [oB,Option.some.injEq] at hg;subst hg;exact⟨_,hh,rfl⟩
theorem HS.turn {c:Ctx} {H:List AB} (h:HS w0 M0 c H) (hni:noIter H=true) {B0:Nat} (hB:w0.w.heap.size<=B0) {W':World} {row:Option Nat} (hg:c.w.grownBy W' row) (hr:∀ r,row=some r->B0<=r/\∃ o:Obj,c.w.heap[r]? = some o/\o.isCells=false) :
  HS w0 M0 { c with w:=W' } H/\Like c { c with w:=W' }:=by
 have hoth:∀ (g:Nat) (o:Obj),c.w.heap[g]? = some o->o.isCells=true->W'.heap[g]? = c.w.heap[g]? :=by
  intro g o ho hc;refine hg.block g (Aw.1 ho).1 fun e=>?_
  obtain⟨_,o',ho',hc'⟩:=hr g e.symm;rw [ho] at ho';cases ho';rw [hc] at hc';cases hc'
 have hl:Like c { c with w:=W' }:=by
  refine⟨rfl,hg.size,fun a u hu=>?_,rfl,rfl,rfl⟩;obtain⟨o,ho,hc⟩:=cells_of_cell hu;exact(World.cell?_of_block (hoth _ _ ho hc)).trans hu
 refine⟨⟨⟨hg.os.trans h.low.os,hg.tape.trans h.low.tape,hg.output.trans h.low.output,AW h.low.size hg.size,fun b hb=>?_⟩,h.base,h.dom,h.foreign,fun b hm=>As (h.lt b hm) hg.size,fun k x hk=>?_,h.own,h.dis⟩,hl⟩
 ·rw [<-h.low.block b hb];have hb':=w0.lt b hb;refine hg.block b (As hb' h.low.size) fun e=>?_
  have:=(hr b e.symm).1;omega
 ·have hx:=h.blk k x hk;cases x with
  | dead=>trivial
  | iter s p=>exact absurd hk (noIter_get hni k s p)
  | box t cs=>
   obtain⟨g,xs,h1,h2,h3,h4⟩:=hx;exact⟨g,xs,h1,(hoth g _ h2 rfl).trans h2,RdL.like cs hl h3,h4⟩
  | row t sz es=>
   obtain⟨h1,h2,h3,xs,h4,h5,h6⟩:=hx;refine⟨h1,h2,h3,xs,?_,RdL.like _ hl.closed h5,h6⟩;refine⟨h4.1,h4.2.imp id ?_⟩;rintro⟨g,cap,cur,q1,q2,q3,q4⟩;exact⟨g,cap,cur,q1,q2,(hoth g _ q3 rfl).trans q3,q4⟩
  | rowo t sz es m=>
   obtain⟨h1,h2,h3,h3',xs,h4,h5,h6⟩:=hx;refine⟨h1,h2,h3,h3',xs,?_,RdL.like _ hl h5,h6⟩;refine⟨h4.1,h4.2.imp id ?_⟩;rintro⟨g,cap,cur,q1,q2,q3,q4⟩;exact⟨g,cap,cur,q1,q2,(hoth g _ q3 rfl).trans q3,q4⟩
theorem Ext.turn {c0 c:Ctx} (h:Ext c0 c) {B0:Nat} (hB:c0.w.heap.size<=B0) {W':World} {row:Option Nat} (hg:c.w.grownBy W' row) (hr:∀ r,row=some r->B0<=r/\∃ o:Obj,c.w.heap[r]? = some o/\o.isCells=false):Ext c0 { c with w:=W' }:=
 ⟨hg.os.trans h.os,hg.tape.trans h.tape,hg.output.trans h.output,AW h.size hg.size,fun b hb hm=>⟨(h.keep b hb hm).1,(hg.block b (As hb h.size) fun e=>by have:=(hr b e.symm).1;omega).trans (h.keep b hb hm).2⟩,h.dom,h.len,h.rho,h.box⟩
def Ctx.slim (c:Ctx) (B0:Nat) (H:List AB):Ctx:={ c with M:=fun b=>c.M b/\(b<B0\/∃ (j:Nat) (y:AB),H[j]? = some y/\y.live=true/\oB (c.rho j)=some b) }
theorem HS.slim {c:Ctx} {H:List AB} (h:HS w0 M0 c H) {B0:Nat} (hB:w0.w.heap.size<=B0):HS w0 M0 (c.slim B0 H) H/\Ext c (c.slim B0 H):=by
 have he:Ext c (c.slim B0 H):=⟨rfl,rfl,rfl,Ag _,fun b _ hm=>⟨fun h=>hm h.1,rfl⟩,Ag _,fun _ _=>Ag _,fun _ _ _=>rfl,fun _ _ _ h=>h⟩;refine⟨⟨h.low,h.base,h.dom,fun b hb=>⟨fun hm=>(h.foreign b hb).1 hm.1,fun hm=>⟨(h.foreign b hb).2 hm, .inl (As (w0.lt b hb) hB)⟩⟩,fun b hm=>h.lt b hm.1,fun k x hk=>?_,fun k x g hk hl ho=>⟨⟨(h.own k x g hk hl ho).1, .inr ⟨k,x,hk,hl,ho⟩⟩,(h.own k x g hk hl ho).2⟩,h.dis⟩,he⟩;have hx:=h.blk k x hk;cases x with
 | dead=>trivial
 | iter s p=>exact hx
 | box t cs=>
  obtain⟨g,xs,h1,h2,h3,h4⟩:=hx;exact⟨g,xs,h1,h2,RdL.ext cs he h3,h4⟩
 | row t sz es=>
  obtain⟨h1,h2,h3,xs,h4,h5,h6⟩:=hx;exact⟨h1,h2,h3,xs,h4,RdL.ext _ he.closed h5,h6⟩
 | rowo t sz es m=>
  obtain⟨h1,h2,h3,h3',xs,h4,h5,h6⟩:=hx;exact⟨h1,h2,h3,h3',xs,h4,RdL.ext _ he h5,h6⟩
theorem Ls {c:Ctx} {H:List AB} (h:HS w0 M0 c H) (hni:noIter H=true) {B0 b:Nat} (hb:B0<=b) (hm:(c.slim B0 H).M b):∃ o:Obj,c.w.heap[b]? = some o/\o.isCells=true:=by
 obtain⟨_,h1 | ⟨j,y,h1,h2,h3⟩⟩:=hm
 ·omega
 ·exact h.cells hni h1 h2 h3
def Gq (T:Tys) (n:Nat):Code->Fr->List AB->(Fr->List AB->Prop)->Prop
 | .skip,fr,H,K=>K fr H
 | .region _ ops false,fr,H,K=>match ops.toList with
  | [o1]=>match o1.op,o1.dst,o1.guard with
   | .assign (.tmp s),some d,none=>match Nat.blt d n with
    | true=>CZ (fget fr s) fun x=>K ((d,x)::fr) H
    | false=>False
   | _,_,_=>False
  | [o1,o2]=>match o1.op,o1.dst,o1.guard,o2.op,o2.dst,o2.guard with
   | .alloc t,some d,none, .store t' (.tmp d') (.tmp s),none,none=>match Nat.beq t t'&&Nat.beq d d'&&!Nat.beq s d&&Nat.blt d n with
    | true=>match tget T t with
     | some ty=>match ty.zero.all (·.oneCell')&&Nat.beq ty.zero.length ty.sz with
      | true=>CZ (fget fr s) fun x=>match cellsOk x&&Nat.beq (cells1 x).length ty.sz with
       | true=>snocK H (.box t (cells1 x)) 0 fun k H=>K ((d, .bp k 0)::fr) H
       | false=>False
      | false=>False
     | none=>False
    | false=>False
   | _,_,_,_,_,_=>False
  | _=>False
 | .seq x y,fr,H,K=>Gq T n x fr H fun fr H=>Gq T n y fr H K
 | _,_,_,_=>False
theorem Oe (hT:TOk P T) {l m:Nat} {ops:Array Oper} {o1 o2:Oper} {t:TypeId} {d s:Nat} {ty:Ty} (h1:o1.op = .alloc t) (h1d:o1.dst=some d) (h1g:o1.guard=none) (h2:o2.op = .store t (.tmp d) (.tmp s)) (h2d:o2.dst=none) (h2g:o2.guard=none) (hne:s≠d) (hd:d<n)
  (ht:tget T t=some ty) (hz:ty.zero.all (·.oneCell')=true) (hzl:ty.zero.length=ty.sz) {K:Fr->List AB->Prop} {Q:Exit->Act->World->Prop} {c:Ctx} {fr:Fr} {H:List AB} {a:Act} (hs:HS w0 M0 c H) (hf:FR w0 c n fr a) (he:Ext ce c)
  (hok:(cellsOk (fget fr s)&&Nat.beq (cells1 (fget fr s)).length ty.sz)=true) (h:K ((d, .bp H.length 0)::fr) (H ++ [.box t (cells1 (fget fr s))])) (hq:∀ a w,DP w0 M0 ce n K a w->Old c.w w->Q .normal a w):wpListIn (Fence.wide.inRound l) m P ops Q [o1,o2] a c.w:=by
 simp only [Ad] at hok;have hsz:=Am hok.2;obtain⟨i,dd,z,hp⟩:=(hT.get ht).parts;have hxl0:ty.zero.length=ty.sz:=hzl;obtain⟨c1,e1,e2,e3,e4⟩:=hs.box t (cs:=ty.zero.map .v) (xs:=ty.zero) (I_ _) (fun u hu=>Av.1 hz u hu);have hrun:(execOp a.eval o1).run P c.w = .ok (.value (.pointer (some ⟨c.w.heap.size,0,none⟩))) c1.w:=by
  have hzc:z.cells=ty.zero.toArray:=Array.ext' (by simpa using hp.zc);simp [execOp,h1,Instr.alloc,zeroValue,typeInfo,hp.info,hp.zero,IA,e1,hzc]
 unfold wpListIn;rw [if_pos (by simp [Region.wanted,h1g])];refine G6 (by intro c e;rw [h1] at e;cases e) ?_;unfold Oper.wp;rw [hrun,Oper.upon_value,h1d];unfold wpListIn;rw [if_pos (by simp [Region.wanted,h2g])];refine G6 (by intro c e;rw [h2] at e;cases e) ?_;have hf1:FR w0 c1 n ((d, .bp H.length 0)::fr) (a.put (some d) (.pointer (some ⟨c.w.heap.size,0,none⟩))):=(hf.ext e3).put hd e4;have hfs:fget ((d, .bp H.length 0)::fr) s=fget fr s:=by
  show (bif Nat.beq d s then AV.bp H.length 0 else fget fr s)=fget fr s;cases hb:Nat.beq d s with
  | true=>exact absurd (Am hb).symm hne
  | false=>rfl
 have hev:Rd (fget fr s) c1 ((a.put (some d) (.pointer (some ⟨c.w.heap.size,0,none⟩))).eval (.tmp s)):=by
  rw [<-hfs];exact hf1.get s
 have hevd:(a.put (some d) (.pointer (some ⟨c.w.heap.size,0,none⟩))).eval (.tmp d) = .pointer (some ⟨c.w.heap.size,0,none⟩):=by
  have hsz':=hf.size;simp only [Act.eval,Act.put];rw [AH,C7 (by omega)];try rfl
 generalize hav:a.put (some d) (.pointer (some ⟨c.w.heap.size,0,none⟩))=a1 at hf1 hev hevd |-
 obtain⟨hc1,hc2⟩:=In hev hok.1;have hcl:=hc1.length;have hcs:(a1.eval (.tmp s)).cells.size=ty.sz:=by rw [<-hsz,<-hcl];simp
 have hj:(H ++ [AB.box t (ty.zero.map .v)])[H.length]? = some (.box t (ty.zero.map .v)):=by simp
 obtain⟨g,xs,q1,q2,q3,q4⟩:=e2.blk _ _ hj;have hg:g=c.w.heap.size:=by
  simp only [Rd] at e4;obtain⟨_,g',hg',hu⟩:=e4;rw [q1] at hg';cases hg';simpa using hu.symm
 subst hg;have hxl:xs.length=ty.sz:=by rw [<-hxl0];have:=q3.length;simpa using this
 obtain⟨w',r1,r2,r3,r4,r5,r6,r7⟩:=DR (P:=P) (a1.eval (.tmp s)).cells.toList (i:=0) (off:=0) q2 hc2 (by simp;omega);have hrun2:(execOp a1.eval o2).run P c1.w = .ok .skip w':=by
  have:=Fs (a:=⟨c.w.heap.size,0,none⟩) (hT.get ht) hcs r1;simp [execOp,h2,Instr.storeAt,hevd,Instr.sureAddr,this]
 unfold Oper.wp;rw [hrun2,Oper.upon_skip,h2d];have hE:Ext c1 { c1 with w:=w' }:=⟨r5,r6,r7,by simp [r4],fun b _ hm=>⟨hm,r3 b fun e=>hm (e ▸ (e2.own _ _ c.w.heap.size hj rfl (by rw [q1];try rfl)).1)⟩,Ag _,fun _ _=>Ag _,fun _ _ _=>rfl,fun _ _ _ h=>h⟩;have hset:=e2.set_ (y:= .box t (cells1 (fget fr s))) hj rfl rfl (g:=c.w.heap.size) (by rw [q1];try rfl) r3 r4 r5 r6 r7 (by
  refine⟨c.w.heap.size,(a1.eval (.tmp s)).cells.toList,q1,?_,RdL.ext _ hE hc1,hc2⟩;have hlen:(a1.eval (.tmp s)).cells.toList.length=xs.length:=by simp;omega
  rw [Ca,List.take_zero,Bk,Au,A9 (by omega),AE] at r2;exact r2)
 unfold wpListIn;refine hq _ _ ⟨{ c1 with w:=w' },_,_,rfl,h,?_,hf1.ext hE,(he.trans e3).trans hE⟩ ?_
 ·have:=hset.1;rwa [C5 _ _ (Ag _),B9,List.set_cons_zero] at this
 ·intro b hb;rw [r3 b (by omega),e1];exact((Below.refl c.w.heap.size c.w).alloc (Ag _) _).block b hb
theorem O7 {l m:Nat} {ops:Array Oper} {o1:Oper} {d s:Nat} (h1:o1.op = .assign (.tmp s)) (h1d:o1.dst=some d) (h1g:o1.guard=none) (hd:d<n) {K:Fr->List AB->Prop} {Q:Exit->Act->World->Prop} {c:Ctx} {fr:Fr} {H:List AB} {a:Act} (hs:HS w0 M0 c H) (hf:FR w0 c n fr a) (he:Ext ce c)
  (h:K ((d,fget fr s)::fr) H) (hq:∀ a w,DP w0 M0 ce n K a w->Old c.w w->Q .normal a w):wpListIn (Fence.wide.inRound l) m P ops Q [o1] a c.w:=by
 unfold wpListIn;rw [if_pos (by simp [Region.wanted,h1g])];refine G6 (by intro c e;rw [h1] at e;cases e) ?_;unfold Oper.wp;rw [show (execOp a.eval o1).run P c.w = .ok (.value (a.eval (.tmp s))) c.w by simp [execOp,h1],Oper.upon_value,h1d];unfold wpListIn;exact hq _ _ ⟨c,_,H,rfl,h,hs,hf.put hd (hf.get s),he⟩ (zy _)
theorem GL (hT:TOk P T) {l m:Nat}:∀ {asg:Code} {K:Fr->List AB->Prop} {Q:Exit->Act->World->Prop} {c:Ctx} {fr:Fr} {H:List AB} {a:Act},HS w0 M0 c H->FR w0 c n fr a->Ext ce c->Gq T n asg fr H K->
  (∀ a w,DP w0 M0 ce n K a w->Old c.w w->Q .normal a w)->asg.wpIn (Fence.wide.inRound l) m P Q a c.w
 | .skip,K,Q,c,fr,H,a,hs,hf,he,h,hq=>wpIn_skip (hq _ _ ⟨c,fr,H,rfl,h,hs,hf,he⟩ (zy _))
 | .seq x y,K,Q,c,fr,H,a,hs,hf,he,h,hq=>by
  simp only [Gq] at h;refine wpIn_seq_k fun KK hK=>GL hT (asg:=x) hs hf he h ?_
  rintro a' w' ⟨c',fr',H',rfl,h1,h2,h3,h4⟩ hold;exact hK _ _ (GL hT (asg:=y) h2 h3 h4 h1 fun a2 w2 hl ho=>hq a2 w2 hl (hold.trans ho))
 | .region id ops draw,K,Q,c,fr,H,a,hs,hf,he,h,hq=>by
  cases draw with
  | true=>simp [Gq] at h
  | false=>
  simp only [Gq] at h;split at h
  ·rename_i o1 hops;split at h
   ·rename_i s d h1 h1d h1g;split at h
    ·rename_i hb;have h:=BD h;refine wpIn_region_list ?_;rw [hops];exact O7 h1 h1d h1g (by simpa using hb) hs hf he h hq
    ·exact h.elim
   ·exact h.elim
  ·rename_i o1 o2 hops;split at h
   ·rename_i t d t' d' s h1 h1d h1g h2 h2d h2g;split at h
    ·rename_i hb;simp only [Ad,Cf] at hb;obtain⟨⟨⟨Yi,hb2⟩,hb3⟩,hb4⟩:=hb;have:=Am Yi;subst this;have:=Am hb2;subst this;have hne:s≠d:=fun e=>by subst e;rw [Nat.beq_refl] at hb3;cases hb3
     split at h
     ·rename_i ty ht;split at h
      ·rename_i hz;simp only [Ad] at hz;have h:=BD h;split at h
       ·rename_i hok;have h:=snocK_iff h;rw [Au] at h;refine wpIn_region_list ?_;rw [hops];exact Oe hT h1 h1d h1g h2 h2d h2g hne (by simpa using hb4) ht hz.1 (Am hz.2) hs hf he hok h hq
       ·exact h.elim
      ·exact h.elim
     ·exact h.elim
    ·exact h.elim
   ·exact h.elim
  ·exact h.elim
 | .cond _ _ _,_,_,_,_,_,_,_,_,_,h,_=>by simp [Gq] at h
 | .block _ _,_,_,_,_,_,_,_,_,_,h,_=>by simp [Gq] at h
 | .exit _,_,_,_,_,_,_,_,_,_,h,_=>by simp [Gq] at h
 | .ret,_,_,_,_,_,_,_,_,_,h,_=>by simp [Gq] at h
 | .loop _,_,_,_,_,_,_,_,_,_,h,_=>by simp [Gq] at h
 | .rangeFunc _ _ _ _,_,_,_,_,_,_,_,_,_,h,_=>by simp [Gq] at h
 | .label _,_,_,_,_,_,_,_,_,_,h,_=>by simp [Gq] at h
 | .goto _,_,_,_,_,_,_,_,_,_,h,_=>by simp [Gq] at h
 | .scope _,_,_,_,_,_,_,_,_,_,h,_=>by simp [Gq] at h
 | .refuse _,_,_,_,_,_,_,_,_,_,h,_=>by simp [Gq] at h
def Lf (H:List AB) (x:AV) (sz len:Nat) (E:Nat->List AV):Prop:=
 match x with
 | .ow k n'=>n'=len/\∃ t es,hget H k=some (.row t sz es)/\es.length=len/\E=fun i=>es.getD i []
 | .sl sz' n' get=>sz'=sz/\n'=len/\E=get
 | .v (.slice none 0 0)=>len=0
 | _=>False
theorem ME {c:Ctx} {H:List AB} (hs:HS w0 M0 c H) {x:AV} {sz len:Nat} {E:Nat->List AV} (h:Lf H x sz len E) {u:Value} (hr:Rd x c u) :
  ∃ a cap,u = .slice a len cap/\(0<len->∃ b off,a=some ⟨b,off,none⟩/\b<c.w.heap.size/\∀ i,i<len->(E i).length=sz/\RdAt (E i) c.closed b (off+i*sz)):=by
 unfold Lf at h;split at h
 ·obtain⟨rfl,t,es,hk,hl,rfl⟩:=h;rename_i k n';rw [hget_eq] at hk;obtain⟨h1,h2,h3,xs,h4,h5,h6⟩:=hs.blk _ _ hk;simp only [Rd] at hr;obtain⟨_,_,⟨a,p,rfl,ha⟩,he⟩:=hr;refine⟨a,p,rfl,fun hp=>?_⟩;have hrho:=he (by rw [h1,hl]);obtain⟨g,rfl⟩:=ha (by omega);have hgl:g<c.w.heap.size:=by
   rcases h4.2 with ⟨e,_⟩ | ⟨g',cap,cur,e,_,hh,_⟩
   ·rw [<-hrho] at e;cases e
   ·rw [<-hrho] at e;cases e;exact(Aw.1 hh).1
  have hat:=RdAt.of (b:=g) (off:=0) h5 h6 fun j u hu=>by rw [Au];exact G1 (hl ▸ h4) hrho.symm hu
  exact⟨g,0,rfl,hgl,fun i hi=>⟨h3 _ (by simp only [Ab];rw [Af (by omega)];exact Cu _),by rw [Au];exact I3 h3 hat (by omega)⟩⟩
 ·obtain⟨rfl,rfl,rfl⟩:=h;simp only [Rd] at hr;obtain⟨a,k,rfl,h1,h2,h3⟩:=hr;refine⟨a,k,rfl,fun hp=>?_⟩;rcases h3 with h3 | ⟨b,off,rfl,_,hb,hc⟩
  ·omega
  ·exact⟨b,off,rfl,hb,hc⟩
 ·subst h;simp only [Rd] at hr;subst hr;exact⟨none,0,rfl,fun hp=>absurd hp (Nat.lt_irrefl _)⟩
 ·exact h.elim
end
section
variable {P:Program} {T:Tys} {w0:Fl} {M0:Ms} {n d0:Nat} {ce:Ctx}
def Fl.off (w0:Fl):Fl:=⟨w0.w,w0.old,w0.lt,w0.gl,False⟩
theorem HS.off {c:Ctx} {H:List AB} (h:HS w0 M0 c H):HS w0.off M0 c H:=⟨⟨h.low.os,h.low.tape,h.low.output,h.low.size,h.low.block⟩,h.base,h.dom,h.foreign,h.lt,h.blk,h.own,h.dis⟩
theorem HS.on {c:Ctx} {H:List AB} (h:HS w0.off M0 c H):HS w0 M0 c H:=⟨⟨h.low.os,h.low.tape,h.low.output,h.low.size,h.low.block⟩,h.base,h.dom,h.foreign,h.lt,h.blk,h.own,h.dis⟩
theorem FR.off {c:Ctx} {fr:Fr} {a:Act} (h1:a.tmps.size=n) (h2:∀ i,Rd (fget fr i) c (a.tmps.getD i undef)) (hc:¬w0.chk):FR w0 c n fr a:=⟨h1,DfOk.free hc,h2⟩
def frozen (fr:Fr) (H:List AB):Fr->Prop
 | []=>True
 | (i,x)::r=>((x.lt 0=true/\fget fr i=x)\/∃ kk tt cs,x = .rp cs/\AV.ltL cs 0=true/\fget fr i = .bp kk 0/\hget H kk=some (.box tt cs))/\frozen fr H r
def Ctx.calm (c:Ctx) (w:World):Ctx:=⟨w,0,fun _=>False,c.rho,c.len,0⟩
theorem Nm {c:Ctx} {H:List AB} (hs:HS w0 M0 c H) {fr:Fr} {us:Array Value} (hf:∀ i,Rd (fget fr i) c (us.getD i undef)):∀ {frz:Fr},frozen fr H frz->∀ i,Rd (fget frz i) (c.calm c.w) (us.getD i undef)
 | [],_,i=>by simp [fget,Rd]
 | (j,x)::r,h,i=>by
  have hcut:Cut c (c.calm c.w):=⟨⟨rfl,rfl,rfl,Ag _,fun _ _ _=>⟨fun h=>h,rfl⟩,Ag _,fun k hk=>absurd hk (Ap k),fun k hk=>absurd hk (Ap k),fun k _ hk=>absurd hk (Ap k)⟩,fun _ _=>tA⟩;unfold fget;cases hb:Nat.beq j i with
  | false=>exact Nm hs hf h.2 i
  | true=>
   have:=Am hb;subst this;simp only [cond_true];rcases h.1 with ⟨h1,h2⟩ | ⟨kk,tt,cs,rfl,h1,h2,h3⟩
   ·refine Rd.cut x hcut h1 ?_;rw [<-h2];exact hf j
   ·have hr:=hf j;rw [h2] at hr;simp only [Rd] at hr;obtain⟨_,g,hg,hu⟩:=hr;rw [hget_eq] at h3;obtain⟨g',xs,q1,q2,q3,q4⟩:=hs.blk _ _ h3;rw [q1] at hg;cases hg;rw [hu];simp only [Rd];refine⟨g,0,rfl,fun h=>h,(Aw.1 q2).1,?_⟩;exact RdAt.of (c:=(c.calm c.w).closed) (b:=g) (off:=0) (RdL.cut cs hcut h1 q3) q4 fun j u hu=>by rw [Au];show c.w.cell? _=_;rw [cell_of_row _ g _ _ tt (0,0) q2];simpa using hu
def EX.code:EX->Code
 | .normal=> .skip
 | .exit id=> .exit id
 | .ret=> .ret
theorem Na {W W':World} {c:Ctx} (hB:c.w.heap.size<=W.heap.size) (ho:Old W W') (h1:W'.os=W.os) (h2:W'.tape=W.tape) (h3:W'.output=W.output) (h4:W.heap.size<=W'.heap.size):Below c.w.heap.size W W':=
 ⟨h1,h2,h3,h4,fun b hb=>ho b (As hb hB)⟩
theorem R9 {len k:Nat} (hk:k<=len) {pre:List Nat} {x:Nat} (h:pre ++ [x]=CR len k) {p:Nat->Prop} (hp:∀ y∈pre,p y):∀ j,x<j->j<len->p j:=by
 intro j hj hl;have h1:k=pre.length+1:=by have:=congrArg List.length h;simpa [CR] using this.symm
 subst h1;have hx:x=len - 1 - pre.length:=by
  have:=congrArg (fun l=>l[pre.length]?) h;simp [CR] at this;exact this
 have hi:len - 1 - j<pre.length:=by omega
 have h2:=congrArg (fun l=>l[len - 1 - j]?) h;simp only [CR,AD hi,Bd,BL (show len - 1 - j<pre.length+1 by omega),Option.map_some] at h2;rw [show len - 1 - (len - 1 - j)=j by omega] at h2;exact hp j (List.mem_of_getElem? h2)
theorem DfOk.lt {c:Ctx} (hc:w0.chk):∀ {l:List Deferred},DfOk w0 c l->∀ e∈l,∃ b,e.target = .collected b/\b<c.w.heap.size
 | d::r,h,e,he=>by
  rcases AQ.1 he with rfl | he
  ·obtain⟨b,rfl,_,_,h4,_⟩:=h.1 hc;exact⟨b,rfl,(Aw.1 h4).1⟩
  ·exact DfOk.lt hc h.2 e he
theorem TY {len:Nat} {i:Nat} (hi:i<len):i∈CR len len:=by
 rw [CR,AI];exact⟨len - 1 - i,by simp;omega,by omega⟩

def W5 (P:Program) (n:Nat) (w0:Fl) (M0:Ms) (c:Ctx) (a:Act) (gf:FuncId) (g:Operand) (p1 p2:Nat) (asg body:Code) (Q:QA) (fr:Fr) (len:Nat) (hit:Nat->Bool):Prop:=
 ∃ (gB:Nat) (X:Nat->List Value) (I:List (Fin len)->World->Prop) (Ix:Code->List (Fin len)->World->Prop) (Ax:Fin len->Act->World->Prop),
  a.eval g = .func (.func gf) #[] #[.pointer (some ⟨gB,0,none⟩)]/\
  (∀ m,1<=m->SeqStopsK Fence.wide m P gf #[.pointer (some ⟨gB,0,none⟩)] (fun x:Fin len=> #[Value.int .i64 x.val, .agg (X x.val).toArray]) (Below c.w.heap.size) (fun ys=>ys.map Fin.val=CR len len) (fun pre=>∃ k,k<=len/\pre.map Fin.val=CR len k) len c.w)/\
  OwnFrom c.w.heap.size I/\(∀ cd,OwnFrom c.w.heap.size (Ix cd))/\I [] c.w/\(∀ x a',OwnFrom c.w.heap.size (fun(_:Unit) W=>Ax x a' W))/\
  (∀ (k l:Nat) (pre:List (Fin len)) (y:Fin len) (W:World) (K:Act->World->Prop),I pre W->(∀ a' W',KeepsFrom c.w.heap.size W W'->Below c.w.heap.size W W'->I pre W'->Ax y a' W'->K a' W')->
   asg.wpIn (Fence.wide.inRound l) k P (Exit.then K (fun _ _ _=>False)) { tmps:=((#[p1,p2]:Array Tmp).zip #[Value.int .i64 y.val, .agg (X y.val).toArray]).foldl (fun t (p,v)=>t.setIfInBounds p v) a.tmps,defers:= [] } W)/\
  (∀ (k:Nat),(noRF body=true\/3<=k)->∀ (l:Nat) (pre:List (Fin len)) (y:Fin len) (a':Act) (W:World),c.w.heap.size<=l->(∃ r,W.heap[l]? = some (.loop r))->I pre W->Ax y a' W->pre.length<len->
   body.wpIn (Fence.wide.inRound l) k P (ownPostG c.w.heap.size (Below c.w.heap.size) I Ix (pre ++ [y]) W) a' W)/\
  (∀ (ys:List (Fin len)) (W:World),ys.map Fin.val=CR len len->I ys W->Below c.w.heap.size c.w W/\∀ i,i<len->hit i=false)/\
  (∀ (cd:Code) (pre:List (Fin len)) (W:World),(∃ k,k<=len/\pre.map Fin.val=CR len k)->Ix cd pre W->∃ ex c' H',cd=EX.code ex/\ex≠ .normal/\Q ex fr H'/\c'.w=W/\HS w0 M0 c' H'/\Ext c c'/\noIter H'=true/\(∀ b,c.w.heap.size<=b->c'.M b->∃ (j:Nat) (y:AB),H'[j]? = some y/\y.live=true/\oB (c'.rho j)=some b))
theorem Ug (hT:TOk P T) {gf:FuncId} {sz:Nat} (hgf:IsBack P gf sz) {g:Operand} {p1 p2:Nat} {asg body:Code} {Q:QA} {fr:Fr} {H:List AB} {B len:Nat} {tb:TypeId} {x:AV} {E:Nat->List AV}
  (hg:ev fr g = .fn gf [.bp B 0]) (hB:hget H B=some (.box tb [x])) (hx:Lf H x sz len E) (hbig:len<=1000000000) (_hni:noIter H=true) (hp:p1<n/\p2<n) (hrb:roundOk body=true)
  (frz:Fr) (hfz:frozen fr H frz) (hit:Nat->Bool)
  (hskip:∀ i,i<len->hit i=false->Gq T n asg ((p2, .ag (E i))::(p1,iv i)::frz) [] fun fr' H'=>noIter H'=true/\Ck P T n 0 body (fun ex _ _=>ex = .normal) fr' H')
  (hhit:∀ i,i<len->hit i=true->Gq T n asg ((p2, .ag (E i))::(p1,iv i)::fr) H fun fr' H'=>noIter H'=true/\Ck P T n H.length body (fun ex _ H'=>ex≠ .normal/\noIter H'=true/\((∀ j,i<j->j<len->hit j=false)->Q ex fr H')) fr' H')
  (w0:Fl) (M0:Ms) (c:Ctx) (a:Act) (hs:HS w0 M0 c H) (hf:FR w0 c n fr a):W5 P n w0 M0 c a gf g p1 p2 asg body Q fr len hit:=by
 have hgv:=hf.ev g;rw [hg] at hgv;simp only [Rd,RdL] at hgv;obtain⟨_,hgv,_,_,rfl,⟨hBd,gB,hgB,rfl⟩,rfl⟩:=hgv;rw [hget_eq] at hB;obtain⟨g',xs,q1,q2,q3,q4⟩:=hs.blk _ _ hB;rw [hgB] at q1;cases q1;simp only [RdL] at q3;obtain⟨u,_,rfl,hu,rfl⟩:=q3;obtain⟨ad,cap,rfl,hel⟩:=ME hs hx hu;have hcB:c.w.cell? ⟨gB,0,none⟩=some (.slice ad len cap):=by rw [cell_of_row _ gB _ _ tb (0,0) q2];try rfl
 obtain⟨X,hXl,hXr,hXc⟩:∃ X:Nat->List Value,(∀ j,(X j).length=sz)/\(∀ i,i<len->RdL (E i) c.closed (X i))/\(0<len->∃ b off,ad=some ⟨b,off,none⟩/\b<c.w.heap.size/\∀ j,j<len->∀ (i:Nat) (u:Value),(X j)[i]? = some u->c.w.cell? ⟨b,off+j*sz+i,none⟩=some u):=by
  rcases Da len with h0 | h0
  ·exact⟨fun _=>List.replicate sz undef,by simp,fun i hi=>by omega,fun h=>by omega⟩
  ·obtain⟨b,off,h1,h2,h3⟩:=hel h0;refine⟨fun j=>(List.range' (off+j*sz) sz).map fun i=>(c.w.cell? ⟨b,i,none⟩).getD undef,by simp,fun i hi=>?_,fun _=>⟨b,off,h1,h2,fun j hj i u hi=>?_⟩⟩
   ·have:=RdAt.raw _ (h3 i hi).2;rw [(h3 i hi).1] at this;exact this
   ·obtain⟨v,hv⟩:=RdAt.some _ (h3 j hj).2 i (by
     rw [(h3 j hj).1];have:=(Ar.1 hi).1;simpa using this)
    have hv':c.w.cell? ⟨b,off+j*sz+i,none⟩=some v:=hv;rw [hv'];have hil:i<sz:=by
     have:=(Ar.1 hi).1;simpa using this
    rw [Bd,List.getElem?_range' hil] at hi;simp only [Option.map_some,Nat.one_mul,Option.some.injEq] at hi;rw [hv'] at hi;simpa using hi
 have hseq:=fun(m:Nat) (hm:1<=m)=>hgf.seq m hm gB ad len cap X c.w hbig hcB hXl hXc
 have hgl:=hs.glob;have hlow:=hs.low.size
 -- the two memories of a round
 let wS:Fl:=(Fl.all c.w hgl).off;have hskipHS:∀ W,Below c.w.heap.size c.w W->HS wS (fun _=>False) (c.calm W) []:=fun W hW=>
  ⟨⟨hW.os,hW.tape,hW.output,hW.size,fun b hb=>hW.block b hb⟩,rfl,rfl,fun _ _=>Iff.rfl,fun _ h=>h.elim,by simp,by simp,by simp⟩
 have hcalm:∀ W,Below c.w.heap.size c.w W->Ext (c.calm c.w) (c.calm W):=fun W hW=>
  ⟨hW.os,hW.tape,hW.output,hW.size,fun b hb _=>⟨fun h=>h,hW.block b hb⟩,Ag _,fun k hk=>absurd hk (Ap k),fun k hk=>absurd hk (Ap k),fun k _ hk=>absurd hk (Ap k)⟩
 have hclcalm:Ext c.closed (c.calm c.w):=⟨rfl,rfl,rfl,Ag _,fun _ _ _=>⟨fun h=>h,rfl⟩,Ag _,fun k hk=>absurd hk (Ap k),fun k hk=>absurd hk (Ap k),fun k _ hk=>absurd hk (Ap k)⟩;refine⟨gB,X,(fun pre W=>Below c.w.heap.size c.w W/\∀ y∈pre,hit y.val=false),
  (fun cd pre W=>∃ ex pr y c' H',pre=pr ++ [y]/\(∀ z∈pr,hit z.val=false)/\cd=ex.code/\ex≠ .normal/\((∀ j,y.val<j->j<len->hit j=false)->Q ex fr H')/\c'.w=W/\HS w0 M0 c' H'/\Ext c c'/\noIter H'=true/\(∀ b,c.w.heap.size<=b->c'.M b->∃ (j:Nat) (y:AB),H'[j]? = some y/\y.live=true/\oB (c'.rho j)=some b)),
  (fun y a' W=>(hit y.val=false->∃ c' fr' H',c'.w=W/\HS wS (fun _=>False) c' H'/\noIter H'=true/\a'.tmps.size=n/\(∀ i,Rd (fget fr' i) c' (a'.tmps.getD i undef))/\(∀ b,c.w.heap.size<=b->c'.M b->∃ o:Obj,c'.w.heap[b]? = some o/\o.isCells=true)/\Ck P T n 0 body (fun ex _ _=>ex = .normal) fr' H'/\c'.dom=H'.length)/\
   (hit y.val=true->∃ c' fr' H',c'.w=W/\HS w0 M0 c' H'/\noIter H'=true/\a'.tmps.size=n/\(∀ i,Rd (fget fr' i) c' (a'.tmps.getD i undef))/\Ext c c'/\(∀ b,c.w.heap.size<=b->c'.M b->∃ o:Obj,c'.w.heap[b]? = some o/\o.isCells=true)/\Ck P T n H.length body (fun ex _ H'=>ex≠ .normal/\noIter H'=true/\((∀ j,y.val<j->j<len->hit j=false)->Q ex fr H')) fr' H')),hgv,hseq,?hI,?hIx,⟨Below.refl _ _,by simp⟩,?hAx,?assign,?body,?done,?stop⟩
 case hI=>exact OwnFrom.and (ownFrom_below (Ag _) (Ag _)) (ownFrom_pure _ _)
 case hIx=>
  rintro cd s W W' row ⟨ex,pr,y,c',H',h1,h2,h3,h4,h5,rfl,h6,h7,h8,h9⟩ hgr hrow;obtain⟨k1,k2⟩:=h6.turn h8 hlow hgr hrow;exact⟨ex,pr,y,_,H',h1,h2,h3,h4,h5,rfl,k1,h7.turn (Ag _) hgr hrow,h8,h9⟩
 case hAx=>
  have keep:∀ (c':Ctx) {W':World} {row:Option Nat},c'.w.grownBy W' row->(∀ r,row=some r->c.w.heap.size<=r/\∃ o:Obj,c'.w.heap[r]? = some o/\o.isCells=false)->(∀ b,c.w.heap.size<=b->c'.M b->∃ o:Obj,c'.w.heap[b]? = some o/\o.isCells=true)->∀ b,c.w.heap.size<=b->c'.M b->∃ o:Obj,W'.heap[b]? = some o/\o.isCells=true:=by
   intro c' W' row hgr hrow h b hb hm;obtain⟨o,h1,h2⟩:=h b hb hm;refine⟨o,(hgr.block b (Aw.1 h1).1 fun e=>?_).trans h1,h2⟩;obtain⟨_,o',h3,h4⟩:=hrow b e.symm;rw [h1] at h3;cases h3;rw [h2] at h4;cases h4
  rintro y a' s W W' row ⟨hA,hC⟩ hgr hrow;refine⟨fun hh=>?_,fun hh=>?_⟩
  ·obtain⟨c',fr',H',rfl,h1,h2,h3,h4,h5,h6,h7⟩:=hA hh;obtain⟨k1,k2⟩:=h1.turn h2 (Ag _) hgr hrow;exact⟨_,fr',H',rfl,k1,h2,h3,fun i=>Rd.like _ k2 (h4 i),keep c' hgr hrow h5,h6,h7⟩
  ·obtain⟨c',fr',H',rfl,h1,h2,h3,h4,h5,h6,h7⟩:=hC hh;obtain⟨k1,k2⟩:=h1.turn h2 hlow hgr hrow;exact⟨_,fr',H',rfl,k1,h2,h3,fun i=>Rd.like _ k2 (h4 i),h5.turn (Ag _) hgr hrow,keep c' hgr hrow h6,h7⟩
 case assign=>
  rintro _ l pre y W K ⟨hW,hpre⟩ hK;have hput:∀ (c1:Ctx) (fr1:Fr) (w1:Fl),¬w1.chk->(∀ i,Rd (fget fr1 i) c1 (a.tmps.getD i undef))->Rd (.ag (E y.val)) c1 (.agg (X y.val).toArray)->
    FR w1 c1 n ((p2, .ag (E y.val))::(p1,iv (y.val:Nat))::fr1) { tmps:=((#[p1,p2]:Array Tmp).zip #[Value.int .i64 y.val, .agg (X y.val).toArray]).foldl (fun t (p,v)=>t.setIfInBounds p v) a.tmps,defers:= [] }:=by
   intro c1 fr1 w1 hc hr1 hr2;have h0:FR w1 c1 n fr1 { tmps:=a.tmps,defers:= [] }:=FR.off hf.size hr1 hc;have h1:=h0.put (d:=p1) (x:= iv (y.val:Nat)) (v:= .int .i64 (y.val:Nat)) hp.1 (by simp [Rd]);have e:∀ (u v:Value),((#[p1,p2]:Array Tmp).zip #[u,v]).foldl (fun t (p,v)=>t.setIfInBounds p v) a.tmps=(a.tmps.setIfInBounds p1 u).setIfInBounds p2 v:=by intro u v;simp
   rw [e];exact h1.put (d:=p2) (x:= .ag (E y.val)) (v:= .agg (X y.val).toArray) hp.2 hr2
  have hWs:=hW.size;cases hh:hit y.val with
  | false=>
   have hE:Rd (.ag (E y.val)) (c.calm W) (.agg (X y.val).toArray):=by
    simp only [Rd];exact⟨_,rfl,RdL.ext _ (hclcalm.trans (hcalm W hW)) (hXr y.val y.isLt)⟩
   have hfr:=hput (c.calm W) frz wS (fun h=>h) (fun i=>Rd.ext _ (hcalm W hW) (Nm hs hf.get hfz i)) hE;refine GL (w0:=wS) (M0:=fun _=>False) (ce:=c.calm W) hT (c:=c.calm W) (hskipHS W hW) hfr (zM _) (hskip y.val y.isLt hh) ?_;rintro a' W' ⟨c',fr',H',rfl,⟨k1,k2⟩,k3,k4,k5⟩ hold;have hb:=Na (c:=c) hWs hold k5.os k5.tape k5.output k5.size;obtain⟨s1,s2⟩:=k3.slim (B0:=c.w.heap.size) (Ag _);refine hK a' c'.w ⟨k5.size,fun k o _ h1 _=>(hold k (Aw.1 h1).1).trans h1⟩ hb ⟨hW.trans hb,hpre⟩ ⟨fun _=>⟨c'.slim c.w.heap.size H',fr',H',rfl,s1,k1,k4.size,(k4.ext s2).get,fun b hb' hm=>Ls k3 k1 hb' hm,k2,s1.dom⟩,fun e=>by rw [hh] at e;cases e⟩
  | true=>
   obtain⟨g1,g2⟩:=hs.grow hW;have hE:Rd (.ag (E y.val)) { c with w:=W } (.agg (X y.val).toArray):=by
    simp only [Rd];exact⟨_,rfl,RdL.ext _ ((zA c).trans g2) (hXr y.val y.isLt)⟩
   have hfr:=hput { c with w:=W } fr w0.off (fun h=>h) (fun i=>Rd.ext _ g2 (hf.get i)) hE;refine GL (w0:=w0.off) (M0:=M0) (ce:={ c with w:=W }) hT (c:={ c with w:=W }) g1.off hfr (zM _) (hhit y.val y.isLt hh) ?_;rintro a' W' ⟨c',fr',H',rfl,⟨k1,k2⟩,k3,k4,k5⟩ hold;have hb:=Na (c:=c) hWs hold k5.os k5.tape k5.output k5.size;obtain⟨s1,s2⟩:=k3.slim (B0:=c.w.heap.size) hlow;refine hK a' c'.w ⟨k5.size,fun k o _ h1 _=>(hold k (Aw.1 h1).1).trans h1⟩ hb ⟨hW.trans hb,hpre⟩ ⟨fun e=>(by rw [hh] at e;cases e),fun _=>⟨c'.slim c.w.heap.size H',fr',H',rfl,s1.on,k1,k4.size,(k4.ext s2).get,(g2.trans k5).trans s2,fun b hb' hm=>Ls k3 k1 hb' hm,k2⟩⟩
 case body=>
  rintro _ hk l pre y a' W hl ⟨rl,hrl⟩ ⟨hW,hpre⟩ ⟨hA,hC⟩ hlt;cases hh:hit y.val with
  | false=>
   obtain⟨c',fr',H',rfl,h1,h2,h3,h4,h5,h6,h7⟩:=hA hh;refine Cs (w0:=wS) (M0:=fun _=>False) (ce:={ c' with dom:=0 }) (d0:=0) hT rfl body _ _ c' fr' H' a' hrb (hk.imp_right fun q=>⟨q,rl,hrl,fun hM=>(by
    obtain⟨o',q1,q2⟩:=h5 l hl hM;rw [hrl] at q1;cases q1;cases q2)⟩) ?_ h1 (FR.off h3 h4 fun h=>h) (zA c') h6
   intro e a3 W3 hl3;have go:∀ ex:EX,DP wS (fun _=>False) { c' with dom:=0 } n (fun _ _=>ex = .normal) a3 W3->ex = .normal/\KeepsFrom c.w.heap.size c'.w W3/\Below c.w.heap.size c'.w W3:=by
    rintro ex ⟨c3,fr3,H3,rfl,e1,e2,e3,e4⟩;have hlw:=e2.low;refine⟨e1,⟨e4.size,fun k o hk ho hc=>?_⟩,⟨e4.os,e4.tape,e4.output,e4.size,fun b hb=>(hlw.block b hb).trans (hW.block b hb).symm⟩⟩;refine(e4.keep k (Aw.1 ho).1 fun hm=>?_).2.trans ho;obtain⟨o',q1,q2⟩:=h5 k hk hm;rw [ho] at q1;cases q1;rw [hc] at q2;cases q2
   cases e with
   | normal=>
    obtain⟨_,k1,k2⟩:=go .normal hl3;exact⟨k1,k2,hW.trans k2,fun z hz=>by
     rcases Az.1 hz with h | h
     ·exact hpre z h
     ·simp at h;subst h;exact hh⟩
   | exit id=>exact absurd (go (.exit id) hl3).1 (by simp)
   | ret=>exact absurd (go .ret hl3).1 (by simp)
   | _=>exact hl3.elim
  | true=>
   obtain⟨c',fr',H',rfl,h1,h2,h3,h4,h5,h6,h7⟩:=hC hh;have hce:Ext c { c' with dom:=H.length }:=⟨h5.os,h5.tape,h5.output,h5.size,h5.keep,by show c.dom<=H.length;rw [hs.dom];exact Ag _,h5.len,h5.rho,h5.box⟩;have hce2:Ext { c' with dom:=H.length } c':=⟨rfl,rfl,rfl,Ag _,fun _ _ h=>⟨h,rfl⟩,by show H.length<=c'.dom;rw [<-hs.dom];exact h5.dom,fun _ _=>Ag _,fun _ _ _=>rfl,fun _ _ _ h=>h⟩;refine Cs (w0:=w0.off) (M0:=M0) (ce:={ c' with dom:=H.length }) (d0:=H.length) hT rfl body _ _ c' fr' H' a' hrb (hk.imp_right fun q=>⟨q,rl,hrl,fun hM=>(by
    obtain⟨o',q1,q2⟩:=h6 l hl hM;rw [hrl] at q1;cases q1;cases q2)⟩) ?_ h1.off (FR.off h3 h4 fun h=>h) hce2 h7
   intro e a3 W3 hl3;have go:∀ ex:EX,DP w0.off M0 { c' with dom:=H.length } n (fun _ H'=>ex≠ .normal/\noIter H'=true/\((∀ j,y.val<j->j<len->hit j=false)->Q ex fr H')) a3 W3->ex≠ .normal/\KeepsFrom c.w.heap.size c'.w W3/\∃ c3 H3,c3.w=W3/\HS w0.off M0 c3 H3/\Ext { c' with dom:=H.length } c3/\noIter H3=true/\((∀ j,y.val<j->j<len->hit j=false)->Q ex fr H3):=by
    rintro ex ⟨c3,fr3,H3,rfl,⟨e0,e1,e5⟩,e2,e3,e4⟩;refine⟨e0,⟨e4.size,fun k o hk ho hc=>?_⟩,c3,H3,rfl,e2,e4,e1,e5⟩;refine(e4.keep k (Aw.1 ho).1 fun hm=>?_).2.trans ho;obtain⟨o',q1,q2⟩:=h6 k hk hm;rw [ho] at q1;cases q1;rw [hc] at q2;cases q2
   have mk:∀ ex:EX,DP w0.off M0 { c' with dom:=H.length } n (fun _ H'=>ex≠ .normal/\noIter H'=true/\((∀ j,y.val<j->j<len->hit j=false)->Q ex fr H')) a3 W3->ex≠ .normal/\KeepsFrom c.w.heap.size c'.w W3/\∃ ex' pr y' c'' H'',pre ++ [y]=pr ++ [y']/\(∀ z∈pr,hit z.val=false)/\ex.code=ex'.code/\ex'≠ .normal/\((∀ j,y'.val<j->j<len->hit j=false)->Q ex' fr H'')/\c''.w=W3/\HS w0 M0 c'' H''/\Ext c c''/\noIter H''=true/\(∀ b,c.w.heap.size<=b->c''.M b->∃ (j:Nat) (y:AB),H''[j]? = some y/\y.live=true/\oB (c''.rho j)=some b):=by
    intro ex hl4;obtain⟨k0,k1,c3,H3,rfl,k2,k3,k4,k5⟩:=go ex hl4;obtain⟨s1,s2⟩:=k2.slim (B0:=c.w.heap.size) hlow;exact⟨k0,k1,ex,pre,y,c3.slim c.w.heap.size H3,H3,rfl,hpre,rfl,k0,k5,rfl,s1.on,(hce.trans k3).trans s2,k4,fun b hb hm=>hm.2.resolve_left (by omega)⟩
   cases e with
   | normal=>exact absurd rfl (mk .normal hl3).1
   | exit id=>exact(mk (.exit id) hl3).2
   | ret=>exact(mk .ret hl3).2
   | _=>exact hl3.elim
 case done=>
  rintro ys W hys ⟨hW,hpre⟩;refine⟨hW,fun i hi=>?_⟩;have:=TY hi;rw [<-hys,AI] at this;obtain⟨y,hy,rfl⟩:=this;exact hpre y hy
 case stop=>
  rintro cd pre W ⟨k,hk,hpre⟩ ⟨ex,pr,y,c',H',rfl,h2,rfl,h4,h5,rfl,h6,h7,h8,h9⟩;refine⟨ex,c',H',rfl,h4,h5 (R9 hk (pre:=pr.map Fin.val) (x:=y.val) (by rw [<-hpre];simp) (p:=fun j=>hit j=false) (by
   intro z hz;obtain⟨z',hz',rfl⟩:=AI.1 hz;exact h2 z' hz')),rfl,h6,h7,h8,h9⟩
theorem aRF.back (hT:TOk P T) {gf:FuncId} {sz:Nat} (hgf:IsBack P gf sz) {g:Operand} {p1 p2:Nat} {asg body:Code} {Q:QA} {fr:Fr} {H:List AB} {B len:Nat} {tb:TypeId} {x:AV} {E:Nat->List AV}
  (hg:ev fr g = .fn gf [.bp B 0]) (hB:hget H B=some (.box tb [x])) (hx:Lf H x sz len E) (hbig:len<=1000000000) (_hni:noIter H=true) (hp:p1<n/\p2<n) (hrb:roundOk body=true)
  (frz:Fr) (hfz:frozen fr H frz) (hit:Nat->Bool)
  (hskip:∀ i,i<len->hit i=false->Gq T n asg ((p2, .ag (E i))::(p1,iv i)::frz) [] fun fr' H'=>noIter H'=true/\Ck P T n 0 body (fun ex _ _=>ex = .normal) fr' H')
  (hhit:∀ i,i<len->hit i=true->Gq T n asg ((p2, .ag (E i))::(p1,iv i)::fr) H fun fr' H'=>noIter H'=true/\Ck P T n H.length body (fun ex _ H'=>ex≠ .normal/\noIter H'=true/\((∀ j,i<j->j<len->hit j=false)->Q ex fr H')) fr' H')
  (hdone:(∀ i,i<len->hit i=false)->Q .normal fr H):aRF P T n d0 g #[p1,p2] asg body Q fr H:=by
 have core:=fun w0 M0 c a hs hf=>Ug hT hgf (Q:=Q) hg hB hx hbig _hni hp hrb frz hfz hit hskip hhit (w0:=w0) (M0:=M0) (c:=c) (a:=a) hs hf
 refine⟨fun w0 M0 ce c a hs hf he hd Q' hQ=>?_,fun hb w0 M0 ce c a hs hf he hd l0 r0 m hl0 hm Q' hQ=>?_⟩
 ·have hlow:=hs.low.size;obtain⟨gB,X,I,Ix,Ax,k1,k2,k3,k4,k5,k6,k7,k8,k9,k10⟩:=core w0 M0 c a hs hf;refine(wpIn_wide (n:=9)).1 ?_;refine wpIn_rangeFunc_ownH (F:=Fence.wide) (n:=9) rfl (by omega) (gf:=gf) (lb:= #[.pointer (some ⟨gB,0,none⟩)]) k1 trivial hgf.enters (k2 8 (by omega)) (fun h k=>h.trans k)
   (fun W l o o' hl ho _ _=>(Below.refl _ W).grown (grownBy_putObj' W l o') (AW hl (Nat.le_of_lt (Aw.1 ho).1)) (fun k e=>by cases e;exact hl)) (Below.refl _ _) (fun _=>rfl)
   I Ix k3 k4 k5 Ax k6 (k7 7) (k8 7 (.inr (by omega))) ?_ ?_
  ·rintro D ys W hD hys hI hdef;obtain⟨hW,hall⟩:=k9 ys W hys hI;obtain⟨g1,g2⟩:=hs.grow hW;refine hQ .normal { c with w:=W } fr H _ (hdone hall) g1 ⟨hf.size,⟨fun _=>⟨D,rfl,AW hlow hD,fun hm=>by have:=hs.lt D hm;omega,hdef,?_⟩,hf.defers.ext g2⟩,(hf.ext g2).get⟩ (he.trans g2);rename_i hck;intro e he';obtain⟨b,hb,hlt⟩:=hf.defers.lt hck e he';rw [hb];intro e';injection e' with e'
   omega
  ·rintro D cd pre W hD hk hIx hdef;obtain⟨ex,c',H',rfl,h4,hq,rfl,h6,h7,h8,h9⟩:=k10 cd pre W hk hIx;have hM:¬c'.M D:=by
    intro hm;obtain⟨j,y',q1,q2,q3⟩:=h9 D hD hm;obtain⟨o,q4,q5⟩:=h6.cells h8 q1 q2 q3;rw [hdef] at q4;cases q4;cases q5
   have hfr:FR w0 c' n fr { a with defers:={ target:= .collected D,args:= #[] }::a.defers }:=by
    refine⟨hf.size,⟨fun hck=>⟨D,rfl,AW hlow hD,hM,hdef,?_⟩,hf.defers.ext h7⟩,(hf.ext h7).get⟩;intro e he';obtain⟨b,hb,hlt⟩:=hf.defers.lt hck e he';rw [hb];intro e';injection e' with e'
    omega
   cases ex with
   | normal=>exact absurd rfl h4
   | exit id=>exact wpIn_exit (hQ (.exit id) c' fr H' _ hq h6 hfr (he.trans h7))
   | ret=>exact wpIn_ret (hQ .ret c' fr H' _ hq h6 hfr (he.trans h7))
 ·obtain⟨gB,X,I,Ix,Ax,k1,k2,k3,k4,k5,k6,k7,k8,k9,k10⟩:=core w0 M0 c a hs hf;refine wpIn_rangeFunc_ownN (F:=Fence.wide.inRound l0) (n:=m) (l₀:=l0) (r₀:=r0) rfl hl0 (by omega) (gf:=gf) (lb:= #[.pointer (some ⟨gB,0,none⟩)]) k1 trivial hgf.enters (k2 (m - 1) (by omega)) (fun h k=>h.trans k)
   (fun W l o o' hl ho _ _=>(Below.refl _ W).grown (grownBy_putObj' W l o') (AW hl (Nat.le_of_lt (Aw.1 ho).1)) (fun k e=>by cases e;exact hl)) (Below.refl _ _) (fun _=>rfl)
   I Ix k3 k4 k5 Ax k6 (k7 (m - 1 - 1)) (k8 (m - 1 - 1) (.inl hb)) ?_ ?_
  ·rintro ys W hys hI;obtain⟨hW,hall⟩:=k9 ys W hys hI;obtain⟨g1,g2⟩:=hs.grow hW;exact hQ .normal { c with w:=W } fr H _ (hdone hall) g1 (hf.ext g2) (he.trans g2)
  ·rintro cd pre W hk hIx;obtain⟨ex,c',H',rfl,h4,hq,rfl,h6,h7,h8,h9⟩:=k10 cd pre W hk hIx;cases ex with
   | normal=>exact absurd rfl h4
   | exit id=>exact wpIn_exit (hQ (.exit id) c' fr H' _ hq h6 (hf.ext h7) (he.trans h7))
   | ret=>exact wpIn_ret (hQ .ret c' fr H' _ hq h6 (hf.ext h7) (he.trans h7))
end
end
section
open Go.RowKit Go.Shelf
attribute [local go_sem] Oper.semAt_some

theorem ES (n j:Nat):CR n (j+1)=CR n j ++ [n - 1 - j]:=by simp [CR,By]
theorem GH (n j:Nat):(CR n j).length=j:=by simp [CR]

theorem Wn (F:Fence) (n:Nat) (h7:F.fn 371) (hro:F.round=none) (hn:1<=n) (l Bs n₀ b off len cap:Nat) (X Y:Nat->Value) (hlen:len<=1000000000) (hb:b<n₀) (hBn:Bs<n₀) (J Jx:List Nat->World->Prop)
  (hY:∀ pre x W,J pre W->pre.length<len->x<len->YieldAt F (n - 1) Tryz.prog l #[.int .i64 (x:Nat), .agg #[X x,Y x]] W fun e W'=>
   (e = .returned (.bool true)/\J (pre ++ [x]) W'/\Below n₀ W W')\/(e = .returned (.bool false)/\Jx (pre ++ [x]) W'))
  (W:World) (hBs:W.cell? ⟨Bs,0,none⟩=some (.slice (some ⟨b,off,none⟩) len cap)) (hc0:∀ j,j<len->W.cell? ⟨b,off+j*2,none⟩=some (X j)) (hc1:∀ j,j<len->W.cell? ⟨b,off+j*2+1,none⟩=some (Y j)) (h0:J [] W) :
  CallsIn F n Tryz.prog 371 #[.func (.yield l) #[] #[], .pointer (some ⟨Bs,0,none⟩)] W fun e W'=>(∃ v,e = .returned v)/\
   ((∃ ys,ys=CR len len/\J ys W')\/(∃ pre,(∃ k,k<=len/\pre=CR len k)/\Jx pre W')):=by
 have Hc0:=Lib.hid hc0;have Hc1:=Lib.hid hc1;clear hc0 hc1;refine callsIn_of_wp Tryz.func371 rfl h7 ?_ hro;simp only [Tryz.ntmps371,Bw,Ao,AN,Nat.reduceAdd,Nat.reduceSub,CE,CD,Dp,CN,Bk,Bj]
 gi_wp2
 gi_loopw [3] (fun i wr=>∃ k:Nat,k<=len/\i = .int .i64 ((len:Int) - 1 - k)/\J (CR len k) wr/\Below n₀ W wr)
  (fun i _=>(intOf i+1).toNat)
 case atStart=>exact⟨0,Aj _,by simp,h0,Below.refl _ _⟩
 case round=>
  obtain⟨k,hk,rfl,hJs,hnx⟩:=hrel;by_cases hlt:k<len
  ·obtain⟨m,hmk⟩:∃ m,len=k+1+m:=⟨len - (k+1),by omega⟩;rw [show (len:Int) - 1 - k=(m:Int) by omega];obtain⟨fn,tmps,assign,body,hy,hR⟩:=hY _ m wr hJs (by rw [GH];exact hlt) (by omega);have e0:=(hnx.cell (p:=⟨b,off+m*2,none⟩) hb).trans (Hc0.out m (by omega));have e1:=(hnx.cell (p:=⟨b,off+m*2+1,none⟩) hb).trans (Hc1.out m (by omega));have eb:=(hnx.cell (p:=⟨Bs,0,none⟩) hBn).trans hBs;have hm:(m:Int)<(len:Int):=by omega
   have Hm:=Lib.hid hmk;clear hmk
   gi_wp2
   refine hR.mono ?_;rintro e W3 (⟨rfl,hJ3,hk3⟩ | ⟨rfl,hJx3⟩)
   ·gi_wp2
    go_roundw
    case rel=>exact⟨k+1,by omega,congrArg (Value.int .i64) (by have:=Hm.out;omega),by rw [ES,show len - 1 - k=m by have:=Hm.out;omega];exact hJ3,hnx.trans hk3⟩
    case measure=>simp [intOf]
   ·gi_wp2
    refine bodyPost_ret (results_none rfl _ _ _) rfl ?_;exact⟨⟨_,rfl⟩, .inr ⟨_,⟨k+1,by omega,by rw [ES,show len - 1 - k=m by have:=Hm.out;omega]⟩,hJx3⟩⟩
  ·obtain rfl:k=len:=by omega
   rw [show ((k:Nat):Int) - 1 - k = -1 by omega]
   gi_wp2
   go_end0
   exact⟨⟨_,rfl⟩, .inl ⟨_,rfl,hJs⟩⟩

theorem Wo (F:Fence) (n:Nat) (h7:F.fn 371) (hro:F.round=none) (l Bs:Nat) (a:Option Addr) (cap:Nat) (J:List Nat->World->Prop) (W:World) (hBs:W.cell? ⟨Bs,0,none⟩=some (.slice a 0 cap)) (h0:J [] W) :
  CallsIn F n Tryz.prog 371 #[.func (.yield l) #[] #[], .pointer (some ⟨Bs,0,none⟩)] W fun e W'=>(∃ v,e = .returned v)/\J [] W':=by
 refine callsIn_of_wp Tryz.func371 rfl h7 ?_ hro;simp only [Tryz.ntmps371,Bw,Ao,AN,Nat.reduceAdd,Nat.reduceSub,CE,CD,Dp,CN,Bk,Bj]
 gi_wp2
 gi_loopw [3] (fun i wr=>i = .int .i64 (-1)/\J [] wr) (fun _ _=>0)
 case atStart=>exact⟨rfl,h0⟩
 case round=>
  obtain⟨rfl,hJs⟩:=hrel
  gi_wp2
  go_end0
  exact⟨⟨_,rfl⟩,hJs⟩

theorem RJ (F:Fence) (n:Nat) (h7:F.fn 371) (hro:F.round=none) (hn:1<=n) (Bs n₀:Nat) (a:Option Addr) (len cap:Nat) (X Y:Nat->Value) (hlen:len<=1000000000) (w:World) (hBs:Bs<n₀) (hn₀:n₀<=w.heap.size)
  (hc:w.cell? ⟨Bs,0,none⟩=some (.slice a len cap)) (hI:0<len->∃ b off,a=some ⟨b,off,none⟩/\b<n₀/\∀ j,j<len->w.cell? ⟨b,off+j*2,none⟩=some (X j)/\w.cell? ⟨b,off+j*2+1,none⟩=some (Y j)) :
  SeqStopsK F n Tryz.prog 371 #[.pointer (some ⟨Bs,0,none⟩)] (fun x:Fin len=> #[Value.int .i64 x.val, .agg #[X x,Y x]]) (Below n₀) (fun ys=>ys.map Fin.val=CR len len) (fun pre=>∃ k,k<=len/\pre.map Fin.val=CR len k) len w:=fun l J Jx W hW _ _ hY h0=>by
 have hc':=(hW.cell (p:=⟨Bs,0,none⟩) (by show Bs<_;omega)).trans hc;rcases Da len with rfl | hp
 ·exact(Wo F n h7 hro l Bs a cap (fun _ W=>J [] W) W hc' h0).mono fun e W' ⟨he,hj⟩=>⟨he, .inl ⟨[],rfl,hj⟩⟩
 ·obtain⟨b,off,rfl,hb,hj⟩:=hI hp;refine(Wn F n h7 hro hn l Bs n₀ b off len cap X Y hlen hb hBs (fun pre W=>∃ q:List (Fin len),q.map Fin.val=pre/\J q W) (fun pre W=>∃ q:List (Fin len),q.map Fin.val=pre/\Jx q W) ?_ W hc' (fun j h=>(hW.cell (p:=⟨b,off+j*2,none⟩) (by show b<_;omega)).trans (hj j h).1) (fun j h=>(hW.cell (p:=⟨b,off+j*2+1,none⟩) (by show b<_;omega)).trans (hj j h).2) ⟨[],rfl,h0⟩).mono ?_
  ·rintro pre x W1 ⟨q,hq,hJ⟩ hlt hx;obtain⟨fn,tmps,assign,body,hy,hR⟩:=hY q ⟨x,hx⟩ W1 hJ (by rw [<-hq,Aa] at hlt;exact hlt);refine⟨fn,tmps,assign,body,hy,hR.mono ?_⟩;rintro e W' (⟨he,h1,h2⟩ | ⟨he,h1⟩)
   ·exact .inl ⟨he,⟨_,by simp [hq],h1⟩,h2⟩
   ·exact .inr ⟨he,⟨_,by simp [hq],h1⟩⟩
  ·rintro e W' ⟨he,⟨ys,rfl,q,hq,hJ⟩ | ⟨pre,⟨k,hk,rfl⟩,q,hq,hJ⟩⟩
   ·exact⟨he, .inl ⟨q,hq,hJ⟩⟩
   ·exact⟨he, .inr ⟨q,⟨k,hk,hq⟩,hJ⟩⟩

theorem back_is:IsBack Tryz.prog 371 2:=by
 refine⟨enters_of Tryz.func371 (by kernel_rfl) rfl,fun m hm B a len cap X w hlen hc hl hI=>?_⟩;have e:(fun x:Fin len=>(#[Value.int .i64 x.val, .agg (X x.val).toArray]:Array Value))=fun x:Fin len=> #[Value.int .i64 x.val, .agg #[(X x.val).getD 0 undef,(X x.val).getD 1 undef]]:=by
  funext x;have:=hl x.val;match h:X x.val with
  | [u,v]=>rfl
  | []=>rw [h] at this;simp at this
  | [_]=>rw [h] at this;simp at this
  | _::_::_::_=>rw [h] at this;simp at this
 rw [e];refine RJ Fence.wide m trivial rfl hm B w.heap.size a len cap (fun j=>(X j).getD 0 undef) (fun j=>(X j).getD 1 undef) hlen w (World.block_lt_of_cell? w _ hc) (Ag _) hc fun hp=>?_
 obtain⟨b,off,h1,h2,h3⟩:=hI hp;refine⟨b,off,h1,h2,fun j hj=>?_⟩;have h4:=hl j;match h:X j with
 | [u,v]=>exact⟨h3 j hj 0 u (by rw [h];rfl),h3 j hj 1 v (by rw [h];rfl)⟩
 | []=>rw [h] at h4;simp at h4
 | [_]=>rw [h] at h4;simp at h4
 | _::_::_::_=>rw [h] at h4;simp at h4
end
section
open Go.RowKit
structure Cel where
 state:Int
 bytes:List UInt8
 old:List UInt8
 deriving DecidableEq
def Ci (x:Cel):List AV:= [iv x.state,bA x.bytes,bA x.old]
structure Dk where
 cells:List Cel
 cache:List Wr
 reqs:Int
 left:Int
 deriving DecidableEq
@[reducible] def Lg (x y:AV) (reqs left:Int):List AV:= [x,y,iv reqs,iv left]
@[reducible] def dkH (d:Dk):List AB:= [.box 119 (Lg (.ow 1 d.cells.length) (.ow 2 d.cache.length) d.reqs d.left), .row 68 3 (d.cells.map Ci), .row 152 2 (d.cache.map GU)]
def Dk.req (d:Dk):Dk:={ d with reqs:=if 1048576<IntKind.i64.wrap (d.reqs+1) then 1048576 else IntKind.i64.wrap (d.reqs+1),left:=if d.left > 0 then d.left - 1 else d.left }

theorem G2 (d:Dk) (hl : -1<=d.left/\d.left<=1048576):ACalls Tryz.prog false 150 [.bp 0 0] (dkH d) fun r H=>r = .v (.bool (decide (d.left≠0)))/\H=dkH (if d.left=0 then d else d.req):=by
 refine yX tys_ok Tryz.func150 rfl rfl (by decide) ?_;conv=>whnf
 refine AS (fun h=>?_) (fun h=>?_) <;> (repeat rw [Ac] at h) <;> conv=>whnf
 ·exact⟨_,dkH d,fun _ _ h=>h,tA,rfl,tA,by simp [h],by rw [if_pos h]⟩
 ·have hw:IntKind.i64.wrap (d.left - 1)=d.left - 1:=by rw [IntKind.wrap_i64];omega
  refine zZ ?_;conv=>whnf
  refine AS (fun h2=>?_) (fun h2=>?_) <;> (repeat rw [Ac] at h2) <;> conv=>whnf
  ·exact⟨_,dkH d.req,fun _ _ h=>h,⟨by simp [Dk.req,h2,hw],rfl,rfl,tv⟩,rfl,tA,by simp [h],by rw [if_neg h]⟩
  ·exact⟨_,dkH d.req,fun _ _ h=>h,⟨by simp [Dk.req];omega,rfl,rfl,tv⟩,rfl,tA,by simp [h],by rw [if_neg h]⟩

theorem Wm (a:Option Addr) (len cap:Nat) (w:World) :
  Calls Tryz.prog 312 #[.slice a len cap] w fun e w'=>e = .returned (.func (.func 371) #[] #[.pointer (some ⟨w.heap.size,0,none⟩)])/\w.alloc (.cells #[.slice a len cap] 36)=w':=by
 go_enter Tryz.func312,Tryz.ntmps312
 go_wp2
 go_ret
 exact tA

theorem Qx (x:AV) (Hin:List AB) (hx:∀ c u,Rd x c u->∃ a len cap,u = .slice a len cap):ACalls Tryz.prog false 312 [x] Hin fun r H=>r = .fn 371 [.bp Hin.length 0]/\H=Hin ++ [.box 36 [x]]:=by
 refine⟨⟨_,Tryz.func312,rfl,by decide⟩,fun w0 M0 c us hs hr=>?_⟩;have hr0:=hr;simp only [RdL] at hr;obtain⟨u,_,rfl,hu,rfl⟩:=hr;obtain⟨a,len,cap,rfl⟩:=hx _ _ hu;obtain⟨c',e1,e2,e3,e4⟩:=hs.box 36 hr0 (by simp [Value.oneCell']);refine(Wm a len cap c.w).mono ?_;rintro e w' ⟨rfl,rfl⟩;refine⟨_,c',_,_,rfl,by rw [e1],tA,e2,e3,?_,fun e=>by cases e⟩;simp only [Rd,RdL];exact⟨_,rfl,_,_,rfl,by simpa only [Rd] using e4,rfl⟩
def Qp (l:List Cel):AV:= .sl 3 l.length fun i=>Ci (l.getD i ⟨0, [], []⟩)
theorem V2 (l:List Int) (hl:l.length<=1000000000):ACalls Tryz.prog false 83 [iA l] [] fun r H=>r = .ow 0 l.length/\H=[.row 3 1 (l.map TB)]:=by
 refine zJ tys_ok Tryz.func83 rfl rfl (by show 1<=_;decide) ?_;refine Ai (fun h=>?_) ?_
 ·conv=>whnf
  have h0:=AG.1 h;subst h0;exact⟨_, .ow 0 0, [.row 3 1 []],fun _ _ h=>h,zL ⟨[(0,3,1)],tA,tA,tA,rfl,rfl,rfl⟩,rfl,rfl⟩
 ·refine⟨⟨rfl,by omega⟩,?_⟩;exact⟨.ow 0 l.length, .ow 0 l.length, [.row 3 1 (l.map TB)],fun _ _ h=>by rwa [Au] at h,zL ⟨[],tv,tA,⟨(congrArg (AB.row _ _) (JR (d:=0) TB l)).symm,tv⟩,rfl,rfl,rfl⟩,rfl,rfl⟩
theorem TG (l:List Hm) (hl:l.length<=1000000000):ACalls Tryz.prog false 154 [GW l] [] fun r H=>r = .ow 0 l.length/\H=[.row 108 3 (l.map M8)]:=by
 refine zJ tys_ok Tryz.func154 rfl rfl (by show 1<=_;decide) ?_;refine Ai (fun h=>?_) ?_
 ·conv=>whnf
  have h0:=AG.1 h;subst h0;exact⟨_, .ow 0 0, [.row 108 3 []],fun _ _ h=>h,zL ⟨[(0,108,3)],tA,tA,tA,rfl,rfl,rfl⟩,rfl,rfl⟩
 ·refine⟨⟨rfl,by omega⟩,?_⟩;exact⟨.ow 0 l.length, .ow 0 l.length, [.row 108 3 (l.map M8)],fun _ _ h=>by rwa [Au] at h,zL ⟨[],tv,tA,⟨(congrArg (AB.row _ _) (JR (d:=⟨[],0,0⟩) M8 l)).symm,tv⟩,rfl,rfl,rfl⟩,rfl,rfl⟩
theorem RE (l:List Cel) (hl:l.length<=1000000000):ACalls Tryz.prog false 69 [Qp l] [] fun r H=>r = .ow 0 l.length/\H=[.row 68 3 (l.map Ci)]:=by
 refine zJ tys_ok Tryz.func69 rfl rfl (by show 1<=_;decide) ?_;refine Ai (fun h=>?_) ?_
 ·conv=>whnf
  have h0:=AG.1 h;subst h0;exact⟨_, .ow 0 0, [.row 68 3 []],fun _ _ h=>h,zL ⟨[(0,68,3)],tA,tA,tA,rfl,rfl,rfl⟩,rfl,rfl⟩
 ·refine⟨⟨rfl,by omega⟩,?_⟩;exact⟨.ow 0 l.length, .ow 0 l.length, [.row 68 3 (l.map Ci)],fun _ _ h=>by rwa [Au] at h,zL ⟨[],tv,tA,⟨(congrArg (AB.row _ _) (JR (d:=⟨0, [], []⟩) Ci l)).symm,tv⟩,rfl,rfl,rfl⟩,rfl,rfl⟩
theorem SE (l:List Wr) (hl:l.length<=1000000000):ACalls Tryz.prog false 70 [NB l] [] fun r H=>r = .ow 0 l.length/\H=[.row 152 2 (l.map GU)]:=by
 refine zJ tys_ok Tryz.func70 rfl rfl (by show 1<=_;decide) ?_;refine Ai (fun h=>?_) ?_
 ·conv=>whnf
  have h0:=AG.1 h;subst h0;exact⟨_, .ow 0 0, [.row 152 2 []],fun _ _ h=>h,zL ⟨[(0,152,2)],tA,tA,tA,rfl,rfl,rfl⟩,rfl,rfl⟩
 ·refine⟨⟨rfl,by omega⟩,?_⟩;exact⟨.ow 0 l.length, .ow 0 l.length, [.row 152 2 (l.map GU)],fun _ _ h=>by rwa [Au] at h,zL ⟨[],tv,tA,⟨(congrArg (AB.row _ _) (JR (d:=⟨0, []⟩) GU l)).symm,tv⟩,rfl,rfl,rfl⟩,rfl,rfl⟩
def AV.mv (k d:Nat):AV->AV
 | .ow j n=> .ow (bif Nat.beq j k then d else j) n
 | x=>x
theorem Rd.mv {c c':Ctx} {k:Nat} (e:Ext c c') (hd:c.dom<c'.dom) (hr:c'.rho c.dom=c.rho k) (hl:c'.len c.dom=c.len k):∀ (x:AV) {u:Value},Rd x c u->Rd (x.mv k c.dom) c' u
 | .ow j n,u,h=>by
  show Rd (.ow (bif Nat.beq j k then c.dom else j) n) c' u;cases hb:Nat.beq j k with
  | true=>
   have:=Am hb;subst this;simp only [Rd] at h;simp only [cond_true,Rd];exact⟨hd,by rw [hl];exact h.2.1,h.2.2.1,fun e=>by rw [hr];exact h.2.2.2 (by rw [<-hl];exact e)⟩
  | false=>exact Rd.ext _ e h
 | .top,_,h=>Rd.ext _ e h
 | .v _,_,h=>Rd.ext _ e h
 | .sl _ _ _,_,h=>Rd.ext _ e h
 | .rp _,_,h=>Rd.ext _ e h
 | .bp _ _,_,h=>Rd.ext _ e h
 | .ep _ _ _ _ _,_,h=>Rd.ext _ e h
 | .ag _,_,h=>Rd.ext _ e h
 | .tp _,_,h=>Rd.ext _ e h
 | .fn _ _,_,h=>Rd.ext _ e h
 | .ic _ _,_,h=>Rd.ext _ e h
theorem RdL.mv {c c':Ctx} {k:Nat} (e:Ext c c') (hd:c.dom<c'.dom) (hr:c'.rho c.dom=c.rho k) (hl:c'.len c.dom=c.len k):∀ (l:List AV) {us:List Value},RdL l c us->RdL (l.map (AV.mv k c.dom)) c' us
 | [],_,h=>h
 | x::l,_,h=>by
  simp only [RdL] at h;obtain⟨y,ys,rfl,h1,h2⟩:=h;simp only [A5,RdL];exact⟨y,ys,rfl,Rd.mv e hd hr hl x h1,RdL.mv e hd hr hl l h2⟩
theorem ConvH.move {H:List AB} (i k:Nat) {t ti:TypeId} {sz:Nat} {es:List (List AV)} {cs:List AV} (hik:i≠k) (hi:H[i]? = some (.box ti cs)) (hk:H[k]? = some (.row t sz es)) :
  ConvH H (((H.set k .dead).set i (.box ti (cs.map (AV.mv k H.length)))) ++ [.row t sz es]):=fun w0 M0 c hs=>by
 have hil:=(Ar.1 hi).1;have hkl:=(Ar.1 hk).1;have hdom:=hs.dom;let c':Ctx:={ c with rho:=fun j=>if j=c.dom then c.rho k else c.rho j,len:=fun j=>if j=c.dom then c.len k else c.len j,dom:=c.dom+1 };have hn:∀ j,j<c.dom->c'.rho j=c.rho j/\c'.len j=c.len j:=fun j hj=>⟨if_neg (by omega),if_neg (by omega)⟩
 have e:Ext c c':=⟨rfl,rfl,rfl,Ag _,fun _ _ h=>⟨h,rfl⟩,Nat.le_succ _,fun j hj=>by rw [(hn j hj).2];exact Ag _,fun j hj _=>(hn j hj).1,fun j g hj h=>by rw [(hn j hj).1];exact h⟩;have hr:c'.rho c.dom=c.rho k:=if_pos rfl;have hl:c'.len c.dom=c.len k:=if_pos rfl;have get:∀ j x,(((H.set k .dead).set i (.box ti (cs.map (AV.mv k H.length)))) ++ [.row t sz es])[j]? = some x->x.live=true->(j=c.dom/\x = .row t sz es)\/(j<c.dom/\j=i/\x = .box ti (cs.map (AV.mv k c.dom)))\/(j<c.dom/\j≠i/\j≠k/\H[j]? = some x):=fun j x hj hx=>by
  rw [hdom];by_cases h1:j<H.length
  ·rw [AD (by simpa using h1)] at hj;by_cases h2:j=i
   ·subst h2;rw [A3 (by simpa using h1)] at hj;exact .inr (.inl ⟨h1,rfl,(Option.some.inj hj).symm⟩)
   ·rw [A4 (Ne.symm h2)] at hj;by_cases h3:j=k
    ·subst h3;rw [A3 h1] at hj;rw [<-Option.some.inj hj] at hx;cases hx
    ·rw [A4 (Ne.symm h3)] at hj;exact .inr (.inr ⟨h1,h2,h3,hj⟩)
  ·rw [AL (by simpa using h1)] at hj;simp only [Bl] at hj;cases h2:j - H.length with
   | zero=>rw [h2] at hj;exact .inl ⟨by omega,(Option.some.inj hj).symm⟩
   | succ m=>rw [h2] at hj;simp at hj
 have org:∀ j x,(((H.set k .dead).set i (.box ti (cs.map (AV.mv k H.length)))) ++ [.row t sz es])[j]? = some x->x.live=true->∃ j' y,H[j']? = some y/\y.live=true/\c'.rho j=c.rho j'/\((j=c.dom/\j'=k)\/(j<c.dom/\j'=j/\j≠k)):=fun j x hj hx=>by
  rcases get j x hj hx with ⟨rfl,rfl⟩ | ⟨h1,rfl,rfl⟩ | ⟨h1,h2,h3,h4⟩
  ·exact⟨k,_,hk,rfl,hr, .inl tA⟩
  ·exact⟨j,_,hi,rfl,(hn j h1).1, .inr ⟨h1,rfl,hik⟩⟩
  ·exact⟨j,_,h4,hx,(hn j h1).1, .inr ⟨h1,rfl,h3⟩⟩
 refine⟨c',rfl,⟨hs.low,hs.base,by simp [c',hdom],hs.foreign,hs.lt,fun j x hj=>?_,fun j x g hj hx ho=>?_,fun j1 j2 x y g h1 h2 hx hy o1 o2=>?_⟩,e⟩
 ·cases hx:x.live with
  | false=>cases x <;> first | trivial | cases hx
  | true=>
   rcases get j x hj hx with ⟨rfl,rfl⟩ | ⟨h1,rfl,rfl⟩ | ⟨h1,h2,h3,h4⟩
   ·obtain⟨q1,q2,q3,xs,q4,q5,q6⟩:=hs.blk k _ hk;exact⟨by rw [hl];exact q1,q2,q3,xs,by rw [hr];exact q4,RdL.ext _ e.closed q5,q6⟩
   ·obtain⟨g,xs,q1,q2,q3,q4⟩:=hs.blk j _ hi;exact⟨g,xs,by rw [(hn j h1).1];exact q1,q2,RdL.mv e (Br _) hr hl _ q3,q4⟩
   ·exact zu e rfl h1 (hn j h1).2 (fun _ _ _=>rfl) (hs.blk j x h4)
 ·obtain⟨j',y,h1,h2,h3,_⟩:=org j x hj hx;exact hs.own j' y g h1 h2 (by rw [<-h3];exact ho)
 ·obtain⟨a,y1,p1,p2,p3,p4⟩:=org j1 x h1 hx;obtain⟨b,y2,r1,r2,r3,r4⟩:=org j2 y h2 hy;have:=hs.dis a b y1 y2 g p1 r1 p2 r2 (by rw [<-p3];exact o1) (by rw [<-r3];exact o2);omega

def zG:=@ConvH.move
def Z8 (T:Tys) (m:Nat) (rs:List ResultVar) (K:AV->List AB->Prop):QA:=fun ex fr H=>match ex with
 | .exit _=>False
 | _=>Ir T rs fr H fun x=>∃ y r H2,(∀ c v,Rd x c v->Rd y c v)/\WkR m [(0,y)] H [(0,r)] H2/\K r H2
theorem ACalls.ofR {P : Program} {T : Tys} (hT : TOk P T) {f : FuncId} {fn : Func} {body : Code} {args : List AV} {Hin : List AB} {K : AV → List AB → Prop} (hf : P.funcs[f]? = some fn) (hb : fn.body = some body) (hname : (fn.name == "runtime.NumGoroutine") = false) (hn : args.length ≤ fn.ntmps)
  (h:Ck P T fn.ntmps Hin.length body (Z8 T Hin.length fn.results.toList K) (frOf 0 args) Hin):ACalls P false f args Hin K:=by
 refine⟨⟨fn,hf,by rw [hb];try rfl,hname⟩,fun w0 M0 c0 us hs0 hr=>?_⟩;have hlen:=hr.length;have hFR:FR (w0.at c0.w hs0.low) c0 fn.ntmps (frOf 0 args) { tmps:=us.toArray ++ Array.replicate (fn.ntmps - us.toArray.size) undef,defers:= [] }:=by
  refine⟨by simp;omega,tv,fun i=>?_⟩;have:=GF (c:=c0) (m:=fn.ntmps - us.length) (l:=args) (i:=0) (pre:= []) rfl hr i;rw [AH];have e:(us.toArray ++ Array.replicate (fn.ntmps - us.toArray.size) undef)[i]? = ([] ++ us ++ List.replicate (fn.ntmps - us.length) undef)[i]? :=by
   have:(us.toArray ++ Array.replicate (fn.ntmps - us.toArray.size) undef)=([] ++ us ++ List.replicate (fn.ntmps - us.length) undef).toArray:=Array.ext' (by simp);rw [this];simp only [Ch]
  rw [e];exact this
 have fin:∀ a w,DP (w0.at c0.w hs0.low) M0 c0 fn.ntmps (fun fr H=>Ir T fn.results.toList fr H fun x=>∃ y r H2,(∀ c v,Rd x c v->Rd y c v)/\WkR Hin.length [(0,y)] H [(0,r)] H2/\K r H2) a w->∃ v,(results fn a.tmps).run P w = .ok v w/\∃ v' c' r H',Ending.returned v = .returned v'/\c'.w=w/\K r H'/\HS w0 M0 c' H'/\Ext c0 c'/\Rd r c' v'/\(false=true->Old c0.w w):=by
  rintro a w ⟨c,fr,H,rfl,h1,h2,h3,h4⟩;obtain⟨x,v,⟨y,r,H2,o1,o2,o3⟩,q2,q3⟩:=Es hT h2 h3 h1;have hfr:FR (w0.at c0.w hs0.low) c 1 [(0,y)] { tmps:= #[v],defers:= [] }:=by
   refine⟨rfl,tv,fun i=>?_⟩;unfold fget;cases i with
   | zero=>exact o1 _ _ q2
   | succ i=>show Rd .top c _;simp [Rd]
  obtain⟨c',e1,e2,e3,e4⟩:=o2.sound hs0.dom h2 hfr h4;have hr':=e3.get 0;refine⟨v,q3,v,c',r,H2,rfl,e1,o3,⟨zb e2.low,e2.base,e2.dom,e2.foreign,e2.lt,e2.blk,e2.own,e2.dis⟩,e4,?_,fun e=>by cases e⟩;simpa [fget] using hr'
 refine DZ hf hb trivial (Ag _) fin ?_;refine B3 (w0:=w0.at c0.w hs0.low) (M0:=M0) (ce:=c0) hT hs0.dom body _ _ c0 _ Hin _ (EO rfl rfl fun _ _ _ h=>h) hs0.toAt hFR (zM _) h
def zU:=@ACalls.ofR
def K7 (l:List Wr) (a:Int):Option Wr:=l.foldl (fun r w=>if w.addr=a then some w else r) none
theorem T2 (a:Int):K7 [] a=none:=rfl
theorem LI (l:List Wr) (w:Wr) (a:Int):K7 (l ++ [w]) a=if w.addr=a then some w else K7 l a:=by simp [K7]
theorem Ni {a:Int}:∀ (n:Nat) (l:List Wr),l.length=n->∀ i,i<l.length->(l.getD i ⟨0, []⟩).addr=a->(∀ j,i<j->j<l.length->(l.getD j ⟨0, []⟩).addr≠a)->K7 l a=some (l.getD i ⟨0, []⟩)
 | 0,l,hn,i,hi,_,_=>by omega
 | n+1,l,hn,i,hi,h1,h2=>by
  rcases Df l with rfl | ⟨m,w,rfl⟩
  ·simp at hn
  ·simp only [Dg] at *
   simp at hn hi;rw [LI];by_cases he:i=m.length
   ·subst he;simp only [Ab,AL (Ag _),B9,List.getElem?_cons_zero,BO] at h1 |-
    rw [if_pos h1]
   ·have hm:∀ j,j<m.length->(m ++ [w]).getD j ⟨0, []⟩=m.getD j ⟨0, []⟩:=fun j hj=>by simp only [Ab,AD hj]
    have hw:=h2 m.length (by omega) (by simp);simp only [Ab,AL (Ag _),B9,List.getElem?_cons_zero,BO] at hw;rw [if_neg hw,hm i (by omega)];rw [hm i (by omega)] at h1;exact Ni n m hn i (by omega) h1 fun j q1 q2=>by rw [<-hm j q2];exact h2 j q1 (by simp;omega)
theorem LJ {a:Int}:∀ (n:Nat) (l:List Wr),l.length=n->(∀ j,j<l.length->(l.getD j ⟨0, []⟩).addr≠a)->K7 l a=none
 | 0,l,hn,_=>by rw [AG.1 hn];rfl
 | n+1,l,hn,h=>by
  rcases Df l with rfl | ⟨m,w,rfl⟩
  ·rfl
  ·simp only [Dg] at *
   simp at hn;rw [LI];have hw:=h m.length (by simp);simp only [Ab,AL (Ag _),B9,List.getElem?_cons_zero,BO] at hw;rw [if_neg hw];exact LJ n m hn fun j q=>by
    have:=h j (by simp;omega);simpa only [Ab,AD q] using this
def Dk.got (d:Dk) (a:Int):List UInt8 × Int:=
 match K7 d.cache a with
 | some w=>(w.bytes,0)
 | none=>if (d.cells.getD a.toNat ⟨0, [], []⟩).state=0 then ((d.cells.getD a.toNat ⟨0, [], []⟩).bytes,0) else ([],6)
def Dk.read (d:Dk) (a:Int):Dk × List UInt8 × Int:=if d.left=0 then (d, [],8) else (d.req,d.got a)

theorem UT (e:Int) (c:Ctx) (v:Value) (h:Rd (.tp [.v (.slice none 0 0),iv e]) c v):Rd (.tp [bA [],iv e]) c v:=by
 simp only [Rd,RdL] at h |-
 obtain⟨xs,rfl,y,ys,rfl,rfl,h⟩:=h;exact⟨_,rfl,_,_,rfl,Bv 1 (fun i=> [.v (.int .u8 (([]:List UInt8).getD i 0).toNat)]) c (.slice none 0 0) (by simp [Rd]),h⟩
theorem Vc {m:Nat} (h:Nat.ble 3 m=true):∀ z∈ [0,1,2],z<m:=fun z hz=>by
 have:=Ae h;simp at hz;omega
theorem Qj (hcl:∀ b:List UInt8,b.length<=1000000000->Fn Tryz.prog 33 [bA b] fun r=>r=bA b) (d:Dk) (a:Int) (hl : -1<=d.left/\d.left<=1048576) (ha:0<=a/\a<d.cells.length) (hc:d.cache.length<=2000) (hb:∀ c∈d.cells,c.bytes.length<=100000) (hw:∀ w∈d.cache,w.bytes.length<=100000) :
  ACalls Tryz.prog false 237 [.bp 0 0,iv a] (dkH d) fun r H=>r = .tp [bA (d.read a).2.1, .v (.int .i64 (d.read a).2.2)]/\H=dkH (d.read a).1:=by
 refine yX tys_ok Tryz.func237 rfl rfl (by show 2<=_;decide) ?_;have hq:=G2 d hl;conv=>whnf
 by_cases h0:d.left=0
 ·rw [if_pos h0] at hq;refine ze9 [0,1,2] hq ?_;rintro _ _ ⟨rfl,rfl⟩;rw [show decide (d.left≠0)=false by simp [h0]];exact⟨.tp [bA [],iv 8],dkH d,UT 8,tA,rfl,tA,by simp [Dk.read,h0],by simp [Dk.read,h0]⟩
 ·rw [if_neg h0] at hq;refine ze9 [0,1,2] hq ?_;rintro _ _ ⟨rfl,rfl⟩;rw [show decide (d.left≠0)=true by simp [h0]];conv=>whnf
  refine(Qx (.ow 2 d.req.cache.length) _ (fun c u hu=>by simp only [Rd] at hu;obtain⟨_,_,⟨a,p,h,_⟩,_⟩:=hu;exact⟨_,_,_,h⟩)).mono ?_;rintro _ _ ⟨rfl,rfl⟩;conv=>whnf
  have hE:∀ i,i<d.cache.length->(d.cache.map GU).getD i []=GU (d.cache.getD i ⟨0, []⟩):=fun i hi=>AP hi
  refine aRF.back tys_ok back_is (B:=6) (len:=d.cache.length) (E:=fun i=>(d.cache.map GU).getD i []) rfl rfl ⟨rfl,_,_,rfl,by simp [Dk.req],rfl⟩ (by omega) rfl (by decide) rfl [(3, .rp [iv a])] ⟨.inr ⟨3,_,_,rfl,rfl,rfl,rfl⟩,tv⟩ (fun i=>decide ((d.cache.getD i ⟨0, []⟩).addr=a)) ?_ ?_ ?_
  ·intro i hi hh;rw [hE i hi];refine⟨rfl,?_⟩;have hh':(d.cache.getD i ⟨0, []⟩).addr≠a:=by simpa using hh
   conv=>whnf
   refine AS (fun h1=>?_) (fun h1=>?_) <;> (repeat rw [Ac] at h1) <;> conv=>whnf
   ·exact absurd h1 hh'
  ·intro i hi hh;rw [hE i hi];refine⟨rfl,?_⟩;have hh':(d.cache.getD i ⟨0, []⟩).addr=a:=by simpa using hh
   have hcw:=hcl (d.cache.getD i ⟨0, []⟩).bytes (by have:=hw _ (AC (d:=⟨0, []⟩) hi);omega);conv=>whnf
   refine AS (fun h1=>?_) (fun h1=>?_) <;> (repeat rw [Ac] at h1) <;> conv=>whnf
   ·refine zY hcw ?_;conv=>whnf
    refine⟨by simp,rfl,fun hord=>?_⟩;conv=>whnf
    have hg:d.got a=((d.cache.getD i ⟨0, []⟩).bytes,0):=by
     unfold Dk.got;rw [Ni _ _ rfl i hi hh' fun j q1 q2=>by simpa using hord j q1 q2]
    exact⟨_,dkH d.req,fun _ _ h=>h,tA,rfl,tA,by simp [Dk.read,h0,hg,bA],by simp [Dk.read,h0]⟩
   ·exact absurd hh' h1
  ·intro hh;have hg:d.got a=if (d.cells.getD a.toNat ⟨0, [], []⟩).state=0 then ((d.cells.getD a.toNat ⟨0, [], []⟩).bytes,0) else ([],6):=by
    unfold Dk.got;rw [LJ _ _ rfl fun j q=>by simpa using hh j q]
   have hgc:(d.cells.map Ci).getD a.toNat []=Ci (d.cells.getD a.toNat ⟨0, [], []⟩):=AP (by omega);have hgc':(d.req.cells.map Ci).getD a.toNat []=Ci (d.cells.getD a.toNat ⟨0, [], []⟩):=hgc;have hcb:=hcl (d.cells.getD a.toNat ⟨0, [], []⟩).bytes (by have:=hb _ (AC (d:=⟨0, [], []⟩) (show a.toNat<d.cells.length by omega));omega);conv=>whnf
   refine zw tys_ok mixed [0,1,2,3,4,5,6,7,8,9] (by kernel_rfl) ?_;refine⟨ha,?_⟩;refine⟨⟨rfl,(Aa _).symm,show a.toNat<d.cells.length by omega⟩,?_⟩;conv=>whnf
   first | rw [hgc] | rw [hgc']
   conv=>whnf
   refine AS (fun h1=>?_) (fun h1=>?_) <;> (repeat rw [Ac] at h1) <;> conv=>whnf
   ·rw [if_neg h1] at hg;exact⟨.tp [bA [],iv 6],dkH d.req,UT 6,tA,rfl,tA,by simp only [Dk.read,if_neg h0,hg],by simp only [Dk.read,if_neg h0]⟩
   ·refine zY hcb ?_;conv=>whnf
    conv=>whnf
    rw [if_pos h1] at hg;exact⟨_,dkH d.req,fun _ _ h=>h,tA,rfl,tA,by simp only [Dk.read,if_neg h0,hg,bA],by simp only [Dk.read,if_neg h0]⟩
def Dk.write (d:Dk) (a:Int) (b:List UInt8):Dk × Int:=
 if d.left=0 then (d,8) else if (d.cells.getD a.toNat ⟨0, [], []⟩).state=2\/(2000:Int)<=d.cache.length then (d.req,7) else ({ d.req with cache:=d.cache ++ [⟨a,b⟩] },0)

theorem N0 (hcl:∀ b:List UInt8,b.length<=1000000000->Fn Tryz.prog 33 [bA b] fun r=>r=bA b) (d:Dk) (a:Int) (b:List UInt8) (hl : -1<=d.left/\d.left<=1048576) (ha:0<=a/\a<d.cells.length) (hc:d.cache.length<=2000) (hb:b.length<=100000) :
  ACalls Tryz.prog false 232 [.bp 0 0,iv a,bA b] (dkH d) fun r H=>r = .v (.int .i64 (d.write a b).2)/\H=dkH (d.write a b).1:=by
 refine yX tys_ok Tryz.func232 rfl rfl (by show 3<=_;decide) ?_;have hq:=G2 d hl;have hcb:=hcl b (by omega);conv=>whnf
 by_cases h0:d.left=0
 ·rw [if_pos h0] at hq;refine hq.mono ?_;rintro _ _ ⟨rfl,rfl⟩;rw [show decide (d.left≠0)=false by simp [h0]];exact⟨_,dkH d,fun _ _ h=>h,tA,rfl,tA,by simp only [Dk.write,if_pos h0],by simp only [Dk.write,if_pos h0]⟩
 ·rw [if_neg h0] at hq;refine hq.mono ?_;rintro _ _ ⟨rfl,rfl⟩;rw [show decide (d.left≠0)=true by simp [h0]];have hgc:(d.cells.map Ci).getD a.toNat []=Ci (d.cells.getD a.toNat ⟨0, [], []⟩):=AP (by omega);have hgc':(d.req.cells.map Ci).getD a.toNat []=Ci (d.cells.getD a.toNat ⟨0, [], []⟩):=hgc;refine⟨ha,?_⟩;refine⟨⟨rfl,(Aa _).symm,show a.toNat<d.cells.length by omega⟩,?_⟩;conv=>whnf
  first | rw [hgc] | rw [hgc']
  conv=>whnf
  refine AS (fun h1=>?_) (fun h1=>?_) <;> (repeat rw [Ac] at h1) <;> conv=>whnf
  ·exact⟨_,dkH d.req,fun _ _ h=>h,tA,rfl,tA,by simp only [Dk.write,if_neg h0,if_pos (Or.inl h1)],by simp only [Dk.write,if_neg h0,if_pos (Or.inl h1)]⟩
  ·by_cases h2:(2000:Int)<=d.cache.length
   ·rw [show decide ((d.req.cache.length:Int)>=2000)=true from decide_eq_true h2];exact⟨_,dkH d.req,fun _ _ h=>h,tA,rfl,tA,by simp only [Dk.write,if_neg h0,if_pos (Or.inr h2)],by simp only [Dk.write,if_neg h0,if_pos (Or.inr h2)]⟩
   ·rw [show decide ((d.req.cache.length:Int)>=2000)=false from decide_eq_false h2];have hc':d.req.cache.length<=2000:=hc;have h3:¬((d.cells.getD a.toNat ⟨0, [], []⟩).state=2\/(2000:Int)<=d.cache.length):=fun h=>h.elim h1 h2
    conv=>whnf
    apply zI tys_ok mixed (.o [0,1,2,3,4,5,6,7,8,9,10,11,12,13,14,15] .fin) [31,32,33,34,35,36,37,38,39,40,41,42,43,44,45] (by kernel_rfl)
    ·conv=>whnf
     refine zY hcb ?_;conv=>whnf
     try (refine tJ ?_;conv=>whnf)
     try (refine tK ?_;conv=>whnf)
     try (refine tS ?_;conv=>whnf)
     exact tA
    conv=>whnf
    have e:dkH { d.req with cache:=d.cache ++ [⟨a,b⟩] }=[.box 119 (Lg (.ow 1 d.cells.length) (.ow 2 (d.cache.length+1)) d.req.reqs d.req.left), .row 68 3 (d.cells.map Ci), .row 152 2 (d.cache.map GU ++ [GU ⟨a,b⟩])]:=by
     unfold dkH;simp only [Ah,C6,A0,A5,Bp];rfl
    refine⟨_,dkH { d.req with cache:=d.cache ++ [⟨a,b⟩] },fun _ _ h=>h,?_,rfl,tA,by simp only [Dk.write,if_neg h0,if_neg h3],by simp only [Dk.write,if_neg h0,if_neg h3]⟩;rw [e];exact tA
def cz:Cel:=⟨0, [], []⟩
def Dk.fin (d:Dk) (w:Wr):Dk:=
 if (d.cells.getD w.addr.toNat cz).state=2 then d else { d with cells:=d.cells.set w.addr.toNat ⟨0,w.bytes,(d.cells.getD w.addr.toNat cz).bytes⟩ }

theorem VX (d:Dk) (w:Wr) (ha:0<=w.addr/\w.addr<d.cells.length) :
  ACalls Tryz.prog false 151 [.bp 0 0, .ag (GU w)] (dkH d) fun r H=>r = .tp []/\H=dkH (d.fin w):=by
 refine yX tys_ok Tryz.func151 rfl rfl (by show 2<=_;decide) ?_;have hgc:(d.cells.map Ci).getD w.addr.toNat []=Ci (d.cells.getD w.addr.toNat cz):=AP (by omega);conv=>whnf
 refine zw tys_ok mixed [0,1,2,3,4,5,6,7,8] (by kernel_rfl) ?_;refine⟨(show 0<=w.addr/\w.addr<d.cells.length from ha),?_⟩;refine⟨⟨rfl,(Aa _).symm,show w.addr.toNat<d.cells.length by omega⟩,?_⟩;conv=>whnf
 rw [hgc];conv=>whnf
 refine AS (fun h1=>?_) (fun h1=>?_) <;> (repeat rw [Ac] at h1) <;> conv=>whnf
 ·refine zw tys_ok mixed [0,1,2,3,4,5,6,7,8,9] (by kernel_rfl) ?_;refine⟨⟨rfl,(Aa _).symm,show w.addr.toNat<d.cells.length by omega⟩,?_⟩;conv=>whnf
  rw [hgc];refine⟨⟨rfl,(Aa _).symm,show w.addr.toNat<d.cells.length by omega⟩,?_⟩;conv=>whnf
  rw [hgc];conv=>whnf
  have hmem:w.addr.toNat<d.cells.length:=by omega
  refine⟨_,dkH { d with cells:=d.cells.set w.addr.toNat ⟨0,w.bytes,(d.cells.getD w.addr.toNat cz).bytes⟩ },fun _ _ h=>h,?_,rfl,tA,rfl,by simp only [Dk.fin,if_neg h1]⟩;have e:dkH { d with cells:=d.cells.set w.addr.toNat ⟨0,w.bytes,(d.cells.getD w.addr.toNat cz).bytes⟩ }=[.box 119 (Lg (.ow 1 d.cells.length) (.ow 2 d.cache.length) d.reqs d.left), .row 68 3 ((d.cells.map Ci).set w.addr.toNat (Ci ⟨0,w.bytes,(d.cells.getD w.addr.toNat cz).bytes⟩)), .row 152 2 (d.cache.map GU)]:=by
   unfold dkH;simp only [Bl,List.map_set]
  rw [e];exact tA
 ·refine⟨_,dkH d,fun _ _ h=>h,tA,rfl,tA,rfl,by simp only [Dk.fin,if_pos h1]⟩
@[reducible] def dkF (d:Dk):List AB:= [.box 119 (Lg (.ow 1 d.cells.length) (.ow 3 0) d.reqs d.left), .row 68 3 (d.cells.map Ci), .dead, .row 152 2 []]
def Dk.allFin (d:Dk) (l:List Wr):Dk:=l.foldl Dk.fin d
theorem XG (d:Dk) (w:Wr):(d.fin w).cells.length=d.cells.length:=by unfold Dk.fin;split <;> simp
theorem TT (d:Dk) (w:Wr):(d.fin w).cache=d.cache/\(d.fin w).reqs=d.reqs/\(d.fin w).left=d.left:=by unfold Dk.fin;split <;> simp
theorem RM (l:List Wr):∀ (d:Dk),(d.allFin l).cells.length=d.cells.length/\(d.allFin l).cache=d.cache/\(d.allFin l).reqs=d.reqs/\(d.allFin l).left=d.left:=by
 induction l with
 | nil=>intro d;exact⟨rfl,rfl,rfl,rfl⟩
 | cons w r ih=>
  intro d;obtain⟨h1,h2,h3,h4⟩:=ih (d.fin w);have:=TT d w;exact⟨h1.trans (XG d w),h2.trans this.1,h3.trans this.2.1,h4.trans this.2.2⟩
theorem Q3 (d:Dk) {l:List Wr} {k:Nat} (h:k<l.length):d.allFin (l.take (k+1))=(d.allFin (l.take k)).fin (l.getD k ⟨0, []⟩):=by
 unfold Dk.allFin;rw [Bh,Cb,Af h];simp [Ab,Af h]
def Dk.flush (d:Dk):Dk:={ d.req.allFin d.cache with cache:= [] }

theorem RA (d:Dk) (hl : -1<=d.left/\d.left<=1048576) (h0:d.left=0) :
  ACalls Tryz.prog false 77 [.bp 0 0] (dkH d) fun r H=>r = iv 8/\H=dkH d:=by
 refine ACalls.ofW tys_ok Tryz.func77 rfl rfl (by show 1<=_;decide) ?_;have hq:=G2 d hl;rw [if_pos h0,show decide (d.left≠0)=false by simp [h0]] at hq;conv=>whnf
 refine hq.mono ?_;rintro _ _ ⟨rfl,rfl⟩;exact⟨_,_,dkH d,fun _ _ h=>h,⟨[],tv,tA,tA,rfl,rfl,rfl⟩,rfl,rfl⟩
theorem TZ (d:Dk) (hl : -1<=d.left/\d.left<=1048576) (h0:d.left≠0) (hc:d.cache.length<=2000) (ha:∀ w∈d.cache,0<=w.addr/\w.addr<d.cells.length) :
  ACalls Tryz.prog false 77 [.bp 0 0] (dkH d) fun r H=>r = iv 0/\H=dkF d.flush:=by
 refine ACalls.ofW tys_ok Tryz.func77 rfl rfl (by show 1<=_;decide) ?_;have hq:=G2 d hl;rw [if_neg h0,show decide (d.left≠0)=true by simp [h0]] at hq;conv=>whnf
 refine hq.mono ?_;rintro _ _ ⟨rfl,rfl⟩;conv=>whnf
 have hE:∀ i,i<d.cache.length->(d.cache.map GU).getD i []=GU (d.cache.getD i ⟨0, []⟩):=fun i hi=>AP hi
 refine zP Nat (fun k=>([(0, .bp 0 0),(12, .ow 2 d.cache.length),(13,iv d.cache.length),(14,iv k),(2,iv 0)],dkH (d.req.allFin (d.cache.take k)))) (fun k=>k<=d.cache.length) (fun k=>d.cache.length - k) 0 (Aj _) ⟨[],tv,tA,tA,rfl,rfl,rfl⟩ ?_;rintro k hk;have hall:=RM (d.cache.take k) d.req;have hnext:k<d.cache.length->d.req.allFin (d.cache.take (k+1))=(d.req.allFin (d.cache.take k)).fin (d.cache.getD k ⟨0, []⟩):=fun h=>Q3 d.req h
 have hlast:k=d.cache.length->d.flush={ d.req.allFin (d.cache.take k) with cache:= [] }:=fun h=>by rw [h,A6];try rfl
 generalize d.req.allFin (d.cache.take k)=X at hall hnext hlast |-
 obtain⟨xc,xw,xr,xl⟩:=X;simp only at hall;obtain⟨q1,q2,q3,q4⟩:=hall;have q2:xw=d.cache:=q2;subst q2;have q1':xc.length=d.cells.length:=q1;conv=>whnf
 refine AS (fun h=>?_) (fun h=>?_) <;> (repeat rw [Ac] at h) <;> conv=>whnf
 ·have hd:=VX ⟨xc,d.cache,xr,xl⟩ (d.cache.getD k ⟨0, []⟩) (by have:=ha _ (AC (d:=⟨0, []⟩) (show k<d.cache.length by omega));show _/\_<((xc.length:Nat):Int);rw [q1'];exact this);refine⟨⟨by omega,by omega⟩,?_⟩;refine⟨⟨rfl,(Aa _).symm,by simpa using h⟩,?_⟩;conv=>whnf
  rw [show ((k:Int)).toNat=k from Ac k,hE k (by omega)];conv=>whnf
  refine ze9 [0,1,2] hd ?_;rintro _ _ ⟨rfl,rfl⟩;refine⟨k+1,by omega,by omega, [],tv,⟨rfl,rfl,rfl,AT (by omega),rfl,tv⟩,?_,rfl,rfl,rfl⟩;rw [hnext (by omega)];exact tA
 ·conv=>whnf
  have ek:k=d.cache.length:=by omega
  rw [hlast ek];exact⟨iv 0,iv 0,dkF { cells:=xc,cache:= [],reqs:=xr,left:=xl },fun _ _ h=>h,⟨[(1000001,152,2)],tA,tA,tA,rfl,rfl,rfl⟩,rfl,rfl⟩

theorem BY {α:Type} {f:α->List AV} {d:α} {sz:Nat} {es:List (List AV)} {n:Nat} (l:List α) (hn:n=l.length) (he:es=l.map f) (c:Ctx) (u:Value) (h:Rd (.sl sz n fun i=>es.getD i []) c u):Rd (.sl sz l.length fun i=>f (l.getD i d)) c u:=
 z7 hn (fun i hi=>by rw [he,AP (d:=d) (by omega)]) h
theorem WQ (L:List UInt8):((List.range L.length).map fun i=> [AV.v (Value.int IntKind.u8 ((L.getD i 0).toNat:Int))])=L.map EI:=by
 apply List.ext_getElem
 ·simp
 ·intro i h1 h2;simp only [Aa,CH] at h1;simp [EI,Ab,Af h1]
theorem KV {L:List UInt8} {n:Nat} {es:List (List AV)} (hn:n=L.length) (he:es=L.map EI) (c:Ctx) (v:Value) (h:Rd (.sl 1 n fun i=>es.getD i []) c v):Rd (bA L) c v:=BY (f:=EI) L hn he c v h
theorem SQ (b:List UInt8) (hb:b.length<=1000000000):ACalls Tryz.prog false 221 [bA b] [] fun r H=>r = .ow 0 b.length/\H=[.row 5 1 (b.map EI)]:=by
 refine zJ tys_ok Tryz.func221 rfl rfl (Ae rfl) ?_;refine⟨hb,?_⟩;exact⟨.ow 0 b.length, .ow 0 b.length, [.row 5 1 (b.map EI)],fun _ _ h=>h,zL ⟨[],tv,tA,⟨congrArg (AB.row 5 1) (WQ b).symm,tv⟩,rfl,rfl,rfl⟩,rfl,rfl⟩
theorem Jn (l:List UInt8) (n:Int) (m:Nat) (hl:l.length<=1000000) (hn:0<=n/\n<=4294967295) (hm:m<=4):ACalls Tryz.prog false 134 [bA l,iv n,iv m] [] fun r H=>r = .ow 0 (l ++ leB m n.toNat).length/\H=[.row 5 1 ((l ++ leB m n.toNat).map EI)]:=by
 have htw:=SQ l (by omega);obtain⟨q,rfl⟩:∃ q:Nat,n=q:=⟨n.toNat,by omega⟩;rw [Ac];refine zJ tys_ok Tryz.func134 rfl rfl (Ae rfl) ?_;conv=>whnf
 refine zX (htw) rfl ?_;rintro _ _ ⟨rfl,rfl⟩;conv=>whnf
 refine zR Nat (fun k=>([(1,iv (q / 256 ^ k:Nat)),(2,iv m),(7, .ow 0 (l ++ leB k q).length),(8,iv k)], [.row 5 1 ((l ++ leB k q).map EI)])) (fun k=>k<=m) (fun k=>m - k) 0 (Aj _)
  (zQ (s:= [0]) ⟨⟨congrArg (fun n:Nat=>AV.v (.int .i64 n)) (show q=q / 256 ^ 0 by simp),rfl,congrArg (fun n:Nat=>AV.ow 0 n) (show l.length=(l ++ leB 0 q).length by simp [leB]),rfl,tv⟩,⟨show some (AB.row 5 1 (l.map EI))=some (AB.row 5 1 ((l ++ leB 0 q).map EI)) by simp [leB],tv⟩,rfl,rfl,rfl,rfl,rfl⟩) ?_
 intro k hk;have hstep:=leB_step k q;have hq:q / 256 ^ k<=4294967295:=AW (Nat.div_le_self _ _) (by omega);have hdiv:q / 256 ^ k / 256=q / 256 ^ (k+1):=by rw [Nat.div_div_eq_div_mul,Nat.pow_succ]
 have hlen:(l ++ leB k q).length<=1000004:=by rw [Ah,leB_len];omega
 generalize q / 256 ^ k=Q at hstep hq hdiv;conv=>whnf
 refine AS (fun h6=>?_) (fun h6=>?_) <;> (repeat rw [Ac] at h6) <;> conv=>whnf
 ·refine⟨rfl,?_⟩;refine⟨⟨by rw [Aa],by omega⟩,?_⟩;refine⟨by decide,?_⟩;conv=>whnf
  have htd:IntKind.i64.wrap ((Q:Int).tdiv 256)=((Q / 256:Nat):Int):=by rw [Bu (by omega),wi (by omega)];omega
  have hU : [[AV.v (Value.int IntKind.u8 (IntKind.u8.wrap (Q:Int)))]]=[UInt8.ofNat (Q % 256)].map EI:=by
   show _=[[AV.v (.int .u8 ((UInt8.ofNat (Q % 256)).toNat:Nat))]];rw [C8 (show Q % 256<256 by omega),IntKind.wrap_u8];try rfl
  refine⟨k+1,by omega,by omega,zQ (s:= [0]) ⟨⟨congrArg (fun n:Int=>AV.v (.int .i64 n)) (by rw [htd,hdiv]),rfl,congrArg (fun n:Nat=>AV.ow 0 n) (show (l ++ leB k q).length+1=(l ++ leB (k+1) q).length by rw [hstep];simp;omega),AT (by omega),tv⟩,⟨?_,tv⟩,rfl,rfl,rfl,rfl,rfl⟩⟩;rw [hstep,<-AA,A0,<-hU];try rfl
 ·have ek:k=m:=by omega
  subst ek;exact⟨.ow 0 (l ++ leB k q).length, .ow 0 (l ++ leB k q).length, [.row 5 1 ((l ++ leB k q).map EI)],fun _ _ h=>h,zL ⟨[],tv,tA,tA,rfl,rfl,rfl⟩,rfl,rfl⟩
theorem WP (l:List UInt8) (n m:Nat) (hl:l.length<=1000000) (hn:n<=4294967295) (hm:m<=4):Fn Tryz.prog 134 [bA l,iv n,iv m] fun r=>r=bA (l ++ leB m n):=by
 refine ACalls.fn (Jn l n m hl (by omega) hm) ?_;rintro _ _ ⟨rfl,rfl⟩;refine⟨_,zE _,?_⟩;refine Ai (Aa _).symm ?_;exact⟨bA (l ++ leB m n),KV rfl rfl,rfl⟩
theorem Hn (l:List UInt8) (n:Int) (m:Nat) (hl:l.length<=1000000) (hn:0<=n/\n<=4294967295) (hm:m<=4):Fn Tryz.prog 134 [bA l,iv n,iv m] fun r=>r=bA (l ++ leB m n.toNat):=by
 have:=WP l n.toNat m hl (by omega) hm;rwa [Int.toNat_of_nonneg hn.1] at this
theorem Jk (addr stamp:Int) (p:List UInt8) (hok:Yb addr stamp p):Fn Tryz.prog 107 [.ag [iv addr,iv stamp,bA p]] fun r=>r = .tp [bA (CF addr stamp p),iv 0]:=by
 refine⟨⟨_,Tryz.func107,rfl,by decide⟩,fun c0 us hd hM _ hr=>?_⟩;obtain⟨u,rfl,h⟩:=Zu hr;simp only [Rd,RdL] at h;obtain⟨xs,rfl,a,_,rfl,rfl,b,_,rfl,rfl,d,_,rfl,h3,rfl⟩:=h;refine(Vb addr stamp d p c0.w c0.M (HW (by simpa only [Rd,bA] using h3)) hok).mono ?_;rintro e w' ⟨q,rfl,ho,hB⟩;exact⟨_,_,rfl,rfl,hB,Oc (UP ho hM) (NT _)⟩
theorem L2 (g:Geo) (x:Rc) (copy slot:Int) (hl:x.img.bytes.length<=100000):Fn Tryz.prog 103 [.ag (Bm g), .ag (Hq x),iv copy,iv slot] fun r=>r = .tp [bA (if EN g x&&IY g copy slot then B5 g x copy slot else []), .v (Ew (EN g x&&IY g copy slot))]:=by
 have hb:=Ic g x hl;have hL:=LG g copy slot;have no:∀ (c:Ctx) (v:Value),Rd (.tp [.v (.slice none 0 0),iv 1]) c v->Rd (.tp [bA [],iv 1]) c v:=fun c v h=>by
  simp only [Rd,RdL] at h |-
  obtain⟨xs,rfl,y,ys,rfl,rfl,h⟩:=h;exact⟨_,rfl,_,_,rfl,Bv 1 (fun i=> [.v (.int .u8 (([]:List UInt8).getD i 0).toNat)]) c (.slice none 0 0) (by simp [Rd]),h⟩
 cases hok:EN g x with
 | false=>
  rw [hok] at hb;refine zT Tryz.func103 rfl ?_;conv=>whnf
  refine zY hb ?_;exact⟨_,no,rfl⟩
 | true=>
  have hg:Bq g=true:=by simp only [EN,Ad] at hok;exact hok.1
  rw [hok] at hb;rw [hg] at hL;cases hl2:IY g copy slot with
  | false=>
   rw [hl2] at hL;refine zT Tryz.func103 rfl ?_;conv=>whnf
   refine zY hb ?_;conv=>whnf
   refine zY hL ?_;exact⟨_,no,rfl⟩
  | true=>
   rw [hl2] at hL;have h1:=GA hg hl2;have h2:=N_ hok;have h3:=EL hok;have hm:=Jk (Ba g copy slot) x.seq (Et x) ⟨h1.1,h1.2,h2.1,h2.2,by omega⟩;refine zT Tryz.func103 rfl ?_;conv=>whnf
   refine zY hb ?_;conv=>whnf
   refine zY hL ?_;conv=>whnf
   refine zY hm ?_;exact⟨_,ri,rfl⟩
def CK (g:Geo):Int:=g.d+1+g.sp
def A7 (g:Geo):Int:=g.an+2*g.sl+2*g.z+g.z*CK g
def Bf (g:Geo) (z k:Int):Int:=g.an+2*g.sl+2*z+k
def Cw (g:Geo) (z s:Int):Int:=g.an+2*g.sl+2*g.z+z*CK g+s
theorem Hs {g:Geo} (hg:Bq g=true):2<=CK g/\CK g<=7:=by
 obtain⟨h1,h2,h3,h4,h5⟩:=A2.1 hg;unfold CK;omega
theorem IZ {g:Geo} (hg:Bq g=true) {z:Int} (hz:0<=z/\z<=4):0<=z*CK g/\z*CK g<=28:=by
 obtain⟨p1,p2⟩:=Hs hg;rcases(show z=0\/z=1\/z=2\/z=3\/z=4 by omega) with rfl | rfl | rfl | rfl | rfl <;> omega
theorem HJ {g:Geo} (hg:Bq g=true):32<=A7 g/\A7 g<=99:=by
 obtain⟨h1,h2,h3,h4,h5⟩:=A2.1 hg;obtain⟨p1,p2⟩:=Hs hg;have:=IZ hg (z:=g.z) (by omega);unfold A7;rcases(show g.z=1\/g.z=2\/g.z=3\/g.z=4 by omega) with h | h | h | h <;> rw [h] at this |- <;> omega
theorem LZ (g:Geo) (hg:Bq g=true):Fn Tryz.prog 190 [.ag (Bm g)] fun r=>r = iv (g.an+2*g.sl):=by
 obtain⟨h1,h2,h3,h4,h5⟩:=A2.1 hg;refine zT Tryz.func190 rfl ?_;exact⟨_,ri,by rw [wi (n:=2*g.sl) (by omega),wi (by omega)]⟩
theorem Ij (g:Geo) (hg:Bq g=true):Fn Tryz.prog 108 [.ag (Bm g)] fun r=>r = iv (CK g):=by
 obtain⟨h1,h2,h3,h4,h5⟩:=A2.1 hg;refine zT Tryz.func108 rfl ?_;conv=>whnf
 exact⟨_,ri,by rw [wi (n:=g.d+1) (by omega),wi (by omega)];try rfl⟩
theorem L_ (g:Geo) (hg:Bq g=true):Fn Tryz.prog 193 [.ag (Bm g)] fun r=>r = iv (g.an+2*g.sl+2*g.z):=by
 obtain⟨h1,h2,h3,h4,h5⟩:=A2.1 hg;refine zT Tryz.func193 rfl ?_;conv=>whnf
 apply zI tys_ok mixed (.o [0,2,3,4,1,5,6] .fin) [2,3,4,5,6,7,8] (by kernel_rfl)
 ·conv=>whnf
  refine zY (LZ g hg) ?_;exact tA
 exact⟨_,ri,by rw [wi (n:=2*g.z) (by omega),wi (by omega)]⟩
theorem Rx (g:Geo) (hg:Bq g=true):Fn Tryz.prog 183 [.ag (Bm g)] fun r=>r = iv (A7 g):=by
 obtain⟨h1,h2,h3,h4,h5⟩:=A2.1 hg;have hz:=IZ hg (z:=g.z) (by omega);have hc:=HJ hg;refine zT Tryz.func183 rfl ?_;conv=>whnf
 apply zI tys_ok mixed (.o [0,2,3,4,1,5,6,7,8] .fin) [2,3,4,5,6,7,8,9,10] (by kernel_rfl)
 ·conv=>whnf
  refine zY (L_ g hg) ?_;conv=>whnf
  refine zY (Ij g hg) ?_;exact tA
 conv=>whnf
 exact⟨_,ri,by rw [wi (n:=g.z*CK g) (by omega),wi (by omega)];try rfl⟩
theorem TM (g:Geo) (hg:Bq g=true):Fn Tryz.prog 98 [.ag (Bm g)] fun r=>r = .tp [iv (A7 g),iv 0]:=by
 have ht:=HU g (A7 g) true;rw [hg] at ht;refine zT Tryz.func98 rfl ?_;conv=>whnf
 apply zI tys_ok mixed (.o [0,1,2,3,4,5,6,7] .fin) [2,3,4,5,6,7,8,9] (by kernel_rfl)
 ·conv=>whnf
  refine zY (Rx g hg) ?_;conv=>whnf
  refine zY ht ?_;exact tA
 exact⟨_,ri,rfl⟩
theorem F7 (g:Geo) (i:Int) (hg:Bq g=true) (hi:0<=i/\i<g.an):Fn Tryz.prog 100 [.ag (Bm g),iv i] fun r=>r = .tp [iv i,iv 0]:=by
 obtain⟨h1,h2,h3,h4,h5⟩:=A2.1 hg;have ht:=HU g i true;rw [hg] at ht;have hw:IntKind.i64.wrap (g.an - 1)=g.an - 1:=wi (by omega);have hn:=H7 i 0 (IntKind.i64.wrap (g.an - 1));rw [show Dv i 0 (IntKind.i64.wrap (g.an - 1))=true from AK.2 (by rw [hw];omega)] at hn;refine zT Tryz.func100 rfl ?_;conv=>whnf
 apply zI tys_ok mixed (.o [0,1,2,3,4,5,6,7,8,9,10,11] .fin) [4,5,6,7,8,9,10,11,12,13,14,15] (by kernel_rfl)
 ·conv=>whnf
  refine zY hn ?_;conv=>whnf
  refine zY ht ?_;exact tA
 exact⟨_,ri,rfl⟩
theorem Kc (g:Geo) (z k:Int) (hg:Bq g=true) (hz:0<=z/\z<g.z) (hk:0<=k/\k<=1):Fn Tryz.prog 106 [.ag (Bm g),iv z,iv k] fun r=>r = .tp [iv (Bf g z k),iv 0]:=by
 obtain⟨h1,h2,h3,h4,h5⟩:=A2.1 hg;have e:IntKind.i64.wrap (IntKind.i64.wrap (g.an+2*g.sl+IntKind.i64.wrap (2*z))+k)=Bf g z k:=by
  rw [wi (n:=2*z) (by omega),wi (n:=g.an+2*g.sl+2*z) (by omega),wi (by omega)];try rfl
 have ht:=HU g (IntKind.i64.wrap (IntKind.i64.wrap (g.an+2*g.sl+IntKind.i64.wrap (2*z))+k)) true;rw [hg] at ht;have hw:IntKind.i64.wrap (g.z - 1)=g.z - 1:=wi (by omega);have hn:=H7 z 0 (IntKind.i64.wrap (g.z - 1));rw [show Dv z 0 (IntKind.i64.wrap (g.z - 1))=true from AK.2 (by rw [hw];omega)] at hn;have hn2:=H7 k 0 1;rw [show Dv k 0 1=true from AK.2 hk] at hn2;refine zT Tryz.func106 rfl ?_;conv=>whnf
 apply zI tys_ok mixed (.o [0,1,3,4,6,8,9,10,11,2,5,7,12,13,14,15,16,17,18,19,20,21] .fin) [6,7,8,9,10,11,12,13,14,15,16,17,18,19,20,21,22,23,24,25,26,27] (by kernel_rfl)
 ·conv=>whnf
  refine zY (LZ g hg) ?_;conv=>whnf
  refine zY hn ?_;conv=>whnf
  refine zY hn2 ?_;conv=>whnf
  refine zY ht ?_;exact tA
 conv=>whnf
 exact⟨_,ri,by simp only [Bool.and_self,if_true];rw [e]⟩
theorem PS (g:Geo) (z s:Int) (hg:Bq g=true) (hz:0<=z/\z<g.z) (hs:0<=s/\s<CK g):Fn Tryz.prog 109 [.ag (Bm g),iv z,iv s] fun r=>r = .tp [iv (Cw g z s),iv 0]:=by
 obtain⟨h1,h2,h3,h4,h5⟩:=A2.1 hg;have hzp:=IZ hg (z:=z) (by omega);have hp:=Hs hg;have e:IntKind.i64.wrap (IntKind.i64.wrap (g.an+2*g.sl+2*g.z+IntKind.i64.wrap (z*CK g))+s)=Cw g z s:=by
  rw [wi (n:=z*CK g) (by omega),wi (n:=g.an+2*g.sl+2*g.z+z*CK g) (by omega),wi (by omega)];try rfl
 have ht:=HU g (IntKind.i64.wrap (IntKind.i64.wrap (g.an+2*g.sl+2*g.z+IntKind.i64.wrap (z*CK g))+s)) true;rw [hg] at ht;have hw:IntKind.i64.wrap (g.z - 1)=g.z - 1:=wi (by omega);have hn:=H7 z 0 (IntKind.i64.wrap (g.z - 1));rw [show Dv z 0 (IntKind.i64.wrap (g.z - 1))=true from AK.2 (by rw [hw];omega)] at hn;have hw2:IntKind.i64.wrap (CK g - 1)=CK g - 1:=wi (by omega);have hn2:=H7 s 0 (IntKind.i64.wrap (CK g - 1));rw [show Dv s 0 (IntKind.i64.wrap (CK g - 1))=true from AK.2 (by rw [hw2];omega)] at hn2;refine zT Tryz.func109 rfl ?_;conv=>whnf
 apply zI tys_ok mixed (.o [0,1,3,4,8,10,11,12,13,2,5,6,7,9,14,15,16,17,18,19,20,21,22,23,24,25,26] .fin) [6,7,8,9,10,11,12,13,14,15,16,17,18,19,20,21,22,23,24,25,26,27,28,29,30,31,32] (by kernel_rfl)
 ·conv=>whnf
  refine zY (L_ g hg) ?_;conv=>whnf
  refine zY (Ij g hg) ?_;conv=>whnf
  refine zY hn ?_;conv=>whnf
  refine zY (Ij g hg) ?_;conv=>whnf
  refine zY hn2 ?_;conv=>whnf
  refine zY ht ?_;exact tA
 conv=>whnf
 exact⟨_,ri,by simp only [Bool.and_self,if_true];rw [e]⟩
end
end Go.Proofs.YtpjkcgacjjbikaaGreatDoor.A
