/-
Several texts in one.
-/
import Derived.Test.YtkolckdakddggaaGreatDoorPPC1P1
import Derived.ProofKit
import Derived.Deep.Slices
import Derived.OpenShut
import Derived.Lib.MapLaws
import Derived.Laws.Cover4
import Derived.Lib.AppendStr
import Derived.Laws.IdiomStrings
import Derived.RangeFuncNested
import Derived.RangeFuncBound
import Derived.RangeFuncCalls
import Derived.RangeFuncLeaves
import Derived.RangeFuncBox
import Derived.TacticsIn
set_option maxRecDepth 100000
set_option maxHeartbeats 8000000
set_option linter.unusedSimpArgs false
set_option linter.unusedVariables false
set_option linter.deprecated false
section
namespace Go.Proofs.YtkolckdakddggaaGreatDoor.A
open Go.RowKit
theorem GN (n lo hi:Int):Fn Tryz.prog 285 [.v (.int .i64 n), .v (.int .i64 lo), .v (.int .i64 hi)] fun r=>r = .v (.bool (Cb n lo hi)):=by
 refine Fn.st Tryz.func285 rfl ?_
 conv=>whnf
 repeat' (first | (refine Ah (fun h=>?_) (fun h=>?_) <;> (try simp at h) <;> conv=>whnf) | (refine aDraw.seq tys_ok mixed (by kernel_rfl) ?_;conv=>whnf) | (refine aSeq.go ?_;conv=>whnf) | (refine And.intro (by omega) ?_;conv=>whnf))
 all_goals exact⟨_,ri,by simp [Cb, *] <;> omega⟩
theorem UQ {l:List Int} {p:Int} {k:Nat} (hk:k<l.length) (h:((l.take k).any fun x=>p == x)=false) (e:(l.getD k 0 == p)=false):((l.take (k+1)).any fun x=>p == x)=false:=by
 rw [A3 hk,List.any_append,h]
 rw [List.getD_eq_getElem?_getD,List.getElem?_eq_getElem hk] at e
 simp at e |-
 exact fun h=>e h.symm
theorem Xg {l:List Int} {p:Int} {k i:Nat} (hk:k<l.length) (hki:k<i) (e:(l.getD k 0 == p)=true):((l.take i).any fun x=>p == x)=true:=by
 refine Cw.2 ⟨l.getD k 0,?_,by simpa using (beq_iff_eq.1 e).symm⟩
 rw [List.getD_eq_getElem?_getD,List.getElem?_eq_getElem hk]
 have:(l.take i)[k]? = some l[k]:=by rw [List.getElem?_take_of_lt hki,List.getElem?_eq_getElem hk]
 exact List.mem_of_getElem? this
theorem PF (g:Geo) (a:An) (hg:A_ g=true) (hl:a.label.size<=1000000):Fn Tryz.prog 294 [.ag (AF g), .ag (Dx a)] fun r=>r = .v (.bool (AN g a)):=by
 obtain⟨h1,h2,h3,h4,h5⟩:=Ak.1 hg
 have w1:IntKind.i64.wrap (g.sl - 1)=g.sl - 1:=wi (by omega)
 have w3:IntKind.i64.wrap (g.d+1)=g.d+1:=wi (by omega)
 have w4:IntKind.i64.wrap (g.d+1+g.sp)=g.d+1+g.sp:=wi (by omega)
 refine Fn.st Tryz.func294 rfl ?_
 conv=>whnf
 refine Fn.cl (GN _ _ _) ?_
 conv=>whnf
 refine Ah (fun t1=>?_) (fun t1=>?_) <;> simp only [AU,Bc] at t1 <;> conv=>whnf
 ·exact⟨_,ri,by simp [AN,t1]⟩
 refine Fn.cl (GN _ _ _) ?_
 conv=>whnf
 refine Ah (fun t2=>?_) (fun t2=>?_) <;> simp only [AU,Bc] at t2 <;> conv=>whnf
 ·exact⟨_,ri,by simp [AN,t2]⟩
 refine Fn.cl (GN _ _ _) ?_
 conv=>whnf
 refine Ah (fun t3=>?_) (fun t3=>?_) <;> simp only [AU,Bc] at t3 <;> conv=>whnf
 ·refine⟨_,fun _ _ h=>h,?_⟩
  have:(Cb a.seq 0 4294967295&&decide (1<=a.seq))=false:=by
   cases h:Cb a.seq 0 4294967295&&decide (1<=a.seq) with
   | false=>rfl
   | true=>
    simp only [Bool.and_eq_true,A0,decide_eq_true_eq] at h
    have:Cb a.seq 1 4294967295=true:=A0.2 ⟨h.2,h.1.2⟩
    rw [this] at t3;cases t3
  simp only [Bool.and_eq_false_iff] at this
  rcases this with h | h <;> simp [AN,h]
 have hseq:=A0.1 t3
 have t3':Cb a.seq 0 4294967295=true:=A0.2 ⟨by omega,hseq.2⟩
 have w2:IntKind.i64.wrap (a.seq - 1)=a.seq - 1:=wi (by omega)
 refine Fn.cl (GN _ _ _) ?_
 conv=>whnf
 refine Ah (fun t4=>?_) (fun t4=>?_) <;> simp only [AU,Bc] at t4 <;> conv=>whnf
 ·exact⟨_,ri,by simp [AN,t4]⟩
 refine Ah (fun t5=>?_) (fun t5=>?_) <;> simp only [w2,decide_eq_true_eq,decide_eq_false_iff_not] at t5 <;> conv=>whnf
 ·exact⟨_,ri,by rw [AN,decide_eq_false (show ¬a.seq - 1<=a.last by omega)];simp⟩
 refine Fn.cl (GN _ _ _) ?_
 conv=>whnf
 refine Ah (fun t6=>?_) (fun t6=>?_) <;> simp only [w1,AU,Bc] at t6 <;> conv=>whnf
 ·exact⟨_,ri,by rw [AN,t6];simp⟩
 refine Fn.cl (LP a.label (by omega)) ?_
 conv=>whnf
 refine Ah (fun t7=>?_) (fun t7=>?_) <;> simp only [bne_iff_ne,ne_eq,bne_eq_false_iff_eq] at t7 <;> conv=>whnf
 ·exact⟨_,ri,by rw [AN,decide_eq_false t7];simp⟩
 refine Ah (fun t8=>?_) (fun t8=>?_) <;> simp only [bne_iff_ne,ne_eq,bne_eq_false_iff_eq] at t8 <;> conv=>whnf
 ·exact⟨_,ri,by rw [AN,decide_eq_false t8];simp⟩
 have hA:AN g a=a.homes.all (Da g):=by
  rw [AN,t6,decide_eq_true (show 1<=a.seq by omega),decide_eq_true (show a.seq - 1<=a.last by omega),decide_eq_true t7,decide_eq_true t8]
  simp [t1,t2,t3',t4]
 rw [hA]
 refine aLoop.rule Nat (fun z=>([(2, .bp 0 0),(3, .bp 1 0),(5, .v (.int .i64 z))], [.box 23 (AF g), .box 28 (Dx a)])) (fun z=>z<=a.homes.length/\(a.homes.take z).all (Da g)=true) (fun z=>a.homes.length - z) 0 ⟨Ad _,by simp⟩ ⟨[],trivial,⟨rfl,rfl,rfl,trivial⟩,⟨rfl,rfl,trivial⟩,rfl,rfl,rfl⟩ ?_
 rintro z ⟨hz,hZ⟩
 conv=>whnf
 refine Ah (fun hz2=>?_) (fun hz2=>?_) <;> simp at hz2 <;> conv=>whnf
 ·have hno:Da g (a.homes.getD z ⟨[],0,0⟩)=false->a.homes.all (Da g)=false:=fun h=>List.all_eq_false.2 ⟨_,Ay hz2,by rw [h];simp⟩
  refine⟨by first | omega | (refine⟨rfl,?_,?_⟩ <;> first | omega | (simp only [Aa];done) | (simp only [Aa];omega)) | (simp only [Aa];omega),?_⟩
  conv=>whnf
  have ez:((z:Nat):Int).toNat=z:=Ab z
  refine Ah (fun u1=>?_) (fun u1=>?_) <;> simp only [ez,w3,bne_iff_ne,ne_eq,bne_eq_false_iff_eq] at u1 <;> conv=>whnf
  ·exact⟨_,ri,by rw [hno (by rw [Da,decide_eq_false u1];rfl)]⟩
  refine Fn.cl (GN _ _ _) ?_
  conv=>whnf
  refine Ah (fun u2=>?_) (fun u2=>?_) <;> simp only [ez,w3,w4,AU,Bc] at u2 <;> conv=>whnf
  ·exact⟨_,ri,by rw [hno (by rw [Da,u2];simp only [Cz,Bool.and_false])]⟩
  refine Fn.cl (GN _ _ _) ?_
  conv=>whnf
  refine Ah (fun u3=>?_) (fun u3=>?_) <;> simp only [ez,AU,Bc] at u3 <;> conv=>whnf
  ·exact⟨_,ri,by rw [hno (by rw [Da,u3];simp only [Cz,Bool.and_false])]⟩
  have hnx:0<=(a.homes.getD z ⟨[],0,0⟩).next/\(a.homes.getD z ⟨[],0,0⟩).next<=100:=by
   have:=A0.1 u2
   omega
  have w5:IntKind.i64.wrap ((a.homes.getD z ⟨[],0,0⟩).next - 1)=(a.homes.getD z ⟨[],0,0⟩).next - 1:=wi (by omega)
  have hno2:Oe (a.homes.getD z ⟨[],0,0⟩).places (a.homes.getD z ⟨[],0,0⟩).next=false->a.homes.all (Da g)=false:=fun h=>hno (by rw [Da,h];simp)
  refine aLoop.rule Nat (fun i=>([(2, .bp 0 0),(3, .bp 1 0),(5, .v (.int .i64 z)),(6, .bp 2 0),(7, .v (.int .i64 i))], [.box 23 (AF g), .box 28 (Dx a), .box 53 (CH (a.homes.getD z ⟨[],0,0⟩))])) (fun i=>i<=(a.homes.getD z ⟨[],0,0⟩).places.length/\(List.range i).all (fun i=>Cb ((a.homes.getD z ⟨[],0,0⟩).places.getD i 0) 0 ((a.homes.getD z ⟨[],0,0⟩).next - 1)&&!((a.homes.getD z ⟨[],0,0⟩).places.take i).any fun x=>(a.homes.getD z ⟨[],0,0⟩).places.getD i 0 == x)=true) (fun i=>(a.homes.getD z ⟨[],0,0⟩).places.length - i) 0 ⟨Ad _,by simp⟩ ⟨[],trivial,⟨rfl,rfl,rfl,rfl,rfl,trivial⟩,⟨rfl,rfl,rfl,trivial⟩,rfl,rfl,rfl⟩ ?_
  rintro i ⟨hi,hI⟩
  conv=>whnf
  refine Ah (fun hi2=>?_) (fun hi2=>?_) <;> simp only [decide_eq_true_eq,decide_eq_false_iff_not,Int.ofNat_lt] at hi2 <;> conv=>whnf
  ·refine aDraw.of tys_ok mixed [0,1,2,3,4,5,6,7,8,9] (by kernel_rfl) ?_
   refine⟨⟨by omega,by omega⟩,?_⟩
   conv=>whnf
   have ei:((i:Nat):Int).toNat=i:=Ab i
   refine Fn.cl (GN _ _ _) ?_
   conv=>whnf
   refine Ah (fun u4=>?_) (fun u4=>?_) <;> simp only [ei,w5,AU,Bc] at u4 <;> conv=>whnf
   ·exact⟨_,ri,by rw [hno2 (JU hi2 (by rw [u4];rfl))]⟩
   refine aLoop.rule Nat (fun k=>([(2, .bp 0 0),(3, .bp 1 0),(5, .v (.int .i64 z)),(6, .bp 2 0),(7, .v (.int .i64 i)),(8, .v (.int .i64 k))], [.box 23 (AF g), .box 28 (Dx a), .box 53 (CH (a.homes.getD z ⟨[],0,0⟩))])) (fun k=>k<=i/\(((a.homes.getD z ⟨[],0,0⟩).places.take k).any fun x=>(a.homes.getD z ⟨[],0,0⟩).places.getD i 0 == x)=false) (fun k=>i - k) 0 ⟨Ad _,by simp⟩ ⟨[],trivial,⟨rfl,rfl,rfl,rfl,rfl,rfl,trivial⟩,⟨rfl,rfl,rfl,trivial⟩,rfl,rfl,rfl⟩ ?_
   rintro k ⟨hk,hK⟩
   conv=>whnf
   refine Ah (fun hk2=>?_) (fun hk2=>?_) <;> simp only [decide_eq_true_eq,decide_eq_false_iff_not,Int.ofNat_lt] at hk2 <;> conv=>whnf
   ·refine aDraw.of tys_ok mixed [0,1,2,3,4,5,6,7,8,9,10] (by kernel_rfl) ?_
    refine⟨⟨by omega,by omega⟩,?_⟩
    refine⟨⟨by omega,by omega⟩,?_⟩
    conv=>whnf
    have ek:((k:Nat):Int).toNat=k:=Ab k
    refine Ah (fun u5=>?_) (fun u5=>?_) <;> simp only [ei,ek] at u5 <;> conv=>whnf
    ·exact⟨_,ri,by rw [hno2 (JU hi2 (by rw [Xg (show k<(a.homes.getD z ⟨[],0,0⟩).places.length by omega) hk2 u5];simp))]⟩
    ·exact⟨k+1,⟨by omega,UQ (by omega) hK u5⟩,by omega, [],trivial,⟨rfl,rfl,rfl,rfl,rfl,A7 (by omega),trivial⟩,⟨rfl,rfl,rfl,trivial⟩,rfl,rfl,rfl⟩
   ·have e:k=i:=by omega
    subst e
    refine⟨k+1,⟨by omega,?_⟩,by omega, [],trivial,⟨rfl,rfl,rfl,rfl,A7 (by omega),trivial⟩,⟨rfl,rfl,rfl,trivial⟩,rfl,rfl,rfl⟩
    rw [Bb,Co,hI]
    simp only [AK,Bq,u4,hK];rfl
  ·have e:i=(a.homes.getD z ⟨[],0,0⟩).places.length:=by omega
   rw [e] at hI
   refine⟨z+1,⟨by omega,?_⟩,by omega, [],trivial,⟨rfl,rfl,A7 (by omega),trivial⟩,⟨rfl,rfl,trivial⟩,rfl,rfl,rfl⟩
   rw [A3 hz2,Co,hZ]
   have hok:Da g (a.homes.getD z ⟨[],0,0⟩)=true:=by rw [Da,u2,u3,decide_eq_true u1,Oe,hI];rfl
   rw [List.getD_eq_getElem?_getD,List.getElem?_eq_getElem hz2] at hok
   simpa using hok
 ·have e:z=a.homes.length:=by omega
  rw [e,List.take_length] at hZ
  exact⟨_,ri,by rw [hZ]⟩
end Go.Proofs.YtkolckdakddggaaGreatDoor.A
end
section
namespace Go.Proofs.YtkolckdakddggaaGreatDoor
open Go.RowKit
def DJ (b:List UInt8):Int:=
 if b.length<11\/107<b.length then 4
 else if leN (b.drop (b.length - 4))≠CG (b.take (b.length - 4)) then 5
 else if HE b=true/\Dq b=b.length - 11 then 0 else 4
def DU (b:List UInt8):Int:=(leN ((b.drop (b.length - 10)).take 2):Nat)
def Dd (b:List UInt8):Int:=(leN ((b.drop (b.length - 8)).take 4):Nat)
def CL (b:List UInt8):List UInt8:=(b.drop 1).take (b.length - 11)
end Go.Proofs.YtkolckdakddggaaGreatDoor
end
section
namespace Go.Proofs.YtkolckdakddggaaGreatDoor.A
open Go.RowKit
def C2 (r:Rc) (a:An) (seq at_ of_ left:Int):Bool:=decide (r.kind≠0/\r.seq=seq/\r.at_=at_/\(of_=0->r.of_<=left)/\(of_≠0->r.of_=of_)/\(r.epoch=a.epoch\/seq<=a.last/\r.epoch<=a.epoch))
theorem Yj (r:Rc) (a:An) (seq at_ of_ left:Int):Fn Tryz.prog 299 [.ag (FB r), .ag (Dx a), .v (.int .i64 seq), .v (.int .i64 at_), .v (.int .i64 of_), .v (.int .i64 left)] fun x=>x = .v (.bool (C2 r a seq at_ of_ left)):=by
 by_cases h1:(r.kind≠0/\r.seq=seq/\r.at_=at_/\(of_=0->r.of_<=left)/\(of_≠0->r.of_=of_)/\(r.epoch=a.epoch\/seq<=a.last/\r.epoch<=a.epoch))
 ·have e:C2 r a seq at_ of_ left=true:=decide_eq_true h1
  rw [e]
  refine Fn.st Tryz.func299 rfl ?_
  conv=>whnf
  repeat' (refine Ah (fun h=>?_) (fun h=>?_) <;> simp at h <;> conv=>whnf)
  all_goals first | (exfalso;omega) | exact⟨_,ri,rfl⟩ | exact⟨_,ri,by simp;omega⟩
 ·have e:C2 r a seq at_ of_ left=false:=decide_eq_false h1
  rw [e]
  refine Fn.st Tryz.func299 rfl ?_
  conv=>whnf
  repeat' (refine Ah (fun h=>?_) (fun h=>?_) <;> simp at h <;> conv=>whnf)
  all_goals first | (exfalso;omega) | exact⟨_,ri,rfl⟩ | exact⟨_,ri,by simp;omega⟩
theorem QK (r:Rc) (a:An) (seq at_ of_ left:Int):Fn Tryz.prog 276 [.ag (FB r), .ag (Dx a), .v (.int .i64 seq), .v (.int .i64 at_), .v (.int .i64 of_), .v (.int .i64 left)] fun x=>x = .v (.bool (C2 r a seq at_ of_ left)):=by
 by_cases h1:(r.kind≠0/\r.seq=seq/\r.at_=at_/\(of_=0->r.of_<=left)/\(of_≠0->r.of_=of_)/\(r.epoch=a.epoch\/seq<=a.last/\r.epoch<=a.epoch))
 ·have e:C2 r a seq at_ of_ left=true:=decide_eq_true h1
  rw [e]
  refine Fn.st Tryz.func276 rfl ?_
  conv=>whnf
  repeat' (refine Ah (fun h=>?_) (fun h=>?_) <;> simp at h <;> conv=>whnf)
  all_goals first | (exfalso;omega) | exact⟨_,ri,rfl⟩ | exact⟨_,ri,by simp;omega⟩
 ·have e:C2 r a seq at_ of_ left=false:=decide_eq_false h1
  rw [e]
  refine Fn.st Tryz.func276 rfl ?_
  conv=>whnf
  repeat' (refine Ah (fun h=>?_) (fun h=>?_) <;> simp at h <;> conv=>whnf)
  all_goals first | (exfalso;omega) | exact⟨_,ri,rfl⟩ | exact⟨_,ri,by simp;omega⟩

def UZ {α:Type} (p:α->Bool) (l:List α):Int:=if l.any p then ((l.findIdx p:Nat):Int) else -1
theorem JX {α:Type} {p:α->Bool} {l:List α} {k:Nat} {d:α} (hk:k<l.length) (h:(l.take k).any p=false) (hp:p (l.getD k d)=true):UZ p l=k:=by
 rw [List.getD_eq_getElem?_getD,List.getElem?_eq_getElem hk] at hp
 have hp:p l[k]=true:=hp
 unfold UZ
 rw [Cw.2 ⟨l[k],BO hk,hp⟩]
 simp only [if_true,Int.natCast_inj]
 refine(List.findIdx_eq hk).2 ⟨hp,fun j hj=>?_⟩
 rw [List.any_eq_false] at h
 have:=h l[j] (List.mem_take_iff_getElem.2 ⟨j,by omega,rfl⟩)
 simpa using this
theorem I1 {α:Type} {p:α->Bool} {l:List α} (h:l.any p=false):UZ p l = -1:=by
 unfold UZ;rw [h];rfl
theorem Nn {α:Type} {p:α->Bool} {l:List α}:decide (0<=UZ p l)=l.any p:=by
 unfold UZ
 cases h:l.any p with
 | true=>simp
 | false=>rfl
theorem E7 {α:Type} {p:α->Bool} {l:List α} {k:Nat} {d:α} (hk:k<l.length) (h:(l.take k).any p=false) (hp:p (l.getD k d)=false):(l.take (k+1)).any p=false:=by
 rw [A3 hk,List.any_append,h]
 rw [List.getD_eq_getElem?_getD,List.getElem?_eq_getElem hk] at hp
 simpa using hp
def Cn (x:Ent):List AV:= [.v (.int .i64 x.stamp), .v (.int .i64 x.sum), .v (.bool x.lost)]
def Bv (l:List Ent):AV:= .sl 3 l.length fun i=>Cn (l.getD i ⟨0,0,false⟩)
theorem Vd (n:Int):Fn Tryz.prog 269 [.v (.int .i64 n)] fun r=>r = .v (.bool (Gy n)):=by
 refine Fn.st Tryz.func269 rfl ?_
 conv=>whnf
 repeat' (first | (refine Ah (fun h=>?_) (fun h=>?_) <;> (try simp at h) <;> conv=>whnf) | (refine aDraw.seq tys_ok mixed (by kernel_rfl) ?_;conv=>whnf) | (refine aSeq.go ?_;conv=>whnf) | (refine And.intro (by omega) ?_;conv=>whnf))
 all_goals exact⟨_,ri,by simp [Gy,Cb, *] <;> omega⟩
theorem SR (x:Ent):Fn Tryz.prog 268 [.ag (Cn x)] fun r=>r = .v (.bool (!CF x)):=by
 refine Fn.st Tryz.func268 rfl ?_
 conv=>whnf
 repeat' (first | (refine Ah (fun h=>?_) (fun h=>?_) <;> (try simp at h) <;> conv=>whnf) | (refine aDraw.seq tys_ok mixed (by kernel_rfl) ?_;conv=>whnf) | (refine aSeq.go ?_;conv=>whnf) | (refine Fn.cl (Vd _) ?_;conv=>whnf) | (refine And.intro (by omega) ?_;conv=>whnf))
 all_goals exact⟨_,ri,by simp [CF, *]⟩
theorem Xo (l:List Ent)  (hl:l.length<=1000000):Fn Tryz.prog 292 [Bv l, .v (.func (.func 268) #[] #[])] fun r=>r = .v (.int .i64 (UZ (fun x=>!CF x) l)):=by
 refine Fn.st Tryz.func292 rfl ?_
 conv=>whnf
 refine aLoop.rule Nat (fun k=>([(0,Bv l),(1, .v (.func (.func 268) #[] #[])),(7, .v (.int .i64 l.length)),(8, .v (.int .i64 k))], [])) (fun k=>k<=l.length/\(l.take k).any (fun x=>!CF x)=false) (fun k=>l.length - k) 0 ⟨Ad _,by simp⟩ ⟨[],trivial,⟨rfl,rfl,rfl,rfl,trivial⟩,trivial,rfl,rfl,rfl⟩ ?_
 rintro k ⟨hk,hI⟩
 conv=>whnf
 refine Ah (fun h2=>?_) (fun h2=>?_) <;> simp at h2 <;> conv=>whnf
 ·refine⟨by first | omega | (refine⟨rfl,?_,?_⟩ <;> first | omega | (simp only [Aa];done) | (simp only [Aa];omega)) | (simp only [Aa];omega),?_⟩
  conv=>whnf
  refine Fn.cl (SR (l.getD k ⟨0,0,false⟩)) ?_
  conv=>whnf
  refine Ah (fun h3=>?_) (fun h3=>?_) <;> conv=>whnf
  ·exact⟨_,ri,by rw [JX (d:=⟨0,0,false⟩) h2 hI (by first | exact h3 | (rw [Ab] at h3;exact h3) | simpa using h3)]⟩
  ·refine⟨k+1,⟨by omega,E7 (d:=⟨0,0,false⟩) h2 hI (by first | exact h3 | (rw [Ab] at h3;exact h3) | simpa using h3)⟩,by omega, [],trivial,⟨rfl,rfl,rfl,A7 (by omega),trivial⟩,trivial,rfl,rfl,rfl⟩
 ·exact⟨_,ri,by rw [Ar h2] at hI;rw [I1 hI]⟩
theorem Xp (l:List Ent)  (hl:l.length<=1000000):Fn Tryz.prog 270 [Bv l, .v (.func (.func 268) #[] #[])] fun r=>r = .v (.bool (l.any (fun x=>!CF x))):=by
 refine Fn.st Tryz.func270 rfl ?_
 conv=>whnf
 refine Fn.cl (Xo l  hl) ?_
 exact⟨_,ri,by rw [Nn]⟩

theorem Rw (g:Geo) (l:List Ent) (hl:l.length<=1000000):Fn Tryz.prog 237 [.ag (AF g), .ag [Bv l]] fun r=>r = .v (F3 (FE g l)):=by
 have hG:Fn Tryz.prog 46 [.ag (AF g)] fun r=>r = .v (F3 (A_ g)):=EV g.z g.d g.sp g.sl g.an
 cases hg:A_ g with
 | false=>
  rw [hg] at hG
  rw [show FE g l=false by simp [FE,hg]]
  refine Fn.st Tryz.func237 rfl ?_
  conv=>whnf
  refine Fn.cl hG ?_
  exact⟨_,ri,rfl⟩
 | true=>
  rw [hg] at hG
  obtain⟨h1,h2,h3,h4,h5⟩:=Ak.1 hg
  have hw:IntKind.i64.wrap (g.d+1)=g.d+1:=IntWalk.i64_in _ (by omega)
  by_cases hn:(l.length:Int)=g.d+1
  ·have hc:=Xp l hl
   cases ha:l.any (fun x=>!CF x) with
   | true=>
    rw [ha] at hc
    rw [show FE g l=false by rw [FE];simp only [Bool.and_eq_false_iff];refine .inl (.inr ?_);rw [B7,ha];rfl]
    refine Fn.st Tryz.func237 rfl ?_
    conv=>whnf
    refine Fn.cl hG ?_
    conv=>whnf
    rw [hw,show ((l.length:Int) != g.d+1)=false by rw [hn];exact bne_self_eq_false _]
    conv=>whnf
    refine Fn.cl hc ?_
    exact⟨_,ri,rfl⟩
   | false=>
    rw [ha] at hc
    have hal:l.all CF=true:=by rw [B7,ha];rfl
    have hlo:Gf l g.d.toNat=(l.getD g.d.toNat ⟨0,0,false⟩).lost:=by
     rw [Gf,List.getD_eq_getElem?_getD,List.getElem?_eq_getElem (by omega)];rfl
    rw [show FE g l = !(l.getD g.d.toNat ⟨0,0,false⟩).lost by rw [FE,hg,hal,decide_eq_true hn,hlo];rfl]
    refine Fn.st Tryz.func237 rfl ?_
    conv=>whnf
    refine Fn.cl hG ?_
    conv=>whnf
    rw [hw,show ((l.length:Int) != g.d+1)=false by rw [hn];exact bne_self_eq_false _]
    conv=>whnf
    refine Fn.cl hc ?_
    refine⟨by omega,?_⟩
    conv=>whnf
    refine Ah (fun h=>?_) (fun h=>?_) <;> conv=>whnf
    ·exact⟨_,ri,by rw [h];rfl⟩
    ·exact⟨_,ri,by rw [h];rfl⟩
  ·rw [show FE g l=false by simp [FE,hn]]
   refine Fn.st Tryz.func237 rfl ?_
   conv=>whnf
   refine Fn.cl hG ?_
   conv=>whnf
   rw [hw,show ((l.length:Int) != g.d+1)=true from bne_iff_ne.2 hn]
   exact⟨_,ri,rfl⟩
theorem Rx (g:Geo) (l:List Ent) (hl:l.length<=1000):Fn Tryz.prog 227 [.ag (AF g), .ag [Bv l]] fun r=>r = .tp [bA (if FE g l then Cp l else []), .v (F3 (FE g l))]:=by
 have hc:=Rw g l (by omega)
 cases hok:FE g l with
 | false=>
  rw [hok] at hc
  refine Fn.st Tryz.func227 rfl ?_
  conv=>whnf
  refine Fn.cl hc ?_
  exact⟨.tp [bA [], .v (.int .i64 1)],fun c v h=>by
   simp only [Rd,RdL] at h |-
   obtain⟨xs,rfl,y,ys,rfl,rfl,h⟩:=h
   exact⟨_,rfl,_,_,rfl,AX 1 (fun i=> [.v (.int .u8 (([]:List UInt8).getD i 0).toNat)]) c (.slice none 0 0) (by simp [Rd]),h⟩,rfl⟩
 | true=>
  rw [hok] at hc
  have hall:∀ x∈l,CF x=true:=by
   simp only [FE,Bool.and_eq_true] at hok
   exact fun x hx=>Ao.1 hok.1.2 x hx
  refine Fn.st Tryz.func227 rfl ?_
  conv=>whnf
  refine Fn.cl hc ?_
  conv=>whnf
  refine aLoop.ruleC Nat (fun k=>([(7, .ow 2 (Cp (l.take k)).length),(20,Bv l),(21, .v (.int .i64 l.length)),(22, .v (.int .i64 k))], [.dead, .dead, .row 5 1 ((Cp (l.take k)).map DG)])) (fun k=>k<=l.length) (fun k=>l.length - k) 0 (Ad _) (Wk.conv ⟨[(7,5,1)],⟨rfl,rfl,trivial⟩,⟨rfl,rfl,rfl,rfl,trivial⟩,⟨rfl,trivial⟩,rfl,rfl,rfl⟩) ?_
  rintro k hk
  conv=>whnf
  refine Aw (fun h2=>?_) (fun h2=>?_) <;> (repeat rw [Ab] at h2) <;> conv=>whnf
  ·have hk':k<l.length:=by omega
   have hx:=hall _ (Ay (d:=⟨0,0,false⟩) hk')
   have hst:=LD hk'
   have e9:l.getD k ⟨0,0,false⟩=l[k]:=by rw [List.getD_eq_getElem?_getD,List.getElem?_eq_getElem hk'];rfl
   rw [<-e9] at hst
   have hr:=MV [(l.getD k ⟨0,0,false⟩).stamp,(l.getD k ⟨0,0,false⟩).sum,Cm (l.getD k ⟨0,0,false⟩).lost] [4,4,1] rfl (by show 3<=1000;decide) (UA hx)
   refine aSeq.go ?_
   refine⟨by omega,?_⟩
   conv=>whnf
   rw [Ab]
   refine aSeq.go ?_
   conv=>whnf
   refine Ah (fun hx2=>?_) (fun hx2=>?_) <;> conv=>whnf
   ·rw [hx2] at hr
    refine ACalls.shut hr.go ?_
    refine⟨rfl,?_⟩
    refine⟨rfl,?_⟩
    conv=>whnf
    refine ACalls.sub [iA [(l.getD k ⟨0,0,false⟩).stamp,(l.getD k ⟨0,0,false⟩).sum,Cm true],iA [4,4,1]] ⟨(CQ (l:= [(l.getD k ⟨0,0,false⟩).stamp,(l.getD k ⟨0,0,false⟩).sum,Cm true]) rfl).1,(CQ (l:= [4,4,1]) rfl).1,trivial⟩ ?_
    refine ACalls.beside hr rfl ?_
    rintro _ _ ⟨rfl,rfl⟩
    refine⟨by simp,?_⟩
    conv=>whnf
    refine And.intro ⟨by simp,by rw [DP,tot_rowB [(l.getD k ⟨0,0,false⟩).stamp,(l.getD k ⟨0,0,false⟩).sum,Cm true] [4,4,1] rfl];simp [tot];omega⟩ ?_
    conv=>whnf
    have he:H_ (l.getD k ⟨0,0,false⟩)=rowB [(l.getD k ⟨0,0,false⟩).stamp,(l.getD k ⟨0,0,false⟩).sum,Cm true] [4,4,1]:=by rw [H_,hx2]
    refine⟨k+1,by omega,by omega,Wk.conv ⟨[],trivial,⟨?_,rfl,rfl,A7 (by omega),trivial⟩,⟨?_,trivial⟩,rfl,rfl,rfl⟩⟩
    ·rw [hst,he,List.length_append];rfl
    ·rw [hst,he,Ax]
   ·rw [hx2] at hr
    refine ACalls.shut hr.go ?_
    refine⟨rfl,?_⟩
    refine⟨rfl,?_⟩
    conv=>whnf
    refine ACalls.sub [iA [(l.getD k ⟨0,0,false⟩).stamp,(l.getD k ⟨0,0,false⟩).sum,Cm false],iA [4,4,1]] ⟨(CQ (l:= [(l.getD k ⟨0,0,false⟩).stamp,(l.getD k ⟨0,0,false⟩).sum,Cm false]) rfl).1,(CQ (l:= [4,4,1]) rfl).1,trivial⟩ ?_
    refine ACalls.beside hr rfl ?_
    rintro _ _ ⟨rfl,rfl⟩
    refine⟨by simp,?_⟩
    conv=>whnf
    refine And.intro ⟨by simp,by rw [DP,tot_rowB [(l.getD k ⟨0,0,false⟩).stamp,(l.getD k ⟨0,0,false⟩).sum,Cm false] [4,4,1] rfl];simp [tot];omega⟩ ?_
    conv=>whnf
    have he:H_ (l.getD k ⟨0,0,false⟩)=rowB [(l.getD k ⟨0,0,false⟩).stamp,(l.getD k ⟨0,0,false⟩).sum,Cm false] [4,4,1]:=by rw [H_,hx2]
    refine⟨k+1,by omega,by omega,Wk.conv ⟨[],trivial,⟨?_,rfl,rfl,A7 (by omega),trivial⟩,⟨?_,trivial⟩,rfl,rfl,rfl⟩⟩
    ·rw [hst,he,List.length_append];rfl
    ·rw [hst,he,Ax]
  ·have hk2:k=l.length:=by omega
   subst hk2
   rw [List.take_length]
   refine⟨by simp,?_⟩
   exact⟨.tp [bA (Cp l), .v (.int .i64 0)],fun c v h=>by
    simp only [Rd,RdL] at h |-
    obtain⟨xs,rfl,y,ys,rfl,h1,h⟩:=h
    exact⟨_,rfl,y,ys,rfl,Rd.congr (u:=y) rfl (fun i hi=>AR (f:=DG) (l:=Cp l) (d:=0) hi) (by simp only [Rd];exact h1),h⟩,rfl⟩
theorem ConvH.sealBox {H:List AB} (j k:Nat) {t t':TypeId} {sz':Nat} {cs cs2:List AV} {es':List (List AV)} (hj:H[j]? = some (.box t cs)) (hk:H[k]? = some (.row t' sz' es'))
  (he:cs.map (AV.slIn k es'.length (.sl sz' es'.length fun i=>es'.getD i []))=cs2):ConvH H ((H.set k .dead).set j (.box t cs2)):=by
 intro w0 M0 c hs
 subst he
 have hjk:j≠k:=by rintro rfl;rw [hj] at hk;cases hk
 obtain⟨c1,e1,s1,x1,r1⟩:=hs.freeze hk
 have hj1:(H.set k .dead)[j]? = some (.box t cs):=by rw [List.getElem?_set_ne (Ne.symm hjk)];exact hj
 refine⟨c1,e1,s1.recell hj1 rfl ?_,x1⟩
 rintro⟨g,xs,h1,h2,_,h4⟩
 obtain⟨g0,ys,q1,q2,q3,_⟩:=hs.blk j _ hj
 have hg:=x1.box j _ (hs.klt hj) q1
 rw [h1] at hg
 injection hg with hg
 injection hg with hg
 injection hg with hg
 subst hg
 rw [e1,q2] at h2
 injection h2 with h2
 have hxy:ys.toArray=xs.toArray:=by injection h2
 have hxy:ys=xs:=by simpa using hxy
 subst hxy
 refine⟨g,ys,h1,by rw [e1];exact q2,?_,h4⟩
 have h8:∀ (l:List AV) (us:List Value),RdL l c us->RdL (l.map (AV.slIn k es'.length (.sl sz' es'.length fun i=>es'.getD i []))) c1 us:=by
  intro l
  induction l with
  | nil=>intro us h;simp only [RdL] at h;subst h;simp [RdL]
  | cons x l ih=>
   intro us h
   simp only [RdL] at h
   obtain⟨u,vs,rfl,a1,a2⟩:=h
   simp only [Ap,RdL]
   refine⟨u,vs,rfl,?_,ih vs a2⟩
   unfold AV.slIn
   split
   ·rename_i i n
    split
    ·rename_i hik
     subst hik
     split
     ·rename_i hn
      subst hn
      exact r1 u a1
     ·simp [Rd]
    ·exact Rd.ext _ x1 a1
   ·exact Rd.ext _ x1 a1
 exact h8 _ _ q3
def DC (g:Geo) (b:List UInt8):Int:=if A_ g=false then 1 else if (Ck g b).isSome then 0 else 4
theorem JS (e:Int) (c:Ctx) (v:Value) (h:Rd (.tp [.ag [.v (.slice none 0 0)], .v (.int .i64 e)]) c v):Rd (.tp [.ag [Bv []], .v (.int .i64 e)]) c v:=by
 have e1:SubL [.ag [.v (.slice none 0 0)], .v (.int .i64 e)] [.ag [Bv []], .v (.int .i64 e)]:=⟨AG ⟨fun c u h=>AX 3 _ c u h,trivial⟩,ri,trivial⟩
 simp only [Rd] at h |-
 obtain⟨xs,rfl,h⟩:=h
 exact⟨_,rfl,e1.rdl (c:=c) (xs:=xs) (by simpa only [RdL,Rd] using h)⟩
def Yc (g:Geo) (b:List UInt8) (k:Nat):Bool->List AB
 | false=> [.box 23 (AF g), .box 141 [.v (.slice none 0 0)], .box 141 [.ow 3 k], .row 194 3 ((entsOf k b).map Cn)]
 | true=> [.box 23 (AF g), .box 141 [.v (.slice none 0 0)], .box 141 [.sl 3 ((entsOf k b).map Cn).length fun i=>((entsOf k b).map Cn).getD i []], .dead]
theorem Ta (g:Geo) (b:List UInt8) (hl:b.length<=100000):Fn Tryz.prog 175 [.ag (AF g),bA b] fun r=>r = .tp [.ag [Bv (if A_ g then (Ck g b).getD [] else [])], .v (.int .i64 (DC g b))]:=by
 have hG:Fn Tryz.prog 46 [.ag (AF g)] fun r=>r = .v (F3 (A_ g)):=EV g.z g.d g.sp g.sl g.an
 cases hg:A_ g with
 | false=>
  rw [hg] at hG
  rw [show DC g b=1 by rw [DC,if_pos hg]]
  refine Fn.st Tryz.func175 rfl ?_
  conv=>whnf
  refine Fn.cl hG ?_
  exact⟨_,JS 1,rfl⟩
 | true=>
  rw [hg] at hG
  obtain⟨h1,h2,h3,h4,h5⟩:=Ak.1 hg
  obtain⟨n,hn⟩:∃ n:Nat,g.d+1=n:=⟨(g.d+1).toNat,by omega⟩
  have hnn:(g.d+1).toNat=n:=by omega
  have hw:IntKind.i64.wrap (g.d+1)=(n:Int):=by rw [IntWalk.i64_in _ (by omega),hn]
  by_cases hs:9*n<=b.length
  ·refine Fn.st Tryz.func175 rfl ?_
   conv=>whnf
   refine Fn.cl hG ?_
   conv=>whnf
   refine aLoop.ruleC (Nat × Bool) (fun s=>([(1,bA b),(2, .bp 0 0),(4, .bp 1 0),(5, .v (.int .i64 0)),(6, .bp 2 0),(7,bA (b.drop (9*s.1))),(20, .v (.int .i64 n)),(21, .v (.int .i64 s.1))],Yc g b s.1 s.2)) (fun s=>s.1<=n/\(s.2=false->s.1<n)/\(s.2=true->s.1=n)) (fun s=>n - s.1) (0,false) ⟨Ad _,fun _=>by show 0<n;omega,fun h=>by cases h⟩ (Wk.conv ⟨[(1002000,194,3)],⟨rfl,rfl,trivial⟩,⟨rfl,rfl,rfl,rfl,rfl,rfl,congrArg (fun x=>AV.v (.int .i64 x)) hw,rfl,trivial⟩,⟨rfl,rfl,rfl,rfl,trivial⟩,rfl,rfl,rfl⟩) ?_
   rintro⟨k,sd⟩ ⟨hk,hf,ht⟩
   simp only at hk hf ht
   cases sd with
   | false=>
    have hk1:=hf rfl
    obtain⟨x,y,z,hxy,hen⟩:=TY (b.drop (9*k))
    have hu:=L9 (b.drop (9*k)) [4,4,1] (by decide) (by rw [Af];omega) (by show 3<=1000;decide) (by rw [Af];show 9<=_;omega)
    rw [hxy] at hu
    have hst:=entsOf_step k b
    have hel:=entsOf_len k b
    conv=>whnf
    refine Aw (fun h6=>?_) (fun h6=>?_) <;> (repeat rw [Ab] at h6) <;> conv=>whnf
    ·refine ACalls.shut hu.go ?_
     refine⟨rfl,?_⟩
     conv=>whnf
     refine ACalls.sub [bA (b.drop (9*k)),iA [4,4,1]] ⟨ri,(CQ (l:= [4,4,1]) rfl).1,trivial⟩ ?_
     refine ACalls.beside (hu) rfl ?_
     rintro _ _ ⟨rfl,rfl⟩
     conv=>whnf
     apply aDraw.treeM (0) tys_ok mixed (.one 0 (.one 1 (.one 2 (.one 3 (.one 4 (.one 5 (.one 6 (.one 7 (.one 8 (.one 9 (.one 10 (.one 11 (.one 12 (.one 13 (.one 14 (.one 15 (.one 16 .fin))))))))))))))))) [33,34,35,36,37,38,39,40,41,42,43,44,45,46,47,48] (by kernel_rfl)
     ·conv=>whnf
      try (first | (refine And.intro ⟨by decide,by decide⟩ ?_;(conv=>whnf);refine And.intro ⟨rfl,rfl,by decide⟩ ?_;(conv=>whnf)) | skip;conv=>whnf)
      try (refine And.intro (by first | omega | (simp;done)) ?_;conv=>whnf)
      try (first | (refine And.intro ⟨by decide,by decide⟩ ?_;(conv=>whnf);refine And.intro ⟨rfl,rfl,by decide⟩ ?_;(conv=>whnf)) | skip;conv=>whnf)
      try (refine And.intro (by first | omega | (simp;done)) ?_;conv=>whnf)
      try (first | (refine And.intro ⟨by decide,by decide⟩ ?_;(conv=>whnf);refine And.intro ⟨rfl,rfl,by decide⟩ ?_;(conv=>whnf)) | skip;conv=>whnf)
      try (refine And.intro (by first | omega | (simp;done)) ?_;conv=>whnf)
      try (first | (refine And.intro ⟨by decide,by decide⟩ ?_;(conv=>whnf);refine And.intro ⟨rfl,rfl,by decide⟩ ?_;(conv=>whnf)) | skip;conv=>whnf)
      try (refine And.intro (by first | rfl | omega) ?_;conv=>whnf)
      try (refine And.intro (by first | omega | exact⟨by first | rfl | (simp;done) | (simp;omega),by omega⟩) ?_;conv=>whnf)
      try (refine And.intro ⟨rfl,by first | rfl | (simp;done) | (simp;omega),by first | omega | (simp;omega)⟩ ?_;conv=>whnf)
      (skip)
      exact⟨rfl,rfl⟩
     conv=>whnf
     have hes:(entsOf k b).map Cn ++ [[.v (.int .i64 x), .v (.int .i64 y), .v (.bool (z == 1))]]=(entsOf (k+1) b).map Cn:=by rw [hst,Ax,hen];rfl
     have hdr:bA ((b.drop (9*k)).drop 9)=bA (b.drop (9*(k+1))):=by rw [A4];rfl
     by_cases hlast:k+1<n
     ·exact⟨(k+1,false),⟨by show k+1<=n;omega,fun _=>hlast,fun h=>by cases h⟩,by show n - (k+1)<n - k;omega,Wk.conv ⟨[],trivial,⟨rfl,rfl,rfl,rfl,rfl,hdr,rfl,A7 (by omega),trivial⟩,⟨rfl,rfl,rfl,congrArg (AB.row _ _) hes.symm,trivial⟩,rfl,rfl,rfl⟩⟩
     ·refine⟨(k+1,true),⟨by show k+1<=n;omega,(fun h=>by cases h),fun _=>by show k+1=n;omega⟩,by show n - (k+1)<n - k;omega,_,ConvH.sealBox 2 3 (es':=(entsOf (k+1) b).map Cn) (cs2:= [.sl 3 ((entsOf (k+1) b).map Cn).length fun i=>((entsOf (k+1) b).map Cn).getD i []]) rfl (congrArg (fun e=>some (AB.row _ _ e)) hes) ?_, [],trivial,⟨rfl,rfl,rfl,rfl,rfl,hdr,rfl,A7 (by omega),trivial⟩,⟨rfl,rfl,rfl,trivial⟩,rfl,rfl,rfl⟩
      have hel2:k+1=((entsOf (k+1) b).map Cn).length:=by rw [Aa,entsOf_len]
      show [AV.slIn 3 _ _ (.ow 3 (k+1))]=_
      rw [AV.slIn,if_pos rfl,if_pos hel2]
    ·exfalso;omega
   | true=>
    have hk1:=ht rfl
    subst hk1
    have hlen:=entsOf_len k b
    have esub:∀ (c:Ctx) (u:Value),Rd (.sl 3 ((entsOf k b).map Cn).length fun i=>((entsOf k b).map Cn).getD i []) c u->Rd (Bv (entsOf k b)) c u:=fun c u h=>
     Rd.congr (by rw [Aa]) (fun i hi=>AR (f:=Cn) (d:=⟨0,0,false⟩) (by rw [Aa] at hi;exact hi)) h
    have hb:=Rx g (entsOf k b) (by omega)
    have hq:=U9 (Cp (entsOf k b)) b
    have hRR:Ck g b=if FE g (entsOf k b)=true/\Cp (entsOf k b)=b then some (entsOf k b) else none:=by rw [Ck,hnn]
    conv=>whnf
    refine Aw (fun h6=>?_) (fun h6=>?_) <;> (repeat rw [Ab] at h6) <;> conv=>whnf
    ·exfalso;omega
    ·refine ACalls.sub [.ag (AF g), .ag [Bv (entsOf k b)]] ⟨ri,AG ⟨esub,trivial⟩,trivial⟩ ?_
     cases hok:FE g (entsOf k b) with
     | false=>
      rw [hok] at hb
      have hN:Ck g b=none:=by rw [hRR,if_neg (fun h=>by rw [hok] at h;cases h.1)]
      rw [show DC g b=4 by rw [DC,if_neg (by rw [hg];decide),hN];rfl,hN]
      refine Fn.cl hb ?_
      exact⟨_,JS 4,rfl⟩
     | true=>
      rw [hok] at hb
      by_cases he:Cp (entsOf k b)=b
      ·have hN:Ck g b=some (entsOf k b):=by rw [hRR,if_pos ⟨hok,he⟩]
       rw [show DC g b=0 by rw [DC,if_neg (by rw [hg];decide),hN];rfl,hN]
       rw [decide_eq_true he] at hq
       refine Fn.cl hb ?_
       conv=>whnf
       refine Fn.cl hq ?_
       exact⟨.tp [.ag [Bv (entsOf k b)], .v (.int .i64 0)],fun c v h=>by
        have e1:SubL [.ag [.sl 3 ((entsOf k b).map Cn).length fun i=>((entsOf k b).map Cn).getD i []], .v (.int .i64 0)] [.ag [Bv (entsOf k b)], .v (.int .i64 0)]:=⟨AG ⟨esub,trivial⟩,ri,trivial⟩
        simp only [Rd] at h |-
        obtain⟨xs,rfl,h⟩:=h
        exact⟨_,rfl,e1.rdl (c:=c) (xs:=xs) (by simpa only [RdL,Rd] using h)⟩,rfl⟩
      ·have hN:Ck g b=none:=by rw [hRR,if_neg (fun h=>he h.2)]
       rw [show DC g b=4 by rw [DC,if_neg (by rw [hg];decide),hN];rfl,hN]
       rw [decide_eq_false he] at hq
       refine Fn.cl hb ?_
       conv=>whnf
       refine Fn.cl hq ?_
       exact⟨_,JS 4,rfl⟩
  ·have hN:Ck g b=none:=Oa (by rw [hnn];omega)
   rw [show DC g b=4 by rw [DC,if_neg (by rw [hg];decide),hN];rfl,hN]
   refine Fn.st Tryz.func175 rfl ?_
   conv=>whnf
   refine Fn.cl hG ?_
   conv=>whnf
   refine aLoop.ruleC Nat (fun k=>([(1,bA b),(2, .bp 0 0),(4, .bp 1 0),(5, .v (.int .i64 0)),(6, .bp 2 0),(7,bA (b.drop (9*k))),(20, .v (.int .i64 n)),(21, .v (.int .i64 k))],Yc g b k false)) (fun k=>k<=n/\9*k<=b.length) (fun k=>n - k) 0 ⟨Ad _,Ad _⟩ (Wk.conv ⟨[(1002000,194,3)],⟨rfl,rfl,trivial⟩,⟨rfl,rfl,rfl,rfl,rfl,rfl,congrArg (fun x=>AV.v (.int .i64 x)) hw,rfl,trivial⟩,⟨rfl,rfl,rfl,rfl,trivial⟩,rfl,rfl,rfl⟩) ?_
   rintro k ⟨hk,hkb⟩
   conv=>whnf
   refine Aw (fun h6=>?_) (fun h6=>?_) <;> (repeat rw [Ab] at h6) <;> conv=>whnf
   ·by_cases h9:9*(k+1)<=b.length
    ·obtain⟨x,y,z,hxy,hen⟩:=TY (b.drop (9*k))
     have hu:=L9 (b.drop (9*k)) [4,4,1] (by decide) (by rw [Af];omega) (by show 3<=1000;decide) (by rw [Af];show 9<=_;omega)
     rw [hxy] at hu
     have hst:=entsOf_step k b
     have hel:=entsOf_len k b
     refine ACalls.shut hu.go ?_
     refine⟨rfl,?_⟩
     conv=>whnf
     refine ACalls.sub [bA (b.drop (9*k)),iA [4,4,1]] ⟨ri,(CQ (l:= [4,4,1]) rfl).1,trivial⟩ ?_
     refine ACalls.beside (hu) rfl ?_
     rintro _ _ ⟨rfl,rfl⟩
     conv=>whnf
     apply aDraw.treeM (0) tys_ok mixed (.one 0 (.one 1 (.one 2 (.one 3 (.one 4 (.one 5 (.one 6 (.one 7 (.one 8 (.one 9 (.one 10 (.one 11 (.one 12 (.one 13 (.one 14 (.one 15 (.one 16 .fin))))))))))))))))) [33,34,35,36,37,38,39,40,41,42,43,44,45,46,47,48] (by kernel_rfl)
     ·conv=>whnf
      try (first | (refine And.intro ⟨by decide,by decide⟩ ?_;(conv=>whnf);refine And.intro ⟨rfl,rfl,by decide⟩ ?_;(conv=>whnf)) | skip;conv=>whnf)
      try (refine And.intro (by first | omega | (simp;done)) ?_;conv=>whnf)
      try (first | (refine And.intro ⟨by decide,by decide⟩ ?_;(conv=>whnf);refine And.intro ⟨rfl,rfl,by decide⟩ ?_;(conv=>whnf)) | skip;conv=>whnf)
      try (refine And.intro (by first | omega | (simp;done)) ?_;conv=>whnf)
      try (first | (refine And.intro ⟨by decide,by decide⟩ ?_;(conv=>whnf);refine And.intro ⟨rfl,rfl,by decide⟩ ?_;(conv=>whnf)) | skip;conv=>whnf)
      try (refine And.intro (by first | omega | (simp;done)) ?_;conv=>whnf)
      try (first | (refine And.intro ⟨by decide,by decide⟩ ?_;(conv=>whnf);refine And.intro ⟨rfl,rfl,by decide⟩ ?_;(conv=>whnf)) | skip;conv=>whnf)
      try (refine And.intro (by first | rfl | omega) ?_;conv=>whnf)
      try (refine And.intro (by first | omega | exact⟨by first | rfl | (simp;done) | (simp;omega),by omega⟩) ?_;conv=>whnf)
      try (refine And.intro ⟨rfl,by first | rfl | (simp;done) | (simp;omega),by first | omega | (simp;omega)⟩ ?_;conv=>whnf)
      (skip)
      exact⟨rfl,rfl⟩
     conv=>whnf
     have hes:(entsOf k b).map Cn ++ [[.v (.int .i64 x), .v (.int .i64 y), .v (.bool (z == 1))]]=(entsOf (k+1) b).map Cn:=by rw [hst,Ax,hen];rfl
     have hdr:bA ((b.drop (9*k)).drop 9)=bA (b.drop (9*(k+1))):=by rw [A4];rfl
     exact⟨k+1,⟨by omega,h9⟩,by omega,Wk.conv ⟨[],trivial,⟨rfl,rfl,rfl,rfl,rfl,hdr,rfl,A7 (by omega),trivial⟩,⟨rfl,rfl,rfl,congrArg (AB.row _ _) hes.symm,trivial⟩,rfl,rfl,rfl⟩⟩
    ·have hu:=SW (b.drop (9*k)) [4,4,1] (by decide) (by rw [Af];omega) (by show 3<=1000;decide) (by rw [Af];show _<9;omega)
     refine ACalls.shut hu.go ?_
     refine⟨rfl,?_⟩
     conv=>whnf
     refine ACalls.sub [bA (b.drop (9*k)),iA [4,4,1]] ⟨ri,(CQ (l:= [4,4,1]) rfl).1,trivial⟩ ?_
     refine Fn.cl hu ?_
     exact⟨_,JS 4,rfl⟩
   ·exfalso
    have:k=n:=by omega
    subst this
    omega
theorem So (g:Geo) (x:Img) (hl:x.bytes.length<=100000):Fn Tryz.prog 104 [.ag (AF g), .ag (DE x)] fun r=>r = .v (F3 (Bl g x)):=by
 have hG:Fn Tryz.prog 46 [.ag (AF g)] fun r=>r = .v (F3 (A_ g)):=EV g.z g.d g.sp g.sl g.an
 have ht:=Ta g x.bytes hl
 cases hg:A_ g with
 | false=>
  rw [hg] at hG
  rw [show Bl g x=false by simp [Bl,hg]]
  refine Fn.st Tryz.func104 rfl ?_
  conv=>whnf
  refine Fn.cl hG ?_
  exact⟨_,ri,rfl⟩
 | true=>
  rw [hg] at hG ht
  obtain⟨h1,h2,h3,h4,h5⟩:=Ak.1 hg
  have hwz:IntKind.i64.wrap (g.z - 1)=g.z - 1:=IntWalk.i64_in _ (by omega)
  have hwd:IntKind.i64.wrap (g.d - 1)=g.d - 1:=IntWalk.i64_in _ (by omega)
  have hi1:=TE x.zone 0 (g.z - 1)
  have hi2:=TE x.what (-1) (g.d - 1)
  have hE:Bl g x=(Cb x.zone 0 (g.z - 1)&&(if x.what=255 then (Ck g x.bytes).isSome else Cb x.what (-1) (g.d - 1)&&decide (x.bytes.length=8))):=by rw [Bl,hg];rfl
  rw [hE]
  cases hz:Cb x.zone 0 (g.z - 1) with
  | false=>
   rw [hz] at hi1
   refine Fn.st Tryz.func104 rfl ?_
   conv=>whnf
   refine Fn.cl hG ?_
   conv=>whnf
   rw [hwz]
   refine Fn.cl hi1 ?_
   exact⟨_,ri,rfl⟩
  | true=>
   rw [hz] at hi1
   by_cases hw:x.what=255
   ·rw [if_pos hw]
    cases hr:Ck g x.bytes with
    | none=>
     rw [show DC g x.bytes=4 by rw [DC,if_neg (by rw [hg];decide),hr];rfl] at ht
     refine Fn.st Tryz.func104 rfl ?_
     conv=>whnf
     refine Fn.cl hG ?_
     conv=>whnf
     rw [hwz]
     refine Fn.cl hi1 ?_
     conv=>whnf
     refine Aw (fun h=>?_) (fun h=>?_) <;> conv=>whnf
     ·refine Fn.cl ht ?_
      exact⟨_,ri,rfl⟩
     ·exact absurd hw h
    | some l=>
     rw [show DC g x.bytes=0 by rw [DC,if_neg (by rw [hg];decide),hr];rfl] at ht
     refine Fn.st Tryz.func104 rfl ?_
     conv=>whnf
     refine Fn.cl hG ?_
     conv=>whnf
     rw [hwz]
     refine Fn.cl hi1 ?_
     conv=>whnf
     refine Aw (fun h=>?_) (fun h=>?_) <;> conv=>whnf
     ·refine Fn.cl ht ?_
      exact⟨_,ri,rfl⟩
     ·exact absurd hw h
   ·rw [if_neg hw]
    cases hh:Cb x.what (-1) (g.d - 1) with
    | false=>
     rw [hh] at hi2
     refine Fn.st Tryz.func104 rfl ?_
     conv=>whnf
     refine Fn.cl hG ?_
     conv=>whnf
     rw [hwz]
     refine Fn.cl hi1 ?_
     conv=>whnf
     refine Aw (fun h=>?_) (fun h=>?_) <;> conv=>whnf
     ·exact absurd h hw
     rw [hwd]
     refine Fn.cl hi2 ?_
     exact⟨_,ri,rfl⟩
    | true=>
     rw [hh] at hi2
     refine Fn.st Tryz.func104 rfl ?_
     conv=>whnf
     refine Fn.cl hG ?_
     conv=>whnf
     rw [hwz]
     refine Fn.cl hi1 ?_
     conv=>whnf
     refine Aw (fun h=>?_) (fun h=>?_) <;> conv=>whnf
     ·exact absurd h hw
     rw [hwd]
     refine Fn.cl hi2 ?_
     conv=>whnf
     refine Aw (fun h=>?_) (fun h=>?_) <;> conv=>whnf
     ·exact⟨_,ri,by rw [decide_eq_false (by omega)];rfl⟩
     ·exact⟨_,ri,by rw [decide_eq_true (by omega)];rfl⟩



theorem KS (n lo hi:Int):Fn Tryz.prog 100 [.v (.int .i64 n), .v (.int .i64 lo), .v (.int .i64 hi)] fun r=>r = .v (.bool (Cb n lo hi)):=by
 refine Fn.st Tryz.func100 rfl ?_
 conv=>whnf
 repeat' (first | (refine Ah (fun h=>?_) (fun h=>?_) <;> (try simp at h) <;> conv=>whnf) | (refine aDraw.seq tys_ok mixed (by kernel_rfl) ?_;conv=>whnf) | (refine aSeq.go ?_;conv=>whnf) | (refine And.intro (by omega) ?_;conv=>whnf))
 all_goals exact⟨_,ri,by simp [Cb, *] <;> omega⟩
theorem JQ (g:Geo) (n:Int) (b:Bool):Fn Tryz.prog 166 [.ag (AF g), .v (.int .i64 n), .v (.bool b)] fun r=>r = .tp [.v (.int .i64 (if A_ g&&b then n else 0)), .v (.int .i64 (if A_ g&&b then 0 else 1))]:=by
 have s1:Fn Tryz.prog 46 [.ag (AF g)] fun r=>r = .v (F3 (A_ g)):=EV g.z g.d g.sp g.sl g.an
 cases hg:A_ g <;> cases b
 all_goals
  rw [hg] at s1
  refine Fn.st Tryz.func166 rfl ?_
  conv=>whnf
  refine Fn.cl s1 ?_
  exact⟨_,ri,rfl⟩
def De (g:Geo) (x:Gt) (copy slot:Int):Option Rc:=
 if A_ g&&J9 g copy slot&&decide (x.err=0)&&decide (DJ x.bytes=0)&&decide (DU x.bytes=Bz g copy slot) then
  match Fb g (CL x.bytes) with
  | some r=>if r.seq=Dd x.bytes then some r else none
  | none=>none
 else none
theorem BI {l m:List AV} (h:SubL l m) (c:Ctx) (u:Value) (hr:Rd (.tp l) c u):Rd (.tp m) c u:=by
 simp only [Rd] at hr |-
 obtain⟨xs,rfl,h1⟩:=hr
 exact⟨xs,rfl,h.rdl h1⟩
theorem J_ (c:Ctx) (u:Value) (b:Bool) (h:Rd (.tp [.ag [.v (.int .i64 0), .v (.int .i64 0), .v (.int .i64 0), .v (.int .i64 0), .v (.int .i64 0), .v (.int .i64 0), .v (.int .i64 0), .v (.slice none 0 0)], .v (.bool b)]) c u):Rd (.tp [.ag (FB zeroC), .v (.bool b)]) c u:=by
 refine BI ?_ c u h
 exact⟨AG ⟨ri,ri,ri,ri,ri,ri,ri,AX _ _,trivial⟩,ri,trivial⟩

theorem Ky (b:List UInt8) (m:Nat) (hm:m<=b.length) (hm4:m<=4):Fn Tryz.prog 43 [bA b, .v (.int .i64 m)] fun r=>r = .v (.int .i64 (leN (b.take m):Nat)):=by
 refine Fn.st Tryz.func43 rfl ?_
 conv=>whnf
 rw [wi (show -9223372036854775808<=(m:Int) - 1/\(m:Int) - 1<=9223372036854775807 by omega)]
 have hl:(b.take m).length=m:=by rw [Al];omega
 refine aLoop.ruleRR Nat (fun k=>([(0,bA b),(5, .v (.int .i64 (leN ((b.take m).drop k):Nat))),(6, .v (.int .i64 ((k:Int) - 1)))], [])) (fun k=>k<=m) (fun k=>k) m (Nat.le_refl _)
  (WkN.r (s:= []) ⟨⟨rfl,by rw [Au (by omega)];rfl,rfl,trivial⟩,trivial,rfl,rfl,rfl,rfl,rfl⟩) ?_
 intro k hk
 conv=>whnf
 refine Aw (fun h5=>?_) (fun h5=>?_) <;> (repeat rw [Ab] at h5) <;> conv=>whnf
 ·obtain⟨j,rfl⟩:∃ j,k=j+1:=⟨k - 1,by omega⟩
  have e1:(((j+1:Nat):Int) - 1)=(j:Nat):=by omega
  have hj:j<(b.take m).length:=by omega
  have hb:b.getD j 0=(b.take m)[j]:=by rw [List.getElem_take,List.getD_eq_getElem?_getD,List.getElem?_eq_getElem (by omega)];rfl
  have hd:leN ((b.take m).drop j)=(b.take m)[j].toNat+256*leN ((b.take m).drop (j+1)):=by rw [AL hj];rfl
  have hlt:=leN_lt ((b.take m).drop (j+1))
  have hx:=(b.take m)[j].toNat_lt
  have hp:256 ^ ((b.take m).drop (j+1)).length<=256 ^ 3:=Nat.pow_le_pow_right (by decide) (by rw [Af];omega)
  rw [e1]
  refine⟨⟨by omega,by omega⟩,?_⟩
  conv=>whnf
  have hv:IntKind.i64.wrap (IntKind.i64.wrap (256*((leN ((b.take m).drop (j+1)):Nat):Int))+IntKind.i64.wrap ((b.getD j 0).toNat:Nat))=((leN ((b.take m).drop j):Nat):Int):=by
   rw [hb,hd,wi (n:=(((b.take m)[j].toNat:Nat):Int)) (by omega),wi (n:=256*((leN ((b.take m).drop (j+1)):Nat):Int)) (by omega),wi (by omega)]
   omega
  exact⟨j,by omega,by omega,WkN.r (s:= []) ⟨⟨rfl,congrArg (fun n=>AV.v (.int .i64 n)) hv,congrArg (fun n=>AV.v (.int .i64 n)) (wi (n:=(j:Int) - 1) (by omega)),trivial⟩,trivial,rfl,rfl,rfl,rfl,rfl⟩⟩
 ·have ek:k=0:=by omega
  subst ek
  exact⟨_,ri,rfl⟩
theorem RQ (N:Nat) (hr:N<4294967296):Fn Tryz.prog 218 [.v (.int .i64 N)] fun r=>r = .v (.int .i64 (E_ N:Nat)):=by
 refine Fn.st Tryz.func218 rfl ?_
 refine⟨by decide,?_⟩
 conv=>whnf
 have ht:(N:Int).tmod 2=((N % 2:Nat):Int):=by rw [AI (by omega)];omega
 have hd:IntKind.i64.wrap ((N:Int).tdiv 2)=((N / 2:Nat):Int):=by rw [B8 (by omega),wi (by omega)];omega
 by_cases h2:N % 2=1
 ·have hs:E_ N=N / 2 ^^^ 2197175160:=by unfold E_;rw [if_pos h2];rfl
  rw [ht,h2,show (((1:Nat):Int) == 1)=true from rfl]
  refine⟨by decide,?_⟩
  conv=>whnf
  rw [hd]
  exact⟨_,ri,by rw [hs,<-QX (N / 2) 2197175160 (by omega) (by omega)];rfl⟩
 ·have h0:N % 2=0:=by omega
  have hs:E_ N=N / 2:=by unfold E_;rw [if_neg h2,Nat.xor_zero]
  rw [ht,h0,show (((0:Nat):Int) == 1)=false from rfl]
  refine⟨by decide,?_⟩
  exact⟨_,ri,by rw [hs,hd]⟩
theorem P5 (r:Nat) (hr:r<4294967296):Fn Tryz.prog 165 [.v (.int .i64 r)] fun q=>q = .v (.int .i64 (Ev r:Nat)):=by
 refine Fn.st Tryz.func165 rfl ?_
 conv=>whnf
 refine aLoop.ruleRR Nat (fun k=>([(0, .v (.int .i64 (stepsC k r:Nat))),(3, .v (.int .i64 k))], [])) (fun k=>k<=8) (fun k=>8 - k) 0 (Ad _)
  (WkN.r (s:= []) ⟨⟨rfl,rfl,trivial⟩,trivial,rfl,rfl,rfl,rfl,rfl⟩) ?_
 intro k hk
 conv=>whnf
 refine Aw (fun h6=>?_) (fun h6=>?_) <;> (repeat rw [Ab] at h6) <;> conv=>whnf
 ·have hdn:=RQ (stepsC k r) (stepsC_lt k hr)
  refine Fn.cl hdn ?_
  exact⟨k+1,by omega,by omega,WkN.r (s:= []) ⟨⟨rfl,A7 (by omega),trivial⟩,trivial,rfl,rfl,rfl,rfl,rfl⟩⟩
 ·have ek:k=8:=by omega
  subst ek
  exact⟨_,ri,rfl⟩
theorem RF (b:List UInt8) (hb:b.length<=1000000000):Fn Tryz.prog 99 [.v (.int .i64 0),bA b] fun r=>r = .v (.int .i64 (CG b:Nat)):=by
 refine Fn.st Tryz.func99 rfl ?_
 conv=>whnf
 rw [show IntKind.i64.wrap (4294967295 - 0)=4294967295 by decide]
 refine aLoop.ruleRR Nat (fun k=>([(1,bA b),(5, .v (.int .i64 (Fj 4294967295 (b.take k):Nat))),(6, .v (.int .i64 k))], [])) (fun k=>k<=b.length) (fun k=>b.length - k) 0 (Ad _)
  (WkN.r (s:= []) ⟨⟨rfl,rfl,rfl,trivial⟩,trivial,rfl,rfl,rfl,rfl,rfl⟩) ?_
 intro k hk
 conv=>whnf
 refine Aw (fun h6=>?_) (fun h6=>?_) <;> (repeat rw [Ab] at h6) <;> conv=>whnf
 ·have hk':k<b.length:=by omega
  have hst:=KW (r:=4294967295) hk'
  have hlt:=foldC_lt (b.take k) (r:=4294967295) (by omega)
  refine⟨⟨by omega,by omega⟩,?_⟩
  conv=>whnf
  have hb':b.getD (k:Int).toNat 0=b[k]:=by rw [Ab,List.getD_eq_getElem?_getD,List.getElem?_eq_getElem hk'];rfl
  have hy:=b[k].toNat_lt
  have hx:IntKind.i64.wrap ((BitVec.ofInt IntKind.i64.bits ((Fj 4294967295 (b.take k):Nat):Int) ^^^ BitVec.ofInt IntKind.i64.bits (IntKind.i64.wrap ((b.getD (k:Int).toNat 0).toNat:Int))).toNat:Int)=((Fj 4294967295 (b.take k) ^^^ b[k].toNat:Nat):Int):=by
   rw [hb',wi (n:=((b[k].toNat:Nat):Int)) (by omega)]
   exact QX _ _ hlt (by omega)
  rw [hx]
  have h8:=P5 _ (Ka hlt (show b[k].toNat<4294967296 by omega))
  rw [<-hst] at h8
  refine Fn.cl h8 ?_
  exact⟨k+1,hk',by omega,WkN.r (s:= []) ⟨⟨rfl,rfl,A7 (by omega),trivial⟩,trivial,rfl,rfl,rfl,rfl,rfl⟩⟩
 ·have ek:k=b.length:=by omega
  subst ek
  have hlt:=foldC_lt b (r:=4294967295) (by omega)
  exact⟨_,ri,congrArg (fun n=>AV.v (.int .i64 n)) (by rw [List.take_length];unfold CG;rw [wi (by omega)];omega)⟩
theorem Ip (b:List UInt8) (hb:b.length<=1000000000):Fn Tryz.prog 44 [bA b] fun r=>r = .v (.int .i64 (CG b:Nat)):=by
 have h:=RF b hb
 refine Fn.st Tryz.func44 rfl ?_
 conv=>whnf
 refine Fn.cl h ?_
 exact⟨_,ri,rfl⟩
theorem QI (b:List UInt8) (hb:b.length<=1000000000):Fn Tryz.prog 44 [bA b] fun r=>r = .v (.int .i64 (CG b:Nat)):=Ip b hb
theorem E5 (b:List UInt8) (m:Nat) (hm:m<=b.length) (hm4:m<=4):Fn Tryz.prog 43 [bA b, .v (.int .i64 m)] fun r=>r = .v (.int .i64 (leN (b.take m):Nat)):=Ky b m hm hm4
theorem Ic (c:Ctx) (u:Value) (e:Int) (h:Rd (.tp [.ag [.v (.int .i64 0), .v (.int .i64 0), .v (.slice none 0 0)], .v (.int .i64 e)]) c u):Rd (.tp [.ag (R6 ⟨0,0, []⟩), .v (.int .i64 e)]) c u:=by
 refine BI ?_ c u h
 exact⟨AG ⟨ri,ri,AX _ _,trivial⟩,ri,trivial⟩
theorem Ki {b:List UInt8} {lo:Int} {p:Nat} (h:lo.toNat=p) (hp:p<=b.length) (c:Ctx) (u:Value) (hr:Rd (.sl 1 (((b.length:Nat):Int).toNat - lo.toNat) fun i=>(fun i=> [AV.v (.int .u8 (b.getD i 0).toNat)]) (i+lo.toNat)) c u):Rd (bA (b.drop p)) c u:=
 Rd.congr (n':=(b.drop p).length) (by rw [Af,h];omega) (fun i hi=>by simp only [List.getD_eq_getElem?_getD,List.getElem?_drop,h,BV]) hr
theorem QB {b:List UInt8} {lo hi:Int} {p q:Nat} (h:lo.toNat=p) (h2:hi.toNat=q) (hp:p<=q) (hq:q<=b.length) (c:Ctx) (u:Value) (hr:Rd (.sl 1 (hi.toNat - lo.toNat) fun i=>(fun i=> [AV.v (.int .u8 (b.getD i 0).toNat)]) (i+lo.toNat)) c u):Rd (bA ((b.drop p).take (q - p))) c u:=
 Rd.congr (n':=((b.drop p).take (q - p)).length) (by rw [Al,Af,h,h2];omega) (fun i hi=>by
  have hi':i<q - p:=by omega
  simp only [List.getD_eq_getElem?_getD,List.getElem?_take_of_lt hi',List.getElem?_drop,h,BV]) hr
theorem NX (b:List UInt8) (hl:b.length<=100000):Fn Tryz.prog 15 [bA b] fun r=>r = .tp [.ag (if DJ b=0 then R6 ⟨DU b,Dd b,CL b⟩ else R6 ⟨0,0, []⟩), .v (.int .i64 (DJ b))]:=by
 refine Fn.st Tryz.func15 rfl ?_
 conv=>whnf
 refine Aw (fun t1=>?_) (fun t1=>?_) <;> (repeat rw [Ab] at t1) <;> conv=>whnf
 ·have e:DJ b=4:=by rw [DJ,if_pos (by omega)]
  exact⟨_,fun c u h=>Ic c u 4 h,by rw [e];rfl⟩
 refine Aw (fun t2=>?_) (fun t2=>?_) <;> (repeat rw [Ab] at t2) <;> conv=>whnf
 ·have e:DJ b=4:=by rw [DJ,if_pos (by omega)]
  exact⟨_,fun c u h=>Ic c u 4 h,by rw [e];rfl⟩
 have w4:IntKind.i64.wrap ((b.length:Int) - 4)=b.length - 4:=wi (by omega)
 have w11:IntKind.i64.wrap ((b.length:Int) - 11)=b.length - 11:=wi (by omega)
 have w10:IntKind.i64.wrap ((b.length:Int) - 10)=b.length - 10:=wi (by omega)
 have w8:IntKind.i64.wrap ((b.length:Int) - 8)=b.length - 8:=wi (by omega)
 have e4:(b.drop (b.length - 4)).take 4=b.drop (b.length - 4):=Ar (by rw [Af];omega)
 have s1:=E5 (b.drop (b.length - 4)) 4 (by rw [Af];omega) (by omega)
 rw [e4] at s1
 have s2:=QI (b.take (b.length - 4)) (by rw [Al];omega)
 have s3:=Dh (CL b) (by simp [CL];omega)
 have s4:=E5 (b.drop (b.length - 10)) 2 (by rw [Af];omega) (by omega)
 have s5:=E5 (b.drop (b.length - 8)) 4 (by rw [Af];omega) (by omega)
 have x1:(IntKind.i64.wrap ((b.length:Int) - 4)).toNat=b.length - 4:=by rw [w4];omega
 have x2:(IntKind.i64.wrap ((b.length:Int) - 10)).toNat=b.length - 10:=by rw [w10];omega
 have x3:(IntKind.i64.wrap ((b.length:Int) - 8)).toNat=b.length - 8:=by rw [w8];omega
 refine aDraw.of tys_ok mixed [0,1,2,3,5,6,7,8,4,9,10] (by kernel_rfl) ?_
 refine⟨⟨by omega,by omega,by omega,by omega⟩,?_⟩
 refine⟨⟨by omega,by omega,by omega,by omega⟩,?_⟩
 conv=>whnf
 refine ACalls.sub _ ?_ (Fn.closed (s1) rfl ?_)
 ·repeat' (first | exact trivial | exact fun _ _ h=>h | exact AX _ _ | exact Ki x1 (by omega) | refine And.intro ?_ ?_ | refine AG ?_)
 rintro _ rfl
 conv=>whnf
 refine ACalls.sub _ ?_ (Fn.closed (s2) rfl ?_)
 ·repeat' (first | exact trivial | exact fun _ _ h=>h | exact AX _ _ | exact QB (p:=0) (q:=b.length - 4) (by simp) x1 (by omega) (by omega) | refine And.intro ?_ ?_ | refine AG ?_)
 rintro _ rfl
 conv=>whnf
 have hp0:Dq b=(b.getD 0 0).toNat:=by
  unfold Dq
  cases b <;> rfl
 have hpl:=(b.getD 0 0).toNat_lt
 refine Aw (fun t3=>?_) (fun t3=>?_) <;> (repeat rw [Ab] at t3) <;> conv=>whnf
 ·have e:DJ b=5:=by rw [DJ,if_neg (by omega),if_pos t3]
  exact⟨_,fun c u h=>Ic c u 5 h,by rw [e];rfl⟩
 refine⟨by first | omega | (refine⟨rfl,?_,?_⟩ <;> first | omega | (simp only [Aa];done) | (simp only [Aa];omega)) | (simp only [Aa];omega),?_⟩
 conv=>whnf
 refine Aw (fun t4=>?_) (fun t4=>?_) <;> (repeat rw [Ab] at t4) <;> conv=>whnf
 ·have e:DJ b=4:=by
   rw [DJ,if_neg (by omega),if_neg (by rw [t3];simp),if_neg]
   rintro⟨h1,h2⟩
   simp only [Int.toNat_zero] at t4
   rw [w11,wi (by omega)] at t4
   omega
  exact⟨_,fun c u h=>Ic c u 4 h,by rw [e];rfl⟩
 have e:DJ b=0:=by
  rw [DJ,if_neg (by omega),if_neg (by rw [t3];simp),if_pos]
  simp only [Int.toNat_zero] at t4
  rw [w11,wi (by omega)] at t4
  refine⟨?_,by omega⟩
  simp only [HE,decide_eq_true_eq]
  omega
 rw [e,if_pos rfl]
 refine aDraw.of tys_ok mixed [0,1,2,3,5,6,7,8,10,11,12,13,4,9,14,15,16,17] (by kernel_rfl) ?_
 refine⟨⟨by omega,by omega,by omega,by omega⟩,?_⟩
 refine⟨⟨by omega,by omega,by omega,by omega⟩,?_⟩
 refine⟨⟨by omega,by omega,by omega,by omega⟩,?_⟩
 conv=>whnf
 refine ACalls.sub _ ?_ (Fn.closed (s3) rfl ?_)
 ·repeat' (first | exact trivial | exact fun _ _ h=>h | exact AX _ _ | exact QB (p:=1) (q:=b.length - 10) (by simp) x2 (by omega) (by omega) | refine And.intro ?_ ?_ | refine AG ?_)
 rintro _ rfl
 conv=>whnf
 refine ACalls.sub _ ?_ (Fn.closed (s4) rfl ?_)
 ·repeat' (first | exact trivial | exact fun _ _ h=>h | exact AX _ _ | exact Ki x2 (by omega) | refine And.intro ?_ ?_ | refine AG ?_)
 rintro _ rfl
 conv=>whnf
 refine ACalls.sub _ ?_ (Fn.closed (s5) rfl ?_)
 ·repeat' (first | exact trivial | exact fun _ _ h=>h | exact AX _ _ | exact Ki x3 (by omega) | refine And.intro ?_ ?_ | refine AG ?_)
 rintro _ rfl
 exact⟨_,ri,rfl⟩
theorem AH {α:Type} {f:α->List AV} {d:α} {sz:Nat} {es:List (List AV)} {n:Nat} (l:List α) (hn:n=l.length) (he:es=l.map f) (c:Ctx) (u:Value) (h:Rd (.sl sz n fun i=>es.getD i []) c u):Rd (.sl sz l.length fun i=>f (l.getD i d)) c u:=
 Rd.congr hn (fun i hi=>by rw [he,AR (d:=d) (by omega)]) h
theorem SG {n:Nat} {es:List (List AV)} (l:List UInt8) (hn:n=l.length) (he:es=l.map fun x=> [.v (.int .u8 x.toNat)]) (c:Ctx) (u:Value) (hr:Rd (.sl 1 n fun i=>es.getD i []) c u):Rd (bA l) c u:=
 AH (f:=fun x:UInt8=> [.v (.int .u8 x.toNat)]) l hn he c u hr
theorem Kx (n lo hi:Int):Fn Tryz.prog 285 [.v (.int .i64 n), .v (.int .i64 lo), .v (.int .i64 hi)] fun r=>r = .v (.bool (Cb n lo hi)):=by
 refine Fn.st Tryz.func285 rfl ?_
 conv=>whnf
 repeat' (first | (refine Ah (fun h=>?_) (fun h=>?_) <;> (try simp at h) <;> conv=>whnf) | (refine aDraw.seq tys_ok mixed (by kernel_rfl) ?_;conv=>whnf) | (refine aSeq.go ?_;conv=>whnf) | (refine And.intro (by omega) ?_;conv=>whnf))
 all_goals exact⟨_,ri,by simp [Cb, *] <;> omega⟩
theorem R7 (g:Geo) (n:Int) (hg:A_ g=true):Fn Tryz.prog 310 [.ag (AF g), .v (.int .i64 n)] fun r=>r = .v (.bool (Cb n (-1) (g.d - 1))):=by
 obtain⟨h1,h2,h3,h4,h5⟩:=Ak.1 hg
 have hi:=Kx n (-1) (g.d - 1)
 refine Fn.st Tryz.func310 rfl ?_
 conv=>whnf
 rw [wi (show -9223372036854775808<=g.d - 1/\g.d - 1<=9223372036854775807 by omega)]
 refine Fn.cl hi ?_
 exact⟨_,ri,rfl⟩
theorem Tu (g:Geo) (l:List Ent) (hg:A_ g=true) (hl:l.length<=1000000):Fn Tryz.prog 256 [.ag (AF g), .ag [Bv l]] fun r=>r = .v (.bool (FE g l)):=by
 obtain⟨h1,h2,h3,h4,h5⟩:=Ak.1 hg
 have hw:IntKind.i64.wrap (g.d+1)=g.d+1:=wi (by omega)
 by_cases hn:(l.length:Int)=g.d+1
 ·have hlo:Gf l g.d.toNat=(l.getD g.d.toNat ⟨0,0,false⟩).lost:=by
   rw [Gf,List.getD_eq_getElem?_getD,List.getElem?_eq_getElem (by omega)];rfl
  have hO:FE g l=(l.all CF&&!(l.getD g.d.toNat ⟨0,0,false⟩).lost):=by rw [FE,hg,decide_eq_true hn,hlo];rfl
  rw [hO]
  refine Fn.st Tryz.func256 rfl ?_
  conv=>whnf
  rw [hw,show ((l.length:Int) != g.d+1)=false by rw [hn];exact bne_self_eq_false _]
  refine⟨⟨by omega,by omega⟩,?_⟩
  conv=>whnf
  cases hL:(l.getD g.d.toNat ⟨0,0,false⟩).lost with
  | true=>
   exact⟨_,ri,by rw [Bool.not_true,Bool.and_false]⟩
  | false=>
   conv=>whnf
   rw [Bool.not_false,Bk]
   refine aLoop.ruleRR Nat (fun k=>([(2, .bp 0 0),(3, .bp 1 0),(4, .v (.bool false)),(5, .v (.int .i64 k))], [.box 23 (AF g), .box 141 [Bv l]])) (fun k=>k<=l.length/\(l.take k).all CF=true) (fun k=>l.length - k) 0 ⟨Ad _,rfl⟩
    (WkN.r (s:= [0,1]) ⟨⟨rfl,rfl,rfl,rfl,trivial⟩,⟨rfl,rfl,trivial⟩,rfl,rfl,rfl,rfl,rfl⟩) ?_
   rintro k ⟨hk,hI⟩
   conv=>whnf
   refine Aw (fun h6=>?_) (fun h6=>?_) <;> (repeat rw [Ab] at h6) <;> conv=>whnf
   ·have hk':k<l.length:=by omega
    have i1:=Kx (l.getD (k:Int).toNat ⟨0,0,false⟩).stamp 0 4294967295
    have i2:=Kx (l.getD (k:Int).toNat ⟨0,0,false⟩).sum 0 4294967295
    have hst:(l.take (k+1)).all CF=(Cb (l.getD (k:Int).toNat ⟨0,0,false⟩).stamp 0 4294967295&&Cb (l.getD (k:Int).toNat ⟨0,0,false⟩).sum 0 4294967295):=by
     rw [Ab,List.getD_eq_getElem?_getD,List.getElem?_eq_getElem hk',AQ,List.getElem?_eq_getElem hk',Co,hI]
     simp [CF,Gy]
    have hno:(l.take (k+1)).all CF=false->l.all CF=false:=fun h=>by
     rw [<-Ba (k+1) l,Co,h,Cz]
    refine⟨⟨by omega,by omega⟩,?_⟩
    conv=>whnf
    cases c1:Cb (l.getD (k:Int).toNat ⟨0,0,false⟩).stamp 0 4294967295 with
    | false=>
     rw [c1] at i1
     refine Fn.cl i1 ?_
     exact⟨_,ri,by rw [hno (by rw [hst,c1,Cz])]⟩
    | true=>
     rw [c1] at i1
     refine Fn.cl i1 ?_
     refine⟨⟨by omega,by omega⟩,?_⟩
     conv=>whnf
     cases c2:Cb (l.getD (k:Int).toNat ⟨0,0,false⟩).sum 0 4294967295 with
     | false=>
      rw [c2] at i2
      refine Fn.cl i2 ?_
      exact⟨_,ri,by rw [hno (by rw [hst,c2,Bool.and_false])]⟩
     | true=>
      rw [c2] at i2
      refine Fn.cl i2 ?_
      conv=>whnf
      exact⟨k+1,⟨hk',by rw [hst,c1,c2];rfl⟩,by omega,WkN.r (s:= [0,1]) ⟨⟨rfl,rfl,rfl,A7 (by omega),trivial⟩,⟨rfl,rfl,trivial⟩,rfl,rfl,rfl,rfl,rfl⟩⟩
   ·have ek:k=l.length:=by omega
    exact⟨_,ri,by rw [<-hI,ek,List.take_length]⟩
 ·have hO:FE g l=false:=by rw [FE,hg,decide_eq_false hn];rfl
  rw [hO]
  refine Fn.st Tryz.func256 rfl ?_
  conv=>whnf
  rw [hw,show ((l.length:Int) != g.d+1)=true from bne_iff_ne.2 hn]
  exact⟨_,ri,rfl⟩
theorem Fn.subA {P:Program} {f:FuncId} {args args':List AV} {K:AV->Prop} (h:Fn P f args' K) (hs:SubL args args'):Fn P f args K:=
 ⟨h.go,fun c us hd hM hg hr=>h.calls c us hd hM hg (hs.rdl hr)⟩
theorem S5 {b:List UInt8} {n m p:Nat} (hn:n=b.length - m - p) (c:Ctx) (u:Value) (h:Rd (.sl 1 n fun i=> [.v (.int .u8 (b.getD (i+p+m) 0).toNat)]) c u):Rd (bA ((b.drop m).drop p)) c u:=
 Rd.congr (by rw [Af,Af];exact hn) (fun i _=>by rw [List.getD_eq_getElem?_getD,List.getD_eq_getElem?_getD,List.getElem?_drop,List.getElem?_drop,show i+p+m=m+(p+i) by omega]) h
theorem UB {x:List UInt8} (h:9<=x.length):Hz x=⟨(leN (x.take 4):Nat),(leN ((x.drop 4).take 4):Nat),(x[8].toNat:Int) == 1⟩:=by
 have h8:=Oy h
 unfold Mb at h8
 unfold Hz
 rw [h8]
 rfl
theorem H6 (g:Geo) (b:List UInt8) (hg:A_ g=true):Fn Tryz.prog 205 [.ag (AF g),bA b] fun r=>r = .tp [.ag [Bv ((Ck g b).getD [])], .v (.bool (Ck g b).isSome)]:=by
 obtain⟨h1,h2,h3,h4,h5⟩:=Ak.1 hg
 have hw:IntKind.i64.wrap (g.d+1)=g.d+1:=wi (by omega)
 have hw9:IntKind.i64.wrap (9*(g.d+1))=9*(g.d+1):=wi (by omega)
 have zs:∀ (c:Ctx) (v:Value),Rd (.tp [.ag [.v (.slice none 0 0)], .v (.bool false)]) c v->Rd (.tp [.ag [Bv []], .v (.bool false)]) c v:=BI (m:= [.ag [Bv []], .v (.bool false)]) ⟨AG ⟨AX 3 _,trivial⟩,ri,trivial⟩
 by_cases hn:b.length=9*(g.d+1).toNat
 ·refine Fn.st Tryz.func205 rfl ?_
  conv=>whnf
  rw [hw,hw9,show ((b.length:Int) != 9*(g.d+1))=false by simp only [bne_eq_false_iff_eq];omega]
  conv=>whnf
  refine aLoop.ruleRR Nat (fun k=>([(1,bA b),(2, .bp 0 0),(4, .bp 1 0),(5, .v (.bool false)),(6, .bp 2 0),(7, .v (.int .i64 k))], [.box 23 (AF g), .box 141 [.v (.slice none 0 0)], .box 141 [.ow 3 k], .row 194 3 ((entsOf k b).map Cn)])) (fun k=>(k:Int)<=g.d+1/\JW k b) (fun k=>(g.d+1 - k).toNat) 0 ⟨by omega,fun i hi=>absurd hi (Ai i)⟩
   ⟨_,_,ConvF.refl _ _, [(1002000,194,3)],⟨rfl,rfl,trivial⟩, [0,1,2,3],⟨⟨rfl,rfl,rfl,rfl,rfl,rfl,trivial⟩,⟨rfl,rfl,rfl,rfl,trivial⟩,rfl,rfl,rfl,rfl,rfl⟩⟩ ?_
  rintro k ⟨hk,hA⟩
  conv=>whnf
  refine Aw (fun h6=>?_) (fun h6=>?_) <;> (repeat rw [Ab] at h6) <;> conv=>whnf
  ·have wk9:IntKind.i64.wrap (9*(k:Int))=((9*k:Nat):Int):=by rw [wi (by omega)];omega
   have hlx:(b.drop (9*k)).length=b.length - 9*k:=Af
   have hx9:9<=(b.drop (9*k)).length:=by omega
   rw [wk9]
   refine⟨⟨by omega,by omega,by omega,by omega⟩,?_⟩
   conv=>whnf
   rw [Ab]
   have hv:=Oy hx9
   have he:=UB hx9
   have hes:=entsOf_step k b
   refine⟨⟨by omega,by omega⟩,?_⟩
   conv=>whnf
   have hg8:(b.getD (Int.toNat 8+((9*k:Nat):Int).toNat) 0).toNat=(b.drop (9*k))[8].toNat:=by
    rw [List.getElem_drop,List.getD_eq_getElem?_getD,Ab,show Int.toNat 8+9*k=9*k+8 by omega,List.getElem?_eq_getElem (by omega)];rfl
   obtain⟨Y,hY⟩:∃ Y:Nat,Y=(b.drop (9*k))[8].toNat:=⟨_,rfl⟩
   rw [hg8,<-hY]
   rw [<-hY] at hv he
   by_cases h1Y:Y<=1
   ·rw [show decide ((Y:Int) > 1)=false from decide_eq_false (by omega)]
    conv=>whnf
    have q1:=Ky (b.drop (9*k)) 4 (by omega) (by decide)
    have q2:=Ky ((b.drop (9*k)).drop 4) 4 (by rw [Af];omega) (by decide)
    have hml:k=((entsOf k b).map Cn).length:=by rw [Aa,entsOf_len]
    apply aDraw.treeM (0) tys_ok mixed (.one 0 (.one 1 (.one 2 (.one 4 (.one 5 (.one 7 (.one 8 (.one 9 (.one 10 (.one 3 (.one 6 (.one 11 (.one 12 (.one 13 (.one 14 (.one 15 .fin)))))))))))))))) [32,33,34,35,36,37,38,39,40,41,42,43,44,45,46] (by kernel_rfl)
    ·conv=>whnf
     try (refine And.intro (by first | omega | (simp;done)) ?_;conv=>whnf)
     try (refine And.intro (by first | omega | (simp;done)) ?_;conv=>whnf)
     (refine ACalls.sub [bA (b.drop (9*k)), .v (.int .i64 4)] ⟨AA rfl,ri,trivial⟩ ?_;refine Fn.cl q1 ?_)
     conv=>whnf
     (refine ACalls.sub [bA ((b.drop (9*k)).drop 4), .v (.int .i64 4)] ⟨S5 rfl,ri,trivial⟩ ?_;refine Fn.cl q2 ?_)
     conv=>whnf
     try (refine And.intro (by first | rfl | omega) ?_;conv=>whnf)
     try (refine And.intro (by first | omega | exact⟨by first | rfl | (simp;done) | (simp;omega),by omega⟩) ?_;conv=>whnf)
     try (refine And.intro ⟨rfl,by first | rfl | (simp;done) | (simp;omega),by first | omega | (simp;omega)⟩ ?_;conv=>whnf)
     exact⟨rfl,rfl⟩
    refine⟨k+1,⟨by omega,fun i hi=>?_⟩,by omega,WkN.r (s:= [0,1,2,3]) ⟨⟨rfl,rfl,rfl,rfl,rfl,A7 (by omega),trivial⟩,⟨rfl,rfl,rfl,?_,trivial⟩,rfl,rfl,rfl,rfl,rfl⟩⟩
    ·by_cases hik:i=k
     ·rw [hik,hv];omega
     ·exact hA i (by omega)
    ·rw [hes,Ax,he]
     show hget _ 3=_
     rw [hg8,<-hY]
     rfl
   ·rw [show decide ((Y:Int) > 1)=true from decide_eq_true (by omega)]
    conv=>whnf
    rw [IV (.inr fun hall=>h1Y (by have:=hall k (by omega);omega))]
    exact⟨_,zs,rfl⟩
  ·have ek:k=(g.d+1).toNat:=by omega
   subst ek
   have hT:=Tu g (entsOf (g.d+1).toNat b) hg (by rw [entsOf_len];omega)
   have hR:=RN hn hA
   have hS:=hT.subA (args:= [.ag (AF g), .ag [.sl 3 (g.d+1).toNat fun i=>((entsOf (g.d+1).toNat b).map Cn).getD i []]]) ⟨ri,AG ⟨AH (f:=Cn) (entsOf (g.d+1).toNat b) (by rw [entsOf_len]) rfl,trivial⟩,trivial⟩
   refine Fn.lend hS ⟨by rw [Aa,entsOf_len],rfl⟩ ?_
   rintro _ rfl
   refine⟨rfl,?_⟩
   conv=>whnf
   cases ho:FE g (entsOf (g.d+1).toNat b) with
   | false=>
    rw [hR,ho,if_neg (by decide)]
    exact⟨_,zs,rfl⟩
   | true=>
    rw [hR,ho,if_pos rfl]
    refine⟨(by rw [Aa,entsOf_len]),?_⟩
    exact⟨.tp [.ag [Bv (entsOf (g.d+1).toNat b)], .v (.bool true)],BI ⟨AG ⟨AH (f:=Cn) (entsOf (g.d+1).toNat b) (by rw [entsOf_len]) rfl,trivial⟩,ri,trivial⟩,rfl⟩
 ·refine Fn.st Tryz.func205 rfl ?_
  conv=>whnf
  rw [hw,hw9,show ((b.length:Int) != 9*(g.d+1))=true by simp only [bne_iff_ne,ne_eq];omega]
  conv=>whnf
  rw [IV (.inl hn)]
  exact⟨_,zs,rfl⟩
theorem FA (n lo hi:Int):Fn Tryz.prog 138 [.v (.int .i64 n), .v (.int .i64 lo), .v (.int .i64 hi)] fun r=>r = .v (.bool (Cb n lo hi)):=by
 refine Fn.st Tryz.func138 rfl ?_
 conv=>whnf
 repeat' (first | (refine Ah (fun h=>?_) (fun h=>?_) <;> (try simp at h) <;> conv=>whnf) | (refine aDraw.seq tys_ok mixed (by kernel_rfl) ?_;conv=>whnf) | (refine aSeq.go ?_;conv=>whnf) | (refine And.intro (by omega) ?_;conv=>whnf))
 all_goals exact⟨_,ri,by simp [Cb, *] <;> omega⟩
theorem P0 (g:Geo) (x:Img) (hg:A_ g=true):Fn Tryz.prog 306 [.ag (AF g), .ag (DE x)] fun r=>r = .v (.bool (Bl g x)):=by
 obtain⟨h1,h2,h3,h4,h5⟩:=Ak.1 hg
 have i1:=FA x.zone 0 (g.z - 1)
 have i2:=H6 g x.bytes hg
 have i3:=R7 g x.what hg
 have hE:Bl g x=(Cb x.zone 0 (g.z - 1)&&(if x.what=255 then (Ck g x.bytes).isSome else Cb x.what (-1) (g.d - 1)&&decide (x.bytes.length=8))):=by simp [Bl,hg]
 rw [hE]
 refine Fn.st Tryz.func306 rfl ?_
 conv=>whnf
 rw [wi (show -9223372036854775808<=g.z - 1/\g.z - 1<=9223372036854775807 by omega)]
 cases hz:Cb x.zone 0 (g.z - 1) with
 | false=>
  rw [hz] at i1
  refine Fn.cl i1 ?_
  exact⟨_,ri,rfl⟩
 | true=>
  rw [hz] at i1
  refine Fn.cl i1 ?_
  conv=>whnf
  by_cases h255:x.what=255
  ·rw [show (x.what == 255)=true by simpa using h255,if_pos h255]
   conv=>whnf
   refine Fn.cl i2 ?_
   exact⟨_,ri,rfl⟩
  ·rw [show (x.what == 255)=false by simpa using h255,if_neg h255]
   conv=>whnf
   cases hw:Cb x.what (-1) (g.d - 1) with
   | false=>
    rw [hw] at i3
    refine Fn.cl i3 ?_
    exact⟨_,ri,rfl⟩
   | true=>
    rw [hw] at i3
    refine Fn.cl i3 ?_
    conv=>whnf
    exact⟨_,ri,congrArg (fun b=>AV.v (.bool b)) (by rw [C5];simp;omega)⟩
theorem Xx (x:Img):decide (x=⟨0,0, []⟩)=FF x:=by
 obtain⟨zone,what,bytes⟩:=x
 rw [C5]
 simp only [decide_eq_true_eq,FF,Img.mk.injEq,Bool.and_eq_true,beq_iff_eq]
 refine⟨fun⟨h1,h2,h3⟩=>⟨h1,h2,by rw [h3];rfl⟩,fun⟨h1,h2,h3⟩=>⟨h1,h2,?_⟩⟩
 exact AC.1 (by omega)
theorem NU (g:Geo) (x:Rc) (hl:x.img.bytes.length<=100000) (hg:A_ g=true):Fn Tryz.prog 302 [.ag (AF g), .ag (FB x)] fun r=>r = .v (.bool (Eb g x)):=by
 have hE:Eb g x=Fy g x:=by simp [Eb,hg]
 have hi:=Uo x.img ⟨0,0, []⟩ (by omega)
 rw [Xx] at hi
 have hm:=P0 g x.img hg
 rw [hE]
 refine Fn.st Tryz.func302 rfl ?_
 conv=>whnf
 refine ACalls.sub [.ag (DE x.img), .ag (DE ⟨0,0, []⟩)] ⟨ri,AG ⟨ri,ri,AX 1 _,trivial⟩,trivial⟩ ?_
 refine Fn.cl hi ?_
 conv=>whnf
 by_cases k0:x.kind=0
 ·rw [show (x.kind == 0)=true by simpa using k0]
  have hB:Fy g x=(x.seq == 0&&(x.epoch == 0&&(x.at_ == 0&&(x.of_ == 0&&FF x.img)))):=by unfold Fy;rw [if_pos k0]
  rw [hB]
  conv=>whnf
  cases h0:x.seq == 0 with
  | false=>
   exact⟨_,ri,rfl⟩
  | true=>
   conv=>whnf
   cases h1:x.epoch == 0 with
   | false=>
    exact⟨_,ri,rfl⟩
   | true=>
    conv=>whnf
    cases h2:x.at_ == 0 with
    | false=>
     exact⟨_,ri,rfl⟩
    | true=>
     conv=>whnf
     cases h3:x.of_ == 0 with
     | false=>
      exact⟨_,ri,rfl⟩
     | true=>
      exact⟨_,ri,rfl⟩
 ·rw [show (x.kind == 0)=false by simpa using k0]
  conv=>whnf
  have i1:=FA x.seq 0 4294967295
  have i2:=FA x.epoch 0 4294967295
  have i3:=FA x.of_ 2 30
  have i4:=FA x.at_ 0 (x.of_ - 2)
  have hB:Fy g x=if x.kind=1 then EM x&&(Cb x.at_ 0 (x.of_ - 2)&&Bl g x.img) else if x.kind=2 then EM x&&(x.at_ == x.of_ - 1&&FF x.img) else false:=by unfold Fy;rw [if_neg k0]
  rw [hB]
  by_cases hN:EM x=true
  ·have hN':=hN
   simp only [EM,Bool.and_eq_true] at hN'
   obtain⟨n1,n2,n3⟩:=hN'
   have hof:=A0.1 n3
   rw [n1] at i1
   rw [n2] at i2
   rw [n3] at i3
   rw [hN,Bj,Bj]
   refine Fn.cl i1 ?_
   conv=>whnf
   refine Fn.cl i2 ?_
   conv=>whnf
   refine Fn.cl i3 ?_
   conv=>whnf
   by_cases k2:x.kind=2
   ·rw [show (x.kind == 2)=true by simpa using k2,if_neg (by omega),if_pos k2]
    conv=>whnf
    rw [wi (show -9223372036854775808<=x.of_ - 1/\x.of_ - 1<=9223372036854775807 by omega)]
    cases h1:x.at_ == x.of_ - 1 with
    | false=>
     exact⟨_,ri,rfl⟩
    | true=>
     exact⟨_,ri,rfl⟩
   ·rw [show (x.kind == 2)=false by simpa using k2,if_neg k2]
    conv=>whnf
    by_cases k1:x.kind=1
    ·rw [show (x.kind == 1)=true by simpa using k1,if_pos k1]
     conv=>whnf
     rw [wi (show -9223372036854775808<=x.of_ - 2/\x.of_ - 2<=9223372036854775807 by omega)]
     cases h1:Cb x.at_ 0 (x.of_ - 2) with
     | false=>
      rw [h1] at i4
      refine Fn.cl i4 ?_
      exact⟨_,ri,rfl⟩
     | true=>
      rw [h1] at i4
      refine Fn.cl i4 ?_
      conv=>whnf
      refine Fn.cl hm ?_
      exact⟨_,ri,rfl⟩
    ·rw [show (x.kind == 1)=false by simpa using k1,if_neg k1]
     exact⟨_,ri,rfl⟩
  ·have hN:EM x=false:=by simpa using hN
   have hF:(if x.kind=1 then EM x&&(Cb x.at_ 0 (x.of_ - 2)&&Bl g x.img) else if x.kind=2 then EM x&&(x.at_ == x.of_ - 1&&FF x.img) else false)=false:=by rw [hN];simp
   rw [hF]
   cases n1:Cb x.seq 0 4294967295 with
   | false=>
    rw [n1] at i1
    refine Fn.cl i1 ?_
    exact⟨_,ri,rfl⟩
   | true=>
    rw [n1] at i1
    refine Fn.cl i1 ?_
    conv=>whnf
    cases n2:Cb x.epoch 0 4294967295 with
    | false=>
     rw [n2] at i2
     refine Fn.cl i2 ?_
     exact⟨_,ri,rfl⟩
    | true=>
     rw [n2] at i2
     have n3:Cb x.of_ 2 30=false:=by simpa [EM,n1,n2] using hN
     rw [n3] at i3
     refine Fn.cl i2 ?_
     conv=>whnf
     refine Fn.cl i3 ?_
     exact⟨_,ri,rfl⟩
theorem Oi {b:List UInt8} {i:Nat} (h:i<b.length):Dq (b.drop i)=b[i].toNat:=by
 rw [AL h]
 show b[i].toNat+256*0=b[i].toNat
 omega
theorem Xh (x:UInt8):IntKind.i64.wrap (x.toNat:Int)=(x.toNat:Int):=wi (by have:=x.toNat_lt;omega)
theorem TL (g:Geo) (b:List UInt8) (hl:b.length<=100000) (hg:A_ g=true):Fn Tryz.prog 295 [.ag (AF g),bA b] fun r=>r = .tp [.ag (FB ((Fb g b).getD zeroC)), .v (.bool (Fb g b).isSome)]:=by
 have zs:∀ (e:Value) (c:Ctx) (v:Value),Rd (.tp [.ag [.v (.int .i64 0), .v (.int .i64 0), .v (.int .i64 0), .v (.int .i64 0), .v (.int .i64 0), .v (.int .i64 0), .v (.int .i64 0), .v (.slice none 0 0)], .v e]) c v->Rd (.tp [.ag (FB zeroC), .v e]) c v:=fun e=>BI (m:= [.ag (FB zeroC), .v e]) ⟨by repeat' (first | exact trivial | exact fun _ _ h=>h | exact AX _ _ | refine And.intro ?_ ?_ | refine AG ?_),ri,trivial⟩
 by_cases h11:b.length<11
 ·rw [Ob h11]
  refine Fn.st Tryz.func295 rfl ?_
  conv=>whnf
  refine Aw (fun _=>?_) (fun hq=>absurd h11 (by omega))
  exact⟨_,zs _,rfl⟩
 ·have h11':11<=b.length:=by omega
  have hp:=Oj h11'
  have q1:=E5 (b.drop 1) 4 (by rw [Af];omega) (by decide)
  have q2:=E5 (b.drop 5) 4 (by rw [Af];omega) (by decide)
  have hgd:∀ i (h:i<b.length),b.getD i 0=b[i]:=fun i h=>by rw [List.getD_eq_getElem?_getD,List.getElem?_eq_getElem h];rfl
  refine Fn.st Tryz.func295 rfl ?_
  conv=>whnf
  refine Aw (fun hq=>absurd hq (by omega)) (fun hq=>?_)
  conv=>whnf
  apply aDraw.treeM (0) tys_ok mixed (.one 0 (.one 1 (.one 2 (.one 3 (.one 4 (.one 5 (.one 7 (.one 8 (.one 10 (.one 11 (.one 12 (.one 13 (.one 14 (.one 15 (.one 16 (.one 17 (.two 6 (.two 9 (.one 18 (.one 19 (.one 20 .fin))) 19 (.one 9 (.one 18 (.one 20 .fin)))) 19 (.one 6 (.one 9 (.one 18 (.one 20 .fin))))))))))))))))))))) [6,11,12,13,14,15,16,17,18,19,20,21,22,23,24,25,26,27,28,29] (by kernel_rfl)
  ·conv=>whnf
   try (refine And.intro (by first | omega | (simp;done)) ?_;conv=>whnf)
   try (refine And.intro (by first | omega | (simp;done)) ?_;conv=>whnf)
   try (refine And.intro (by first | omega | (simp;done)) ?_;conv=>whnf)
   try (refine And.intro (by first | omega | (simp;done)) ?_;conv=>whnf)
   try (refine And.intro (by first | omega | (simp;done)) ?_;conv=>whnf)
   refine And.intro ?_ ?_
   ·conv=>whnf
    (refine ACalls.sub [bA (b.drop 1), .v (.int .i64 4)] ⟨AA (by omega),ri,trivial⟩ ?_;refine Fn.cl q1 ?_)
    refine And.intro ?_ ?_
    ·conv=>whnf
     (refine ACalls.sub [bA (b.drop 5), .v (.int .i64 4)] ⟨AA (by omega),ri,trivial⟩ ?_;refine Fn.cl q2 ?_)
     conv=>whnf
     try (refine And.intro ⟨rfl,by first | rfl | (simp;done) | (simp;omega),by first | omega | (simp;omega)⟩ ?_;conv=>whnf)
     exact⟨rfl,rfl⟩
    ·conv=>whnf
     (refine ACalls.sub [bA (b.drop 5), .v (.int .i64 4)] ⟨AA (by omega),ri,trivial⟩ ?_;refine Fn.cl q2 ?_)
     conv=>whnf
     try (refine And.intro ⟨rfl,by first | rfl | (simp;done) | (simp;omega),by first | omega | (simp;omega)⟩ ?_;conv=>whnf)
     exact⟨rfl,rfl⟩
   ·conv=>whnf
    (refine ACalls.sub [bA (b.drop 1), .v (.int .i64 4)] ⟨AA (by omega),ri,trivial⟩ ?_;refine Fn.cl q1 ?_)
    conv=>whnf
    (refine ACalls.sub [bA (b.drop 5), .v (.int .i64 4)] ⟨AA (by omega),ri,trivial⟩ ?_;refine Fn.cl q2 ?_)
    conv=>whnf
    try (refine And.intro ⟨rfl,by first | rfl | (simp;done) | (simp;omega),by first | omega | (simp;omega)⟩ ?_;conv=>whnf)
    exact⟨rfl,rfl⟩
  conv=>whnf
  repeat' (first | (refine aSeq.go ?_;conv=>whnf) | fail)
  rw [Xh,Xh,Xh,show b.getD (Int.toNat 0) 0=b[0] from hgd 0 (by omega),show b.getD (Int.toNat 9) 0=b[9] from hgd 9 (by omega),show b.getD (Int.toNat 10) 0=b[10] from hgd 10 (by omega)]
  by_cases hk:b[0].toNat=1
  ·rw [show (((b[0].toNat:Nat):Int) == 1)=true by rw [hk];rfl]
   conv=>whnf
   by_cases h14:b.length<14
   ·refine Aw (fun hq=>?_) (fun hq=>absurd h14 (by omega))
    conv=>whnf
    rw [IW h11' (by rw [hp,if_pos (by simp only;omega)];omega)]
    exact⟨_,zs _,rfl⟩
   ·refine Aw (fun hq=>absurd hq (by omega)) (fun hq=>?_)
    refine⟨⟨by omega,by omega⟩,?_⟩
    conv=>whnf
    have h13:Dq (b.drop 13)=b[13].toNat:=Oi (by omega)
    have hx:=b[13].toNat_lt
    obtain⟨n13,e13⟩:∃ n,n=b[13].toNat:=⟨_,rfl⟩
    have g13:(b.getD (Int.toNat 13) 0).toNat=n13:=by rw [e13];exact congrArg UInt8.toNat (hgd 13 (by omega))
    rw [<-e13] at h13 hx
    rw [Xh,g13,wi (by omega)]
    by_cases hn:b.length=14+n13
    ·rw [show ((b.length:Int) != (14:Int)+((n13:Nat):Int))=false by simp only [bne_eq_false_iff_eq];omega]
     conv=>whnf
     have htw:=Dh (b.drop 14) (by rw [Af];omega)
     apply aDraw.treeM (0) tys_ok mixed (.one 0 (.one 1 (.one 2 (.one 3 (.one 4 (.one 5 (.one 6 (.one 7 (.one 8 (.one 9 (.one 10 (.one 11 (.one 12 (.one 13 .fin)))))))))))))) [47,48,49,50,51,52,53,54,55,56,57,58,59] (by kernel_rfl)
     ·conv=>whnf
      try (refine And.intro (by first | omega | (simp;done)) ?_;conv=>whnf)
      try (refine And.intro (by first | omega | (simp;done)) ?_;conv=>whnf)
      try (refine And.intro (by first | omega | (simp;done)) ?_;conv=>whnf)
      (refine ACalls.sub [bA (b.drop 14)] ⟨AA (by omega),trivial⟩ ?_;refine Fn.cl htw ?_)
      conv=>whnf
      try (refine And.intro ⟨rfl,by first | rfl | (simp;done) | (simp;omega),by first | omega | (simp;omega)⟩ ?_;conv=>whnf)
      exact⟨rfl,rfl⟩
     conv=>whnf
     obtain⟨n12,e12⟩:∃ n:Nat,n=b[12].toNat:=⟨_,rfl⟩
     have g12:(b.getD (Int.toNat 12) 0).toNat=n12:=by rw [e12];exact congrArg UInt8.toNat (hgd 12 (by omega))
     obtain⟨n11,e11⟩:∃ n:Nat,n=b[11].toNat:=⟨_,rfl⟩
     have g11:(b.getD (Int.toNat 11) 0).toNat=n11:=by rw [e11];exact congrArg UInt8.toNat (hgd 11 (by omega))
     obtain⟨R,hR⟩:∃ R:Rc,R=⟨(b[0].toNat:Nat),(leN ((b.drop 1).take 4):Nat),(leN ((b.drop 5).take 4):Nat),(b[9].toNat:Nat),(b[10].toNat:Nat),⟨(n11:Nat),Hr (n12:Nat),b.drop 14⟩⟩:=⟨_,rfl⟩
     have hP:CO b=R:=by rw [hp,if_pos (by omega),Cg (by rw [h13];exact hn),hR,e11,e12]
     have hRR:=LR (g:=g) h11' (by rw [hp,if_pos (by simp only;omega),h13];exact hn)
     rw [hP] at hRR
     have hrec:=NU g R (by rw [hR];show (b.drop 14).length<=100000;rw [Af];omega) hg
     rw [Xh,Xh,g12,g11]
     repeat' (first | (refine aSeq.go ?_;conv=>whnf) | fail)
     by_cases h254:n12=254
     ·have eW:Hr (n12:Nat) = -1:=by rw [h254];rfl
      rw [show (((n12:Nat):Int) == 254)=true by rw [h254];rfl]
      conv=>whnf
      refine ACalls.sub [.ag (AF g), .ag (FB R)] ⟨ri,AG (show SubL _ (FB R) by rw [hR,eW];exact⟨ri,ri,ri,ri,ri,ri,ri,ri,trivial⟩),trivial⟩ ?_
      cases hok:Eb g R with
      | false=>
       rw [hok] at hrec
       rw [hRR,if_neg (by rw [hok];simp)]
       refine Fn.cl hrec ?_
       exact⟨_,zs _,rfl⟩
      | true=>
       rw [hok] at hrec
       rw [hRR,if_pos hok]
       refine Fn.cl hrec ?_
       conv=>whnf
       exact⟨_,BI (m:= [.ag (FB R), .v (.bool true)]) ⟨AG (show SubL _ (FB R) by rw [hR,eW];exact⟨ri,ri,ri,ri,ri,ri,ri,ri,trivial⟩),ri,trivial⟩,rfl⟩
     ·have eW:Hr (n12:Nat)=(n12:Nat):=if_neg (by omega)
      rw [show (((n12:Nat):Int) == 254)=false by rw [beq_eq_false_iff_ne];omega]
      conv=>whnf
      refine ACalls.sub [.ag (AF g), .ag (FB R)] ⟨ri,AG (show SubL _ (FB R) by rw [hR,eW];exact⟨ri,ri,ri,ri,ri,ri,ri,ri,trivial⟩),trivial⟩ ?_
      cases hok:Eb g R with
      | false=>
       rw [hok] at hrec
       rw [hRR,if_neg (by rw [hok];simp)]
       refine Fn.cl hrec ?_
       exact⟨_,zs _,rfl⟩
      | true=>
       rw [hok] at hrec
       rw [hRR,if_pos hok]
       refine Fn.cl hrec ?_
       conv=>whnf
       exact⟨_,BI (m:= [.ag (FB R), .v (.bool true)]) ⟨AG (show SubL _ (FB R) by rw [hR,eW];exact⟨ri,ri,ri,ri,ri,ri,ri,ri,trivial⟩),ri,trivial⟩,rfl⟩
    ·rw [IW h11' (by rw [hp,if_pos (by simp only;omega),h13];exact hn)]
     rw [show ((b.length:Int) != (14:Int)+((n13:Nat):Int))=true by rw [bne_iff_ne];omega]
     exact⟨_,zs _,rfl⟩
  ·rw [show (((b[0].toNat:Nat):Int) == 1)=false by simpa using (by omega:¬((b[0].toNat:Nat):Int)=1)]
   conv=>whnf
   by_cases hn:b.length=11
   ·obtain⟨R,hR⟩:∃ R:Rc,R=⟨(b[0].toNat:Nat),(leN ((b.drop 1).take 4):Nat),(leN ((b.drop 5).take 4):Nat),(b[9].toNat:Nat),(b[10].toNat:Nat),noImg⟩:=⟨_,rfl⟩
    have hP:CO b=R:=by rw [hp,if_neg (by omega),hR]
    have hRR:=LR (g:=g) h11' (by rw [hp,if_neg (by simp only;omega)];exact hn)
    rw [hP] at hRR
    have hrec:=NU g R (by rw [hR];show 0<=100000;decide) hg
    have hsb:SubL [.v (.int .i64 (b[0].toNat:Nat)), .v (.int .i64 (leN ((b.drop 1).take 4):Nat)), .v (.int .i64 (leN ((b.drop 5).take 4):Nat)), .v (.int .i64 (b[9].toNat:Nat)), .v (.int .i64 (b[10].toNat:Nat)), .v (.int .i64 0), .v (.int .i64 0), .v (.slice none 0 0)] (FB R):=by
     rw [hR]
     exact⟨fun _ _ h=>h,fun _ _ h=>h,fun _ _ h=>h,fun _ _ h=>h,fun _ _ h=>h,fun _ _ h=>h,fun _ _ h=>h,AX 1 _,trivial⟩
    rw [show ((b.length:Int) != 11)=false by rw [hn];rfl]
    conv=>whnf
    refine ACalls.sub [.ag (AF g), .ag (FB R)] ⟨ri,AG hsb,trivial⟩ ?_
    cases hok:Eb g R with
    | false=>
     rw [hok] at hrec
     rw [hRR,if_neg (by rw [hok];simp)]
     refine Fn.cl hrec ?_
     exact⟨_,zs _,rfl⟩
    | true=>
     rw [hok] at hrec
     rw [hRR,if_pos hok]
     refine Fn.cl hrec ?_
     exact⟨_,BI (m:= [.ag (FB R), .v (.bool true)]) ⟨AG hsb,ri,trivial⟩,rfl⟩
   ·rw [IW h11' (by rw [hp,if_neg (by simp only;omega)];exact hn)]
    rw [show ((b.length:Int) != 11)=true by simpa using (by omega:¬(b.length:Int)=11)]
    exact⟨_,zs _,rfl⟩
theorem Cu (g:Geo) (copy slot:Int) (hg:A_ g=true) (hl:J9 g copy slot=true):Fn Tryz.prog 73 [.ag (AF g), .v (.int .i64 copy), .v (.int .i64 slot)] fun r=>r = .v (.int .i64 (Bz g copy slot)):=by
 obtain⟨h1,h2,h3,h4,h5⟩:=Ak.1 hg
 simp only [J9,Bool.and_eq_true,A0] at hl
 refine Fn.st Tryz.func73 rfl ?_
 refine⟨_,fun _ _ h=>h,?_⟩
 have hm:0<=copy*g.sl/\copy*g.sl<=30:=by
  rcases(show copy=0\/copy=1 by omega) with rfl | rfl <;> omega
 rw [wi (n:=copy*g.sl) (by omega),wi (n:=g.an+copy*g.sl) (by omega),wi (n:=g.an+copy*g.sl+slot) (by omega)]
 rfl
def BE (x:Gt) (addr:Int):Option Sec:=if x.err=0/\DJ x.bytes=0/\DU x.bytes=addr then some ⟨DU x.bytes,Dd x.bytes,CL x.bytes⟩ else none
def zeroS:Sec:=⟨0,0, []⟩
theorem IK (c:Ctx) (u:Value) (b:Bool) (h:Rd (.tp [.ag [.v (.int .i64 0), .v (.int .i64 0), .v (.slice none 0 0)], .v (.bool b)]) c u):Rd (.tp [.ag (R6 zeroS), .v (.bool b)]) c u:=by
 refine BI ?_ c u h
 exact⟨AG ⟨ri,ri,AX _ _,trivial⟩,ri,trivial⟩
theorem Ha (x:Gt) (addr:Int) (hl:x.bytes.length<=100000):Fn Tryz.prog 257 [.ag (Db x), .v (.int .i64 addr)] fun r=>r = .tp [.ag (R6 ((BE x addr).getD zeroS)), .v (.bool (BE x addr).isSome)]:=by
 have s1:=NX x.bytes hl
 refine Fn.st Tryz.func257 rfl ?_
 conv=>whnf
 refine Aw (fun t1=>?_) (fun t1=>?_) <;> (repeat rw [Ab] at t1) <;> conv=>whnf
 ·have e:BE x addr=none:=by rw [BE,if_neg (fun h=>t1 h.1)]
  rw [e]
  exact⟨_,fun c v h=>IK c v false h,rfl⟩
 by_cases hO:DJ x.bytes=0
 ·rw [if_pos hO,hO] at s1
  refine Fn.cl s1 ?_
  conv=>whnf
  refine Aw (fun t2=>?_) (fun t2=>?_) <;> (repeat rw [Ab] at t2) <;> conv=>whnf
  ·have e:BE x addr=none:=by rw [BE,if_neg (fun h=>t2 h.2.2)]
   rw [e]
   exact⟨_,fun c v h=>IK c v false h,rfl⟩
  ·have e:BE x addr=some ⟨DU x.bytes,Dd x.bytes,CL x.bytes⟩:=by rw [BE,if_pos ⟨t1,hO,t2⟩]
   rw [e]
   exact⟨_,ri,rfl⟩
 ·rw [if_neg hO] at s1
  refine Fn.cl s1 ?_
  conv=>whnf
  have e:BE x addr=none:=by rw [BE,if_neg (fun h=>hO h.2.1)]
  rw [e]
  refine Aw (fun t2=>?_) (fun t2=>?_) <;> (repeat rw [Ab] at t2) <;> conv=>whnf
  ·exact⟨_,fun c v h=>IK c v false h,rfl⟩
  ·exact absurd t2 hO
theorem Tm (g:Geo) (x:Gt) (copy slot:Int) (hg:A_ g=true) (hL:J9 g copy slot=true):De g x copy slot=match BE x (Bz g copy slot) with | none=>none | some s=>match Fb g s.pay with | some r=>if r.seq=s.stamp then some r else none | none=>none:=by
 unfold De BE
 rw [hg,hL]
 by_cases h1:x.err=0 <;> by_cases h2:DJ x.bytes=0 <;> by_cases h3:DU x.bytes=Bz g copy slot <;> simp [h1,h2,h3] <;> rfl
theorem NK {x:Gt} {a:Int} {s:Sec} (h:BE x a=some s):s.pay.length<=x.bytes.length:=by
 unfold BE at h
 split at h
 ·cases h;simp [CL];omega
 ·cases h
theorem K2 (g:Geo) (x:Gt) (copy slot:Int) (hl:x.bytes.length<=100000) (hg:A_ g=true) (hL:J9 g copy slot=true):Fn Tryz.prog 275 [.ag (AF g), .ag (Db x), .v (.int .i64 copy), .v (.int .i64 slot)] fun r=>r = .tp [.ag (FB ((De g x copy slot).getD zeroC)), .v (.bool (De g x copy slot).isSome)]:=by
 have s1:=Ha x (Bz g copy slot) hl
 rw [Tm g x copy slot hg hL]
 cases hS:BE x (Bz g copy slot) with
 | none=>
  rw [hS] at s1
  refine Fn.st Tryz.func275 rfl ?_
  conv=>whnf
  apply aDraw.tree tys_ok mixed (.one 0 (.one 1 (.one 2 (.one 3 (.two 4 (.two 5 (.one 6 (.one 7 (.one 8 (.one 9 (.one 10 (.one 11 .fin)))))) 9 (.one 5 (.one 6 (.one 7 (.one 8 (.one 10 (.one 11 .fin))))))) 9 (.one 4 (.one 5 (.one 6 (.one 7 (.one 8 (.one 10 (.one 11 .fin)))))))))))) [10,11,13,14,15,16,17,18,19,20,21] (by kernel_rfl)
  ·refine And.intro ?_ ?_
   ·conv=>whnf
    refine Fn.cl (Cu g copy slot hg hL) ?_
    refine And.intro ?_ ?_
    ·conv=>whnf
     refine Fn.cl s1 ?_
     conv=>whnf
     try (refine And.intro ⟨rfl,by first | rfl | (simp;done) | (simp;omega),by first | omega | (simp;omega)⟩ ?_;conv=>whnf)
     exact⟨rfl,rfl⟩
    ·conv=>whnf
     refine Fn.cl s1 ?_
     conv=>whnf
     try (refine And.intro ⟨rfl,by first | rfl | (simp;done) | (simp;omega),by first | omega | (simp;omega)⟩ ?_;conv=>whnf)
     exact⟨rfl,rfl⟩
   ·conv=>whnf
    refine Fn.cl (Cu g copy slot hg hL) ?_
    conv=>whnf
    refine Fn.cl s1 ?_
    conv=>whnf
    try (refine And.intro ⟨rfl,by first | rfl | (simp;done) | (simp;omega),by first | omega | (simp;omega)⟩ ?_;conv=>whnf)
    exact⟨rfl,rfl⟩
  exact⟨_,fun c v h=>J_ c v false h,rfl⟩
 | some s=>
  rw [hS] at s1
  have hp:=NK hS
  have s2:=TL g s.pay (by omega) hg
  cases hR:Fb g s.pay with
  | none=>
   rw [hR] at s2
   refine Fn.st Tryz.func275 rfl ?_
   conv=>whnf
   apply aDraw.tree tys_ok mixed (.one 0 (.one 1 (.one 2 (.one 3 (.two 4 (.two 5 (.one 6 (.one 7 (.one 8 (.one 9 (.one 10 (.one 11 .fin)))))) 9 (.one 5 (.one 6 (.one 7 (.one 8 (.one 10 (.one 11 .fin))))))) 9 (.one 4 (.one 5 (.one 6 (.one 7 (.one 8 (.one 10 (.one 11 .fin)))))))))))) [10,11,13,14,15,16,17,18,19,20,21] (by kernel_rfl)
   ·refine And.intro ?_ ?_
    ·conv=>whnf
     refine Fn.cl (Cu g copy slot hg hL) ?_
     refine And.intro ?_ ?_
     ·conv=>whnf
      refine Fn.cl s1 ?_
      conv=>whnf
      try (refine And.intro ⟨rfl,by first | rfl | (simp;done) | (simp;omega),by first | omega | (simp;omega)⟩ ?_;conv=>whnf)
      exact⟨rfl,rfl⟩
     ·conv=>whnf
      refine Fn.cl s1 ?_
      conv=>whnf
      try (refine And.intro ⟨rfl,by first | rfl | (simp;done) | (simp;omega),by first | omega | (simp;omega)⟩ ?_;conv=>whnf)
      exact⟨rfl,rfl⟩
    ·conv=>whnf
     refine Fn.cl (Cu g copy slot hg hL) ?_
     conv=>whnf
     refine Fn.cl s1 ?_
     conv=>whnf
     try (refine And.intro ⟨rfl,by first | rfl | (simp;done) | (simp;omega),by first | omega | (simp;omega)⟩ ?_;conv=>whnf)
     exact⟨rfl,rfl⟩
   conv=>whnf
   refine Fn.cl s2 ?_
   conv=>whnf
   exact⟨_,fun c v h=>J_ c v false h,by simp only [hR];rfl⟩
  | some r=>
   rw [hR] at s2
   refine Fn.st Tryz.func275 rfl ?_
   conv=>whnf
   apply aDraw.tree tys_ok mixed (.one 0 (.one 1 (.one 2 (.one 3 (.two 4 (.two 5 (.one 6 (.one 7 (.one 8 (.one 9 (.one 10 (.one 11 .fin)))))) 9 (.one 5 (.one 6 (.one 7 (.one 8 (.one 10 (.one 11 .fin))))))) 9 (.one 4 (.one 5 (.one 6 (.one 7 (.one 8 (.one 10 (.one 11 .fin)))))))))))) [10,11,13,14,15,16,17,18,19,20,21] (by kernel_rfl)
   ·refine And.intro ?_ ?_
    ·conv=>whnf
     refine Fn.cl (Cu g copy slot hg hL) ?_
     refine And.intro ?_ ?_
     ·conv=>whnf
      refine Fn.cl s1 ?_
      conv=>whnf
      try (refine And.intro ⟨rfl,by first | rfl | (simp;done) | (simp;omega),by first | omega | (simp;omega)⟩ ?_;conv=>whnf)
      exact⟨rfl,rfl⟩
     ·conv=>whnf
      refine Fn.cl s1 ?_
      conv=>whnf
      try (refine And.intro ⟨rfl,by first | rfl | (simp;done) | (simp;omega),by first | omega | (simp;omega)⟩ ?_;conv=>whnf)
      exact⟨rfl,rfl⟩
    ·conv=>whnf
     refine Fn.cl (Cu g copy slot hg hL) ?_
     conv=>whnf
     refine Fn.cl s1 ?_
     conv=>whnf
     try (refine And.intro ⟨rfl,by first | rfl | (simp;done) | (simp;omega),by first | omega | (simp;omega)⟩ ?_;conv=>whnf)
     exact⟨rfl,rfl⟩
   conv=>whnf
   refine Fn.cl s2 ?_
   conv=>whnf
   refine Aw (fun t=>?_) (fun t=>?_) <;> (repeat rw [Ab] at t) <;> (try simp only [Bm] at t) <;> conv=>whnf
   ·exact⟨_,fun c v h=>J_ c v false h,by simp only [hR,if_neg t];rfl⟩
   ·exact⟨_,ri,by simp only [hR,if_pos t];rfl⟩
def Dr (o:Option Rc) (a:An) (seq at_ of_ left:Int):Bool:=match o with | some r=>C2 r a seq at_ of_ left | none=>false
def BR (p q:Option Rc) (b1 b2:Bool):Rc × List Int × Int:=
 if b1&&b2 then (p.getD zeroC, [],1) else if b1 then (p.getD zeroC, [1],1) else if b2 then (q.getD zeroC, [0],1) else if p.isSome || q.isSome then (zeroC, [],2) else (zeroC, [],3)
def DL (g:Geo) (a:An) (x y:Gt) (slot seq at_ of_ left:Int):Rc × List Int × Int:=
 BR (De g x 0 slot) (De g y 1 slot) (Dr (De g x 0 slot) a seq at_ of_ left) (Dr (De g y 1 slot) a seq at_ of_ left)
def Cc (g:Geo):Int:=g.d+1+g.sp
def Aq (g:Geo):Int:=g.an+2*g.sl+2*g.z+g.z*Cc g
def AD (g:Geo) (z k:Int):Int:=g.an+2*g.sl+2*z+k
def BG (g:Geo) (z s:Int):Int:=g.an+2*g.sl+2*g.z+z*Cc g+s
theorem Ga {g:Geo} (hg:A_ g=true):2<=Cc g/\Cc g<=7:=by
 obtain⟨h1,h2,h3,h4,h5⟩:=Ak.1 hg
 unfold Cc;omega
theorem FP {g:Geo} (hg:A_ g=true) {z:Int} (hz:0<=z/\z<=4):0<=z*Cc g/\z*Cc g<=28:=by
 obtain⟨p1,p2⟩:=Ga hg
 rcases(show z=0\/z=1\/z=2\/z=3\/z=4 by omega) with rfl | rfl | rfl | rfl | rfl <;> omega
theorem D_ {g:Geo} (hg:A_ g=true):32<=Aq g/\Aq g<=99:=by
 obtain⟨h1,h2,h3,h4,h5⟩:=Ak.1 hg
 obtain⟨p1,p2⟩:=Ga hg
 have:=FP hg (z:=g.z) (by omega)
 unfold Aq
 rcases(show g.z=1\/g.z=2\/g.z=3\/g.z=4 by omega) with h | h | h | h <;> rw [h] at this |- <;> omega
theorem KQ (g:Geo) (hg:A_ g=true):Fn Tryz.prog 229 [.ag (AF g)] fun r=>r = .v (.int .i64 (g.an+2*g.sl)):=by
 obtain⟨h1,h2,h3,h4,h5⟩:=Ak.1 hg
 refine Fn.st Tryz.func229 rfl ?_
 exact⟨_,ri,by rw [wi (n:=2*g.sl) (by omega),wi (by omega)]⟩
theorem Jk (g:Geo) (hg:A_ g=true):Fn Tryz.prog 220 [.ag (AF g)] fun r=>r = .v (.int .i64 (Cc g)):=by
 obtain⟨h1,h2,h3,h4,h5⟩:=Ak.1 hg
 refine Fn.st Tryz.func220 rfl ?_
 conv=>whnf
 exact⟨_,ri,by rw [wi (n:=g.d+1) (by omega),wi (by omega)];rfl⟩
theorem KR (g:Geo) (hg:A_ g=true):Fn Tryz.prog 219 [.ag (AF g)] fun r=>r = .v (.int .i64 (g.an+2*g.sl+2*g.z)):=by
 obtain⟨h1,h2,h3,h4,h5⟩:=Ak.1 hg
 refine Fn.st Tryz.func219 rfl ?_
 conv=>whnf
 apply aDraw.tree tys_ok mixed (.one 0 (.one 2 (.one 3 (.one 4 (.one 1 (.one 5 (.one 6 .fin))))))) [2,3,4,5,6,7,8] (by kernel_rfl)
 ·conv=>whnf
  refine Fn.cl (KQ g hg) ?_
  exact⟨rfl,rfl⟩
 exact⟨_,ri,by rw [wi (n:=2*g.z) (by omega),wi (by omega)]⟩
theorem PY (g:Geo) (hg:A_ g=true):Fn Tryz.prog 167 [.ag (AF g)] fun r=>r = .v (.int .i64 (Aq g)):=by
 obtain⟨h1,h2,h3,h4,h5⟩:=Ak.1 hg
 have hz:=FP hg (z:=g.z) (by omega)
 have hc:=D_ hg
 refine Fn.st Tryz.func167 rfl ?_
 conv=>whnf
 apply aDraw.tree tys_ok mixed (.one 0 (.one 2 (.one 3 (.one 4 (.one 1 (.one 5 (.one 6 (.one 7 (.one 8 .fin))))))))) [2,3,4,5,6,7,8,9,10] (by kernel_rfl)
 ·conv=>whnf
  refine Fn.cl (KR g hg) ?_
  conv=>whnf
  refine Fn.cl (Jk g hg) ?_
  exact⟨rfl,rfl⟩
 conv=>whnf
 exact⟨_,ri,by rw [wi (n:=g.z*Cc g) (by omega),wi (by omega)];rfl⟩
theorem Sx (g:Geo) (hg:A_ g=true):Fn Tryz.prog 101 [.ag (AF g)] fun r=>r = .tp [.v (.int .i64 (Aq g)), .v (.int .i64 0)]:=by
 have ht:=JQ g (Aq g) true
 rw [hg] at ht
 refine Fn.st Tryz.func101 rfl ?_
 conv=>whnf
 apply aDraw.tree tys_ok mixed (.one 0 (.one 1 (.one 2 (.one 3 (.one 4 (.one 5 (.one 6 (.one 7 .fin)))))))) [2,3,4,5,6,7,8,9] (by kernel_rfl)
 ·conv=>whnf
  refine Fn.cl (PY g hg) ?_
  conv=>whnf
  refine Fn.cl ht ?_
  exact⟨rfl,rfl⟩
 exact⟨_,ri,rfl⟩
theorem KV (g:Geo) (i:Int) (hg:A_ g=true) (hi:0<=i/\i<g.an):Fn Tryz.prog 158 [.ag (AF g), .v (.int .i64 i)] fun r=>r = .tp [.v (.int .i64 i), .v (.int .i64 0)]:=by
 obtain⟨h1,h2,h3,h4,h5⟩:=Ak.1 hg
 have ht:=JQ g i true
 rw [hg] at ht
 have hw:IntKind.i64.wrap (g.an - 1)=g.an - 1:=wi (by omega)
 have hn:=KS i 0 (IntKind.i64.wrap (g.an - 1))
 rw [show Cb i 0 (IntKind.i64.wrap (g.an - 1))=true from A0.2 (by rw [hw];omega)] at hn
 refine Fn.st Tryz.func158 rfl ?_
 conv=>whnf
 apply aDraw.tree tys_ok mixed (.one 0 (.one 1 (.one 2 (.one 3 (.one 4 (.one 5 (.one 6 (.one 7 (.one 8 (.one 9 (.one 10 (.one 11 .fin)))))))))))) [4,5,6,7,8,9,10,11,12,13,14,15] (by kernel_rfl)
 ·conv=>whnf
  refine Fn.cl hn ?_
  conv=>whnf
  refine Fn.cl ht ?_
  exact⟨rfl,rfl⟩
 exact⟨_,ri,rfl⟩
theorem Mn (g:Geo) (z k:Int) (hg:A_ g=true) (hz:0<=z/\z<g.z) (hk:0<=k/\k<=1):Fn Tryz.prog 179 [.ag (AF g), .v (.int .i64 z), .v (.int .i64 k)] fun r=>r = .tp [.v (.int .i64 (AD g z k)), .v (.int .i64 0)]:=by
 obtain⟨h1,h2,h3,h4,h5⟩:=Ak.1 hg
 have e:IntKind.i64.wrap (IntKind.i64.wrap (g.an+2*g.sl+IntKind.i64.wrap (2*z))+k)=AD g z k:=by
  rw [wi (n:=2*z) (by omega),wi (n:=g.an+2*g.sl+2*z) (by omega),wi (by omega)];rfl
 have ht:=JQ g (IntKind.i64.wrap (IntKind.i64.wrap (g.an+2*g.sl+IntKind.i64.wrap (2*z))+k)) true
 rw [hg] at ht
 have hw:IntKind.i64.wrap (g.z - 1)=g.z - 1:=wi (by omega)
 have hn:=KS z 0 (IntKind.i64.wrap (g.z - 1))
 rw [show Cb z 0 (IntKind.i64.wrap (g.z - 1))=true from A0.2 (by rw [hw];omega)] at hn
 have hn2:=KS k 0 1
 rw [show Cb k 0 1=true from A0.2 hk] at hn2
 refine Fn.st Tryz.func179 rfl ?_
 conv=>whnf
 apply aDraw.tree tys_ok mixed (.one 0 (.one 1 (.one 3 (.one 4 (.one 6 (.one 8 (.one 9 (.one 10 (.one 11 (.one 2 (.one 5 (.one 7 (.one 12 (.one 13 (.one 14 (.one 15 (.one 16 (.one 17 (.one 18 (.one 19 (.one 20 (.one 21 .fin)))))))))))))))))))))) [6,7,8,9,10,11,12,13,14,15,16,17,18,19,20,21,22,23,24,25,26,27] (by kernel_rfl)
 ·conv=>whnf
  refine Fn.cl (KQ g hg) ?_
  conv=>whnf
  refine Fn.cl hn ?_
  conv=>whnf
  refine Fn.cl hn2 ?_
  conv=>whnf
  refine Fn.cl ht ?_
  exact⟨rfl,rfl⟩
 conv=>whnf
 exact⟨_,ri,by simp only [Bool.and_self,if_true];rw [e]⟩
theorem Us (g:Geo) (z s:Int) (hg:A_ g=true) (hz:0<=z/\z<g.z) (hs:0<=s/\s<Cc g):Fn Tryz.prog 235 [.ag (AF g), .v (.int .i64 z), .v (.int .i64 s)] fun r=>r = .tp [.v (.int .i64 (BG g z s)), .v (.int .i64 0)]:=by
 obtain⟨h1,h2,h3,h4,h5⟩:=Ak.1 hg
 have hzp:=FP hg (z:=z) (by omega)
 have hp:=Ga hg
 have e:IntKind.i64.wrap (IntKind.i64.wrap (g.an+2*g.sl+2*g.z+IntKind.i64.wrap (z*Cc g))+s)=BG g z s:=by
  rw [wi (n:=z*Cc g) (by omega),wi (n:=g.an+2*g.sl+2*g.z+z*Cc g) (by omega),wi (by omega)];rfl
 have ht:=JQ g (IntKind.i64.wrap (IntKind.i64.wrap (g.an+2*g.sl+2*g.z+IntKind.i64.wrap (z*Cc g))+s)) true
 rw [hg] at ht
 have hw:IntKind.i64.wrap (g.z - 1)=g.z - 1:=wi (by omega)
 have hn:=KS z 0 (IntKind.i64.wrap (g.z - 1))
 rw [show Cb z 0 (IntKind.i64.wrap (g.z - 1))=true from A0.2 (by rw [hw];omega)] at hn
 have hw2:IntKind.i64.wrap (Cc g - 1)=Cc g - 1:=wi (by omega)
 have hn2:=KS s 0 (IntKind.i64.wrap (Cc g - 1))
 rw [show Cb s 0 (IntKind.i64.wrap (Cc g - 1))=true from A0.2 (by rw [hw2];omega)] at hn2
 refine Fn.st Tryz.func235 rfl ?_
 conv=>whnf
 apply aDraw.tree tys_ok mixed (.one 0 (.one 1 (.one 3 (.one 4 (.one 8 (.one 10 (.one 11 (.one 12 (.one 13 (.one 2 (.one 5 (.one 6 (.one 7 (.one 9 (.one 14 (.one 15 (.one 16 (.one 17 (.one 18 (.one 19 (.one 20 (.one 21 (.one 22 (.one 23 (.one 24 (.one 25 (.one 26 .fin))))))))))))))))))))))))))) [6,7,8,9,10,11,12,13,14,15,16,17,18,19,20,21,22,23,24,25,26,27,28,29,30,31,32] (by kernel_rfl)
 ·conv=>whnf
  refine Fn.cl (KR g hg) ?_
  conv=>whnf
  refine Fn.cl (Jk g hg) ?_
  conv=>whnf
  refine Fn.cl hn ?_
  conv=>whnf
  refine Fn.cl (Jk g hg) ?_
  conv=>whnf
  refine Fn.cl hn2 ?_
  conv=>whnf
  refine Fn.cl ht ?_
  exact⟨rfl,rfl⟩
 conv=>whnf
 exact⟨_,ri,by simp only [Bool.and_self,if_true];rw [e]⟩
theorem MS (g:Geo) (hg:A_ g=true):Fn Tryz.prog 28 [.ag (AF g)] fun r=>r = .v (.int .i64 (Cc g)):=by
 obtain⟨h1,h2,h3,h4,h5⟩:=Ak.1 hg
 refine Fn.st Tryz.func28 rfl ?_
 conv=>whnf
 exact⟨_,ri,by rw [wi (n:=g.d+1) (by omega),wi (by omega)];rfl⟩
theorem PD (g:Geo) (hg:A_ g=true):Fn Tryz.prog 116 [.ag (AF g)] fun r=>r = .v (.int .i64 (Aq g)):=by
 obtain⟨h1,h2,h3,h4,h5⟩:=Ak.1 hg
 have hz:=FP hg (z:=g.z) (by omega)
 have hc:=D_ hg
 refine Fn.st Tryz.func116 rfl ?_
 conv=>whnf
 apply aDraw.tree tys_ok mixed (.one 0 (.one 1 (.one 2 (.one 3 (.one 4 (.one 5 (.one 6 (.one 7 (.one 8 (.one 9 (.one 10 (.one 11 (.one 12 (.one 13 (.one 14 (.one 15 (.one 16 .fin))))))))))))))))) [2,3,4,5,6,7,8,9,10,11,12,13,14,15,16,17,18] (by kernel_rfl)
 ·conv=>whnf
  refine Fn.cl (MS g hg) ?_
  exact⟨rfl,rfl⟩
 conv=>whnf
 exact⟨_,ri,by rw [wi (n:=g.z*Cc g) (by omega),wi (n:=2*g.sl) (by omega),wi (n:=2*g.z) (by omega),wi (n:=g.an+2*g.sl) (by omega),wi (n:=g.an+2*g.sl+2*g.z) (by omega),wi (by omega)];rfl⟩
theorem EU (g:Geo) (z k:Int) (hg:A_ g=true) (hz:0<=z/\z<g.z) (hk:0<=k/\k<=1):Fn Tryz.prog 14 [.ag (AF g), .v (.int .i64 z), .v (.int .i64 k)] fun r=>r = .v (.int .i64 (AD g z k)):=by
 obtain⟨h1,h2,h3,h4,h5⟩:=Ak.1 hg
 refine Fn.st Tryz.func14 rfl ?_
 conv=>whnf
 exact⟨_,ri,by rw [wi (n:=2*g.sl) (by omega),wi (n:=2*z) (by omega),wi (n:=g.an+2*g.sl) (by omega),wi (n:=g.an+2*g.sl+2*z) (by omega),wi (by omega)];rfl⟩
theorem NT (g:Geo) (z s:Int) (hg:A_ g=true) (hz:0<=z/\z<g.z) (hs:0<=s/\s<Cc g):Fn Tryz.prog 25 [.ag (AF g), .v (.int .i64 z), .v (.int .i64 s)] fun r=>r = .v (.int .i64 (BG g z s)):=by
 obtain⟨h1,h2,h3,h4,h5⟩:=Ak.1 hg
 have hzp:=FP hg (z:=z) (by omega)
 have hp:=Ga hg
 refine Fn.st Tryz.func25 rfl ?_
 conv=>whnf
 apply aDraw.tree tys_ok mixed (.one 0 (.one 1 (.one 2 (.one 3 (.one 4 (.one 5 (.one 6 (.one 7 (.one 8 (.one 9 (.one 10 (.one 11 (.one 15 (.one 12 (.one 13 (.one 14 (.one 16 (.one 17 .fin)))))))))))))))))) [6,7,8,9,10,11,12,13,14,15,16,17,18,19,20,21,22,23] (by kernel_rfl)
 ·conv=>whnf
  refine Fn.cl (MS g hg) ?_
  exact⟨rfl,rfl⟩
 conv=>whnf
 exact⟨_,ri,by rw [wi (n:=z*Cc g) (by omega),wi (n:=2*g.sl) (by omega),wi (n:=2*g.z) (by omega),wi (n:=g.an+2*g.sl) (by omega),wi (n:=g.an+2*g.sl+2*g.z) (by omega),wi (n:=g.an+2*g.sl+2*g.z+z*Cc g) (by omega),wi (by omega)];rfl⟩
theorem QJ (L:List UInt8):((List.range L.length).map fun i=> [AV.v (Value.int IntKind.u8 ((L.getD i 0).toNat:Int))])=L.map DG:=by
 apply List.ext_getElem
 ·simp
 ·intro i h1 h2
  simp only [Aa,CA] at h1
  simp [DG,List.getD_eq_getElem?_getD,List.getElem?_eq_getElem h1]
theorem EO {L:List UInt8} {n:Nat} {es:List (List AV)} (hn:n=L.length) (he:es=L.map DG) (c:Ctx) (v:Value) (h:Rd (.sl 1 n fun i=>es.getD i []) c v):Rd (bA L) c v:=AH (f:=DG) L hn he c v h
theorem LB (b:List UInt8) (hb:b.length<=1000000000):ACalls Tryz.prog false 45 [bA b] [] fun r H=>r = .ow 0 b.length/\H=[.row 5 1 (b.map DG)]:=by
 refine ACalls.ofC tys_ok Tryz.func45 rfl rfl (Ac rfl) ?_
 refine⟨hb,?_⟩
 exact⟨.ow 0 b.length, .ow 0 b.length, [.row 5 1 (b.map DG)],fun _ _ h=>h,Wk.conv ⟨[],trivial,⟨rfl,trivial⟩,⟨congrArg (AB.row 5 1) (QJ b).symm,trivial⟩,rfl,rfl,rfl⟩,rfl,rfl⟩
theorem GC (l:List UInt8) (n:Int) (m:Nat) (hl:l.length<=1000000) (hn:0<=n/\n<=4294967295) (hm:m<=4):ACalls Tryz.prog false 192 [bA l, .v (.int .i64 n), .v (.int .i64 m)] [] fun r H=>r = .ow 0 (l ++ leB m n.toNat).length/\H=[.row 5 1 ((l ++ leB m n.toNat).map DG)]:=by
 have htw:=LB l (by omega)
 obtain⟨q,rfl⟩:∃ q:Nat,n=q:=⟨n.toNat,by omega⟩
 rw [Ab]
 refine ACalls.ofC tys_ok Tryz.func192 rfl rfl (Ac rfl) ?_
 conv=>whnf
 refine ACalls.beside (htw) rfl ?_
 rintro _ _ ⟨rfl,rfl⟩
 conv=>whnf
 refine aLoop.ruleRR Nat (fun k=>([(1, .v (.int .i64 (q / 256 ^ k:Nat))),(2, .v (.int .i64 m)),(7, .ow 0 (l ++ leB k q).length),(8, .v (.int .i64 k))], [.row 5 1 ((l ++ leB k q).map DG)])) (fun k=>k<=m) (fun k=>m - k) 0 (Ad _)
  (WkN.r (s:= [0]) ⟨⟨congrArg (fun n:Nat=>AV.v (.int .i64 n)) (show q=q / 256 ^ 0 by simp),rfl,congrArg (fun n:Nat=>AV.ow 0 n) (show l.length=(l ++ leB 0 q).length by simp [leB]),rfl,trivial⟩,⟨show some (AB.row 5 1 (l.map DG))=some (AB.row 5 1 ((l ++ leB 0 q).map DG)) by simp [leB],trivial⟩,rfl,rfl,rfl,rfl,rfl⟩) ?_
 intro k hk
 have hstep:=leB_step k q
 have hq:q / 256 ^ k<=4294967295:=AS (Nat.div_le_self _ _) (by omega)
 have hdiv:q / 256 ^ k / 256=q / 256 ^ (k+1):=by rw [Nat.div_div_eq_div_mul,Nat.pow_succ]
 have hlen:(l ++ leB k q).length<=1000004:=by rw [List.length_append,leB_len];omega
 generalize q / 256 ^ k=Q at hstep hq hdiv
 conv=>whnf
 refine Aw (fun h6=>?_) (fun h6=>?_) <;> (repeat rw [Ab] at h6) <;> conv=>whnf
 ·refine⟨rfl,?_⟩
  refine⟨⟨by rw [Aa],by omega⟩,?_⟩
  refine⟨by decide,?_⟩
  conv=>whnf
  have htd:IntKind.i64.wrap ((Q:Int).tdiv 256)=((Q / 256:Nat):Int):=by rw [B8 (by omega),wi (by omega)];omega
  have hU : [[AV.v (Value.int IntKind.u8 (IntKind.u8.wrap (Q:Int)))]]=[UInt8.ofNat (Q % 256)].map DG:=by
   show _=[[AV.v (.int .u8 ((UInt8.ofNat (Q % 256)).toNat:Nat))]]
   rw [Be (show Q % 256<256 by omega),IntKind.wrap_u8]
   rfl
  refine⟨k+1,by omega,by omega,WkN.r (s:= [0]) ⟨⟨congrArg (fun n:Int=>AV.v (.int .i64 n)) (by rw [htd,hdiv]),rfl,congrArg (fun n:Nat=>AV.ow 0 n) (show (l ++ leB k q).length+1=(l ++ leB (k+1) q).length by rw [hstep];simp;omega),A7 (by omega),trivial⟩,⟨?_,trivial⟩,rfl,rfl,rfl,rfl,rfl⟩⟩
  rw [hstep,<-As,Ax,<-hU]
  rfl
 ·have ek:k=m:=by omega
  subst ek
  exact⟨.ow 0 (l ++ leB k q).length, .ow 0 (l ++ leB k q).length, [.row 5 1 ((l ++ leB k q).map DG)],fun _ _ h=>h,Wk.conv ⟨[],trivial,⟨rfl,trivial⟩,⟨rfl,trivial⟩,rfl,rfl,rfl⟩,rfl,rfl⟩
theorem MR (l:List UInt8) (n m:Nat) (hl:l.length<=1000000) (hn:n<=4294967295) (hm:m<=4):Fn Tryz.prog 192 [bA l, .v (.int .i64 n), .v (.int .i64 m)] fun r=>r=bA (l ++ leB m n):=by
 refine ACalls.fn (GC l n m hl (by omega) hm) ?_
 rintro _ _ ⟨rfl,rfl⟩
 refine⟨_,ConvH.refl _,?_⟩
 refine And.intro (Aa _).symm ?_
 exact⟨bA (l ++ leB m n),EO rfl rfl,rfl⟩
theorem D9 (l:List UInt8) (n:Int) (m:Nat) (hl:l.length<=1000000) (hn:0<=n/\n<=4294967295) (hm:m<=4):Fn Tryz.prog 192 [bA l, .v (.int .i64 n), .v (.int .i64 m)] fun r=>r=bA (l ++ leB m n.toNat):=by
 have:=MR l n.toNat m hl (by omega) hm
 rwa [BD hn.1] at this
theorem Kv (l:List UInt8) (hl:l.length<=255):ACalls Tryz.prog false 210 [bA l] [] fun r H=>r = .ow 0 (UInt8.ofNat l.length::l).length/\H=[.row 5 1 ((UInt8.ofNat l.length::l).map DG)]:=by
 refine ACalls.ofC tys_ok Tryz.func210 rfl rfl (Ac rfl) ?_
 refine⟨⟨rfl,by omega⟩,?_⟩
 conv=>whnf
 have e : [[AV.v (Value.int IntKind.u8 (IntKind.u8.wrap (l.length:Int)))]] ++ (List.range l.length).map (fun i=> [AV.v (Value.int IntKind.u8 ((l.getD i 0).toNat:Int))])=(UInt8.ofNat l.length::l).map DG:=by
  rw [QJ,Ap,List.singleton_append,DG,Be (show l.length<256 by omega),IntKind.wrap_u8]
  congr 4
  omega
 exact⟨.ow 0 (1+l.length), .ow 0 (1+l.length), [.row 5 1 ((UInt8.ofNat l.length::l).map DG)],fun _ _ h=>h,Wk.conv ⟨[],trivial,⟨rfl,trivial⟩,⟨congrArg (AB.row 5 1) e.symm,trivial⟩,rfl,rfl,rfl⟩,congrArg (AV.ow 0) (by rw [Ag];omega),rfl⟩
theorem RA (addr stamp:Int) (p:List UInt8) (hok:SP addr stamp p):Fn Tryz.prog 151 [.ag [.v (.int .i64 addr), .v (.int .i64 stamp),bA p]] fun r=>r=bA (AM addr stamp p):=by
 obtain⟨q1,q2,q3,q4,q5⟩:=hok
 have hp:=Kv p (by omega)
 have a1:=D9 (UInt8.ofNat p.length::p) addr 2 (by simp;omega) (by omega) (by decide)
 have a2:=D9 ((UInt8.ofNat p.length::p) ++ leB 2 addr.toNat) stamp 4 (by simp [leB_len];omega) (by omega) (by decide)
 have a3:=Ip ((UInt8.ofNat p.length::p) ++ leB 2 addr.toNat ++ leB 4 stamp.toNat) (by simp [leB_len];omega)
 have a4:=MR ((UInt8.ofNat p.length::p) ++ leB 2 addr.toNat ++ leB 4 stamp.toNat) (CG ((UInt8.ofNat p.length::p) ++ leB 2 addr.toNat ++ leB 4 stamp.toNat)) 4 (by simp [leB_len];omega) (by unfold CG;omega) (by decide)
 have e:AM addr stamp p=(((UInt8.ofNat p.length::p) ++ leB 2 addr.toNat) ++ leB 4 stamp.toNat) ++ leB 4 (CG (((UInt8.ofNat p.length::p) ++ leB 2 addr.toNat) ++ leB 4 stamp.toNat)):=rfl
 rw [e]
 refine Fn.st Tryz.func151 rfl ?_
 conv=>whnf
 apply aDraw.treeM (0) tys_ok mixed (.one 0 (.one 1 (.one 3 (.one 4 (.one 6 (.one 7 (.one 2 (.one 5 (.one 8 (.one 9 .fin)))))))))) [3,4,5,6,7,8,9,10,11,12] (by kernel_rfl)
 ·conv=>whnf
  (refine ACalls.beside hp rfl ?_;rintro _ _ ⟨rfl,rfl⟩)
  conv=>whnf
  (refine ACalls.shut a1.go ?_;(conv=>whnf);refine And.intro (Aa _).symm ?_;(conv=>whnf);refine ACalls.sub [bA (UInt8.ofNat p.length::p), .v (.int .i64 addr), .v (.int .i64 2)] ⟨EO rfl rfl,ri,ri,trivial⟩ ?_;refine Fn.cl a1 ?_)
  conv=>whnf
  refine Fn.cl a2 ?_
  exact⟨rfl,rfl⟩
 conv=>whnf
 conv=>whnf
 refine ACalls.sub [bA (UInt8.ofNat p.length::p ++ leB 2 addr.toNat ++ leB 4 stamp.toNat)] ⟨ri,trivial⟩ ?_
 refine Fn.cl a3 ?_
 conv=>whnf
 refine Fn.cl a4 ?_
 exact⟨_,ri,rfl⟩
theorem Ek (addr stamp:Int) (p:List UInt8) (hok:SP addr stamp p):Fn Tryz.prog 79 [.v (.int .i64 addr), .v (.int .i64 stamp),bA p] fun r=>r=bA (AM addr stamp p):=by
 have h:=RA addr stamp p hok
 refine Fn.st Tryz.func79 rfl ?_
 conv=>whnf
 refine Fn.cl h ?_
 exact⟨_,ri,rfl⟩
def zero8:List UInt8:= [0,0,0,0,0,0,0,0]
def ent0:Ent:=⟨0,(CG zero8:Nat),false⟩
def DQ (g:Geo):List Ent:=List.replicate (g.d+1).toNat ent0
theorem Le (stamp:Int) (b:List UInt8) (hb:b.length<=1000000000):Fn Tryz.prog 143 [.v (.int .i64 stamp),bA b] fun r=>r = .ag (Cn ⟨stamp,(CG b:Nat),false⟩):=by
 refine Fn.st Tryz.func143 rfl ?_
 conv=>whnf
 repeat' (first | (refine aSeq.go ?_;conv=>whnf) | (refine Aw (fun _=>?_) (fun _=>?_) <;> conv=>whnf) | (refine Fn.cl (QI b hb) ?_;conv=>whnf) | (refine And.intro (by first | omega | exact of_decide_eq_true rfl) ?_;conv=>whnf) | fail)
 exact⟨_,ri,rfl⟩
def bv (l:List Ent):Nat->AV
 | 0=> .v (.slice none 0 0)
 | k+1=>bA (Cp (l.take (k+1)))
theorem Q9 (l:List Ent) (hl:l.length<=1000) (hb:∀ e∈l,(0<=e.stamp/\e.stamp<=4294967295)/\0<=e.sum/\e.sum<=4294967295):Fn Tryz.prog 119 [.ag [Bv l]] fun r=>r=bA (Cp l):=by
 refine Fn.st Tryz.func119 rfl ?_
 conv=>whnf
 refine aLoop.rule Nat (fun k=>([(1, .bp 0 0),(3,bv l k),(4, .v (.int .i64 k))], [.box 141 [Bv l]])) (fun k=>k<=l.length) (fun k=>l.length - k) 0 (Ad _) ⟨[],trivial,⟨rfl,rfl,rfl,trivial⟩,⟨rfl,trivial⟩,rfl,rfl,rfl⟩ ?_
 intro k hk
 conv=>whnf
 refine Aw (fun c1=>?_) (fun c1=>?_) <;> (repeat rw [Ab] at c1) <;> conv=>whnf
 ·have he:=hb _ (Ay (d:=⟨0,0,false⟩) c1)
  refine aSeq.go ?_
  conv=>whnf
  refine⟨by first | omega | (refine⟨rfl,?_,?_⟩ <;> first | omega | (simp only [Aa];done) | (simp only [Aa];omega)) | (simp only [Aa];omega),?_⟩
  conv=>whnf
  have hlt:(Cp (l.take k)).length<=9000:=by rw [DP,Al];omega
  have p1:=D9 (Cp (l.take k)) (l.getD k ⟨0,0,false⟩).stamp 4 (by omega) he.1 (by decide)
  have p2:=D9 (Cp (l.take k) ++ leB 4 (l.getD k ⟨0,0,false⟩).stamp.toNat) (l.getD k ⟨0,0,false⟩).sum 4 (by rw [List.length_append,leB_len];omega) he.2 (by decide)
  have p3:=D9 (Cp (l.take k) ++ leB 4 (l.getD k ⟨0,0,false⟩).stamp.toNat ++ leB 4 (l.getD k ⟨0,0,false⟩).sum.toNat) (Cm (l.getD k ⟨0,0,false⟩).lost) 1 (by rw [List.length_append,List.length_append,leB_len,leB_len];omega) (by unfold Cm;split <;> omega) (by decide)
  have hst:bv l (k+1)=bA (Cp (l.take k) ++ leB 4 (l.getD k ⟨0,0,false⟩).stamp.toNat ++ leB 4 (l.getD k ⟨0,0,false⟩).sum.toNat ++ leB 1 (Cm (l.getD k ⟨0,0,false⟩).lost).toNat):=by
   rw [bv,LD c1,H_]
   rw [List.getD_eq_getElem?_getD,List.getElem?_eq_getElem c1]
   simp [rowB,As]
  obtain⟨L,hLe⟩:∃ L,(l.getD k ⟨0,0,false⟩).lost=L:=⟨_,rfl⟩
  rw [hLe] at p3 hst
  rcases k with _ | k
  all_goals
   refine aDraw.of tys_ok mixed [0,1,2,4,5,3,6,7] (by kernel_rfl) ?_
   conv=>whnf
   refine ACalls.sub _ ?_ (Fn.closed (p1) rfl ?_)
   ·repeat' (first | exact trivial | exact fun _ _ h=>h | exact AX _ _ | refine And.intro ?_ ?_ | refine AG ?_)
   rintro _ rfl
   conv=>whnf
   refine ACalls.sub _ ?_ (Fn.closed (p2) rfl ?_)
   ·repeat' (first | exact trivial | exact fun _ _ h=>h | exact AX _ _ | refine And.intro ?_ ?_ | refine AG ?_)
   rintro _ rfl
   conv=>whnf
   refine aSeq.go ?_
   conv=>whnf
   rw [Ab,hLe]
   cases L
  all_goals
   conv=>whnf
   refine Fn.cl p3 ?_
   refine⟨_,by omega,by omega, [],trivial,⟨rfl,hst.symm,A7 (by omega),trivial⟩,⟨rfl,trivial⟩,rfl,rfl,rfl⟩
 ·have ek:k=l.length:=by omega
  rcases k with _ | k
  ·have e:l=[]:=AC.1 ek.symm
   subst e
   exact⟨bA (Cp []),AX 1 _,rfl⟩
  ·conv=>whnf
   exact⟨_,ri,by rw [ek,List.take_length];rfl⟩
theorem Vf (g:Geo) (hg:A_ g=true):Fn Tryz.prog 120 [.ag (AF g)] fun r=>r = .ag [Bv (DQ g)]:=by
 obtain⟨h1,h2,h3,h4,h5⟩:=Ak.1 hg
 refine Fn.st Tryz.func120 rfl ?_
 conv=>whnf
 have w1:IntKind.i64.wrap (g.d+1)=g.d+1:=by rw [IntKind.wrap_i64];omega
 refine aLoop.rule Nat (fun k=>([(1, .bp 0 0),(2, .bp 1 0),(3, .bp 2 0),(4, .v (.int .i64 k))], [.box 23 (AF g), .box 141 [.v (.slice none 0 0)], .box 141 [.ow 3 k], .row 194 3 ((List.replicate k ent0).map Cn)])) (fun k=>(k:Int)<=g.d+1) (fun k=>(g.d+1 - k).toNat) 0 (show (0:Int)<=g.d+1 by omega) ⟨[(1002000,194,3)],⟨rfl,rfl,trivial⟩,⟨rfl,rfl,rfl,rfl,trivial⟩,⟨rfl,rfl,rfl,rfl,trivial⟩,rfl,rfl,rfl⟩ ?_
 intro k hk
 conv=>whnf
 refine Aw (fun c1=>?_) (fun c1=>?_) <;> (repeat rw [Ab] at c1) <;> conv=>whnf
 ·refine aDraw.of tys_ok mixed [0,1,2,3,4,5,6,7] (by kernel_rfl) ?_
  conv=>whnf
  repeat' (refine And.intro (by first | omega | exact of_decide_eq_true rfl) ?_;conv=>whnf)
  have e0:=Le 0 zero8 (by decide)
  refine ACalls.shut (e0).go ?_
  conv=>whnf
  repeat' (refine And.intro (by first | rfl | omega | (simp;done) | (simp only [Aa];omega)) ?_;conv=>whnf)
  refine ACalls.sub _ ?_ (Fn.closed (e0) rfl ?_)
  ·repeat' (first | exact trivial | exact fun _ _ h=>h | exact AX _ _ | exact SG zero8 rfl rfl | refine And.intro ?_ ?_ | refine AG ?_)
  rintro _ rfl
  conv=>whnf
  repeat' (first | (refine And.intro (by first | rfl | omega) ?_;conv=>whnf) | fail)
  refine⟨⟨by rw [Aa,List.length_replicate],by omega⟩,?_⟩
  conv=>whnf
  exact⟨k+1,by omega,by omega, [],trivial,⟨rfl,rfl,rfl,A7 (by omega),trivial⟩,⟨rfl,rfl,rfl,by rw [List.replicate_succ',Ax];rfl,trivial⟩,rfl,rfl,rfl⟩
 ·refine⟨(by rw [Aa,List.length_replicate]),?_⟩
  conv=>whnf
  have ek:k=(g.d+1).toNat:=by omega
  refine⟨.ag [Bv (DQ g)],AG ⟨AH (DQ g) ?_ ?_,trivial⟩,rfl⟩
  ·rw [DQ,List.length_replicate,ek]
  ·rw [DQ,ek]
theorem NH (addr stamp:Int) (p:List UInt8) (hok:SP addr stamp p):Fn Tryz.prog 216 [.ag [.v (.int .i64 addr), .v (.int .i64 stamp),bA p]] fun r=>r = .tp [bA (AM addr stamp p), .v (.int .i64 0)]:=by
 refine⟨⟨_,Tryz.func216,rfl,by decide⟩,fun c0 us hd hM _ hr=>?_⟩
 obtain⟨u,rfl,h⟩:=Wm hr
 simp only [Rd,RdL] at h
 obtain⟨xs,rfl,a,_,rfl,rfl,b,_,rfl,rfl,d,_,rfl,h3,rfl⟩:=h
 refine(Ud addr stamp d p c0.w c0.M (JR (by simpa only [Rd,bA] using h3)) hok).mono ?_
 rintro e w' ⟨q,rfl,ho,hB⟩
 exact⟨_,_,rfl,rfl,hB,Nj (TW ho hM) (TQ _)⟩
theorem Hd (x:Rc):rowB (D5 x) szR=leB 1 x.kind.toNat ++ (leB 4 x.seq.toNat ++ (leB 4 x.epoch.toNat ++ (leB 1 x.at_.toNat ++ leB 1 x.of_.toNat))):=by
 simp [rowB,D5,szR]
theorem N1 {L:List UInt8} {n:Nat} {es:List (List AV)} (hn:n=L.length) (he:es=L.map DG) (c:Ctx) (v:Value) (h:Rd (.sl 1 n fun i=>es.getD i []) c v):Rd (bA L) c v:=by
 subst he
 exact Rd.congr hn (fun i hi=>AR (f:=DG) (l:=L) (d:=0) (hn ▸ hi)) h
theorem RB (g:Geo) (x:Rc) (hok:Eb g x=true):Fn Tryz.prog 146 [.ag (FB x)] fun r=>r=bA (Fq x):=by
 obtain⟨K,S,E,A,O,k1,k2,k3,k4,k5,hS,hE⟩:=VA hok
 have p1:=MR (leB 1 K) S 4 (by rw [leB_len];decide) hS (by decide)
 have p2:=GC (leB 1 K ++ leB 4 S) (E:Nat) 4 (by simp [leB_len]) (by omega) (by decide)
 have eK : [[AV.v (.int .u8 (IntKind.u8.wrap x.kind))]]=(leB 1 K).map DG:=by
  rw [k1]
  show _=[[AV.v (.int .u8 ((UInt8.ofNat (K % 256)).toNat:Nat))]]
  rw [Be (show K % 256<256 by omega),IntKind.wrap_u8]
  rfl
 refine Fn.st Tryz.func146 rfl ?_
 conv=>whnf
 apply aDraw.treeK (0) tys_ok mixed (.one 0 (.one 1 (.one 2 (.one 4 (.one 5 (.one 7 (.one 8 (.one 3 (.one 6 (.one 9 (.one 10 .fin))))))))))) (by kernel_rfl)
 conv=>whnf
 (refine ACalls.shut p1.go ?_;(conv=>whnf);refine And.intro rfl ?_;(conv=>whnf);refine ACalls.sub [bA (leB 1 K), .v (.int .i64 S), .v (.int .i64 4)] ⟨N1 rfl eK,by rw [k2];exact fun _ _ h=>h,ri,trivial⟩ ?_;refine Fn.cl p1 ?_)
 conv=>whnf
 (rw [k3];refine ACalls.beside p2 rfl ?_;rintro _ _ ⟨rfl,rfl⟩)
 refine⟨rfl,?_⟩
 refine⟨⟨by simp,by simp [leB_len]⟩,?_⟩
 have eR:List.map DG (leB 1 K ++ leB 4 S ++ leB 4 ((E:Nat):Int).toNat) ++ [[AV.v (.int .u8 (IntKind.u8.wrap x.at_))], [AV.v (.int .u8 (IntKind.u8.wrap x.of_))]]=(rowB (D5 x) szR).map DG:=by
  rw [Hd,k1,k2,k3,k4,k5]
  have e8:∀ n:Nat, [[AV.v (.int .u8 (IntKind.u8.wrap (n:Int)))]]=(leB 1 n).map DG:=fun n=>by
   show _=[[AV.v (.int .u8 ((UInt8.ofNat (n % 256)).toNat:Nat))]]
   rw [Be (show n % 256<256 by omega),IntKind.wrap_u8]
   rfl
  simp only [Ax,<-e8,Ab,As]
  rfl
 rw [eR]
 conv=>whnf
 by_cases hk:x.kind=1
 ·rw [show (x.kind != 1)=false by simpa using hk]
  conv=>whnf
  repeat' (first | (refine aSeq.go ?_;conv=>whnf) | fail)
  obtain⟨Z,W,z1,z2,z3,z4⟩:=VB hok hk
  have hpt:=Kv x.img.bytes z4
  have hR11:(rowB (D5 x) szR).length=11:=by rw [Hd];simp [leB_len]
  have hA:(leB 1 K ++ leB 4 S ++ leB 4 ((E:Nat):Int).toNat).length+2=(List.map DG (rowB (D5 x) szR)).length:=by rw [Aa,hR11];simp [leB_len]
  have hA2:(leB 1 K ++ leB 4 S ++ leB 4 ((E:Nat):Int).toNat).length+2+2<=1000000000:=by simp [leB_len]
  have e8:∀ n:Nat, [[AV.v (.int .u8 (IntKind.u8.wrap (n:Int)))]]=(leB 1 n).map DG:=fun n=>by
   show _=[[AV.v (.int .u8 ((UInt8.ofNat (n % 256)).toNat:Nat))]]
   rw [Be (show n % 256<256 by omega),IntKind.wrap_u8]
   rfl
  obtain⟨Q,hQ⟩:∃ Q,Q=rowB (D5 x) szR ++ (leB 1 Z ++ leB 1 W):=⟨_,rfl⟩
  have hB:Fq x=Q ++ (UInt8.ofNat x.img.bytes.length::x.img.bytes):=by
   unfold Fq
   rw [if_pos hk,hQ,As]
   unfold Jh
   rw [z1,z2]
   simp [rowB]
  have eQ:List.map DG (rowB (D5 x) szR) ++ [[AV.v (.int .u8 (IntKind.u8.wrap (Z:Int)))], [AV.v (.int .u8 (IntKind.u8.wrap (W:Int)))]]=Q.map DG:=by
   rw [hQ,Ax,Ax,<-e8,<-e8]
   rfl
  have hQl:Q.length=13:=by rw [hQ];simp [leB_len,hR11]
  have hP:(UInt8.ofNat x.img.bytes.length::x.img.bytes).length=(List.map DG (UInt8.ofNat x.img.bytes.length::x.img.bytes)).length:=(Aa _).symm
  have hP2:(UInt8.ofNat x.img.bytes.length::x.img.bytes).length<=256:=by rw [Ag];omega
  have hQ1:(leB 1 K ++ leB 4 S ++ leB 4 ((E:Nat):Int).toNat).length+2+2=(List.map DG Q).length:=by rw [Aa,hQl];simp [leB_len]
  have hQ2:(leB 1 K ++ leB 4 S ++ leB 4 ((E:Nat):Int).toNat).length=9:=by simp [leB_len]
  have hF1:(leB 1 K ++ leB 4 S ++ leB 4 ((E:Nat):Int).toNat).length+2+2+(UInt8.ofNat x.img.bytes.length::x.img.bytes).length=(List.map DG Q ++ List.map DG (UInt8.ofNat x.img.bytes.length::x.img.bytes)).length:=by rw [hQ1,hP];exact List.length_append.symm
  have hF2:(leB 1 K ++ leB 4 S ++ leB 4 ((E:Nat):Int).toNat).length+2+2+(UInt8.ofNat x.img.bytes.length::x.img.bytes).length=(Q ++ (UInt8.ofNat x.img.bytes.length::x.img.bytes)).length:=by rw [hQ1,Aa];exact List.length_append.symm
  by_cases hw:x.img.what = -1
  rw [show (x.img.what == -1)=true by simpa using hw]
  conv=>whnf
  have hW:(254:Int)=(W:Int):=by rw [<-z2,hw];rfl
  rotate_left 1
  rw [show (x.img.what == -1)=false by simpa using hw]
  conv=>whnf
  have hW:x.img.what=(W:Int):=by rw [<-z2];unfold D6;rw [if_neg hw]
  all_goals
   apply aDraw.treeK (2048) tys_ok mixed (.one 0 (.one 1 (.one 2 (.one 3 (.one 4 (.one 5 (.one 6 (.one 9 (.one 10 (.two 7 (.two 8 (.one 11 (.one 12 (.one 13 (.one 14 .fin)))) 11 (.one 8 (.one 12 (.one 13 (.one 14 .fin))))) 11 (.one 7 (.one 8 (.one 12 (.one 13 (.one 14 .fin))))))))))))))) (by kernel_rfl)
   refine And.intro ?_ ?_
   refine And.intro ?_ ?_
   conv=>whnf
   try (refine And.intro (by first | rfl | omega) ?_;conv=>whnf)
   try (refine And.intro (by first | omega | exact⟨by first | rfl | (simp;done) | (simp;omega),by omega⟩) ?_;conv=>whnf)
   (rw [z1,hW,eQ];refine ACalls.beside hpt rfl ?_;rintro _ _ ⟨rfl,rfl⟩)
   conv=>whnf
   try (refine And.intro (by first | rfl | omega) ?_;conv=>whnf)
   try (refine And.intro (by first | omega | exact⟨by first | rfl | (simp;done) | (simp;omega),by omega⟩) ?_;conv=>whnf)
   rotate_left 1
   conv=>whnf
   try (refine And.intro (by first | rfl | omega) ?_;conv=>whnf)
   try (refine And.intro (by first | omega | exact⟨by first | rfl | (simp;done) | (simp;omega),by omega⟩) ?_;conv=>whnf)
   (rw [z1,hW,eQ];refine ACalls.beside hpt rfl ?_;rintro _ _ ⟨rfl,rfl⟩)
   conv=>whnf
   try (refine And.intro (by first | rfl | omega) ?_;conv=>whnf)
   try (refine And.intro (by first | omega | exact⟨by first | rfl | (simp;done) | (simp;omega),by omega⟩) ?_;conv=>whnf)
   rotate_left 1
   conv=>whnf
   try (refine And.intro (by first | rfl | omega) ?_;conv=>whnf)
   try (refine And.intro (by first | omega | exact⟨by first | rfl | (simp;done) | (simp;omega),by omega⟩) ?_;conv=>whnf)
   (rw [z1,hW,eQ];refine ACalls.beside hpt rfl ?_;rintro _ _ ⟨rfl,rfl⟩)
   conv=>whnf
   try (refine And.intro (by first | rfl | omega) ?_;conv=>whnf)
   try (refine And.intro (by first | omega | exact⟨by first | rfl | (simp;done) | (simp;omega),by omega⟩) ?_;conv=>whnf)
   rotate_left 1
   all_goals
    refine⟨hF1,?_⟩
    conv=>whnf
    rw [hB]
    exact⟨bA _,N1 hF2 List.map_append.symm,rfl⟩
 ·rw [show (x.kind != 1)=true by simpa using hk]
  conv=>whnf
  have hB:Fq x=rowB (D5 x) szR:=by unfold Fq;rw [if_neg hk,List.append_nil]
  rw [hB]
  refine And.intro (by rw [Aa,Hd];simp [leB_len]) ?_
  conv=>whnf
  exact⟨bA _,N1 (by rw [Hd];simp [leB_len]) rfl,rfl⟩
theorem ER (g:Geo) (x:Rc) (copy slot:Int) (hok:Eb g x=true) (hl:J9 g copy slot=true):Fn Tryz.prog 74 [.ag (AF g), .ag (FB x), .v (.int .i64 copy), .v (.int .i64 slot)] fun r=>r=bA (Df g x copy slot):=by
 have hg:A_ g=true:=by unfold Eb at hok;simp only [Bool.and_eq_true] at hok;exact hok.1
 have hb:=Iz hg hl
 have hs:=QU hok
 have hn:=Ej hok
 have h1:=Cu g copy slot hg hl
 have h2:=RB g x hok
 have h3:=Ek (Bz g copy slot) x.seq (Fq x) ⟨hb.1,by omega,hs.1,hs.2,by omega⟩
 refine Fn.st Tryz.func74 rfl ?_
 conv=>whnf
 apply aDraw.treeM (0) tys_ok mixed (.one 0 (.one 1 (.one 2 (.one 4 (.one 5 (.one 6 (.one 3 (.one 7 (.one 8 (.one 9 .fin)))))))))) [8,9,10,11,12,13,14,15,16,17] (by kernel_rfl)
 ·conv=>whnf
  refine Fn.cl h1 ?_
  conv=>whnf
  refine Fn.cl h2 ?_
  conv=>whnf
  refine Fn.cl h3 ?_
  exact⟨rfl,rfl⟩
 exact⟨_,ri,rfl⟩
theorem V8 {x:Int} (c:Ctx) (u:Value) (h:Rd (.sl 1 1 fun i=> [[AV.v (.int .i64 x)]].getD i []) c u):Rd (iA [x]) c u:=
 Rd.congr (n:=1) (n':= [x].length) rfl (fun i hi=>by
  have:i=0:=by simp at hi;omega
  subst this
  rfl) h
theorem T8 (how:Int) (c:Ctx) (u:Value) (h:Rd (.tp [.ag [.v (.int .i64 0), .v (.int .i64 0), .v (.int .i64 0), .v (.int .i64 0), .v (.int .i64 0), .v (.int .i64 0), .v (.int .i64 0), .v (.slice none 0 0)], .v (.slice none 0 0), .v (.int .i64 how)]) c u):Rd (.tp [.ag (FB zeroC),iA [], .v (.int .i64 how)]) c u:=by
 refine BI ?_ c u h
 exact⟨AG ⟨ri,ri,ri,ri,ri,ri,ri,AX _ _,trivial⟩,AX _ _,ri,trivial⟩
theorem Vt (r:Rc) (c:Ctx) (u:Value) (h:Rd (.tp [.ag (FB r), .v (.slice none 0 0), .v (.int .i64 1)]) c u):Rd (.tp [.ag (FB r),iA [], .v (.int .i64 1)]) c u:=by
 refine BI ?_ c u h
 exact⟨fun _ _ h=>h,AX _ _,fun _ _ h=>h,trivial⟩
theorem Vs (r:Rc) (x:Int) (c:Ctx) (u:Value) (h:Rd (.tp [.ag (FB r), .sl 1 1 fun i=> [[AV.v (.int .i64 x)]].getD i [], .v (.int .i64 1)]) c u):Rd (.tp [.ag (FB r),iA [x], .v (.int .i64 1)]) c u:=by
 refine BI ?_ c u h
 exact⟨fun _ _ h=>h,V8,fun _ _ h=>h,trivial⟩
theorem T7 (g:Geo) (a:An) (x y:Gt) (slot seq at_ of_ left:Int) (hg:A_ g=true) (hs:Cb slot 0 (g.sl - 1)=true) (hx:x.bytes.length<=100000) (hy:y.bytes.length<=100000) :
  Fn Tryz.prog 245 [.ag (AF g), .ag (Dx a), .ag (Db x), .ag (Db y), .v (.int .i64 slot), .v (.int .i64 seq), .v (.int .i64 at_), .v (.int .i64 of_), .v (.int .i64 left)]
   fun r=>r = .tp [.ag (FB (DL g a x y slot seq at_ of_ left).1),iA (DL g a x y slot seq at_ of_ left).2.1, .v (.int .i64 (DL g a x y slot seq at_ of_ left).2.2)]:=by
 have s2:=K2 g x 0 slot hx hg (by rw [J9,hs];rfl)
 have s3:=K2 g y 1 slot hy hg (by rw [J9,hs];rfl)
 unfold DL
 generalize De g x 0 slot=p at s2 |-
 generalize De g y 1 slot=q at s3 |-
 have i1:∀ r,p=some r->Fn Tryz.prog 276 [.ag (FB r), .ag (Dx a), .v (.int .i64 seq), .v (.int .i64 at_), .v (.int .i64 of_), .v (.int .i64 left)] fun x=>x = .v (.bool (Dr p a seq at_ of_ left)):=by
  rintro r rfl;exact QK r a seq at_ of_ left
 have i2:∀ r,q=some r->Fn Tryz.prog 276 [.ag (FB r), .ag (Dx a), .v (.int .i64 seq), .v (.int .i64 at_), .v (.int .i64 of_), .v (.int .i64 left)] fun x=>x = .v (.bool (Dr q a seq at_ of_ left)):=by
  rintro r rfl;exact QK r a seq at_ of_ left
 have n1:p=none->Dr p a seq at_ of_ left=false:=by rintro rfl;rfl
 have n2:q=none->Dr q a seq at_ of_ left=false:=by rintro rfl;rfl
 generalize Dr p a seq at_ of_ left=b1 at i1 n1 |-
 generalize Dr q a seq at_ of_ left=b2 at i2 n2 |-
 rcases p with _ | p <;> rcases q with _ | q <;> cases b1 <;> cases b2
 all_goals first
  | exact absurd (n1 rfl) (by decide)
  | exact absurd (n2 rfl) (by decide)
  | skip
 all_goals
  refine Fn.st Tryz.func245 rfl ?_
  conv=>whnf
  repeat' (first | (refine aSeq.go ?_;conv=>whnf) | (refine Aw (fun _=>?_) (fun _=>?_) <;> conv=>whnf) | (refine Fn.cl s2 ?_;conv=>whnf) | (refine Fn.cl s3 ?_;conv=>whnf) | (refine Fn.cl (i1 _ rfl) ?_;conv=>whnf) | (refine Fn.cl (i2 _ rfl) ?_;conv=>whnf) | (refine And.intro (by first | omega | exact of_decide_eq_true rfl) ?_;conv=>whnf) | fail)
  first
   | exact⟨_,fun c u h=>T8 2 c u h,rfl⟩
   | exact⟨_,fun c u h=>T8 3 c u h,rfl⟩
   | exact⟨_,fun c u h=>Vt _ c u h,rfl⟩
   | exact⟨_,fun c u h=>Vs _ _ c u h,rfl⟩
end Go.Proofs.YtkolckdakddggaaGreatDoor.A
end
section
namespace Go.Proofs.YtkolckdakddggaaGreatDoor

theorem Kh {l m:List UInt8} {n:Nat} (h:l.length=n):(l ++ m).take n=l:=by subst h;simp
theorem Lh {l m:List UInt8} {n:Nat} (h:l.length=n):(l ++ m).drop n=m:=by subst h;simp
theorem FW (a s:Int) (p:List UInt8):(D8 a s p).length=p.length+7:=by
 simp only [D8,List.length_append,Ag,leB_len]
theorem CM (a s:Int) (p:List UInt8):(AM a s p).length=p.length+11:=by
 simp only [AM,List.length_append,FW,leB_len]
theorem Hb {a s:Int} {p:List UInt8} (h:SP a s p):DJ (AM a s p)=0/\DU (AM a s p)=a/\Dd (AM a s p)=s/\CL (AM a s p)=p:=by
 obtain⟨h1,h2,h3,h4,h5⟩:=h
 have hl:=CM a s p
 have hs:=GZ (D8 a s p)
 have e1:AM a s p=D8 a s p ++ leB 4 (CG (D8 a s p)):=rfl
 have e2:AM a s p=(UInt8.ofNat p.length::p) ++ (leB 2 a.toNat ++ (leB 4 s.toNat ++ leB 4 (CG (D8 a s p)))):=by rw [e1];simp only [D8,As]
 have e3:AM a s p=((UInt8.ofNat p.length::p) ++ leB 2 a.toNat) ++ (leB 4 s.toNat ++ leB 4 (CG (D8 a s p))):=by rw [e2,As]
 have hpn:Dq (AM a s p)=p.length:=by
  rw [e2]
  show (UInt8.ofNat p.length).toNat=p.length
  rw [Be]
  exact Nat.lt_of_le_of_lt h5 (by decide)
 refine⟨?_,?_,?_,?_⟩
 ·unfold DJ
  rw [if_neg (by omega),if_neg,if_pos]
  ·refine⟨?_,by omega⟩
   simp only [HE,decide_eq_true_eq]
   omega
  ·rw [hl,show p.length+11 - 4=p.length+7 by omega,e1,Lh (FW a s p),Kh (FW a s p),leN_leB _ _ (by have:(256:Nat) ^ 4=4294967296:=rfl;omega)]
   simp
 ·unfold DU
  rw [hl,show p.length+11 - 10=p.length+1 by omega,e2,Lh (by simp),Kh (leB_len 2 _),leN_leB _ _ (by have:(256:Nat) ^ 2=65536:=rfl;omega)]
  omega
 ·unfold Dd
  rw [hl,show p.length+11 - 8=p.length+3 by omega,e3,Lh (by simp [leB_len]),Kh (leB_len 4 _),leN_leB _ _ (by have:(256:Nat) ^ 4=4294967296:=rfl;omega)]
  omega
 ·unfold CL
  rw [hl,show p.length+11 - 11=p.length by omega,e2]
  simp
end Go.Proofs.YtkolckdakddggaaGreatDoor
end
section
namespace Go.Proofs.YtkolckdakddggaaGreatDoor.A
open Go.RowKit
def I_ (x:Int) (n:Int):Int:=IntKind.i64.wrap ((IntKind.u64.wrap x).tmod n)
theorem E6 {x n:Int} (h:0<n) (h2:n<=4611686018427387904):0<=I_ x n/\I_ x n<n:=by
 have h0:0<=IntKind.u64.wrap x:=by rw [IntKind.wrap_u64];omega
 have h1:=Bo n h0
 have h3:=Int.tmod_lt_of_pos (IntKind.u64.wrap x) h
 unfold I_
 rw [wi (by omega)]
 exact⟨h1,h3⟩
def Km (z d sp sl an:Int):Geo:=⟨1+I_ z 4,1+I_ d 4,I_ sp 3,14+I_ sl 17,1+I_ an 3⟩
theorem Ti (z d sp sl an:Int):A_ (Km z d sp sl an)=true:=by
 have h1:=E6 (x:=z) (n:=4) (by decide) (by decide)
 have h2:=E6 (x:=d) (n:=4) (by decide) (by decide)
 have h3:=E6 (x:=sp) (n:=3) (by decide) (by decide)
 have h4:=E6 (x:=sl) (n:=17) (by decide) (by decide)
 have h5:=E6 (x:=an) (n:=3) (by decide) (by decide)
 refine Ak.2 ?_
 simp only [Km]
 omega
theorem Vh (z d sp sl an:Int):Fn Tryz.prog 21 [.v (.int .i64 z), .v (.int .i64 d), .v (.int .i64 sp), .v (.int .i64 sl), .v (.int .i64 an)] fun r=>r = .ag (AF (Km z d sp sl an)):=by
 have h1:=E6 (x:=z) (n:=4) (by decide) (by decide)
 have h2:=E6 (x:=d) (n:=4) (by decide) (by decide)
 have h4:=E6 (x:=sl) (n:=17) (by decide) (by decide)
 have h5:=E6 (x:=an) (n:=3) (by decide) (by decide)
 refine Fn.st Tryz.func21 rfl ?_
 conv=>whnf
 repeat' (refine And.intro (by decide) ?_;conv=>whnf)
 refine⟨_,fun _ _ h=>h,?_⟩
 simp only [AF,Km]
 rw [<-wi (n:=1+I_ z 4) (by omega),<-wi (n:=1+I_ d 4) (by omega),<-wi (n:=14+I_ sl 17) (by omega),<-wi (n:=1+I_ an 3) (by omega)]
 rfl
def B5 (g:Geo) (s:ByteArray):An:=⟨1,0,0,1,0,s,List.replicate g.z.toNat ⟨(List.range (g.d+1).toNat).map Int.ofNat,g.d+1,0⟩⟩
def F_ (n:Nat):List (List AV):=(List.range n).map fun i=> [.v (.int .i64 (i:Nat))]
theorem J5 (n:Nat):F_ (n+1)=F_ n ++ [[.v (.int .i64 (n:Nat))]]:=by simp [F_,Bb]
theorem PE {n i:Nat} (h:i<n):(F_ n).getD i []=[.v (.int .i64 (i:Nat))]:=DF h
def Mj (g:Geo):List AV:= [.sl 1 (g.d+1).toNat fun i=>(F_ (g.d+1).toNat).getD i [], .v (.int .i64 (g.d+1)), .v (.int .i64 0)]
theorem Sq (g:Geo):SubL (Mj g) (CH ⟨(List.range (g.d+1).toNat).map Int.ofNat,g.d+1,0⟩):=
 ⟨fun _ _ h=>Rd.congr (by simp) (fun i hi=>by rw [PE hi,DF hi];rfl) h,fun _ _ h=>h,fun _ _ h=>h,trivial⟩
theorem U8 (g:Geo) (s:ByteArray) (hg:A_ g=true):Fn Tryz.prog 117 [.ag (AF g), .v (.string s)] fun r=>r = .ag (Dx (B5 g s)):=by
 obtain⟨h1,h2,h3,h4,h5⟩:=Ak.1 hg
 have w1:IntKind.i64.wrap (g.d+1)=g.d+1:=wi (by omega)
 refine Fn.st Tryz.func117 rfl ?_
 conv=>whnf
 refine aLoop.rule Nat (fun k=>([(2, .bp 0 0),(4, .bp 1 0),(5, .bp 2 0),(6, .v (.int .i64 k))], [.box 23 (AF g), .box 28 [.v (.int .i64 0), .v (.int .i64 0), .v (.int .i64 0), .v (.int .i64 0), .v (.int .i64 0), .v (.string ⟨#[]⟩), .v (.slice none 0 0)], .box 28 [.v (.int .i64 1), .v (.int .i64 0), .v (.int .i64 0), .v (.int .i64 1), .v (.int .i64 0), .v (.string s), .ow 3 k], .row 53 3 (List.replicate k (Mj g))])) (fun k=>k<=g.z.toNat) (fun k=>g.z.toNat - k) 0 (Ad _) ⟨[(1002006,53,3)],⟨rfl,rfl,trivial⟩,⟨rfl,rfl,rfl,rfl,trivial⟩,⟨rfl,rfl,rfl,rfl,trivial⟩,rfl,rfl,rfl⟩ ?_
 intro k hk
 conv=>whnf
 refine Aw (fun t1=>?_) (fun t1=>?_) <;> (repeat rw [Ab] at t1) <;> conv=>whnf
 ·refine aLoop.rule Nat (fun j=>([(2, .bp 0 0),(4, .bp 1 0),(5, .bp 2 0),(6, .v (.int .i64 k)),(7, .bp 4 0),(8, .v (.int .i64 j))], [.box 23 (AF g), .box 28 [.v (.int .i64 0), .v (.int .i64 0), .v (.int .i64 0), .v (.int .i64 0), .v (.int .i64 0), .v (.string ⟨#[]⟩), .v (.slice none 0 0)], .box 28 [.v (.int .i64 1), .v (.int .i64 0), .v (.int .i64 0), .v (.int .i64 1), .v (.int .i64 0), .v (.string s), .ow 3 k], .row 53 3 (List.replicate k (Mj g)), .box 53 [.ow 5 j, .v (.int .i64 (g.d+1)), .v (.int .i64 0)], .row 3 1 (F_ j)])) (fun j=>j<=(g.d+1).toNat) (fun j=>(g.d+1).toNat - j) 0 (Ad _) ⟨[(1004000,3,1)],⟨rfl,rfl,trivial⟩,⟨rfl,rfl,rfl,rfl,rfl,rfl,trivial⟩,⟨rfl,rfl,rfl,rfl,by rw [w1];rfl,rfl,trivial⟩,rfl,rfl,rfl⟩ ?_
  intro j hj
  conv=>whnf
  refine Aw (fun t2=>?_) (fun t2=>?_) <;> (repeat rw [Ab] at t2) <;> conv=>whnf
  ·refine⟨rfl,?_⟩
   refine⟨⟨by simp [F_],by omega⟩,?_⟩
   exact⟨j+1,by omega,by omega,(Wk.plain (by repeat' first | exact trivial | exact rfl | refine And.intro ?_ ?_ | exact A7 (by omega) | exact congrArg (AB.row _ _) (J5 j)) (by repeat' first | exact trivial | exact rfl | refine And.intro ?_ ?_ | exact A7 (by omega) | exact congrArg (AB.row _ _) (J5 j)) rfl rfl rfl)⟩
  ·have ej:j=(g.d+1).toNat:=by omega
   refine⟨(by simp [F_]),?_⟩
   refine⟨rfl,?_⟩
   refine⟨⟨by simp,by omega⟩,?_⟩
   conv=>whnf
   have er:AB.row 53 3 (List.replicate (k+1) (Mj g)) = .row 53 3 (List.replicate k (Mj g) ++ [[AV.sl 1 j fun i=>(F_ j).getD i [], .v (.int .i64 (g.d+1)), .v (.int .i64 0)]]):=by
    rw [List.replicate_succ',Mj,<-ej]
   exact⟨k+1,by omega,by omega,(Wk.plain (by repeat' first | exact trivial | exact rfl | refine And.intro ?_ ?_ | exact A7 (by omega) | exact er) (by repeat' first | exact trivial | exact rfl | refine And.intro ?_ ?_ | exact A7 (by omega) | exact er) rfl rfl rfl)⟩
 ·refine⟨by simp,?_⟩
  conv=>whnf
  have ek:k=g.z.toNat:=by omega
  refine⟨.ag (Dx (B5 g s)),fun c u h=>?_,rfl⟩
  refine AG ?_ c u h
  refine⟨fun _ _ h=>h,fun _ _ h=>h,fun _ _ h=>h,fun _ _ h=>h,fun _ _ h=>h,fun _ _ h=>h,fun c u h=>Rd.sub (by simp [B5,ek]) (fun i hi=>?_) h,trivial⟩
  rw [B5,List.getD_eq_getElem?_getD,List.getD_eq_getElem?_getD,List.getElem?_replicate_of_lt hi,List.getElem?_replicate_of_lt (by omega)]
  exact Sq g
theorem LK {g:Geo} {r:Rc} {copy slot:Int} (hg:A_ g=true) (hok:Eb g r=true) (hl:J9 g copy slot=true):De g ⟨0,Df g r copy slot⟩ copy slot=some r:=by
 have hb:=Iz hg hl
 have hs:=QU hok
 have hn:=Ej hok
 obtain⟨h1,h2,h3,h4⟩:=Hb (a:=Bz g copy slot) (s:=r.seq) (p:=Fq r) ⟨hb.1,hb.2,hs.1,hs.2,by omega⟩
 unfold De
 rw [hg,hl]
 simp only [Df,h1,h2,h3,h4,P9 hok]
 rfl
theorem lab_nil:DO []=0:=by rw [<-Mf,HT];simp
theorem Mv {g:Geo} {s:ByteArray} (hg:A_ g=true) (hs:DO s.data.toList=0):AN g (B5 g s)=true:=by
 obtain⟨h1,h2,h3,h4,h5⟩:=Ak.1 hg
 have hp:Oe ((List.range (g.d+1).toNat).map Int.ofNat) (g.d+1)=true:=by
  rcases(show g.d=1\/g.d=2\/g.d=3\/g.d=4 by omega) with h | h | h | h <;> rw [h] <;> decide
 have hh:Da g ⟨(List.range (g.d+1).toNat).map Int.ofNat,g.d+1,0⟩=true:=by
  simp [Da,hp,Cb]
  omega
 simp [AN,B5,hs,Cb]
 exact⟨by omega,by omega, .inr hh⟩
theorem Qt (b:List UInt8) (h:b.length<=100000000000):Fn Tryz.prog 16 [bA b,bA b] fun x=>x = .v (.bool true):=by
 have:=OT b b h
 rw [decide_eq_true rfl] at this
 exact this


end Go.Proofs.YtkolckdakddggaaGreatDoor.A
end
section
namespace Go.Proofs.YtkolckdakddggaaGreatDoor
open Go.ChangeShapes Go.WideShapes Go.ChangeAt Go.RowKit Go.Deep
variable {H:Type} {enc:TypeId × Value->H}

theorem R3 {w:World} {a:Addr} {u:Value} (h:w.cell? a=some u):a.spot=none:=by
 unfold World.cell? at h
 split at h
 ·split at h
  ·cases h
  ·rename_i hn
   cases hs:a.spot with
   | none=>rfl
   | some x=>rw [hs] at hn;exact absurd rfl hn
 ·cases h

theorem VN {k:Int} (h:(Lit.int .i64 k).wf=true):k<=9223372036854775807:=by
 have h2:IntKind.i64.min<=k/\k<=IntKind.i64.max:=by
  simp only [Lit.wf,Bool.and_eq_true,decide_eq_true_eq] at h
  exact h
 have e2:IntKind.i64.max=9223372036854775807:=by decide
 omega
theorem VM {k:Int} (h:(Lit.int .i64 k).wf=true) : -9223372036854775808<=k:=by
 have h2:IntKind.i64.min<=k/\k<=IntKind.i64.max:=by
  simp only [Lit.wf,Bool.and_eq_true,decide_eq_true_eq] at h
  exact h
 have e2:IntKind.i64.min = -9223372036854775808:=by decide
 omega
instance:Rp Geo where
 sz:=5
 agg:=true
 pos:=by omega
 E:=fun _ _ cs g=>cs=[.int .i64 g.z, .int .i64 g.d, .int .i64 g.sp, .int .i64 g.sl, .int .i64 g.an]
 len:=fun h=>by rw [h];rfl
 one:=fun h u hu=>by rw [h] at hu;simp at hu;rcases hu with rfl | rfl | rfl | rfl | rfl <;> rfl
 mono:=fun _ h=>h
end Go.Proofs.YtkolckdakddggaaGreatDoor
end
section
namespace Go.Proofs.YtkolckdakddggaaGreatDoor.A
open Go.RowKit
def JN (w:World):Ctx:={ w:=w,M:=noM,base:=w.heap.size,dom:=0,len:=fun _=>0,rho:=fun _=>undef }
theorem Fn.any {P:Program} {f:FuncId} {args:List AV} {a:AV} (h:Fn P f args fun r=>r=a) (w:World) (hg:globOk w) (us:List Value) (hr:RdL args (JN w) us) :
  Calls P f us.toArray w fun e w'=>∃ v,e = .returned v/\Below w.heap.size w w'/\Rd a { JN w with w:=w' } v:=by
 refine(h.calls (JN w) us rfl (fun _ h=>h.elim) hg hr).mono ?_
 rintro e w' ⟨v,r,rfl,rfl,h1,h2⟩
 exact⟨v,rfl,h1,h2⟩
theorem Fn.anyV {P:Program} {f:FuncId} {args:List AV} {a:Value} (h:Fn P f args fun r=>r = .v a) (w:World) (hg:globOk w) (us:List Value) (hr:RdL args (JN w) us) :
  Calls P f us.toArray w fun e w'=>e = .returned a/\Below w.heap.size w w':=by
 refine(h.any w hg us hr).mono ?_
 rintro e w' ⟨v,rfl,h1,h2⟩
 simp only [Rd] at h2
 exact⟨by rw [h2],h1⟩
end Go.Proofs.YtkolckdakddggaaGreatDoor.A
end
section
namespace Go.Proofs.YtkolckdakddggaaGreatDoor.A
open Go.RowKit Go.ChangeShapes Go.WideShapes Go.ChangeAt Go.Deep
open Go.ChangeMaps (open_string)

section
variable {H:Type} {enc:TypeId × Value->H} {w:World}
def OpenE (enc:TypeId × Value->H) (w:World) (t:TypeId) (sz:Nat) (G:List AV->Prop):Prop:=
 Tryz.prog.cellsOf t=sz/\∀ n cs x,DataW.trod enc Tryz.prog w 0 (fun _=>true) true n t cs=some x->∃ L,G L/\RdL L (JN w) cs/\(∀ u∈cs,u.oneCell'=true)/\L.length=sz
theorem OpenE.mono {t sz:Nat} {G G':List AV->Prop} (h:OpenE enc w t sz G) (hg:∀ L,G L->G' L):OpenE enc w t sz G':=
 ⟨h.1,fun n cs x hx=>let ⟨L,h1,h2⟩:=h.2 n cs x hx;⟨L,hg L h1,h2⟩⟩
def WX (L:List AV):Prop:=∃ k:Int,L=[.v (.int .i64 k)]/\ -9223372036854775808<=k/\k<=9223372036854775807
theorem WM {t:Nat} (ht:Tryz.prog.underlying t=some (.int .i64)) (hc:Tryz.prog.cellsOf t=1):OpenE enc w t 1 WX:=⟨hc,fun n cs x h=>by
 obtain⟨k,rfl, -,hw⟩:=DataW.trod_int ht h
 exact⟨_,⟨k,rfl,VM hw,VN hw⟩,by simp only [RdL,Rd];exact⟨_,_,rfl,rfl,rfl⟩,by simp [Value.oneCell'],rfl⟩⟩
def Yq {α:Type} (sz:Nat) (f:α->List AV) (d:α) (L:List AV):Prop:=∃ l:List α,L=[.sl sz l.length fun i=>f (l.getD i d)]
theorem Xw {α:Type} {t e sz:Nat} {f:α->List AV} {d:α} (ht:Tryz.prog.underlying t=some (.slice e)) (hc:Tryz.prog.cellsOf t=1) (hsz:0<sz) (he:OpenE enc w e sz fun L=>∃ a,L=f a):OpenE enc w t 1 (Yq sz f d):=⟨hc,fun n cs x h=>by
 have hnil:∀ (u:Value),Rd (.v (.slice none 0 0)) (JN w) u->Rd (.sl sz ([]:List α).length fun i=>f (([]:List α).getD i d)) (JN w) u:=fun u h=>by
  simp only [Rd] at h |-
  exact⟨none,0,h,by simp,by simp [maxLen], .inl rfl⟩
 rcases open_slice ht h with ⟨rfl, -⟩ | ⟨a,len,cap,m,n',D,Pl,rfl, -,hlc,hcm,hm, -,hel'⟩
 ·exact⟨_,⟨[],rfl⟩,by simp only [RdL];exact⟨_,_,rfl,hnil _ (by simp [Rd]),rfl⟩,by simp [Value.oneCell'],rfl⟩
 ·simp only [if_true] at hm
  subst hm
  obtain⟨b,off,spot⟩:=a
  by_cases h0:len=0
  ·subst h0
   refine⟨_,⟨[],rfl⟩,?_,by simp [Value.oneCell'],rfl⟩
   simp only [RdL,Rd]
   exact⟨_,_,rfl,⟨_,m,rfl,by simp,hcm, .inl rfl⟩,rfl⟩
  ·have hsp:spot=none:=by
    obtain⟨cs',hc',htr⟩:=hel' 0 (by omega)
    obtain⟨L,⟨a,rfl⟩,hR,h1,hl⟩:=he.2 n' cs' _ htr
    obtain⟨-,hl2,hcell⟩:=World.cells?_some hc'
    have hlen:=hR.length
    have:=hcell 0 (by rw [he.1];omega)
    rw [List.getElem?_eq_getElem (by omega)] at this
    simp only [Addr.add,Nat.zero_mul,if_true] at this
    exact R3 this
   subst hsp
   have key:∀ i,i<len->∃ cs,∃ a:α,RdL (f a) (JN w) cs/\(∀ u∈cs,u.oneCell'=true)/\(f a).length=sz/\∀ j u,cs[j]? = some u->w.cell? ⟨b,off+(i*sz+j),none⟩=some u:=fun i hi=>by
    obtain⟨cs',hc',htr⟩:=hel' i (by omega)
    obtain⟨L,⟨a,rfl⟩,hR,h1,hl⟩:=he.2 n' cs' _ htr
    refine⟨cs',a,hR,h1,hl,fun j u hu=>?_⟩
    obtain⟨-,hl2,hcell⟩:=World.cells?_some hc'
    have hj:j<Tryz.prog.cellsOf e:=by rw [<-hl2];exact(List.getElem?_eq_some_iff.1 hu).1
    have h3:=(hcell j hj).trans hu
    rw [he.1,Addr.add_lit,Addr.add_lit,Ch] at h3
    exact h3
   have hex:∀ k,k<=len->∃ l:List α,l.length=k/\∀ i,i<k->(f (l.getD i d)).length=sz/\RdAt (f (l.getD i d)) (JN w) b (off+i*sz):=by
    intro k
    induction k with
    | zero=>exact fun _=>⟨[],rfl,fun i hi=>absurd hi (Ai i)⟩
    | succ k ih=>
     intro hk
     obtain⟨l,hl,hr⟩:=ih (by omega)
     obtain⟨cs',a,hR,h1,hla,h2⟩:=key k (by omega)
     refine⟨l ++ [a],by simp [hl],fun i hi=>?_⟩
     by_cases hik:i<k
     ·have e:(l ++ [a]).getD i d=l.getD i d:=by rw [List.getD_eq_getElem?_getD,List.getD_eq_getElem?_getD,List.getElem?_append_left (by omega)]
      rw [e]
      exact hr i hik
     ·have e2:i=k:=by omega
      subst e2
      have e:(l ++ [a]).getD i d=a:=by rw [List.getD_eq_getElem?_getD,List.getElem?_append_right (by omega),hl];simp
      rw [e]
      refine⟨hla,RdAt.of hR h1 fun j u hu=>?_⟩
      have:=h2 j u hu
      rw [Ch]
      exact this
   obtain⟨l,hl,hr⟩:=hex len (Nat.le_refl _)
   refine⟨_,⟨l,rfl⟩,?_,by simp [Value.oneCell'],rfl⟩
   simp only [RdL,Rd]
   refine⟨_,_,rfl,⟨_,m,by rw [hl],by omega,hcm, .inr ⟨b,off,rfl,fun h=>h,?_,fun i hi=>hr i (by omega)⟩⟩,rfl⟩
   obtain⟨cs',a,hR,h1,hla,h2⟩:=key 0 (by omega)
   have hlen:=hR.length
   have h3:=h2 0 cs'[0] (List.getElem?_eq_getElem (by omega))
   exact World.block_lt_of_cell? _ _ h3⟩
def catG:List (List AV->Prop)->List AV->Prop
 | [],L=>L=[]
 | G::r,L=>∃ A B,L=A ++ B/\G A/\catG r B
structure FieldE (enc:TypeId × Value->H) (w:World) where
 t:TypeId
 sz:Nat
 G:List AV->Prop
 ok:OpenE enc w t sz G
theorem IZ {n:Nat} {cs:List Value}:∀ (fs:List (FieldE enc w)) (off:Nat),off+(fs.map (·.sz)).sum=cs.length->
  (∀ i f,fs[i]? = some f->∃ x,DataW.trod enc Tryz.prog w 0 (fun _=>true) true n f.t ((cs.drop (off+((fs.take i).map (·.sz)).sum)).take f.sz)=some x)->
  ∃ L,catG (fs.map (·.G)) L/\RdL L (JN w) (cs.drop off)/\(∀ u∈cs.drop off,u.oneCell'=true)/\L.length=(fs.map (·.sz)).sum
 | [],off,hl,_=>⟨[],rfl,by simp only [RdL];exact Au (by simp at hl;omega),by rw [Au (by simp at hl;omega)];simp,rfl⟩
 | f::r,off,hl,h=>by
  simp only [Ap,List.sum_cons] at hl |-
  obtain⟨x,hx⟩:=h 0 f rfl
  simp only [List.take_zero,AT,List.sum_nil,Ct] at hx
  obtain⟨A,hA,hRA,h1A,hlA⟩:=f.ok.2 _ _ _ hx
  obtain⟨B,hB,hRB,h1B,hlB⟩:=IZ (cs:=cs) r (off+f.sz) (by omega) (fun i g hg=>by
   obtain⟨y,hy⟩:=h (i+1) g (by simpa using hg)
   refine⟨y,?_⟩
   simp only [BY,Ap,List.sum_cons] at hy
   rw [Ch]
   exact hy)
  have e:cs.drop off=(cs.drop off).take f.sz ++ cs.drop (off+f.sz):=by rw [<-A4,Ba]
  refine⟨A ++ B,⟨A,B,rfl,hA,hB⟩,?_,?_,by simp [hlA,hlB]⟩
  ·rw [e];exact hRA.append hRB
  ·intro u hu
   rw [e,At] at hu
   exact hu.elim (h1A u) (h1B u)
theorem R_ {t:Nat} (fs:List (FieldE enc w)) {F:Array Field} (ht:Tryz.prog.underlying t=some (.struct F)) (hc:Tryz.prog.cellsOf t=(fs.map (·.sz)).sum)
  (hF:F.toList.map (fun f=>(f.type,f.offset))=fs.zipIdx.map fun p=>(p.1.t,((fs.take p.2).map (·.sz)).sum)):OpenE enc w t (fs.map (·.sz)).sum (catG (fs.map (·.G))):=⟨hc,fun n cs x h=>by
 obtain⟨xs,n',_,rfl,hl,hlen,hf⟩:=DataW.trod_struct ht h
 have hsz:F.size=fs.length:=by have:=congrArg List.length hF;simpa using this
 obtain⟨L,h1,h2,h3,h4⟩:=IZ (n:=n') (cs:=cs) fs 0 (by rw [hl,hc];omega) (fun i f hi=>by
  have hi':i<fs.length:=(List.getElem?_eq_some_iff.1 hi).1
  have hFi:F[i]? = some F[i]:=Array.getElem?_eq_getElem (by omega)
  have hx:=hf i F[i] hFi
  have he:(F[i].type,F[i].offset)=(f.t,((fs.take i).map (·.sz)).sum):=by
   have:=congrArg (fun l=>l[i]?) hF
   simp only [List.getElem?_map,List.getElem?_zipIdx,hi,Array.getElem?_toList,hFi,Option.map_some,Am,Option.some.injEq] at this
   exact this
  injection he with e1 e2
  rw [e1,e2,f.ok.1] at hx
  rw [List.getElem?_eq_getElem (by omega)] at hx
  rw [Am]
  exact⟨_,hx⟩)
 exact⟨L,h1,by simpa using h2,by simpa using h3,h4⟩⟩
end
section
variable {H:Type} {enc:TypeId × Value->H} {w:World}
theorem oI:OpenE enc w 3 1 WX:=WM Tryz.underlying3 (by kernel_rfl)
def fI:FieldE enc w:=⟨_,_,_,oI⟩
theorem oGeo:OpenE enc w 23 5 fun L=>∃ x,L=AF x:=
 (R_ [fI,fI,fI,fI,fI] Tryz.underlying23 (by kernel_rfl) (by kernel_rfl)).mono fun L h=>by
  obtain⟨_,_,rfl,⟨a,rfl,_⟩,_,_,rfl,⟨b,rfl,_⟩,_,_,rfl,⟨c,rfl,_⟩,_,_,rfl,⟨d,rfl,_⟩,_,_,rfl,⟨e,rfl,_⟩,rfl⟩:=h
  exact⟨⟨a,b,c,d,e⟩,rfl⟩
def XH (l:List Int):List AV:=l.map fun k=> .v (.int .i64 k)
theorem cat_ints:∀ (n:Nat) {L:List AV},catG (List.replicate n WX) L->∃ l:List Int,l.length=n/\L=XH l/\∀ k∈l, -9223372036854775808<=k/\k<=9223372036854775807
 | 0,L,h=>⟨[],rfl,h,by simp⟩
 | n+1,L,h=>by
  obtain⟨A,B,rfl,⟨k,rfl,hk⟩,hB⟩:=h
  obtain⟨l,h1,rfl,h2⟩:=cat_ints n hB
  refine⟨k::l,by simp [h1],rfl,fun x hx=>?_⟩
  rcases A9.1 hx with rfl | hx
  ·exact hk
  ·exact h2 x hx
theorem WN {t n:Nat} (ht:Tryz.prog.underlying t=some (.array n 3)) (hc:Tryz.prog.cellsOf t=n):OpenE enc w t n fun L=>∃ l:List Int,l.length=n/\L=XH l/\∀ k∈l, -9223372036854775808<=k/\k<=9223372036854775807:=⟨hc,fun m cs x h=>by
 obtain⟨xs,m',_,rfl,hl,hlen,hel⟩:=DataW.trod_array ht h
 have hs:((List.replicate n (fI:FieldE enc w)).map (·.sz)).sum=n:=by
  rw [List.map_replicate,List.sum_replicate_nat]
  exact Nat.mul_one n
 obtain⟨L,h1,h2,h3,h4⟩:=IZ (n:=m') (cs:=cs) (List.replicate n (fI:FieldE enc w)) 0 (by rw [hl,hc,hs];omega) (fun i f hi=>by
  have hin:i<n:=by simpa using (List.getElem?_eq_some_iff.1 hi).1
  rw [List.getElem?_replicate_of_lt hin] at hi
  have hi:=(Option.some.inj hi).symm
  subst hi
  have:=hel i hin
  rw [(oI (enc:=enc) (w:=w)).1,List.getElem?_eq_getElem (by omega)] at this
  refine⟨_,Eq.trans ?_ this⟩
  have e:((List.take i (List.replicate n (fI:FieldE enc w))).map (·.sz)).sum=i*1:=by
   rw [List.take_replicate,List.map_replicate,List.sum_replicate_nat,C4 (by omega)]
   rfl
  rw [e,Am]
  rfl)
 rw [List.map_replicate] at h1
 obtain⟨l,q1,q2,q3⟩:=cat_ints n h1
 exact⟨L,⟨l,q1,q2,q3⟩,by simpa using h2,by simpa using h3,by rw [h4,hs]⟩⟩

theorem Wd {t:Nat} {G:List AV->Prop} {v:Value} {d:DataW H} {ps:List MemPlace} (ho:OpenE enc w t 1 G) (hv:v.cells.toList=[v]) (h:DataW.Trod enc Tryz.prog w 0 (fun _=>true) true t v d ps):∃ L,G L/\RdL L (JN w) [v]:=by
 obtain⟨n,hn⟩:=h
 obtain⟨L,h1,h2,_⟩:=ho.2 n _ _ hn
 rw [hv] at h2
 exact⟨L,h1,h2⟩
theorem We {t sz:Nat} {G:List AV->Prop} {cs:Array Value} {d:DataW H} {ps:List MemPlace} (ho:OpenE enc w t sz G) (h:DataW.Trod enc Tryz.prog w 0 (fun _=>true) true t (.agg cs) d ps):∃ L,G L/\Rd (.ag L) (JN w) (.agg cs):=by
 obtain⟨n,hn⟩:=h
 obtain⟨L,h1,h2,_⟩:=ho.2 n _ _ hn
 refine⟨L,h1,?_⟩
 simp only [Rd]
 exact⟨cs.toList,rfl,h2⟩
theorem V2 {a:AV} {c:Ctx} {v:Value} (h:RdL [a] c [v]):Rd a c v:=by
 simp only [RdL] at h
 obtain⟨y,ys,e,h1,_⟩:=h
 injection e with e _
 subst e
 exact h1
end
end Go.Proofs.YtkolckdakddggaaGreatDoor.A
end
section
namespace Go.Proofs.YtkolckdakddggaaGreatDoor.A
open Go.RowKit
theorem Ps {g:Geo} {x:Gt} {copy slot:Int} (h:(A_ g&&J9 g copy slot)=false):De g x copy slot=none:=by
 unfold De
 rw [h]
 rfl
theorem Ku {g:Geo} {x:Gt} {copy slot:Int} {r:Rc} (h:De g x copy slot=some r):Eb g r=true/\J9 g copy slot=true/\r.img.bytes.length<=59:=by
 unfold De at h
 split at h
 ·rename_i hc
  simp only [Bool.and_eq_true] at hc
  split at h
  ·rename_i r' hr
   split at h
   ·injection h with h
    subst h
    obtain⟨h1,h2⟩:=P8 hr
    have h3:=Ej h1
    have h4:=Iq h1
    refine⟨h1,hc.1.1.1.2,?_⟩
    by_cases hk:r'.kind=1
    ·rw [if_pos hk] at h4
     omega
    ·have:r'.img.bytes.length=0:=by
      unfold Eb Fy at h1
      simp only [Bool.and_eq_true] at h1
      have h5:=h1.2
      split at h5
      ·simp only [FF,Bool.and_eq_true,beq_iff_eq] at h5
       omega
      ·split at h5
       ·simp only [FF,Bool.and_eq_true,beq_iff_eq] at h5
        omega
       ·cases h5
     omega
   ·cases h
  ·cases h
 ·cases h
theorem Oz {p q:Option Rc} {b1 b2:Bool} {Q:Rc->Prop} (h1:b1=true->∃ r,p=some r/\Q r) (h2:b2=true->∃ r,q=some r/\Q r) :
  ((BR p q b1 b2).2.2=1/\Q (BR p q b1 b2).1/\(BR p q b1 b2).2.1.length<=1/\∀ c∈(BR p q b1 b2).2.1,c=0\/c=1)\/(((BR p q b1 b2).2.2=2\/(BR p q b1 b2).2.2=3)/\(BR p q b1 b2).2.1=[]/\(BR p q b1 b2).1=zeroC):=by
 unfold BR
 cases b1 <;> cases b2
 ·by_cases h:(p.isSome || q.isSome)=true
  ·simp [h]
  ·simp [h]
 ·obtain⟨r,rfl,hr⟩:=h2 rfl
  exact .inl ⟨rfl,hr,by simp,by simp⟩
 ·obtain⟨r,rfl,hr⟩:=h1 rfl
  exact .inl ⟨rfl,hr,by simp,by simp⟩
 ·obtain⟨r,rfl,hr⟩:=h1 rfl
  exact .inl ⟨rfl,hr,by simp,by simp⟩
theorem On {g:Geo} {a:An} {x:Gt} {c slot seq at_ of_ left:Int} (h:Dr (De g x c slot) a seq at_ of_ left=true):∃ r,De g x c slot=some r/\Eb g r=true/\r.img.bytes.length<=59/\C2 r a seq at_ of_ left=true:=by
 cases hp:De g x c slot with
 | none=>rw [hp] at h;cases h
 | some r=>
  rw [hp] at h
  obtain⟨e1, -,e3⟩:=Ku hp
  exact⟨r,rfl,e1,e3,h⟩
theorem JA {g:Geo} {a:An} {x y:Gt} {slot seq at_ of_ left:Int} (hs:0<=slot/\slot<g.sl) :
  ((DL g a x y slot seq at_ of_ left).2.2=1/\(Eb g (DL g a x y slot seq at_ of_ left).1=true/\(DL g a x y slot seq at_ of_ left).1.img.bytes.length<=59/\C2 (DL g a x y slot seq at_ of_ left).1 a seq at_ of_ left=true)/\(DL g a x y slot seq at_ of_ left).2.1.length<=1/\∀ c∈(DL g a x y slot seq at_ of_ left).2.1,J9 g c slot=true)\/
  (((DL g a x y slot seq at_ of_ left).2.2=2\/(DL g a x y slot seq at_ of_ left).2.2=3)/\(DL g a x y slot seq at_ of_ left).2.1=[]/\(DL g a x y slot seq at_ of_ left).1=zeroC):=by
 have hi:Cb slot 0 (g.sl - 1)=true:=A0.2 (by omega)
 have o0:J9 g 0 slot=true:=by rw [J9,hi];rfl
 have o1:J9 g 1 slot=true:=by rw [J9,hi];rfl
 refine(Oz (Q:=fun r=>Eb g r=true/\r.img.bytes.length<=59/\C2 r a seq at_ of_ left=true) On On).imp (fun h=>⟨h.1,h.2.1,h.2.2.1,fun c hc=>?_⟩) id
 rcases h.2.2.2 c hc with rfl | rfl
 ·exact o0
 ·exact o1
def gz:Gt:=⟨0, []⟩
def CU (g:Geo) (pos at_:Int):Int:=(IntKind.i64.wrap (pos+at_)).tmod g.sl
def CN (g:Geo) (a:An) (x y:List Gt) (pos seq left at_ of_:Int):Rc × Int × List Wr:=
 let s:=CU g pos at_
 let q:=DL g a (x.getD s.toNat gz) (y.getD s.toNat gz) s seq at_ of_ left
 (q.1,q.2.2,q.2.1.map fun c=>⟨Bz g c s,Df g q.1 c s⟩)
def Bh (look:Int->Rc × Int × List Wr):Nat->Int->Rc->List Img->List Wr->Int × List Img × List Wr
 | 0,_,r,im,w=>(1,if r.kind=1 then im ++ [r.img] else im,w)
 | f+1,at_,r,im,w=>
  let q:=look at_
  if q.2.1≠1 then (q.2.1, [], []) else Bh look f (at_+1) q.1 (if r.kind=1 then im ++ [r.img] else im) (w ++ q.2.2)
def Fp (g:Geo) (a:An) (x y:List Gt) (pos seq left:Int):Int × Int × List Img × List Wr:=
 let q:=CN g a x y pos seq left 0 0
 if q.2.1≠1 then (q.2.1,0, [], []) else
  let t:=Bh (fun k=>CN g a x y pos seq left k q.1.of_) (q.1.of_ - 1).toNat 1 q.1 [] q.2.2
  if t.1≠1 then (t.1,0, [], []) else (1,q.1.of_,t.2.1,t.2.2)
def DV (g:Geo) (a:An) (x y:List Gt):Nat->Int->Int->Int->List Tx->List Wr->Option (List Tx × List Wr × Int)
 | 0,_,seq,_,l,w=>some (l,w,seq)
 | f+1,pos,seq,left,l,w=>
  if 0<left/\seq<=4294967295 then
   let t:=Fp g a x y pos seq left
   if t.1=3 then none else if t.1≠1 then some (l,w,seq)
   else DV g a x y f ((pos+t.2.1).tmod g.sl) (seq+1) (left - t.2.1) (l ++ [⟨seq,pos,t.2.1,t.2.2.1⟩]) (w ++ t.2.2.2)
  else some (l,w,seq)
def damaged:Int:=12
def Sz (a:An):Option (List Tx × List Wr × Int)->List Tx × List Wr × Int
 | none=>([], [],damaged)
 | some (l,w,seq)=>if seq - 1<a.last then ([], [],damaged) else (l,w,0)
theorem GR {a:An} {l:List Tx} {w:List Wr} {seq:Int} (h:seq - 1<a.last):Sz a (some (l,w,seq))=([], [],damaged):=if_pos h
theorem EG {a:An} {l:List Tx} {w:List Wr} {seq:Int} (h:¬seq - 1<a.last):Sz a (some (l,w,seq))=(l,w,0):=if_neg h
def Dl (g:Geo) (a:An) (x y:List Gt):List Tx × List Wr × Int:=Sz a (DV g a x y g.sl.toNat a.pos a.seq g.sl [] [])
theorem Kn {g:Geo} {pos at_:Int} (hg:A_ g=true) (hp:0<=pos/\pos<g.sl) (hat:0<=at_/\at_<=1000):0<=CU g pos at_/\CU g pos at_<g.sl:=by
 obtain⟨h1,h2,h3,h4,h5⟩:=Ak.1 hg
 have hw:IntKind.i64.wrap (pos+at_)=pos+at_:=by rw [IntKind.wrap_i64];omega
 exact⟨Bo _ (by rw [hw];omega),Int.tmod_lt_of_pos _ (by omega)⟩
theorem FZ {g:Geo} {a:An} {x y:List Gt} {pos seq left at_ of_:Int} (hg:A_ g=true) (hp:0<=pos/\pos<g.sl) (hat:0<=at_/\at_<=1000) :
  ((CN g a x y pos seq left at_ of_).2.1=1/\(Eb g (CN g a x y pos seq left at_ of_).1=true/\(CN g a x y pos seq left at_ of_).1.img.bytes.length<=59/\C2 (CN g a x y pos seq left at_ of_).1 a seq at_ of_ left=true)/\(CN g a x y pos seq left at_ of_).2.2.length<=1)\/
  (((CN g a x y pos seq left at_ of_).2.1=2\/(CN g a x y pos seq left at_ of_).2.1=3)/\(CN g a x y pos seq left at_ of_).2.2=[]/\(CN g a x y pos seq left at_ of_).1=zeroC):=by
 refine(JA (a:=a) (x:=x.getD (CU g pos at_).toNat gz) (y:=y.getD (CU g pos at_).toNat gz) (seq:=seq) (at_:=at_) (of_:=of_) (left:=left) (Kn hg hp hat)).imp (fun h=>⟨h.1,h.2.1,?_⟩) (fun h=>⟨h.1,?_,h.2.2⟩)
 ·simp only [CN,Aa]
  exact h.2.2.1
 ·simp only [CN,h.2.1,AT]
theorem IY {r:Rc} {g:Geo} {a:An} {seq at_ of_ left:Int} (hk:Eb g r=true) (h:C2 r a seq at_ of_ left=true):2<=r.of_/\r.of_<=30/\r.at_=at_/\r.at_<=r.of_ - 1/\(of_=0->r.of_<=left)/\(of_≠0->r.of_=of_):=by
 have h:=of_decide_eq_true h
 unfold Eb Fy at hk
 simp only [Bool.and_eq_true] at hk
 have h2:=hk.2
 rw [if_neg h.1] at h2
 split at h2
 ·simp only [EM,Bool.and_eq_true,A0] at h2
  refine⟨by omega,by omega,h.2.2.1,by omega,h.2.2.2.1,h.2.2.2.2.1⟩
 ·split at h2
  ·simp only [EM,Bool.and_eq_true,A0,beq_iff_eq] at h2
   refine⟨by omega,by omega,h.2.2.1,by omega,h.2.2.2.1,h.2.2.2.2.1⟩
  ·cases h2
@[reducible] def Yu (g:Geo) (a:An) (x y:List Gt) (pos seq left:Int) (w:AV):List AV:=
 [.v (.int .i64 g.z), .v (.int .i64 g.d), .v (.int .i64 g.sp), .v (.int .i64 g.sl), .v (.int .i64 g.an), .v (.int .i64 a.gen), .v (.int .i64 a.epoch), .v (.int .i64 a.pos), .v (.int .i64 a.seq), .v (.int .i64 a.last), .v (.string a.label),Hq a.homes,Fi x,Fi y, .v (.int .i64 pos), .v (.int .i64 seq), .v (.int .i64 left),w]
theorem PS (seq epoch of_:Int) {k:Nat} {l:List Img} (hk:k<l.length):(HW seq epoch of_ (k+1) l).map FB=(HW seq epoch of_ k l).map FB ++ [FB ⟨1,seq,epoch,(k:Nat),of_,l.getD k ⟨0,0, []⟩⟩]:=by
 rw [Sm seq epoch of_ hk,Ax,List.getD_eq_getElem?_getD,List.getElem?_eq_getElem hk];rfl

def Ui (seq epoch n:Int):List AV:= [.v (.int .i64 2), .v (.int .i64 seq), .v (.int .i64 epoch), .v (.int .i64 n), .v (.int .i64 (n+1)), .v (.int .i64 0), .v (.int .i64 0), .v (.slice none 0 0)]
theorem TJ (seq epoch:Int) (l:List Img) (i:Nat) (hi:i<l.length+1) :
  SubL ((List.map FB (HW seq epoch (l.length+1) l.length l) ++ [Ui seq epoch l.length]).getD i [])
   (FB ((EJ seq epoch l).getD i ⟨0,0,0,0,0,⟨0,0, []⟩⟩)):=by
 have hlk:(HW seq epoch (l.length+1) l.length l).length=l.length:=by rw [I3];omega
 rcases B6 i l.length with h | h
 ·have e1:(List.map FB (HW seq epoch (l.length+1) l.length l) ++ [Ui seq epoch l.length]).getD i []=FB ((EJ seq epoch l).getD i ⟨0,0,0,0,0,⟨0,0, []⟩⟩):=by
   unfold EJ
   rw [I6 (by rw [Aa,hlk];exact h),I6 (by rw [hlk];exact h)]
   exact AR (by rw [hlk];exact h)
  rw [e1]
  exact SubL.refl _
 ·obtain rfl:i=l.length:=by omega
  unfold EJ
  rw [Hg (by rw [Aa,hlk];omega),Hg (by rw [hlk];omega),Aa,hlk,C8]
  simp only [List.getD_cons_zero,FB,noImg,Ui]
  exact⟨fun _ _ h=>h,fun _ _ h=>h,fun _ _ h=>h,fun _ _ h=>h,fun _ _ h=>h,fun _ _ h=>h,fun _ _ h=>h,AX _ _,trivial⟩
theorem K1 (seq epoch:Int) (l:List Img):(EJ seq epoch l).length=l.length+1:=by
 unfold EJ;rw [List.length_append,I3];simp
theorem P6 (seq epoch:Int) (l:List Img) (hl:l.length<=1000000) (hb:∀ x∈l,x.bytes.length<=1000000000):Fn Tryz.prog 71 [.v (.int .i64 seq), .v (.int .i64 epoch),Ef l] fun r=>r=TK (EJ seq epoch l):=by
 refine Fn.st Tryz.func71 rfl ?_
 conv=>whnf
 refine aLoop.rule Nat (fun k=>([(0, .v (.int .i64 seq)),(1, .v (.int .i64 epoch)),(2,Ef l),(7, .ow 0 k),(8, .v (.int .i64 k))], [.row 152 8 ((HW seq epoch (l.length+1) k l).map FB)])) (fun k=>k<=l.length) (fun k=>l.length - k) 0 (Ad _) ⟨[(7,152,8)],⟨rfl,rfl,trivial⟩,⟨rfl,rfl,rfl,rfl,rfl,trivial⟩,⟨rfl,trivial⟩,rfl,rfl,rfl⟩ ?_
 rintro k hk
 have hlk:=I3 seq epoch (l.length+1) k l
 conv=>whnf
 refine Ah (fun h2=>?_) (fun h2=>?_) <;> simp at h2 <;> conv=>whnf
 ·refine aDraw.seq tys_ok mixed (by kernel_rfl) ?_
  conv=>whnf
  refine⟨by first | omega | (refine⟨rfl,?_,?_⟩ <;> first | omega | (simp only [Aa];done) | (simp only [Aa];omega)) | (simp only [Aa];omega),?_⟩
  conv=>whnf
  refine⟨by first | omega | (refine⟨rfl,?_,?_⟩ <;> first | omega | (simp only [Aa];done) | (simp only [Aa];omega)) | (simp only [Aa];omega),?_⟩
  conv=>whnf
  refine⟨by first | omega | (refine⟨rfl,?_,?_⟩ <;> first | omega | (simp only [Aa];done) | (simp only [Aa];omega)) | (simp only [Aa];omega),?_⟩
  conv=>whnf
  refine Fn.closed (Dh (l.getD k ⟨0,0, []⟩).bytes (hb _ (Ay h2))) rfl ?_
  rintro _ rfl
  refine⟨rfl,?_⟩
  conv=>whnf
  refine⟨⟨by rw [Aa,hlk];omega,by omega⟩,?_⟩
  refine⟨k+1,by omega,by omega, [],trivial,⟨rfl,rfl,rfl,rfl,A7 (by omega),trivial⟩,⟨Xu ?_,trivial⟩,rfl,rfl,rfl⟩
  rw [PS _ _ _ h2,wi (by omega)]
  rfl
 ·obtain rfl:k=l.length:=by omega
  rw [wi (by omega)]
  refine⟨rfl,?_⟩
  conv=>whnf
  refine⟨⟨by rw [Aa,hlk];omega,by omega⟩,?_⟩
  conv=>whnf
  refine⟨by rw [List.length_append,Aa,hlk];simp,?_⟩
  exact⟨TK (EJ seq epoch l),fun c v h=>Rd.sub (K1 seq epoch l).symm (TJ seq epoch l) h,rfl⟩

def Im (g:Geo) (a:An) (x y:List Gt):List Tx × List Wr × Int:=
 if A_ g&&AN g a then (if (x.length:Int)=g.sl/\(y.length:Int)=g.sl then Dl g a x y else ([], [],2)) else ([], [],1)
theorem IR (k:Int) (c:Ctx) (u:Value) (h:Rd (.tp [.v (.slice none 0 0), .v (.slice none 0 0), .v (.int .i64 k)]) c u):Rd (.tp [CW [],Kc [], .v (.int .i64 k)]) c u:=by
 refine BI ?_ c u h
 exact⟨AX _ _,AX _ _,fun _ _ h=>h,trivial⟩
theorem IE {g:Geo} {a:An} (h:AN g a=true):(0<=a.seq/\a.seq<=4294967296)/\0<=a.pos/\a.pos<g.sl:=by
 simp only [AN,AK,Bool.and_eq_true,A0] at h
 omega
theorem JE {look:Int->Rc × Int × List Wr}:∀ (f:Nat) (k:Int) (r:Rc) (im:List Img) (w:List Wr),(∀ i,k<=i->i<k+f->(look i).2.2.length<=1)->(Bh look f k r im w).2.2.length<=w.length+f
 | 0,_,_,_,_,_=>by simp [Bh]
 | f+1,k,r,im,w,h=>by
  have h1:=h k (by omega) (by omega)
  unfold Bh
  simp only
  split
  ·simp
  ·have:=JE f (k+1) (look k).1 (if r.kind=1 then im ++ [r.img] else im) (w ++ (look k).2.2) fun i h2 h3=>h i (by omega) (by omega)
   rw [List.length_append] at this
   omega
theorem JF {look:Int->Rc × Int × List Wr}:∀ (f:Nat) (k:Int) (r:Rc) (im:List Img) (w:List Wr),(∀ i,k<=i->i<k+f->(look i).2.1=1\/(look i).2.1=2\/(look i).2.1=3)->(Bh look f k r im w).1=1\/(Bh look f k r im w).1=2\/(Bh look f k r im w).1=3
 | 0,_,_,_,_,_=> .inl rfl
 | f+1,k,r,im,w,h=>by
  have h1:=h k (by omega) (by omega)
  unfold Bh
  simp only
  split
  ·exact h1
  ·exact JF f (k+1) (look k).1 (if r.kind=1 then im ++ [r.img] else im) (w ++ (look k).2.2) fun i h2 h3=>h i (by omega) (by omega)
theorem H4 {g:Geo} {a:An} {x y:List Gt} {pos seq left:Int} (hg:A_ g=true) (hp:0<=pos/\pos<g.sl) :
  ((Fp g a x y pos seq left).1=1/\(2<=(Fp g a x y pos seq left).2.1/\(Fp g a x y pos seq left).2.1<=left/\(Fp g a x y pos seq left).2.1<=30)/\(Fp g a x y pos seq left).2.2.2.length<=30)\/((Fp g a x y pos seq left).1=2\/(Fp g a x y pos seq left).1=3):=by
 have r0:=FZ (a:=a) (x:=x) (y:=y) (seq:=seq) (left:=left) (of_:=0) (at_:=0) hg hp (by omega)
 unfold Fp
 simp only
 rcases r0 with ⟨e1,⟨e2, -,e3⟩,e4⟩ | ⟨e1, -, -⟩
 ·rw [if_neg (by omega)]
  have hN:=IY e2 e3
  have hA:=fun(i:Int) (h1:1<=i) (h2:i<1+((CN g a x y pos seq left 0 0).1.of_ - 1).toNat)=>FZ (a:=a) (x:=x) (y:=y) (seq:=seq) (left:=left) (of_:=(CN g a x y pos seq left 0 0).1.of_) (at_:=i) hg hp (by omega)
  have hH:=JF (look:=fun k=>CN g a x y pos seq left k (CN g a x y pos seq left 0 0).1.of_) ((CN g a x y pos seq left 0 0).1.of_ - 1).toNat 1 (CN g a x y pos seq left 0 0).1 [] (CN g a x y pos seq left 0 0).2.2 fun i h1 h2=>(hA i h1 h2).imp (fun h=>h.1) fun h=>h.1
  split
  ·exact .inr (hH.resolve_left ‹_›)
  ·refine .inl ⟨rfl,⟨hN.1,hN.2.2.2.2.1 rfl,hN.2.1⟩,?_⟩
   have:=JE (look:=fun k=>CN g a x y pos seq left k (CN g a x y pos seq left 0 0).1.of_) ((CN g a x y pos seq left 0 0).1.of_ - 1).toNat 1 (CN g a x y pos seq left 0 0).1 [] (CN g a x y pos seq left 0 0).2.2 fun i h1 h2=>by
    rcases hA i h1 h2 with ⟨_,_,h⟩ | ⟨_,h,_⟩
    ·exact h
    ·rw [h];simp
   exact AS this (by omega)
 ·rw [if_pos (by omega)]
  exact .inr e1
def Xs (g:Geo) (t:Tx) (s:Int):Int:=(IntKind.i64.wrap (IntKind.i64.wrap (s - t.pos)+g.sl)).tmod g.sl
def Xr (g:Geo) (t:Tx) (s:Int):Bool:=Cb t.pos 0 (g.sl - 1)&&Cb t.n 0 g.sl&&decide (Xs g t s<t.n)
def W0 (g:Geo) (s:Int):List Tx->Nat->Option (Nat × Int)
 | [],_=>none
 | t::r,i=>if Xr g t s then some (i,Xs g t s) else W0 g s r (i+1)
end Go.Proofs.YtkolckdakddggaaGreatDoor.A
end
section
namespace Go.Proofs.YtkolckdakddggaaGreatDoor

def rc0:Rc:=⟨0,0,0,0,0,⟨0,0, []⟩⟩
theorem RJ (seq epoch:Int) (l:List Img) {k:Nat} (hk:k<l.length+1):(EJ seq epoch l).getD k rc0=if k<l.length then ⟨1,seq,epoch,(k:Nat),l.length+1,l.getD k ⟨0,0, []⟩⟩ else ⟨2,seq,epoch,(k:Nat),l.length+1,noImg⟩:=by
 have hlen:(HW seq epoch (l.length+1) l.length l).length=l.length:=by rw [I3];omega
 unfold EJ
 rw [List.getD_eq_getElem?_getD]
 by_cases h:k<l.length
 ·rw [if_pos h,List.getElem?_append_left (by omega)]
  have h2:(HW seq epoch (l.length+1) l.length l)[k]? = some ⟨1,seq,epoch,(k:Nat),l.length+1,l[k]⟩:=by
   unfold HW
   rw [List.take_length,List.getElem?_map,List.getElem?_zipIdx,List.getElem?_eq_getElem h]
   simp
  rw [h2,List.getD_eq_getElem?_getD,List.getElem?_eq_getElem h]
  rfl
 ·have e:k=l.length:=by omega
  subst e
  rw [if_neg h,List.getElem?_append_right (by omega),hlen]
  simp
structure RecAt (g:Geo) (seq epoch:Int) (l:List Img) (k:Nat) (r:Rc):Prop where
 ok:Eb g r=true
 seq:r.seq=seq
 epoch:r.epoch=epoch
 at_:r.at_=(k:Nat)
 of_:r.of_=l.length+1
 kind:r.kind≠0
 img:(r.kind=1↔k<l.length)/\(k<l.length->r.img=l.getD k ⟨0,0, []⟩)
end Go.Proofs.YtkolckdakddggaaGreatDoor
end
section
namespace Go.Proofs.YtkolckdakddggaaGreatDoor.A
open Go.RowKit
def tz:Tx:=⟨0,0,0, []⟩
def TO (g:Geo) (l:List Tx) (epoch s:Int):Rc:=match W0 g s l 0 with
 | none=>zeroC
 | some (i,k)=>(EJ (l.getD i tz).seq epoch (l.getD i tz).images).getD k.toNat zeroC
def F5 (g:Geo) (l:List Tx) (epoch copy:Int) (n:Nat):List Gt:=(List.range n).map fun s=>⟨0,Df g (TO g l epoch (s:Nat)) copy (s:Nat)⟩
structure LogOk (g:Geo) (l:List Tx) (epoch:Int):Prop where
 len:l.length<=1000
 img:∀ t∈l,t.images.length<=1000/\∀ x∈t.images,x.bytes.length<=1000000
 who:∀ s i k,0<=s/\s<g.sl->W0 g s l 0=some (i,k)->i<l.length/\0<=k/\k.toNat<(l.getD i tz).images.length+1
 ok:∀ s,0<=s/\s<g.sl->Eb g (TO g l epoch s)=true
def iz:Img:=⟨0,0, []⟩
def FL (l:List Img) (z w:Int):Nat->Option Img
 | 0=>none
 | k+1=>if (l.getD k iz).zone=z/\(l.getD k iz).what=w then some (l.getD k iz) else FL l z w k
def DM (l:List Tx) (z w:Int):Nat->Option (Img × Int)
 | 0=>none
 | k+1=>match FL (l.getD k tz).images z w (l.getD k tz).images.length with
  | some x=>some (x,(l.getD k tz).seq)
  | none=>DM l z w k
def Fx (l:List Tx) (z w:Int):Option (Img × Int):=DM l z w l.length
theorem Mx {l:List Img} {z w:Int}:∀ {k:Nat} {x:Img},k<=l.length->FL l z w k=some x->x∈l/\x.zone=z/\x.what=w
 | k+1,x,hk,h=>by
  rw [FL] at h
  split at h
  ·rename_i hc
   obtain rfl:=Option.some.inj h
   exact⟨Ay (by omega),hc⟩
  ·exact Mx (by omega) h
theorem Mw {l:List Tx} {z w:Int}:∀ {k:Nat} {x:Img} {s:Int},k<=l.length->DM l z w k=some (x,s)->∃ t∈l,t.seq=s/\x∈t.images/\x.zone=z/\x.what=w
 | k+1,x,s,hk,h=>by
  rw [DM] at h
  split at h
  ·rename_i y hy
   obtain⟨rfl,rfl⟩:=Prod.mk.inj (Option.some.inj h)
   exact⟨l.getD k tz,Ay (by omega),rfl,Mx (Nat.le_refl _) hy⟩
  ·exact Mw (by omega) h
def D4 (a:An) (l:List Tx) (z:Int):Int:=match Fx l z 255 with
 | some p=>p.2
 | none=>(a.homes.getD z.toNat ⟨[],0,0⟩).root
def Hs (n:Int):Int:=if 0<=n/\n<=30 then n else 0
def Gr (l:List Tx):Nat->Int
 | 0=>0
 | k+1=>Gr l k+Hs (l.getD k tz).n
def D7 (l:List Tx):Int:=Gr l l.length
theorem NB (n:Int):0<=Hs n/\Hs n<=30:=by
 unfold Hs
 split <;> omega
theorem If (l:List Tx):∀ k:Nat,0<=Gr l k/\Gr l k<=30*k
 | 0=>by simp [Gr]
 | k+1=>by
  have:=If l k
  have:=NB (l.getD k tz).n
  rw [Gr]
  omega
def F4 (g:Geo) (w:Int):Int:=if w = -1 then g.d else w
def B3 (g:Geo) (a:An) (z w:Int):Int:=BG g z ((a.homes.getD z.toNat ⟨[],0,0⟩).places.getD (F4 g w).toNat 0)
def Cr (g:Geo) (x:Gt) (addr root:Int):Option (List Ent):=match BE x addr with
 | some s=>if s.stamp=root then Ck g s.pay else none
 | none=>none
def Fk (x:Gt) (addr:Int) (e:Ent):Option (List UInt8):=match BE x addr with
 | some s=>if s.stamp=e.stamp/\s.pay.length=8/\((CG s.pay:Nat):Int)=e.sum then some s.pay else none
 | none=>none
def Hn (a b:List UInt8):List UInt8:=List.zipWith (fun x y=>x ^^^ y) a b
def ez:Ent:=⟨0,0,false⟩
def Di (t:List Ent) (had:List (List UInt8)) (at_:Nat):Nat->Option (List UInt8)
 | 0=>some zero8
 | k+1=>match Di t had at_ k with
  | none=>none
  | some b=>if k=at_\/(t.getD k ez).lost=true then some b else if (had.getD k []).length=0 then none else some (Hn b (had.getD k []))
def HU (g:Geo) (t:List Ent) (had:List (List UInt8)) (at_:Nat):List UInt8:=
 if (t.getD at_ ez).lost then []
 else if 0<(had.getD at_ []).length then had.getD at_ []
 else match Di t had at_ (g.d.toNat+1) with
  | none=> []
  | some b=>if ((CG b:Nat):Int)=(t.getD at_ ez).sum then b else []
def flatX:AV->Bool
 | .v _=>true
 | _=>false
def flatO:AV->Bool
 | .v _=>true
 | .ow _ _=>true
 | .tp l=>l.all fun x=>match x with | .v _=>true | .ow _ _=>true | _=>false
 | _=>false
def flatR:List AB->Bool
 | []=>true
 | .row _ _ es::r=>es.flatten.all flatX&&flatR r
 | _::_=>false
theorem OH {c c':Ctx}:∀ {l:List AV} {us:List Value},l.all flatX=true->RdL l c us->RdL l c' us
 | [],us,_,h=>by simpa only [RdL] using h
 | x::l,us,hf,h=>by
  rw [AK,Bool.and_eq_true] at hf
  simp only [RdL] at h |-
  obtain⟨u,vs,rfl,h1,h2⟩:=h
  refine⟨u,vs,rfl,?_,OH hf.2 h2⟩
  cases x <;> simp [flatX] at hf
  simpa only [Rd] using h1
theorem Nu {c c':Ctx} (hr:c'.rho=c.rho) (hl:c'.len=c.len) (hd:c'.dom=c.dom) {x:AV} (hx:(match x with | .v _=>true | .ow _ _=>true | _=>false)=true) {u:Value} (h:Rd x c u):Rd x c' u:=by
 cases x <;> simp at hx
 ·simpa only [Rd] using h
 ·simp only [Rd] at h |-
  rw [hr,hl,hd]
  exact h
theorem U7 {c c':Ctx} (hr:c'.rho=c.rho) (hl:c'.len=c.len) (hd:c'.dom=c.dom) {x:AV} (hx:flatO x=true) {u:Value} (h:Rd x c u):Rd x c' u:=by
 cases x with
 | v y=>exact Nu hr hl hd rfl h
 | ow k n=>exact Nu hr hl hd rfl h
 | tp l=>
  simp only [Rd] at h |-
  obtain⟨xs,rfl,hxs⟩:=h
  refine⟨xs,rfl,?_⟩
  simp only [flatO] at hx
  induction l generalizing xs with
  | nil=>simpa only [RdL] using hxs
  | cons y l ih=>
   rw [AK,Bool.and_eq_true] at hx
   simp only [RdL] at hxs |-
   obtain⟨u,us,rfl,h1,h2⟩:=hxs
   exact⟨u,us,rfl,Nu hr hl hd hx.1 h1,ih hx.2 us h2⟩
 | _=>simp [flatO] at hx
theorem flatR_mem:∀ {R:List AB} {y:AB},flatR R=true->y∈R->∃ t sz es,y = .row t sz es/\es.flatten.all flatX=true
 | .row t sz es::r,y,h,hy=>by
  rw [flatR,Bool.and_eq_true] at h
  rcases A9.1 hy with rfl | hy
  ·exact⟨t,sz,es,rfl,h.1⟩
  ·exact flatR_mem h.2 hy
theorem FnO.lend {P:Program} {f:FuncId} {args args':List AV} {H:List AB} {K:AV->List AB->Prop} {q:Bool} {k:AV->List AB->Prop} (h:FnO P f args' K) (hs:sealA args H fun a _=>a=args') (hk:∀ r R,K r R->(flatO r=true/\flatR R=true)/\appK H R 0 fun d H=>CC (r.shift d) fun r=>k r H):ACalls P q f args H k:=by
 refine⟨h.go,fun w0 M0 c us hs0 hr=>?_⟩
 obtain⟨l',H',c',rfl,h2,h3,h4,h5,_⟩:=sealA_sound hs0 hr hs
 have hglob:globOk c'.closed.w:=h3.glob
 have hc:=h.calls c'.closed us hglob rfl h3.lt h5
 have ew:c'.closed.w=c.w:=h2
 suffices hh:Calls P f us.toArray c'.closed.w fun e w'=>∃ v c1 r H1,e = .returned v/\c1.w=w'/\k r H1/\HS w0 M0 c1 H1/\Ext c c1/\Rd r c1 v/\(q=true->Old c.w w') by
  rw [ew] at hh
  exact hh
 refine hc.mono ?_
 rintro e w' ⟨v,r,c2,R,rfl,q1,rfl,q2,q3,q4⟩
 obtain⟨⟨f1,f2⟩,hkk⟩:=hk r R q1
 -- the same memory;what the caller holds is not read
 obtain⟨c3,e3⟩:∃ c3:Ctx,c3={ c2 with M:=fun b=>c2.M b\/c.M b }:=⟨_,rfl⟩
 have hsub:∀ b,b<c.w.heap.size->c'.M b->c.M b:=fun b hb hm=>by
  by_cases hx:c.M b
  ·exact hx
  ·exact absurd hm (h4.keep b hb hx).1
 have hlow:=q2.low
 have q2':HS (Fl.all c.w hs0.glob) c.M c3 R:=by
  subst e3
  refine⟨⟨?_,?_,?_,?_,?_⟩,q2.base,q2.dom,fun b hb=>?_,fun b hb=>?_,fun i y hi=>?_,fun i y g hi hl ho=>?_,q2.dis⟩
  ·have:=hlow.os;rw [show (Fl.all c'.closed.w hglob).w=c.w from ew] at this;exact this
  ·have:=hlow.tape;rw [show (Fl.all c'.closed.w hglob).w=c.w from ew] at this;exact this
  ·have:=hlow.output;rw [show (Fl.all c'.closed.w hglob).w=c.w from ew] at this;exact this
  ·have:=hlow.size;rw [show (Fl.all c'.closed.w hglob).w=c.w from ew] at this;exact this
  ·intro b hb
   have:=hlow.block b (by show b<c'.closed.w.heap.size;rw [ew];exact hb)
   rw [show (Fl.all c'.closed.w hglob).w=c.w from ew] at this
   exact this
  ·have hb':b<c.w.heap.size:=hb
   have:=q2.foreign b (by show b<c'.closed.w.heap.size;rw [ew];exact hb')
   exact⟨fun hx=>hx.elim (fun hx=>hsub b hb' (this.1 hx)) (fun hx=>hx),fun hx=> .inr hx⟩
  ·have hsz:c.w.heap.size<=c2.w.heap.size:=by
    have:=hlow.size;rw [show (Fl.all c'.closed.w hglob).w=c.w from ew] at this;exact this
   rcases hb with hb | hb
   ·exact q2.lt b hb
   ·exact Aj (hs0.lt b hb) hsz
  ·obtain⟨t,sz,es,rfl,hfl⟩:=flatR_mem f2 (List.mem_of_getElem? hi)
   obtain⟨a1,a2,a3,xs,a4,a5,a6⟩:=q2.blk i _ hi
   exact⟨a1,a2,a3,xs,a4,OH hfl a5,a6⟩
  ·have:=q2.own i y g hi hl ho
   refine⟨.inl this.1,fun hx=>this.2 ?_⟩
   show g<c'.closed.w.heap.size
   rw [ew]
   exact hx
 have q3':Rd r c3 v:=U7 (by rw [e3]) (by rw [e3]) (by rw [e3]) f1 q3
 have q5:c3.w=c2.w:=by rw [e3]
 obtain⟨p1,p2⟩:=hs0.beside (c':=c3) q2' q4
 have h1:=Bu (appK_iff hkk)
 rw [Am,<-hs0.dom] at h1
 exact⟨v,c.beside c3,_,_,rfl,by show c3.w=_;exact q5,h1,p1,p2,Rd.shift r q3',fun _=>by have:=q2'.low.below.old;rw [q5] at this;exact this⟩
theorem NQ (l:List Tx) (hl:l.length<=1000000):Fn Tryz.prog 66 [CW l] fun r=>r = .v (.int .i64 (D7 l)):=by
 refine Fn.st Tryz.func66 rfl ?_
 conv=>whnf
 refine aLoop.ruleRR Nat (fun k=>([(0,CW l),(3, .v (.int .i64 (Gr l k))),(4, .v (.int .i64 k))], [])) (fun k=>k<=l.length) (fun k=>l.length - k) 0 (Ad _)
  (WkN.r (s:= []) ⟨⟨rfl,rfl,rfl,trivial⟩,trivial,rfl,rfl,rfl,rfl,rfl⟩) ?_
 intro k hk
 conv=>whnf
 refine Aw (fun h6=>?_) (fun h6=>?_) <;> (repeat rw [Ab] at h6) <;> conv=>whnf
 ·have hk':k<l.length:=by omega
  have hb:=If l k
  have hi:=FA (l.getD (k:Int).toNat ⟨0,0,0, []⟩).n 0 30
  have hs:Gr l (k+1)=Gr l k+Hs (l.getD (k:Int).toNat ⟨0,0,0, []⟩).n:=rfl
  have hn:=NB (l.getD (k:Int).toNat ⟨0,0,0, []⟩).n
  repeat' (first | (refine aSeq.go ?_;conv=>whnf) | fail)
  refine⟨⟨by omega,by omega⟩,?_⟩
  conv=>whnf
  cases hc:Cb (l.getD (k:Int).toNat ⟨0,0,0, []⟩).n 0 30 with
  | false=>
   rw [hc] at hi
   have h0:Hs (l.getD (k:Int).toNat ⟨0,0,0, []⟩).n=0:=by
    unfold Hs
    rw [if_neg]
    intro h
    rw [A0.2 h] at hc
    cases hc
   refine Fn.cl hi ?_
   exact⟨k+1,hk',by omega,WkN.r (s:= []) ⟨⟨rfl,congrArg (fun n:Int=>AV.v (.int .i64 n)) (by rw [hs,h0,Int.add_zero]),A7 (by omega),trivial⟩,trivial,rfl,rfl,rfl,rfl,rfl⟩⟩
  | true=>
   rw [hc] at hi
   have h0:Hs (l.getD (k:Int).toNat ⟨0,0,0, []⟩).n=(l.getD (k:Int).toNat ⟨0,0,0, []⟩).n:=by
    unfold Hs
    rw [if_pos (A0.1 hc)]
   refine Fn.cl hi ?_
   refine⟨⟨by omega,by omega⟩,?_⟩
   conv=>whnf
   exact⟨k+1,hk',by omega,WkN.r (s:= []) ⟨⟨rfl,congrArg (fun n:Int=>AV.v (.int .i64 n)) (by rw [hs,h0,wi (by rw [<-h0];omega)]),A7 (by omega),trivial⟩,trivial,rfl,rfl,rfl,rfl,rfl⟩⟩
 ·have ek:k=l.length:=by omega
  subst ek
  exact⟨_,ri,rfl⟩
theorem T4 (g:Geo) (a:An) (l:List Tx) (hg:A_ g=true) (ha:AN g a=true) (hl:l.length<=1000000):Fn Tryz.prog 67 [.ag (AF g), .ag (Dx a),CW l] fun r=>r = .tp [.v (.int .i64 ((a.pos+D7 l).tmod g.sl)), .v (.int .i64 (a.seq+l.length))]:=by
 obtain⟨g1,g2,g3,g4,g5⟩:=Ak.1 hg
 have hu:=NQ l hl
 have hb:=If l l.length
 have hp:(1<=a.seq/\a.seq<=4294967295)/\(0<=a.pos/\a.pos<g.sl):=by
  simp only [AN,AK,Bq,Bk,Bool.and_eq_true,decide_eq_true_eq,A0] at ha
  omega
 refine Fn.st Tryz.func67 rfl ?_
 conv=>whnf
 apply aDraw.tree tys_ok mixed (.one 0 (.one 1 (.one 2 (.one 5 (.one 6 (.one 8 (.one 9 (.one 10 (.one 11 (.one 12 (.one 3 (.one 4 (.one 7 (.one 13 (.one 14 .fin))))))))))))))) [6,7,8,9,10,11,12,13,14,15,16,17,18,19,20] (by kernel_rfl)
 ·conv=>whnf
  refine Fn.cl hu ?_
  conv=>whnf
  try (refine And.intro (by first | omega | (simp;done)) ?_;conv=>whnf)
  exact⟨rfl,rfl⟩
 conv=>whnf
 exact⟨_,ri,by rw [wi (n:=a.pos+D7 l) (by unfold D7;omega),wi (by omega)]⟩
def X8 (o:Option (Img × Int)) (r:AV) (R:List AB):Prop:=match o with
 | some p=>r = .tp [.ow 0 p.1.bytes.length, .v (.int .i64 p.2), .v (.bool true)]/\R=[.row 5 1 (p.1.bytes.map DG)]
 | none=>r = .tp [.v (.slice none 0 0), .v (.int .i64 0), .v (.bool false)]/\R=[]
theorem IU (l:List Tx) (z w:Int) (hl:l.length<=1000000) (hi:∀ t∈l,t.images.length<=1000000/\∀ x∈t.images,x.bytes.length<=1000000000):FnO Tryz.prog 204 [CW l, .v (.int .i64 z), .v (.int .i64 w)] (X8 (Fx l z w)):=by
 refine FnO.of tys_ok Tryz.func204 rfl rfl (Ac rfl) ?_
 conv=>whnf
 rw [wi (n:=(l.length:Int) - 1) (by omega)]
 refine aLoop.ruleRR Nat (fun k=>([(0,CW l),(1, .v (.int .i64 z)),(2, .v (.int .i64 w)),(9, .v (.int .i64 ((k:Int) - 1)))], [])) (fun k=>k<=l.length/\Fx l z w=DM l z w k) (fun k=>k) l.length ⟨Nat.le_refl _,rfl⟩
  (WkN.r (s:= []) ⟨⟨rfl,rfl,rfl,rfl,trivial⟩,trivial,rfl,rfl,rfl,rfl,rfl⟩) ?_
 rintro k ⟨hk,hI⟩
 conv=>whnf
 refine Aw (fun h6=>?_) (fun h6=>?_) <;> (repeat rw [Ab] at h6) <;> conv=>whnf
 ·obtain⟨j,rfl⟩:∃ j,k=j+1:=⟨k - 1,by omega⟩
  have e1:((j+1:Nat):Int) - 1=(j:Nat):=by omega
  have hm:=hi _ (Ay (d:=(⟨0,0,0, []⟩:Tx)) (show j<l.length by omega))
  rw [e1]
  refine⟨⟨by omega,by omega⟩,?_⟩
  conv=>whnf
  rw [Ab,wi (n:=((l.getD j ⟨0,0,0, []⟩).images.length:Int) - 1) (by omega)]
  have hF:DM l z w (j+1)=match FL (l.getD j ⟨0,0,0, []⟩).images z w (l.getD j ⟨0,0,0, []⟩).images.length with | some x=>some (x,(l.getD j ⟨0,0,0, []⟩).seq) | none=>DM l z w j:=rfl
  generalize hT:l.getD j ⟨0,0,0, []⟩=T at hm hF
  refine aLoop.ruleRR Nat (fun m=>([(0,CW l),(1, .v (.int .i64 z)),(2, .v (.int .i64 w)),(9, .v (.int .i64 (j:Nat))),(10, .v (.int .i64 ((m:Int) - 1)))], [])) (fun m=>m<=T.images.length/\DM l z w (j+1)=match FL T.images z w m with | some x=>some (x,T.seq) | none=>DM l z w j) (fun m=>m) T.images.length ⟨Nat.le_refl _,hF⟩
   (WkN.r (s:= []) ⟨⟨rfl,rfl,rfl,rfl,rfl,trivial⟩,trivial,rfl,rfl,rfl,rfl,rfl⟩) ?_
  rintro m ⟨hmn,hJ⟩
  conv=>whnf
  refine Aw (fun h7=>?_) (fun h7=>?_) <;> (repeat rw [Ab] at h7) <;> conv=>whnf
  ·obtain⟨i,rfl⟩:∃ i,m=i+1:=⟨m - 1,by omega⟩
   have e2:((i+1:Nat):Int) - 1=(i:Nat):=by omega
   rw [e2]
   refine⟨⟨by omega,by omega⟩,?_⟩
   conv=>whnf
   rw [Ab,hT]
   refine⟨⟨by omega,by omega⟩,?_⟩
   conv=>whnf
   rw [Ab]
   have hK:FL T.images z w (i+1)=if (T.images.getD i ⟨0,0, []⟩).zone=z/\(T.images.getD i ⟨0,0, []⟩).what=w then some (T.images.getD i ⟨0,0, []⟩) else FL T.images z w i:=rfl
   have hbl:=hm.2 _ (Ay (d:=(⟨0,0, []⟩:Img)) (show i<T.images.length by omega))
   generalize T.images.getD i ⟨0,0, []⟩=y at hK hbl
   have hgo:¬(y.zone=z/\y.what=w)->DM l z w (j+1)=match FL T.images z w i with | some x=>some (x,T.seq) | none=>DM l z w j:=fun h=>by rw [hJ,hK,if_neg h]
   by_cases hz:y.zone=z
   ·rw [show (y.zone == z)=true by simpa using hz]
    conv=>whnf
    by_cases hw:y.what=w
    ·rw [show (y.what == w)=true by simpa using hw]
     conv=>whnf
     have htw:=LB y.bytes (by omega)
     apply aDraw.treeM (0) tys_ok mixed (.one 0 (.one 1 (.one 3 (.one 4 (.one 5 (.one 6 (.one 7 (.one 2 (.one 8 (.one 9 (.one 10 .fin))))))))))) [6,7,8,48,49,50,51,52,53,54,55] (by kernel_rfl)
     ·conv=>whnf
      try (refine And.intro (by first | omega | (simp;done)) ?_;conv=>whnf)
      (refine ACalls.beside htw rfl ?_;rintro _ _ ⟨rfl,rfl⟩)
      exact⟨rfl,rfl⟩
     conv=>whnf
     rw [hI,hJ,hK,if_pos ⟨hz,hw⟩,Ab,hT]
     exact⟨rfl,rfl⟩
    ·rw [show (y.what == w)=false by simpa using hw]
     exact⟨i,⟨by omega,hgo fun h=>hw h.2⟩,by omega,WkN.r (s:= []) ⟨⟨rfl,rfl,rfl,rfl,congrArg (fun n:Int=>AV.v (.int .i64 n)) (wi (by omega)),trivial⟩,trivial,rfl,rfl,rfl,rfl,rfl⟩⟩
   ·rw [show (y.zone == z)=false by simpa using hz]
    exact⟨i,⟨by omega,hgo fun h=>hz h.1⟩,by omega,WkN.r (s:= []) ⟨⟨rfl,rfl,rfl,rfl,congrArg (fun n:Int=>AV.v (.int .i64 n)) (wi (by omega)),trivial⟩,trivial,rfl,rfl,rfl,rfl,rfl⟩⟩
  ·have em:m=0:=by omega
   subst em
   exact⟨j,⟨by omega,by rw [hI,hJ];rfl⟩,by omega,WkN.r (s:= []) ⟨⟨rfl,rfl,rfl,congrArg (fun n:Int=>AV.v (.int .i64 n)) (wi (by omega)),trivial⟩,trivial,rfl,rfl,rfl,rfl,rfl⟩⟩
 ·have ek:k=0:=by omega
  subst ek
  rw [hI]
  exact⟨rfl,rfl⟩
theorem FnO.subA {P:Program} {f:FuncId} {args args':List AV} {K:AV->List AB->Prop} (h:FnO P f args' K) (hs:SubL args args'):FnO P f args K:=
 ⟨h.go,fun c0 us hg h1 h2 h3=>h.calls c0 us hg h1 h2 (hs.rdl h3)⟩
theorem T0 (g:Geo) (a:An) (l:List Tx) (z:Int) (ha:(a.homes.length:Int)=g.z) (hz:0<=z/\z<g.z) (hl:l.length<=1000000) (hi:∀ t∈l,t.images.length<=1000000/\∀ x∈t.images,x.bytes.length<=1000000000):Fn Tryz.prog 206 [.ag (Dx a),CW l, .v (.int .i64 z)] fun r=>r = .v (.int .i64 (D4 a l z)):=by
 have hf:=IU l z 255 hl hi
 unfold D4
 cases hL:Fx l z 255 with
 | some p=>
  obtain⟨x,q⟩:=p
  rw [hL] at hf
  refine Fn.st Tryz.func206 rfl ?_
  conv=>whnf
  refine FnO.call hf rfl ?_
  rintro _ _ ⟨rfl,rfl⟩
  exact⟨_,ri,rfl⟩
 | none=>
  rw [hL] at hf
  refine Fn.st Tryz.func206 rfl ?_
  conv=>whnf
  refine FnO.call hf rfl ?_
  rintro _ _ ⟨rfl,rfl⟩
  refine⟨⟨by omega,by omega⟩,?_⟩
  exact⟨_,ri,rfl⟩
theorem MO (n:Int):Fn Tryz.prog 76 [iA [], .v (.int .i64 n)] fun r=>r=iA []:=by
 refine Fn.st Tryz.func76 rfl ?_
 conv=>whnf
 refine aLoop.ruleRR Nat (fun k=>([(0,iA []),(5, .v (.slice none 0 0)),(6, .v (.int .i64 k))], [])) (fun k=>k=0) (fun k=>k) 0 rfl
  (WkN.r (s:= []) ⟨⟨rfl,rfl,rfl,trivial⟩,trivial,rfl,rfl,rfl,rfl,rfl⟩) ?_
 rintro k rfl
 exact⟨iA [],AX 1 _,rfl⟩
theorem T6 (g:Geo) (lba:Int) (hg:A_ g=true) (h:0<=lba/\lba<g.z*g.d):Fn Tryz.prog 65 [.ag (AF g),iA [lba]] fun r=>r = .v (.int .i64 4):=by
 obtain⟨g1,g2,g3,g4,g5⟩:=Ak.1 hg
 have hq:lba.tdiv g.d=lba / g.d:=B8 h.1
 have hq0:0<=lba / g.d:=Int.ediv_nonneg h.1 (by omega)
 have hq1:lba / g.d<g.z:=Int.ediv_lt_of_lt_mul (by omega) h.2
 refine Fn.st Tryz.func65 rfl ?_
 refine⟨⟨rfl,by omega,by omega⟩,?_⟩
 conv=>whnf
 refine aLoop.ruleRR Nat (fun k=>([(1,iA [lba]),(2, .bp 0 0),(5, .ow 1 g.z.toNat),(6, .v (.int .i64 (3*(k:Int)))),(7, .v (.int .i64 k))], [.box 23 (AF g), .row 4 1 (if k=0 then List.replicate g.z.toNat [AV.v (.bool false)] else (List.replicate g.z.toNat [AV.v (.bool false)]).set (lba / g.d).toNat [AV.v (.bool true)])])) (fun k=>k<=1) (fun k=>1 - k) 0 (by decide)
  (WkN.r (s:= [0,1]) ⟨⟨rfl,rfl,rfl,rfl,rfl,trivial⟩,⟨rfl,rfl,trivial⟩,rfl,rfl,rfl,rfl,rfl⟩) ?_
 intro k hk
 conv=>whnf
 refine Aw (fun h6=>?_) (fun h6=>?_)
 ·have ek:k=0:=by simp only [Ag,AJ] at h6;omega
  subst ek
  rw [if_pos rfl]
  conv=>whnf
  repeat' (first | (refine aSeq.go ?_;conv=>whnf) | fail)
  refine aDraw.of tys_ok mixed [0,1,2,3,4,5,6,7] (by kernel_rfl) ?_
  conv=>whnf
  refine And.intro ⟨by decide,by show ((0:Nat):Int)<((1:Nat):Int);decide⟩ ?_
  refine⟨by omega,?_⟩
  conv=>whnf
  rw [show IntKind.i64.wrap (([lba].getD (Int.toNat ((0:Nat):Int)) 0).tdiv g.d)=lba / g.d by rw [show [lba].getD (Int.toNat ((0:Nat):Int)) 0=lba from rfl,hq,wi (by omega)]]
  refine⟨⟨hq0,by omega⟩,?_⟩
  refine⟨⟨rfl,by simp,by omega⟩,?_⟩
  rw [show (List.replicate g.z.toNat [AV.v (.bool false)]).getD (lba / g.d).toNat []=[AV.v (.bool false)] by rw [List.getD_eq_getElem?_getD,List.getElem?_replicate,if_pos (by omega)];rfl]
  refine⟨⟨hq0,by omega⟩,?_⟩
  refine⟨⟨rfl,by simp,by omega⟩,?_⟩
  rw [show (List.replicate g.z.toNat [AV.v (.bool false)]).getD (lba / g.d).toNat []=[AV.v (.bool false)] by rw [List.getD_eq_getElem?_getD,List.getElem?_replicate,if_pos (by omega)];rfl]
  exact⟨1,by omega,by omega,WkN.r (s:= [0,1]) ⟨⟨rfl,rfl,rfl,rfl,rfl,trivial⟩,⟨rfl,rfl,trivial⟩,rfl,rfl,rfl,rfl,rfl⟩⟩
 ·have ek:k=1:=by simp only [Ag,AJ] at h6;omega
  subst ek
  conv=>whnf
  repeat' (first | (refine aSeq.go ?_;conv=>whnf) | fail)
  exact⟨_,ri,rfl⟩
end Go.Proofs.YtkolckdakddggaaGreatDoor.A
end
section
namespace Go.Proofs.YtkolckdakddggaaGreatDoor.A
open Go.RowKit Go.Lib
def FI (s:ByteArray):List UInt8:=UInt8.ofNat s.size::s.data.toList
theorem Ff (s:ByteArray):(FI s).length=1+s.size:=by simp [FI,BV]
theorem OQ (l:List UInt8):(decodeL l).2<=4:=by
 rw [decodeL_N]
 rcases decodeN_shape l.length (l.getD 0 0).toNat (l.getD 1 0).toNat (l.getD 2 0).toNat (l.getD 3 0).toNat with ⟨_,e⟩ | ⟨_,_,_,_,e⟩ | ⟨_,_,_,_,_,_,e⟩ | ⟨_,_,_,_,_,_,_,e⟩ | e <;> rw [e] <;> simp
theorem R8 (n:Nat):∀ l:List UInt8,l.length=n->l.length<=4*DW l:=by
 induction n using Nat.strongRecOn with
 | ind n ih=>
  intro l hl
  by_cases h:l=[]
  ·subst h;simp
  ·have h1:=Gl h
   have h2:=ih _ (by rw [<-hl];exact h1) _ rfl
   have h3:=OQ l
   rw [G9 l h]
   rw [Af] at h2
   omega
theorem GM {l:List UInt8} (h:DO l=0):l.length<=24:=by
 have h1:=R8 _ l rfl
 unfold DO at h
 split at h
 ·cases h
 ·split at h
  ·cases h
  ·omega
def G1 (b:List UInt8):Option (ByteArray × Nat):=
 if b.length<1+(b.getD 0 0).toNat then none
 else if DO ((b.drop 1).take (b.getD 0 0).toNat)=0 then some (⟨((b.drop 1).take (b.getD 0 0).toNat).toArray⟩,1+(b.getD 0 0).toNat) else none
theorem Mg {b:List UInt8} {s:ByteArray} {n:Nat} (h:G1 b=some (s,n)):n<=b.length/\FI s=b.take n/\n=1+s.size/\DO s.data.toList=0:=by
 unfold G1 at h
 split at h
 ·cases h
 ·rename_i h1
  split at h
  ·rename_i h2
   simp only [Option.some.injEq,Prod.mk.injEq] at h
   obtain⟨rfl,rfl⟩:=h
   have hl:((b.drop 1).take (b.getD 0 0).toNat).length=(b.getD 0 0).toNat:=by rw [Al,Af];omega
   have hb:b=b.getD 0 0::b.drop 1:=by
    cases b with
    | nil=>simp at h1
    | cons x r=>rfl
   refine⟨by omega,?_,by show _=1+(List.toArray _).size;simp only [BW,hl],h2⟩
   have e:(⟨((b.drop 1).take (b.getD 0 0).toNat).toArray⟩:ByteArray).size=(b.getD 0 0).toNat:=by show (List.toArray _).size=_;simp only [BW,hl]
   unfold FI
   rw [e]
   simp only
   rw [BV,hb]
   simp
  ·cases h
theorem Sk {s:ByteArray} (h:DO s.data.toList=0) (r:List UInt8):G1 (FI s ++ r)=some (s,1+s.size):=by
 have h24:=GM h
 have hs:s.size=s.data.toList.length:=rfl
 have e0:((FI s ++ r).getD 0 0).toNat=s.size:=by
  show (UInt8.ofNat s.size).toNat=s.size
  simp;omega
 have e1:((FI s ++ r).drop 1).take s.size=s.data.toList:=by
  show (s.data.toList ++ r).take s.size=_
  rw [List.take_append_of_le_length (by omega),Ar (by omega)]
 unfold G1
 rw [e0,e1,if_neg (by rw [List.length_append,Ff];omega),if_pos h]

def EK (n:Nat):List Int:=List.replicate n 1
def szA:List Int:= [4,4,4,4,1]
def Jo (a:An):List Int:= [a.gen,a.epoch,a.seq,a.last,a.pos]
def Nc (l:List Int):List UInt8:=rowB l (EK l.length)
def Lx (h:Hm):List UInt8:=Nc h.places ++ rowB [h.next,h.root] [1,4]
def IJ (a:An):List UInt8:=rowB (Jo a) szA ++ FI a.label ++ (a.homes.map Lx).flatten
def Pi (n:Nat):List Int:=EK (n+1) ++ [4]
def Ji (n:Nat) (c:List UInt8):Hm:=⟨(nums (Pi n) c).take n,(nums (Pi n) c).getD n 0,(nums (Pi n) c).getD (n+1) 0⟩
def DA (n k:Nat) (c:List UInt8):List Hm:=(List.range k).map fun i=>Ji n (c.drop ((n+5)*i))
def Lu (n k:Nat) (b:List UInt8) (s:ByteArray) (u:Nat):An:=⟨(nums szA b).getD 0 0,(nums szA b).getD 1 0,(nums szA b).getD 4 0,(nums szA b).getD 2 0,(nums szA b).getD 3 0,s,DA n k (b.drop (17+u))⟩
def Ed (g:Geo) (b:List UInt8):Option An:=
 if b.length<17 then none else
 match G1 (b.drop 17) with
 | none=>none
 | some (s,u)=>if b.length≠17+u+g.z.toNat*(g.d.toNat+6) then none
  else if AN g (Lu (g.d.toNat+1) g.z.toNat b s u) then some (Lu (g.d.toNat+1) g.z.toNat b s u) else none

theorem tot_ones:∀ n,tot (EK n)=n
 | 0=>rfl
 | n+1=>by show 1+tot (EK n)=n+1;rw [tot_ones n];omega
theorem tot_app:∀ (a b:List Int),tot (a ++ b)=tot a+tot b
 | [],b=>by simp [tot]
 | x::a,b=>by simp only [Bf,tot,tot_app a b];omega
theorem Ih (n:Nat):tot (Pi n)=n+5:=by rw [Pi,tot_app,tot_ones];rfl
theorem Ij (n:Nat):(Pi n).length=n+2:=by simp [Pi,EK]
theorem Iv (n:Nat):(EK n).length=n:=by simp [EK]
theorem rowB_app:∀ (a s b t:List Int),a.length=s.length->rowB (a ++ b) (s ++ t)=rowB a s ++ rowB b t
 | [], [],b,t,_=>rfl
 | x::a,y::s,b,t,h=>by simp only [Bf,rowB,rowB_app a s b t (by simpa using h),As]
theorem LW (n:Nat):EK (n+1)=EK n ++ [1]:=by simp [EK,List.replicate_succ']
theorem I4 (h:Hm):Lx h=rowB (h.places ++ [h.next,h.root]) (Pi h.places.length):=by
 rw [Pi,LW,As,rowB_app _ _ _ _ (Iv _).symm]
 rfl
theorem O1 {l:List Int} {n:Nat} (h:l.length=n+2):l=l.take n ++ [l.getD n 0,l.getD (n+1) 0]:=by
 have h1:n<l.length:=by omega
 have h2:n+1<l.length:=by omega
 conv=>lhs;rw [<-Ba n l]
 congr 1
 rw [AL h1,AL h2,Au (by omega)]
 simp [List.getD_eq_getElem?_getD,List.getElem?_eq_getElem h1,List.getElem?_eq_getElem h2]
theorem Ur (n:Nat) (c:List UInt8) (hc:n+5<=c.length):Lx (Ji n c)=c.take (n+5):=by
 have hl:(nums (Pi n) c).length=n+2:=by rw [nums_len,Ij]
 have hp:(Ji n c).places.length=n:=by show ((nums (Pi n) c).take n).length=n;rw [Al];omega
 rw [I4,hp,show (Ji n c).places ++ [(Ji n c).next,(Ji n c).root]=nums (Pi n) c from (O1 hl).symm,rowB_nums _ _ (by rw [Ih];exact hc),Ih]
theorem QY (n:Nat):∀ (k:Nat) (c:List UInt8),(n+5)*k<=c.length->((DA n k c).map Lx).flatten=c.take ((n+5)*k)
 | 0,c,_=>by simp [DA]
 | k+1,c,h=>by
  have h':(n+5)*k+(n+5)<=c.length:=by rw [Nat.mul_succ] at h;exact h
  have ih:=QY n k c (by omega)
  rw [DA,Bb,Ax,Ax,B4,show ((List.map (fun i=>Ji n (List.drop ((n+5)*i) c)) (List.range k)).map Lx).flatten=_ from ih]
  simp only [Ap,AT,Az,List.flatten_nil,List.append_nil]
  rw [Ur n _ (by rw [Af];omega),Nat.mul_succ,<-List.take_add]
theorem UT (n k:Nat) (b:List UInt8) (s:ByteArray) (u:Nat) (h17:17<=b.length) (hl:G1 (b.drop 17)=some (s,u)) (hk:17+u+(n+5)*k<=b.length):IJ (Lu n k b s u)=b.take (17+u+(n+5)*k):=by
 obtain⟨h1,h2,h3,h4⟩:=Mg hl
 have e1:Jo (Lu n k b s u)=nums szA b:=rfl
 have e2:rowB (nums szA b) szA=b.take 17:=rowB_nums szA b h17
 have e3:=QY n k (b.drop (17+u)) (by rw [Af];omega)
 rw [IJ,e1,e2,show (Lu n k b s u).homes=DA n k (b.drop (17+u)) from rfl,e3,show FI (Lu n k b s u).label=FI s from rfl,h2,<-List.take_add,<-List.take_add]

theorem No {g:Geo} {h:Hm} (hg:A_ g=true) (hh:Da g h=true):h.places.length=g.d.toNat+1/\(∀ p∈h.places,0<=p/\p<256)/\(0<=h.next/\h.next<256)/\0<=h.root/\h.root<4294967296:=by
 obtain⟨h1,h2,h3,h4,h5⟩:=Ak.1 hg
 simp only [Da,Bool.and_eq_true,decide_eq_true_eq,A0,Oe,Ao,A6] at hh
 obtain⟨q1,q2,q3,q4⟩:=hh
 refine⟨by omega,fun p hp=>?_,by omega,by omega⟩
 obtain⟨i,hi,rfl⟩:=List.getElem_of_mem hp
 have:=(q4 i hi).1
 rw [List.getD_eq_getElem?_getD,List.getElem?_eq_getElem hi] at this
 simp only [Bm] at this
 omega
theorem TV {l:List Int} (h:∀ p∈l,0<=p/\p<256):∀ k (a:k<l.length) (b:k<(EK l.length).length),DR (EK l.length)[k]/\0<=l[k]/\l[k]<Cv (EK l.length)[k]:=fun k a b=>by
 have e:(EK l.length)[k]=1:=by simp [EK]
 rw [e]
 exact⟨.inl rfl,h _ (BO a)⟩
theorem VT {a s b t:List Int} (ha:a.length=s.length) (h1:∀ k (p:k<a.length) (q:k<s.length),DR s[k]/\0<=a[k]/\a[k]<Cv s[k]) (h2:∀ k (p:k<b.length) (q:k<t.length),DR t[k]/\0<=b[k]/\b[k]<Cv t[k]) :
  ∀ k (p:k<(a ++ b).length) (q:k<(s ++ t).length),DR (s ++ t)[k]/\0<=(a ++ b)[k]/\(a ++ b)[k]<Cv (s ++ t)[k]:=fun k p q=>by
 by_cases hk:k<a.length
 ·rw [List.getElem_append_left hk,List.getElem_append_left (by omega)]
  exact h1 k hk (by omega)
 ·rw [List.getElem_append_right (by omega),List.getElem_append_right (by omega)]
  have:=h2 (k - a.length) (by rw [List.length_append] at p;omega) (by rw [List.length_append] at q;omega)
  simpa only [ha] using this
theorem Q6 {x y:Int} (h1:0<=x/\x<256) (h2:0<=y/\y<4294967296):∀ k (_:k < [x,y].length) (_:k<([1,4]:List Int).length),DR ([1,4]:List Int)[k]/\0<= [x,y][k]/\ [x,y][k]<Cv ([1,4]:List Int)[k]:=fun k p _=>by
 have hk:k=0\/k=1:=by simp at p;omega
 rcases hk with rfl | rfl
 ·exact⟨.inl rfl,h1⟩
 ·exact⟨.inr (.inr rfl),h2⟩
theorem VQ {g:Geo} {h:Hm} (hg:A_ g=true) (hh:Da g h=true):(Lx h).length=g.d.toNat+6:=by
 obtain⟨h1,_⟩:=No hg hh
 rw [I4,tot_rowB _ _ (by rw [List.length_append,Ij];rfl),Ih,h1]
theorem Uq {g:Geo} {h:Hm} (hg:A_ g=true) (hh:Da g h=true) (r:List UInt8):Ji (g.d.toNat+1) (Lx h ++ r)=h:=by
 obtain⟨h1,h2,h3,h4⟩:=No hg hh
 have e:nums (Pi (g.d.toNat+1)) (Lx h ++ r)=h.places ++ [h.next,h.root]:=by
  rw [<-h1,I4]
  refine nums_rowB _ _ _ (by rw [List.length_append,Ij];rfl) ?_
  rw [Pi,LW,As]
  exact VT (Iv _).symm (TV h2) (Q6 h3 h4)
 unfold Ji
 rw [e,<-h1]
 obtain⟨p,n,ro⟩:=h
 simp [List.getD_eq_getElem?_getD]
theorem JY {g:Geo} (hg:A_ g=true):∀ (l:List Hm),(∀ h∈l,Da g h=true)->DA (g.d.toNat+1) l.length (l.map Lx).flatten=l/\(l.map Lx).flatten.length=l.length*(g.d.toNat+6)
 | [],_=>⟨rfl,by simp⟩
 | h::l,hh=>by
  obtain⟨ih,ih2⟩:=JY hg l fun x hx=>hh x (by simp [hx])
  have hB:=VQ hg (hh h (by simp))
  refine⟨?_,by simp only [Ap,Az,List.length_append,ih2,hB,Ag,AW];omega⟩
  simp only [DA,Ap,Az,Ag,List.range_succ_eq_map,List.map_map]
  rw [Nat.mul_zero,List.drop_zero,Uq hg (hh h (by simp))]
  congr 1
  refine Eq.trans (BZ fun i _=>?_) ih
  simp only [Function.comp,Nat.succ_eq_add_one]
  rw [show (g.d.toNat+1+5)*(i+1)=(Lx h).length+(g.d.toNat+1+5)*i by rw [hB,Nat.mul_succ];omega,BA]
  rw [Au (by omega),Bn,Nat.add_sub_cancel_left]
theorem RP {g:Geo} {a:An} (hg:A_ g=true) (ha:AN g a=true):Ed g (IJ a)=some a:=by
 obtain⟨g1,g2,g3,g4,g5⟩:=Ak.1 hg
 have ha0:=ha
 simp only [AN,Bool.and_eq_true,decide_eq_true_eq,AK,Bq,Bk,A0,Ao] at ha
 obtain⟨⟨q1,q2,q3,q4⟩,_,_,q5,q6,q7,q8⟩:=ha
 have hz:a.homes.length=g.z.toNat:=by omega
 obtain⟨e1,e2⟩:=JY hg a.homes q8
 have hf:∀ k (p:k<(Jo a).length) (q:k<szA.length),DR szA[k]/\0<=(Jo a)[k]/\(Jo a)[k]<Cv szA[k]:=fun k p q=>by
  have hk:k=0\/k=1\/k=2\/k=3\/k=4:=by simp [Jo] at p;omega
  have l4:Cv 4=4294967296:=rfl
  have l1:Cv 1=256:=rfl
  rcases hk with rfl | rfl | rfl | rfl | rfl
  ·exact⟨.inr (.inr rfl),q1.1,by show a.gen<Cv 4;omega⟩
  ·exact⟨.inr (.inr rfl),q2.1,by show a.epoch<Cv 4;omega⟩
  ·exact⟨.inr (.inr rfl),q3.1,by show a.seq<Cv 4;omega⟩
  ·exact⟨.inr (.inr rfl),q4.1,by show a.last<Cv 4;omega⟩
  ·exact⟨.inl rfl,q5.1,by show a.pos<Cv 1;omega⟩
 have hn:nums szA (IJ a)=Jo a:=by
  rw [IJ,As]
  exact nums_rowB _ _ _ rfl hf
 have h17:(rowB (Jo a) szA).length=17:=tot_rowB _ _ rfl
 have hd:(IJ a).drop 17=FI a.label ++ (a.homes.map Lx).flatten:=by
  rw [IJ,As,<-h17,BA,Au (Nat.le_refl _),C8];simp
 have hlen:(IJ a).length=17+(1+a.label.size)+g.z.toNat*(g.d.toNat+6):=by
  rw [IJ,List.length_append,List.length_append,h17,Ff,e2,hz]
 have hdu:(IJ a).drop (17+(1+a.label.size))=(a.homes.map Lx).flatten:=by
  rw [<-A4,hd,<-Ff,BA,Au (Nat.le_refl _),C8];simp
 have ho:Lu (g.d.toNat+1) g.z.toNat (IJ a) a.label (1+a.label.size)=a:=by
  unfold Lu
  rw [hn,hdu,<-hz,e1]
  rfl
 unfold Ed
 rw [if_neg (by omega),hd,Sk q6]
 simp only
 rw [if_neg (by omega),ho,if_pos ha0]
theorem PA {g:Geo} {b:List UInt8} {a:An} (hg:A_ g=true) (h:Ed g b=some a):AN g a=true/\IJ a=b:=by
 obtain⟨g1,g2,g3,g4,g5⟩:=Ak.1 hg
 unfold Ed at h
 split at h
 ·cases h
 ·rename_i h17
  split at h
  ·cases h
  ·rename_i s u hl
   split at h
   ·cases h
   ·rename_i hlen
    split at h
    ·rename_i hok
     cases h
     refine⟨hok,?_⟩
     have hm:(g.d.toNat+1+5)*g.z.toNat=g.z.toNat*(g.d.toNat+6):=Nat.mul_comm _ _
     rw [UT _ _ _ _ _ (by omega) hl (by omega),Ar (by omega)]
    ·cases h
end Go.Proofs.YtkolckdakddggaaGreatDoor.A
end
section
namespace Go.Proofs.YtkolckdakddggaaGreatDoor.A
open Go.Lib
theorem ET (n:Nat) (z:Int) (h:z=n):UInt8.ofNat n=z.toNat.toUInt8:=by subst h;rfl
theorem WZ (r:Nat) (h:r<=1114111) (hv:r<55296\/57344<=r):(Utf8.encode (r:Int)).data.toList=encodeRune (r:Int):=by
 have v:Utf8.valid (r:Int)=true:=by simp [Utf8.valid];omega
 unfold encodeRune
 by_cases c1:r<128
 ·rw [encodeRuneZ_one (by omega) (by omega)];simp [Utf8.encode,v,c1]
 by_cases c2:r<2048
 ·rw [encodeRuneZ_two (by omega) (by omega),show (Utf8.encode (r:Int)).data.toList=[UInt8.ofNat (192+r / 64),UInt8.ofNat (128+r % 64)] by simp [Utf8.encode,v,c1,c2]]
  exact congr (congrArg List.cons (ET _ _ (by omega))) (congr (congrArg List.cons (ET _ _ (by omega))) rfl)
 by_cases c3:r<65536
 ·rw [encodeRuneZ_three (by omega),show (Utf8.encode (r:Int)).data.toList=[UInt8.ofNat (224+r / 4096),UInt8.ofNat (128+r / 64 % 64),UInt8.ofNat (128+r % 64)] by simp [Utf8.encode,v,c1,c2,c3]]
  exact congr (congrArg List.cons (ET _ _ (by omega))) (congr (congrArg List.cons (ET _ _ (by omega))) (congr (congrArg List.cons (ET _ _ (by omega))) rfl))
 ·rw [encodeRuneZ_four (by omega) (by omega),show (Utf8.encode (r:Int)).data.toList=[UInt8.ofNat (240+r / 262144),UInt8.ofNat (128+r / 4096 % 64),UInt8.ofNat (128+r / 64 % 64),UInt8.ofNat (128+r % 64)] by simp [Utf8.encode,v,c1,c2,c3]]
  exact congr (congrArg List.cons (ET _ _ (by omega))) (congr (congrArg List.cons (ET _ _ (by omega))) (congr (congrArg List.cons (ET _ _ (by omega))) (congr (congrArg List.cons (ET _ _ (by omega))) rfl)))
def CZ (l:List UInt8):List Int:=if _h:l=[] then [] else ((decodeL l).1:Int)::CZ (l.drop (decodeL l).2)
termination_by l.length
decreasing_by exact Gl _h
theorem runesL_nil:CZ []=[]:=by rw [CZ];simp
theorem GA (l:List UInt8) (h:¬l=[]):CZ l=((decodeL l).1:Int)::CZ (l.drop (decodeL l).2):=by rw [CZ,dif_neg h]
theorem Qg {l:List UInt8}:(decodeL l).1<55296\/57344<=(decodeL l).1:=by
 rw [decodeL_N]
 have k0:=(l.getD 0 0).toNat_lt
 have k1:=(l.getD 1 0).toNat_lt
 have k2:=(l.getD 2 0).toNat_lt
 rcases decodeN_shape l.length (l.getD 0 0).toNat (l.getD 1 0).toNat (l.getD 2 0).toNat (l.getD 3 0).toNat with ⟨_,e⟩ | ⟨_,_,_,_,e⟩ | ⟨_,_,_,_,_,_,e⟩ | ⟨_,_,_,_,_,_,_,e⟩ | e <;> rw [e] <;> simp only <;> omega
theorem Pu (n:Nat):∀ l:List UInt8,l.length=n->(CZ l).length<=l.length:=by
 induction n using Nat.strongRecOn with
 | ind n ih=>
  intro l hl
  by_cases h:l=[]
  ·subst h;rw [runesL_nil];simp
  ·have h1:=Gl h
   have h2:=ih _ (by rw [<-hl];exact h1) _ rfl
   rw [GA l h,Ag]
   omega
theorem S1 (n:Nat):∀ (l:List UInt8) (b:ByteArray),l.length=n->validD l=true->((CZ l).foldl (fun r n=>r ++ Utf8.encode n) b).data.toList=b.data.toList ++ l:=by
 induction n using Nat.strongRecOn with
 | ind n ih=>
  intro l b hl hv
  by_cases h:l=[]
  ·subst h;rw [runesL_nil];simp
  ·have h1:=Gl h
   rw [validD_step l h] at hv
   split at hv
   ·cases hv
   ·rename_i hn
    rw [GA l h,List.foldl_cons,ih _ (by rw [<-hl];exact h1) _ _ rfl hv]
    have e:(b ++ Utf8.encode ((decodeL l).1:Int)).data.toList=b.data.toList ++ (Utf8.encode ((decodeL l).1:Int)).data.toList:=by simp [ByteArray.data_append]
    rw [e,WZ _ (decodeL_rune l) Qg,encode_decode l h hn,As,Ba]
theorem IT {s:ByteArray} (h:validD s.data.toList=true):runesBytes (CZ s.data.toList)=s:=by
 have:=S1 _ s.data.toList ByteArray.empty rfl h
 apply ByteArray.ext
 apply Array.ext'
 rw [runesBytes,this]
 rfl
theorem Io (s:ByteArray):∀ (bound i:Nat) (acc:Array Value),s.size<=i+bound->Conv.runesFrom s bound i acc=acc ++ ((CZ (s.data.toList.drop i)).map (Value.int .i32)).toArray
 | 0,i,acc,h=>by
  have:s.data.toList.drop i=[]:=Au (by rw [CY];omega)
  rw [this,runesL_nil]
  simp [Conv.runesFrom]
 | bound+1,i,acc,h=>by
  unfold Conv.runesFrom
  split
  ·rename_i hi
   have hne:¬s.data.toList.drop i=[]:=by
    intro e
    have:=congrArg List.length e
    rw [Af,CY] at this
    simp at this
    omega
   have hd:=GS s i
   have hw:1<=(Utf8.decode s i).2:=by rw [hd];exact decodeL_width _
   show Conv.runesFrom s bound (i+(Utf8.decode s i).2) (acc.push (Value.int IntKind.i32 (Int.ofNat (Utf8.decode s i).1)))=_
   rw [Io s bound _ _ (by omega),GA _ hne,<-hd,A4]
   simp
  ·have:s.data.toList.drop i=[]:=Au (by rw [CY];omega)
   rw [this,runesL_nil]
   simp
end Go.Proofs.YtkolckdakddggaaGreatDoor.A
end
section
namespace Go.Proofs.YtkolckdakddggaaGreatDoor
open Go.RowKit
attribute [local go_sem ↓] Go.wp_at_zero Go.wp_at_succ

theorem EW {P:Program} {w:World} {ops:Array Oper} {rest:List Oper} {o:Oper} {a:Act} {Q:Exit->Act->World->Prop} (hgd:o.guard=none) (d s:Operand) (t t':TypeId)
  (ho:o.op = .call { callee:= .builtin .append,args:= #[d,s],argTypes:= #[t,t'] }) {v u:Value} (hd:a.eval d=v) (hs:a.eval s=u) {v':Value} {w':World}
  (hr:(Builtin.append_ #[t,t'] o.type #[v,u]).run P w = .ok v' w') (h:wpList P ops Q rest (a.put o.dst v') w'):wpList P ops Q (o::rest) a w:=by
 refine wpList_plain hgd fun _ hK=>?_
 unfold Oper.wp execOp
 simp only [ho,resolve,invoke,builtin,Sem.run_bind,Sem.run_pure,Result.andThen_ok,List.map_toArray,Ap,AT,hd,hs,hr]
 exact hK _ _ h
theorem Lf (w:World) (M:Ms) (n:Int) (x:UInt8) (hx:n=(x.toNat:Int)) (s:ByteArray):Elems (Rp.sz UInt8) (Rp.E w M) ([Value.int .u8 n] ++ Lib.strCells s) (x::s.data.toList):=by
 subst hx
 refine⟨[.int .u8 x.toNat],_,rfl,rfl,rfl,?_⟩
 unfold Lib.strCells
 induction s.data.toList with
 | nil=>rfl
 | cons y l ih=>exact⟨[.int .u8 y.toNat],_,rfl,rfl,rfl,ih⟩

theorem RG (s:ByteArray) (w:World) (M:Ms) (hs:s.size<=255) :
  Calls Tryz.prog 246 #[.string s] w fun e w'=>∃ r,e = .returned r/\OwR w' M w.heap.size 5 r (UInt8.ofNat s.size::s.data.toList)/\Below w.heap.size w w':=by
 obtain⟨i,h1,h2,h3,h4⟩:=info_parts (show (Tryz.prog.info? 5).map (fun i=>(i.zero,i.size,i.bytes))=some (some (.int .u8 0),1,1) by kernel_rfl)
 have hw8:IntKind.u8.wrap (s.size:Int)=s.size:=by rw [IntKind.wrap_u8];omega
 have hN:(s.size:Int)=((UInt8.ofNat s.size).toNat:Int):=by simp;omega
 have hB:=(Below.refl w.heap.size w).alloc (Nat.le_refl _) (.cells #[Value.int .u8 (s.size:Int)] 5)
 have ho:(w.alloc (.cells #[Value.int .u8 (s.size:Int)] 5)).ownsRow w.heap.size 5 1 (.slice (some ⟨w.heap.size,0,none⟩) 1 1) 1 [.int .u8 (s.size:Int)]:=
  ⟨rfl, .inr ⟨w.heap.size,1,_,rfl,Nat.le_refl _,heap_alloc_new w _,Nat.le_refl _,by decide,rfl,rfl⟩⟩
 obtain⟨v',w',hr,hr2,hr3,_⟩:=Lib.run_append_own_string (P:=Tryz.prog) (w.alloc (.cells #[Value.int .u8 (s.size:Int)] 5)) w.heap.size 49 9 49 5 i Tryz.underlying49 Tryz.underlying9 h1 h2 h3 h4 _ 1 _ ho s (by unfold maxLen;omega) (by omega) hB.size
 have HO:=Lib.hid (And.intro (⟨_,by simp only [Ag,CK];rw [BV];exact hr2,Lf _ _ _ _ hN s⟩:OwR w' M w.heap.size 5 v' (UInt8.ofNat s.size::s.data.toList)) (hB.grown hr3 hB.size (fun b e=>by cases e;exact Nat.le_refl _)))
 clear hr2 hr3 ho hB hN h1 h2 h3 h4
 go_enter Tryz.func246,Tryz.ntmps246
 go_wp2_with (at_builtin;refine EW rfl _ _ _ _ rfl (by rfl) (by rfl) hr ?_)
 go_ret
 exact⟨_,rfl,HO.out⟩
theorem VK (s:ByteArray) (w:World) (e0:Int) (he:(e0 != 0)=true) (hc:Calls Tryz.prog 170 #[.string s] w fun e w'=>e = .returned (.int .i64 e0)/\Below w.heap.size w w') :
  Calls Tryz.prog 260 #[.string s] w fun e w'=>e = .returned (.tuple #[.slice none 0 0, .int .i64 e0])/\Below w.heap.size w w':=by
 have HC:=Lib.hid hc
 clear hc
 go_enter Tryz.func260,Tryz.ntmps260
 go_wp2_with (go_at_call 170;go_must (with_reducible refine HC.out.mono ?_);rintro e w1 ⟨rfl,hB1⟩)
 have HB:=Lib.hid hB1
 clear hB1
 go_wp2
 go_ret2
 exact⟨rfl,HB.out⟩
theorem Ug (s:ByteArray) (w:World) (M:Ms) (hs:s.size<=255) (hv:Lib.validD s.data.toList=true) (hc:Calls Tryz.prog 170 #[.string s] w fun e w'=>e = .returned (.int .i64 0)/\Below w.heap.size w w') :
  Calls Tryz.prog 260 #[.string s] w fun e w'=>∃ r,e = .returned (.tuple #[r, .int .i64 0])/\OwR w' M w.heap.size 5 r (UInt8.ofNat s.size::s.data.toList)/\Below w.heap.size w w':=by
 obtain⟨i,h1,h2,h3,h4⟩:=info_parts (show (Tryz.prog.info? 5).map (fun i=>(i.zero,i.size,i.bytes))=some (some (.int .u8 0),1,1) by kernel_rfl)
 have HI:=Lib.hid (And.intro h1 (And.intro h2 (And.intro h3 h4)))
 have hw8:IntKind.u8.wrap (s.size:Int)=s.size:=by rw [IntKind.wrap_u8];omega
 have HC:=Lib.hid hc
 have HV:=Lib.hid hv
 have HS:=Lib.hid hs
 clear hc h1 h2 h3 h4 hv hs
 go_enter Tryz.func260,Tryz.ntmps260
 go_wp2_with (go_at_call 170;go_must (with_reducible refine HC.out.mono ?_);rintro e w1 ⟨rfl,hB1⟩)
 have hrf:=A.Io s s.size 0 #[] (by omega)
 rw [List.drop_zero,Array.empty_append] at hrf
 have hrl:=A.Pu _ s.data.toList rfl
 have hsz:s.data.toList.length=s.size:=rfl
 have hrs:(Conv.runesFrom s s.size 0 #[]).size=(A.CZ s.data.toList).length:=by rw [hrf];simp
 have hconv:=run_runes_of_string (P:=Tryz.prog) w1 9 379 21 s Tryz.underlying9 Tryz.underlying379 Tryz.underlying21 (by rw [hrs];have:=HS.out;omega)
 rw [hconv]
 have hB2:=hB1.trans (((Ls w1).trans ((Below.refl w1.drew.heap.size w1.drew).alloc (Nat.le_refl _) (.cells (Conv.runesFrom s s.size 0 #[] ++ Array.replicate (grownCap w1 (Conv.runesFrom s s.size 0 #[]).size 0 21 - (Conv.runesFrom s s.size 0 #[]).size) (.int .i32 0)) 21))).mono hB1.size)
 have hcell:∀ j,j<(A.CZ s.data.toList).length->(w1.drew.alloc (.cells (Conv.runesFrom s s.size 0 #[] ++ Array.replicate (grownCap w1 (Conv.runesFrom s s.size 0 #[]).size 0 21 - (Conv.runesFrom s s.size 0 #[]).size) (.int .i32 0)) 21)).cell? ⟨w1.heap.size,j,none⟩=some (.int .i32 ((A.CZ s.data.toList).getD j 0)):=fun j hj=>by
  rw [cell_of_row _ w1.heap.size _ _ 21 (0,0) (heap_alloc_new w1.drew _),Array.getElem?_append_left (by rw [hrs];exact hj),hrf]
  simp [List.getD_eq_getElem?_getD,List.getElem?_eq_getElem hj]
 generalize w1.drew.alloc (.cells (Conv.runesFrom s s.size 0 #[] ++ Array.replicate (grownCap w1 (Conv.runesFrom s s.size 0 #[]).size 0 21 - (Conv.runesFrom s s.size 0 #[]).size) (.int .i32 0)) 21)=w2 at hB2 hcell |-
 rw [hrs] at *
 generalize grownCap w1 (A.CZ s.data.toList).length 0 21=cap
 have hgl:w1.heap.size<w2.heap.size\/(A.CZ s.data.toList).length=0:=by
  rcases Nat.eq_zero_or_pos (A.CZ s.data.toList).length with h | h
  ·exact .inr h
  ·exact .inl (World.block_lt_of_cell? _ _ (hcell 0 h))
 generalize w1.heap.size=g at hcell hgl |-
 have hN:(s.size:Int)=((UInt8.ofNat s.size).toNat:Int):=by have:=HS.out;simp;omega
 have hB3:=hB2.trans (((Below.refl w2.heap.size w2).alloc (Nat.le_refl _) (.cells #[Value.int .u8 (s.size:Int)] 5)).mono hB2.size)
 have hcv:(convert 379 9 (.slice (some ⟨g,0,none⟩) (A.CZ s.data.toList).length cap)).run Tryz.prog (w2.alloc (.cells #[Value.int .u8 (s.size:Int)] 5)) = .ok (.string s) (w2.alloc (.cells #[Value.int .u8 (s.size:Int)] 5)):=by
  rw [run_convert_runes (P:=Tryz.prog) _ 379 9 21 ⟨g,0,none⟩ (A.CZ s.data.toList).length cap (A.CZ s.data.toList) (Nat.le_refl _) Tryz.underlying379 Tryz.underlying21 Tryz.underlying9 (fun j hj=>by
   rw [Addr.add_lit,Am]
   exact Qv ((Below.refl w2.heap.size w2).alloc (Nat.le_refl _) _) (hcell j hj)),List.take_length,A.IT HV.out]
 have ho:(w2.alloc (.cells #[Value.int .u8 (s.size:Int)] 5)).ownsRow w.heap.size 5 1 (.slice (some ⟨w2.heap.size,0,none⟩) 1 1) 1 [.int .u8 (s.size:Int)]:=
  ⟨rfl, .inr ⟨w2.heap.size,1,_,rfl,hB2.size,heap_alloc_new w2 _,Nat.le_refl _,by decide,rfl,rfl⟩⟩
 obtain⟨v',w',hr,hr2,hr3,_⟩:=Lib.run_append_own_string (P:=Tryz.prog) (w2.alloc (.cells #[Value.int .u8 (s.size:Int)] 5)) w.heap.size 49 9 49 5 i Tryz.underlying49 Tryz.underlying9 HI.out.1 HI.out.2.1 HI.out.2.2.1 HI.out.2.2.2 _ 1 _ ho s (by have:=HS.out;unfold maxLen;omega) (by have:=HS.out;omega) hB3.size
 have HO:=Lib.hid (And.intro (⟨_,by simp only [Ag,CK];rw [BV];exact hr2,Lf _ _ _ _ hN s⟩:OwR w' M w.heap.size 5 v' (UInt8.ofNat s.size::s.data.toList)) (hB3.grown hr3 hB3.size (fun b e=>by cases e;exact hB2.size)))
 clear hr2 hr3 ho hB3 hB2 hB1 hN hcell hgl hconv hrf hrl hsz hrs
 go_wp2_with (at_builtin;refine EW rfl _ _ _ _ rfl (by rfl) (by rfl) hr ?_)
 go_ret2
 exact⟨_,rfl,HO.out⟩
end Go.Proofs.YtkolckdakddggaaGreatDoor
end
section
namespace Go.Proofs.YtkolckdakddggaaGreatDoor.A
open Go.RowKit
def O4 (b:List UInt8):AV:=match G1 b with
 | some (s,n)=> .tp [.v (.string s), .v (.int .i64 n), .v (.int .i64 0)]
 | none=> .tp [.v (.string ⟨#[]⟩), .v (.int .i64 0), .v (.int .i64 4)]
theorem X4 (b:List UInt8) (hl:b.length<=100000):Fn Tryz.prog 282 [bA b] fun r=>r=O4 b:=by
 have hb0:=(b.getD 0 0).toNat_lt
 have hw:IntKind.i64.wrap (1+IntKind.i64.wrap ((b.getD 0 0).toNat:Int))=((1+(b.getD 0 0).toNat:Nat):Int):=by rw [wi (n:=((b.getD 0 0).toNat:Int)) (by omega),wi (by omega)];omega
 by_cases hs:b.length<1+(b.getD 0 0).toNat
 ·have hr:O4 b = .tp [.v (.string ⟨#[]⟩), .v (.int .i64 0), .v (.int .i64 4)]:=by rw [O4,G1,if_pos hs]
  rw [hr]
  refine Fn.st Tryz.func282 rfl ?_
  conv=>whnf
  refine Aw (fun h=>?_) (fun h=>?_) <;> (repeat rw [Ab] at h) <;> conv=>whnf
  ·exact⟨_,ri,rfl⟩
  ·refine⟨by first | omega | (refine⟨rfl,?_,?_⟩ <;> first | omega | (simp only [Aa];done) | (simp only [Aa];omega)) | (simp only [Aa];omega),?_⟩
   conv=>whnf
   refine Aw (fun h2=>?_) (fun h2=>?_) <;> (repeat rw [Ab] at h2) <;> conv=>whnf
   ·exact⟨_,ri,rfl⟩
   ·exfalso
    have h2:IntKind.i64.wrap (1+IntKind.i64.wrap ((b.getD 0 0).toNat:Int))<=(b.length:Int):=h2
    rw [hw] at h2
    omega
 ·have hlen:((b.drop 1).take (b.getD 0 0).toNat).length=(b.getD 0 0).toNat:=by rw [Al,Af];omega
  have hc:=HP ⟨((b.drop 1).take (b.getD 0 0).toNat).toArray⟩ (by show (List.toArray _).size<=_;simp only [BW];omega)
  have e1:(IntKind.i64.wrap (1+IntKind.i64.wrap ((b.getD 0 0).toNat:Int)) - 1).toNat=(b.getD 0 0).toNat:=by rw [hw];omega
  refine Fn.st Tryz.func282 rfl ?_
  conv=>whnf
  refine Aw (fun h=>?_) (fun h=>?_) <;> (repeat rw [Ab] at h) <;> conv=>whnf
  ·exfalso
   have h:(b.length:Int)=0:=h
   omega
  ·refine⟨by first | omega | (refine⟨rfl,?_,?_⟩ <;> first | omega | (simp only [Aa];done) | (simp only [Aa];omega)) | (simp only [Aa];omega),?_⟩
   conv=>whnf
   refine Aw (fun h2=>?_) (fun h2=>?_) <;> (repeat rw [Ab] at h2) <;> conv=>whnf
   ·exfalso
    have h2:(b.length:Int)<IntKind.i64.wrap (1+IntKind.i64.wrap ((b.getD 0 0).toNat:Int)):=h2
    rw [hw] at h2
    omega
   ·refine⟨by first | omega | (refine⟨rfl,?_,?_⟩ <;> first | omega | (simp only [Aa];done) | (simp only [Aa];omega)) | (simp only [Aa];omega),?_⟩
    conv=>whnf
    have hw':IntKind.i64.wrap (1+IntKind.i64.wrap ((b.getD (Int.toNat 0) 0).toNat:Int))=((1+(b.getD 0 0).toNat:Nat):Int):=hw
    rw [hw']
    refine⟨⟨by omega,by omega,by omega,by omega⟩,?_⟩
    conv=>whnf
    refine⟨(b.drop 1).take (b.getD 0 0).toNat,⟨rfl,by rw [hlen];omega,fun i hi=>?_⟩,?_⟩
    ·have hi':i<(b.getD 0 0).toNat:=by omega
     show [AV.v (Value.int IntKind.u8 ((b.getD (i+1) 0).toNat:Int))]=_
     rw [show ((b.drop 1).take (b.getD 0 0).toNat).getD i 0=b.getD (i+1) 0 by rw [List.getD_eq_getElem?_getD,List.getElem?_take_of_lt hi',List.getElem?_drop,BV];rfl]
    conv=>whnf
    refine Fn.cl hc ?_
    conv=>whnf
    refine Aw (fun h3=>?_) (fun h3=>?_) <;> (repeat rw [Ab] at h3) <;> conv=>whnf
    ·have h3:DO ((b.drop 1).take (b.getD 0 0).toNat)≠0:=h3
     exact⟨_,ri,by rw [O4,G1,if_neg hs,if_neg h3]⟩
    ·have h3:DO ((b.drop 1).take (b.getD 0 0).toNat)=0:=h3
     exact⟨_,ri,by rw [O4,G1,if_neg hs,if_pos h3]⟩
theorem RC (b:List UInt8) (hl:b.length<=100000):Fn Tryz.prog 293 [bA b] fun r=>r=match G1 b with | some (s,n)=> .tp [.v (.string s), .v (.int .i64 n)] | none=> .tp [.v (.string ⟨#[]⟩), .v (.int .i64 0)]:=by
 have hb0:=(b.getD 0 0).toNat_lt
 have hw:IntKind.i64.wrap (1+IntKind.i64.wrap ((b.getD 0 0).toNat:Int))=((1+(b.getD 0 0).toNat:Nat):Int):=by rw [wi (n:=((b.getD 0 0).toNat:Int)) (by omega),wi (by omega)];omega
 by_cases hs:b.length<1+(b.getD 0 0).toNat
 ·rw [show G1 b=none by rw [G1,if_pos hs]]
  refine Fn.st Tryz.func293 rfl ?_
  conv=>whnf
  refine Aw (fun h=>?_) (fun h=>?_) <;> (repeat rw [Ab] at h) <;> conv=>whnf
  ·exact⟨_,ri,rfl⟩
  ·refine⟨by first | omega | (refine⟨rfl,?_,?_⟩ <;> first | omega | (simp only [Aa];done) | (simp only [Aa];omega)) | (simp only [Aa];omega),?_⟩
   conv=>whnf
   refine Aw (fun h2=>?_) (fun h2=>?_) <;> (repeat rw [Ab] at h2) <;> conv=>whnf
   ·exact⟨_,ri,rfl⟩
   ·exfalso
    have h2:IntKind.i64.wrap (1+IntKind.i64.wrap ((b.getD 0 0).toNat:Int))<=(b.length:Int):=h2
    rw [hw] at h2
    omega
 ·have hlen:((b.drop 1).take (b.getD 0 0).toNat).length=(b.getD 0 0).toNat:=by rw [Al,Af];omega
  have hsz:(⟨((b.drop 1).take (b.getD 0 0).toNat).toArray⟩:ByteArray).size=(b.getD 0 0).toNat:=by show (List.toArray _).size=_;simp only [BW,hlen]
  have hc:=LP ⟨((b.drop 1).take (b.getD 0 0).toNat).toArray⟩ (by rw [hsz];omega)
  have hw2:IntKind.i64.wrap (1+((⟨((b.drop 1).take (b.getD 0 0).toNat).toArray⟩:ByteArray).size:Int))=((1+(b.getD 0 0).toNat:Nat):Int):=by rw [hsz,wi (by omega)];omega
  refine Fn.st Tryz.func293 rfl ?_
  conv=>whnf
  refine Aw (fun h=>?_) (fun h=>?_) <;> (repeat rw [Ab] at h) <;> conv=>whnf
  ·exfalso
   have h:(b.length:Int)=0:=h
   omega
  ·refine⟨by first | omega | (refine⟨rfl,?_,?_⟩ <;> first | omega | (simp only [Aa];done) | (simp only [Aa];omega)) | (simp only [Aa];omega),?_⟩
   conv=>whnf
   refine Aw (fun h2=>?_) (fun h2=>?_) <;> (repeat rw [Ab] at h2) <;> conv=>whnf
   ·exfalso
    have h2:(b.length:Int)<IntKind.i64.wrap (1+IntKind.i64.wrap ((b.getD 0 0).toNat:Int)):=h2
    rw [hw] at h2
    omega
   ·refine⟨by first | omega | (refine⟨rfl,?_,?_⟩ <;> first | omega | (simp only [Aa];done) | (simp only [Aa];omega)) | (simp only [Aa];omega),?_⟩
    conv=>whnf
    have hw':IntKind.i64.wrap (1+IntKind.i64.wrap ((b.getD (Int.toNat 0) 0).toNat:Int))=((1+(b.getD 0 0).toNat:Nat):Int):=hw
    rw [hw']
    refine⟨⟨by omega,by omega,by omega,by omega⟩,?_⟩
    conv=>whnf
    refine⟨(b.drop 1).take (b.getD 0 0).toNat,⟨rfl,by rw [hlen];omega,fun i hi=>?_⟩,?_⟩
    ·have hi':i<(b.getD 0 0).toNat:=by omega
     show [AV.v (Value.int IntKind.u8 ((b.getD (i+1) 0).toNat:Int))]=_
     rw [show ((b.drop 1).take (b.getD 0 0).toNat).getD i 0=b.getD (i+1) 0 by rw [List.getD_eq_getElem?_getD,List.getElem?_take_of_lt hi',List.getElem?_drop,BV];rfl]
    conv=>whnf
    refine Fn.cl hc ?_
    conv=>whnf
    refine Aw (fun h3=>?_) (fun h3=>?_) <;> (repeat rw [Ab] at h3) <;> conv=>whnf
    ·have h3:DO ((b.drop 1).take (b.getD 0 0).toNat)≠0:=h3
     exact⟨_,ri,by rw [G1,if_neg hs,if_neg h3]⟩
    ·have h3:DO ((b.drop 1).take (b.getD 0 0).toNat)=0:=h3
     exact⟨_,ri,by rw [G1,if_neg hs,if_pos h3];simp only;rw [hw2]⟩
theorem T9 (s:ByteArray) (hs:s.size<=255):Fn Tryz.prog 246 [.v (.string s)] fun r=>r=bA (FI s):=by
 refine⟨⟨_,Tryz.func246,rfl,by decide⟩,fun c0 us hd hM _ hr=>?_⟩
 obtain⟨u1,rfl,h1⟩:=Wm hr
 simp only [Rd] at h1
 subst h1
 refine(RG s c0.w noM hs).mono ?_
 rintro e w' ⟨r,rfl,ho,hB⟩
 exact⟨_,_,rfl,rfl,hB,TW ho hM⟩
theorem Si (s:ByteArray) (hs:s.size<=1000000):Fn Tryz.prog 260 [.v (.string s)] fun r=>r = .tp [bA (if DO s.data.toList=0 then FI s else []), .v (.int .i64 (DO s.data.toList))]:=by
 have hc:=HP s hs
 refine⟨⟨_,Tryz.func260,rfl,by decide⟩,fun c0 us hd hM hg hr=>?_⟩
 have hr0:=hr
 obtain⟨u1,rfl,h1⟩:=Wm hr
 simp only [Rd] at h1
 subst h1
 have hC:=hc.calls c0 _ hd hM hg hr0
 by_cases h0:DO s.data.toList=0
 ·have h24:=GM h0
  have hv:Lib.validD s.data.toList=true:=by
   unfold DO at h0
   split at h0
   ·cases h0
   ·rename_i h;simp at h;exact h.2
  rw [if_pos h0]
  rw [h0] at hC |-
  refine(Ug s c0.w noM (by have:s.size=s.data.toList.length:=rfl;omega) hv (hC.mono ?_)).mono ?_
  ·rintro e w' ⟨v,r,rfl,rfl,q1,q2⟩
   simp only [Rd] at q2
   exact⟨by rw [q2],q1⟩
  ·rintro e w' ⟨r,rfl,ho,hB⟩
   exact⟨_,_,rfl,rfl,hB,Nj (TW ho hM) (TQ _)⟩
 ·rw [if_neg h0]
  refine(VK s c0.w (DO s.data.toList) (by simpa using h0) (hC.mono ?_)).mono ?_
  ·rintro e w' ⟨v,r,rfl,rfl,q1,q2⟩
   simp only [Rd] at q2
   exact⟨by rw [q2],q1⟩
  ·rintro e w' ⟨rfl,hB⟩
   refine⟨_,_,rfl,rfl,hB,Nj ?_ (TQ _)⟩
   exact AX 1 (fun i=> [.v (.int .u8 (([]:List UInt8).getD i 0).toNat)]) _ (.slice none 0 0) (by simp [Rd])
theorem Of (l:List Int) (j:Nat) (h:j<l.length):Nc (l.take (j+1))=Nc (l.take j) ++ leB 1 (l.getD j 0).toNat:=by
 have e:∀ n,n<=l.length->Nc (l.take n)=rowB (l.take n) ((EK l.length).take n):=fun n hn=>by
  rw [Nc,Al,C4 hn,EK,EK,List.take_replicate,C4 hn]
 rw [e _ (by omega),e _ (by omega),rowB_step l (EK l.length) j h (by rw [Iv];exact h)]
 simp [EK,List.getD_eq_getElem?_getD,List.getElem?_eq_getElem h]
theorem JV (l:List Int):(Nc l).length=l.length:=by rw [Nc,tot_rowB _ _ (Iv _).symm,tot_ones]
def Ft (a:An) (k:Nat):List UInt8:=rowB (Jo a) szA ++ FI a.label ++ ((a.homes.take k).map Lx).flatten
theorem MD (a:An) (k:Nat) (h:k<a.homes.length):Ft a (k+1)=Ft a k ++ Lx (a.homes.getD k ⟨[],0,0⟩):=by
 rw [Ft,Ft,A3 h,Ax,B4,As]
 simp only [Ap,AT,Az,List.flatten_nil,List.append_nil,List.getD_eq_getElem?_getD,List.getElem?_eq_getElem h,Bm,As]
theorem O_ (a:An):Ft a a.homes.length=IJ a:=by rw [Ft,List.take_length,IJ]
theorem Wf {g:Geo} {a:An} (hg:A_ g=true) (ha:AN g a=true):∀ k (_:k<(Jo a).length) (_:k<szA.length),DR szA[k]/\0<=(Jo a)[k]/\(Jo a)[k]<Cv szA[k]:=by
 obtain⟨g1,g2,g3,g4,g5⟩:=Ak.1 hg
 simp only [AN,Bool.and_eq_true,decide_eq_true_eq,AK,Bq,Bk,A0,Ao] at ha
 obtain⟨⟨q1,q2,q3,q4⟩,_,_,q5,q6,q7,q8⟩:=ha
 intro k p _
 have hk:k=0\/k=1\/k=2\/k=3\/k=4:=by simp [Jo] at p;omega
 have l4:Cv 4=4294967296:=rfl
 have l1:Cv 1=256:=rfl
 rcases hk with rfl | rfl | rfl | rfl | rfl
 ·exact⟨.inr (.inr rfl),q1.1,by show a.gen<Cv 4;omega⟩
 ·exact⟨.inr (.inr rfl),q2.1,by show a.epoch<Cv 4;omega⟩
 ·exact⟨.inr (.inr rfl),q3.1,by show a.seq<Cv 4;omega⟩
 ·exact⟨.inr (.inr rfl),q4.1,by show a.last<Cv 4;omega⟩
 ·exact⟨.inl rfl,q5.1,by show a.pos<Cv 1;omega⟩
theorem Dv {g:Geo} {a:An} (hg:A_ g=true) (ha:AN g a=true) (k:Nat) (hk:k<=a.homes.length):(Ft a k).length<=200/\a.homes.length<=4/\DO a.label.data.toList=0/\a.label.size<=24/\(∀ h∈a.homes,Da g h=true):=by
 obtain⟨g1,g2,g3,g4,g5⟩:=Ak.1 hg
 simp only [AN,Bool.and_eq_true,decide_eq_true_eq,AK,Bq,Bk,A0,Ao] at ha
 obtain⟨_,_,_,q5,q6,q7,q8⟩:=ha
 have h24:=GM q6
 have hs:a.label.size=a.label.data.toList.length:=rfl
 have hr:(rowB (Jo a) szA).length=17:=tot_rowB _ _ rfl
 have hm:((a.homes.take k).map Lx).flatten.length=(a.homes.take k).length*(g.d.toNat+6):=(JY hg (a.homes.take k) fun h hh=>q8 h (BN hh)).2
 have hk4:(a.homes.take k).length<=4:=by rw [Al];omega
 have hmul:(a.homes.take k).length*(g.d.toNat+6)<=4*10:=Cx hk4 (by omega)
 refine⟨?_,by omega,q6,by omega,q8⟩
 rw [Ft,List.length_append,List.length_append,hr,Ff,hm]
 omega
theorem Lq {L:List UInt8} {n:Nat} {es:List (List AV)} (hn:n=L.length) (he:es=L.map DG) (c:Ctx) (v:Value) (h:Rd (.sl 1 n fun i=>es.getD i []) c v):Rd (bA L) c v:=by
 subst he
 exact Rd.congr hn (fun i hi=>AR (f:=DG) (l:=L) (d:=0) (hn ▸ hi)) h
theorem GE {α:Type} {d:α} {β:Type} (f:α->β) (l:List α):(List.range l.length).map (fun i=>f (l.getD i d))=l.map f:=by
 refine List.ext_getElem (by simp) fun i h1 h2=>?_
 simp only [Aa,CA] at h1
 simp [List.getD_eq_getElem?_getD,List.getElem?_eq_getElem h1]
theorem OV (L:List UInt8):((List.range L.length).map fun i=> [AV.v (Value.int IntKind.u8 ((L.getD i 0).toNat:Int))])=L.map DG:=GE (d:=0) DG L
theorem SN (g:Geo) (a:An) (hl:a.label.size<=1000000) (hh:a.homes.length<=1000000):Fn Tryz.prog 215 [.ag (AF g), .ag (Dx a)] fun r=>r = .tp [bA (if A_ g&&AN g a then IJ a else []), .v (F3 (A_ g&&AN g a))]:=by
 have hc:=Jq g a hl hh
 have no:∀ (c:Ctx) (v:Value),Rd (.tp [.v (.slice none 0 0), .v (.int .i64 1)]) c v->Rd (.tp [bA [], .v (.int .i64 1)]) c v:=fun c v h=>by
  simp only [Rd,RdL] at h |-
  obtain⟨xs,rfl,y,ys,rfl,rfl,h⟩:=h
  exact⟨_,rfl,_,_,rfl,AX 1 (fun i=> [.v (.int .u8 (([]:List UInt8).getD i 0).toNat)]) c (.slice none 0 0) (by simp [Rd]),h⟩
 cases hok:(A_ g&&AN g a) with
 | false=>
  rw [hok] at hc
  refine Fn.st Tryz.func215 rfl ?_
  conv=>whnf
  refine Fn.cl hc ?_
  exact⟨_,no,rfl⟩
 | true=>
  rw [hok] at hc
  have hg:A_ g=true:=by simp only [Bool.and_eq_true] at hok;exact hok.1
  have ha:AN g a=true:=by simp only [Bool.and_eq_true] at hok;exact hok.2
  obtain⟨q1,q2,q3,q4,q5⟩:=Dv hg ha 0 (Ad _)
  have hrow:=MV (Jo a) szA rfl (by show 5<=1000;decide) (Wf hg ha)
  have hlb:=Si a.label hl
  rw [if_pos q3,q3] at hlb
  refine Fn.st Tryz.func215 rfl ?_
  conv=>whnf
  refine Fn.cl hc ?_
  conv=>whnf
  refine ACalls.shut (hrow).go ?_
  refine⟨rfl,?_⟩
  refine⟨rfl,?_⟩
  conv=>whnf
  refine ACalls.sub [iA (Jo a),iA szA] ⟨(CQ (l:=(Jo a)) rfl).1,(CQ (l:=szA) rfl).1,trivial⟩ ?_
  refine ACalls.beside (hrow) rfl ?_
  rintro _ _ ⟨rfl,rfl⟩
  conv=>whnf
  refine Fn.cl hlb ?_
  conv=>whnf
  have hr17:(rowB (Jo a) szA).length=17:=tot_rowB _ _ rfl
  refine And.intro ⟨by simp,by rw [hr17,Ff];omega⟩ ?_
  conv=>whnf
  have e0:(rowB (Jo a) szA).map DG ++ ((List.range (FI a.label).length).map fun i=> [AV.v (Value.int IntKind.u8 (((FI a.label).getD i 0).toNat:Int))])=(Ft a 0).map DG:=by
   rw [OV,<-Ax];simp [Ft]
  have e1:(rowB (Jo a) szA).length+(FI a.label).length=(Ft a 0).length:=by simp [Ft]
  refine aLoop.ruleR Nat (fun k=>([(2, .bp 0 0),(3, .bp 1 0),(7, .ow 4 (Ft a k).length),(49,Hq a.homes),(50, .v (.int .i64 a.homes.length)),(51, .v (.int .i64 k))], [.box 23 (AF g), .box 28 (Dx a), .dead, .dead, .row 5 1 ((Ft a k).map DG)])) (fun k=>k<=a.homes.length) (fun k=>a.homes.length - k) 0 (Ad _)
   (Wk.conv ⟨[],trivial,⟨rfl,rfl,congrArg (AV.ow 4) e1,rfl,rfl,rfl,trivial⟩,⟨rfl,rfl,congrArg (AB.row _ _) e0.symm,trivial⟩,rfl,rfl,rfl⟩) ?_
  intro k hk
  conv=>whnf
  refine Aw (fun h6=>?_) (fun h6=>?_) <;> (repeat rw [Ab] at h6) <;> conv=>whnf
  ·refine⟨by first | omega | (refine⟨rfl,?_,?_⟩ <;> first | omega | (simp only [Aa];done) | (simp only [Aa];omega)) | (simp only [Aa];omega),?_⟩
   conv=>whnf
   have hk':k<a.homes.length:=by omega
   have hh4:=q5 _ (Ay (d:=(⟨[],0,0⟩:Hm)) hk')
   obtain⟨f1,f2,f3,f4,f5⟩:=No hg hh4
   have hst:=MD a k hk'
   have hB:=(Dv hg ha k hk).1
   have hB2:=(Dv hg ha (k+1) hk').1
   generalize hX:Ft a k=X at hst hB |-
   rw [show a.homes.getD (k:Int).toNat ⟨[],0,0⟩=a.homes.getD k ⟨[],0,0⟩ by rw [Ab]]
   generalize a.homes.getD k ⟨[],0,0⟩=h at hh4 f1 f2 f3 f4 f5 hst |-
   rw [hst] at hB2
   have hlm:(Lx h).length=h.places.length+5:=by rw [I4,tot_rowB _ _ (by rw [List.length_append,Ij];rfl),Ih]
   rw [List.length_append,hlm] at hB2
   refine aLoop.ruleR Nat (fun j=>([(2, .bp 0 0),(3, .bp 1 0),(7, .ow 4 (X ++ Nc (h.places.take j)).length),(12, .bp 5 0),(49,Hq a.homes),(50, .v (.int .i64 a.homes.length)),(51, .v (.int .i64 k)),(56,iA h.places),(57, .v (.int .i64 h.places.length)),(58, .v (.int .i64 j))], [.box 23 (AF g), .box 28 (Dx a), .dead, .dead, .row 5 1 ((X ++ Nc (h.places.take j)).map DG), .box 53 (CH h)])) (fun j=>j<=h.places.length) (fun j=>h.places.length - j) 0 (Ad _)
    (Wk.conv ⟨[],trivial,⟨rfl,rfl,congrArg (fun l=>AV.ow 4 (List.length l)) (List.append_nil X).symm,rfl,rfl,rfl,rfl,rfl,rfl,rfl,trivial⟩,⟨rfl,rfl,congrArg (fun l=>AB.row _ _ (List.map DG l)) (List.append_nil X),rfl,trivial⟩,rfl,rfl,rfl⟩) ?_
   intro j hj
   conv=>whnf
   refine Aw (fun h7=>?_) (fun h7=>?_) <;> (repeat rw [Ab] at h7) <;> conv=>whnf
   ·refine⟨by first | omega | (refine⟨rfl,?_,?_⟩ <;> first | omega | (simp only [Aa];done) | (simp only [Aa];omega)) | (simp only [Aa];omega),?_⟩
    conv=>whnf
    rw [Ab]
    have hj':j<h.places.length:=by omega
    have hp:=f2 _ (Ay (d:=(0:Int)) hj')
    have hpl:=JV (h.places.take j)
    have hps:=Of h.places j hj'
    have hput:=V4 (X ++ Nc (h.places.take j)) (h.places.getD j 0) 1 (.inl rfl) (by rw [List.length_append,hpl,Al];omega) hp.1 hp.2
    rw [show (1:Int).toNat=1 from rfl,As,<-hps] at hput
    refine ACalls.shut (hput).go ?_
    conv=>whnf
    repeat' (refine And.intro (by first | rfl | omega | (simp;done) | (simp only [Aa];omega) | (simp;omega)) ?_;conv=>whnf)
    refine ACalls.sub [bA (X ++ Nc (h.places.take j)), .v (.int .i64 (h.places.getD j 0)), .v (.int .i64 1)] ⟨Lq rfl rfl,ri,ri,trivial⟩ ?_
    refine ACalls.beside (hput) rfl ?_
    rintro _ _ ⟨rfl,rfl⟩
    refine⟨j+1,by omega,by omega,WkN.r (s:= [0,1,2,3,6,5]) ⟨⟨rfl,rfl,rfl,rfl,rfl,rfl,rfl,rfl,rfl,A7 (by omega),trivial⟩,⟨rfl,rfl,trivial,trivial,rfl,rfl,trivial⟩,rfl,rfl,rfl,rfl,rfl⟩⟩
   ·have ej:j=h.places.length:=by omega
    subst ej
    have hr2:=MV [h.next,h.root] [1,4] rfl (by show 2<=1000;decide) (Q6 f3 ⟨f4,f5⟩)
    have l5:(rowB [h.next,h.root] [1,4]).length=5:=tot_rowB _ _ rfl
    have hpl:=JV (h.places.take h.places.length)
    rw [List.take_length] at hpl |-
    refine ACalls.shut (hr2).go ?_
    refine⟨rfl,?_⟩
    refine⟨rfl,?_⟩
    conv=>whnf
    refine ACalls.sub [iA [h.next,h.root],iA [1,4]] ⟨(CQ (l:= [h.next,h.root]) rfl).1,(CQ (l:= [1,4]) rfl).1,trivial⟩ ?_
    refine ACalls.beside (hr2) rfl ?_
    rintro _ _ ⟨rfl,rfl⟩
    refine⟨by simp,?_⟩
    conv=>whnf
    refine And.intro ⟨by simp,by rw [l5,List.length_append,hpl];omega⟩ ?_
    conv=>whnf
    refine⟨k+1,hk',by omega,WkN.r (s:= [0,1,2,3,4]) ⟨⟨rfl,rfl,congrArg (AV.ow 4) (by rw [hst];simp [Lx,Ch]),rfl,rfl,A7 (by omega),trivial⟩,⟨rfl,rfl,trivial,trivial,congrArg (fun l=>some (AB.row _ _ l)) (by rw [hst];simp [Lx]),trivial⟩,rfl,rfl,rfl,rfl,rfl⟩⟩
  ·have ek:k=a.homes.length:=by omega
   subst ek
   rw [O_]
   refine⟨by simp,?_⟩
   exact⟨.tp [bA (IJ a), .v (.int .i64 0)],fun c v h=>by
    simp only [Rd,RdL] at h |-
    obtain⟨xs,rfl,y,ys,rfl,h1,h⟩:=h
    exact⟨_,rfl,y,ys,rfl,Lq rfl rfl c y (by simp only [Rd];exact h1),h⟩,rfl⟩
section
variable {P:Program} {T:Tys} {w0:Fl} {M0:Ms} {n d0:Nat} {ce:Ctx} {l m:Nat}
theorem MT {row:String} {args:Array Value} {w:World} {R:Value->World->Prop} (h:Rows P row args w R):RowsIn (Fence.wide.inRound l) m P row args w R:=
 fun c cs _=>let ⟨v,w',r,s⟩:=h c cs;⟨v,w',r,stepsIn_wide.2 s⟩
theorem HK {o:Oper} {a:Act} {w:World} {next:Act->World->Prop} {Q:Exit->Act->World->Prop} (hd:∀ c,o.op≠ .defer c) (h:o.wp P a w next Q):o.wpIn (Fence.wide.inRound l) m P a w next Q:=by
 refine⟨fun _ _=>trivial,?_⟩
 rw [show (Fence.wide.inRound l).round=some l from rfl,Oper.semAt_some l a.eval o hd]
 unfold Oper.wp at h
 revert h
 generalize (execOp a.eval o).run P w=r
 intro h
 cases r with
 | ok x w'=>
  cases x with
  | value v=>exact h
  | skip=>exact h
  | defer d=>exact h
  | enter f args=>exact⟨fun e=>(by cases e),CallsIn.inRound l (callsIn_wide.2 h)⟩
  | row r args=>exact⟨fun e=>(by cases e),MT h⟩
  | _=>exact h.elim
 | halt x w'=>
  cases x with
  | panic v=>exact h
  | _=>exact h.elim
def XL (o:Oper):Bool:=match o.op with
 | .defer _=>false
 | _=>true
def roundOk:Code->Bool
 | .skip=>true
 | .exit _=>true
 | .ret=>true
 | .region _ ops draw=>!draw&&ops.toList.all XL
 | .seq a b=>roundOk a&&roundOk b
 | .cond _ a b=>roundOk a&&roundOk b
 | .block _ c=>roundOk c
 | _=>false
theorem WJ {o:Oper} (h:XL o=true):∀ c,o.op≠ .defer c:=by
 intro c e
 unfold XL at h
 rw [e] at h
 cases h
theorem HG (hT:TOk P T) {ops:Array Oper} {K:Fr->List AB->Prop} {Q:Exit->Act->World->Prop} (hq:∀ a w,Dw w0 M0 ce n K a w->Q .normal a w) :
  ∀ (r:List Oper) (c:Ctx) (fr:Fr) (H:List AB) (a:Act),r.all XL=true->HS w0 M0 c H->FR w0 c n fr a->Ext ce c->Nf P T n ops.toList r fr H K->wpListIn (Fence.wide.inRound l) m P ops Q r a c.w
 | [],c,fr,H,a,_,hs,hf,he,h=>hq _ _ ⟨c,fr,H,rfl,h,hs,hf,he⟩
 | o::r,c,fr,H,a,hr,hs,hf,he,h=>by
  simp only [AK,Bool.and_eq_true] at hr
  simp only [Nf] at h
  unfold wpListIn
  rcases C7 (ops:=ops) hf h with ⟨hw,fr',hf',h⟩ | ⟨hw,fr',hf',h⟩
  ·rw [if_pos hw]
   refine HK (WJ hr.1) (EA hT hs hf' he h ?_)
   rintro a' w' ⟨c',fr2,H',rfl,h1,h2,h3,h4⟩ -
   exact HG hT hq r c' fr2 H' a' hr.2 h2 h3 h4 h1
  ·rw [if_neg (by rw [hw];simp)]
   obtain⟨fr2,h1,h2⟩:=BJ (v:=undef) hf' (by simp [Rd]) h
   exact⟨fun _ _=>trivial,HG hT hq r c fr2 H _ hr.2 hs h2 he h1⟩
theorem BL (hT:TOk P T) (hd:ce.dom=d0):∀ (cd:Code) (Q:QA) (Q':Exit->Act->World->Prop) (c:Ctx) (fr:Fr) (H:List AB) (a:Act),roundOk cd=true->(∀ e a w,LiftQ w0 M0 ce n Q e a w->Q' e a w)->HS w0 M0 c H->FR w0 c n fr a->Ext ce c->
  BS P T n d0 cd Q fr H->cd.wpIn (Fence.wide.inRound l) m P Q' a c.w
 | .skip,Q,Q',c,fr,H,a,_,hq,hs,hf,he,h=>wpIn_skip (hq .normal _ _ ⟨c,fr,H,rfl,h,hs,hf,he⟩)
 | .region id ops draw,Q,Q',c,fr,H,a,hr,hq,hs,hf,he,h=>by
  simp only [roundOk,Bool.and_eq_true,AU] at hr
  obtain⟨rfl,hr⟩:=hr
  simp only [BS] at h
  exact wpIn_region_list (HG hT (fun a w hl=>hq .normal a w hl) ops.toList c fr H a hr hs hf he h)
 | .seq x y,Q,Q',c,fr,H,a,hr,hq,hs,hf,he,h=>by
  simp only [roundOk,Bool.and_eq_true] at hr
  simp only [BS] at h
  have plain:BS P T n d0 x (EX.then (fun fr H=>BS P T n d0 y Q fr H) Q) fr H->(Code.seq x y).wpIn (Fence.wide.inRound l) m P Q' a c.w:=by
   intro h
   refine wpIn_seq_k fun K hK=>BL hT hd x _ _ c fr H a hr.1 (LiftQ.mono_then ?_ hq) hs hf he h
   rintro a' w' ⟨c',fr',H',rfl,h1,h2,h3,h4⟩
   exact hK _ _ (BL hT hd y Q Q' c' fr' H' a' hr.2 hq h2 h3 h4 h1)
  split at h
  ·rcases h.ex with h | ⟨ι,st,I,h,hk⟩ | ⟨ι,st,I,h,hk⟩ | ⟨ι,st,I,h,hk⟩
   ·exact plain h
   ·refine wpIn_seq_k fun K hK=>BL hT hd x _ _ c fr H a hr.1 (LiftQ.mono_then ?_ hq) hs hf he h
    rintro a' w' ⟨c',fr',H',rfl,⟨z,hI,hw⟩,h2,h3,h4⟩
    obtain⟨c4,e4,hs4,hf4,he4⟩:=hw.sound hd h2 h3 h4
    rw [<-e4]
    exact hK _ _ (BL hT hd y Q Q' c4 _ _ a' hr.2 hq hs4 hf4 he4 (hk z hI))
   ·refine wpIn_seq_k fun K hK=>BL hT hd x _ _ c fr H a hr.1 (LiftQ.mono_then ?_ hq) hs hf he h
    rintro a' w' ⟨c',fr',H',rfl,⟨z,hI,hw⟩,h2,h3,h4⟩
    obtain⟨c4,e4,hs4,hf4,he4⟩:=hw.sound hd h2 h3 h4
    rw [<-e4]
    exact hK _ _ (BL hT hd y Q Q' c4 _ _ a' hr.2 hq hs4 hf4 he4 (hk z hI))
   ·refine wpIn_seq_k fun K hK=>BL hT hd x _ _ c fr H a hr.1 (LiftQ.mono_then ?_ hq) hs hf he h
    rintro a' w' ⟨c',fr',H',rfl,⟨z,hI,hw⟩,h2,h3,h4⟩
    obtain⟨c4,e4,hs4,hf4,he4⟩:=hw.sound hd h2 h3 h4
    rw [<-e4]
    exact hK _ _ (BL hT hd y Q Q' c4 _ _ a' hr.2 hq hs4 hf4 he4 (hk z hI))
  ·exact plain h
 | .cond x y z,Q,Q',c,fr,H,a,hr,hq,hs,hf,he,h=>by
  simp only [roundOk,Bool.and_eq_true] at hr
  simp only [BS] at h
  split at h
  ·rename_i t ht
   have hrd:=hf.ev x
   rw [ht] at hrd
   simp only [Rd] at hrd
   obtain⟨h1,h2⟩:=DN h
   refine wpIn_cond_split hrd (fun e=>?_) fun e=>?_
   ·exact BL hT hd y Q Q' c fr H a hr.1 hq hs hf he (h1 e)
   ·exact BL hT hd z Q Q' c fr H a hr.2 hq hs hf he (h2 e)
  ·exact h.elim
 | .block id x,Q,Q',c,fr,H,a,hr,hq,hs,hf,he,h=>by
  simp only [roundOk] at hr
  simp only [BS] at h
  refine wpIn_block (BL hT hd x _ _ c fr H a hr ?_ hs hf he h)
  intro e a' w' hl
  cases e with
  | normal=>exact hq .normal _ _ hl
  | exit i=>
   simp only [Exit.inBlock]
   have hl:Dw w0 M0 ce n (match Nat.beq i id with | true=>Q .normal | false=>Q (.exit i)) a' w':=by
    have e:(EX.inBlock id Q (EX.exit i))=(match Nat.beq i id with | true=>Q .normal | false=>Q (.exit i)):=by
     funext fr H
     simp only [EX.inBlock]
     cases Nat.beq i id <;> rfl
    rw [<-e]
    exact hl
   by_cases hi:i=id
   ·subst hi
    rw [if_pos rfl]
    rw [Nat.beq_refl] at hl
    exact hq .normal _ _ hl
   ·rw [if_neg hi]
    have hb:Nat.beq i id=false:=by
     cases hq:Nat.beq i id with
     | true=>exact absurd (Ae hq) hi
     | false=>rfl
    rw [hb] at hl
    exact hq (.exit i) _ _ hl
  | ret=>exact hq .ret _ _ hl
  | _=>exact hl.elim
 | .exit id,Q,Q',c,fr,H,a,_,hq,hs,hf,he,h=>wpIn_exit (hq (.exit id) _ _ ⟨c,fr,H,rfl,h,hs,hf,he⟩)
 | .ret,Q,Q',c,fr,H,a,_,hq,hs,hf,he,h=>wpIn_ret (hq .ret _ _ ⟨c,fr,H,rfl,h,hs,hf,he⟩)
 | .loop _,_,_,_,_,_,_,hr,_,_,_,_,_=>by simp [roundOk] at hr
 | .rangeFunc _ _ _ _,_,_,_,_,_,_,hr,_,_,_,_,_=>by simp [roundOk] at hr
 | .label _,_,_,_,_,_,_,hr,_,_,_,_,_=>by simp [roundOk] at hr
 | .goto _,_,_,_,_,_,_,hr,_,_,_,_,_=>by simp [roundOk] at hr
 | .scope _,_,_,_,_,_,_,hr,_,_,_,_,_=>by simp [roundOk] at hr
 | .refuse _,_,_,_,_,_,_,hr,_,_,_,_,_=>by simp [roundOk] at hr
end
def Eg (n j:Nat):List Nat:=(List.range j).map fun i=>n - 1 - i
structure IsBack (P:Program) (gf:FuncId) (sz:Nat):Prop where
 enters:∀ args w,(callFunc gf args).run P w = .ok (.enter gf args) w
 seq:∀ (B:Nat) (a:Option Addr) (len cap:Nat) (X:Nat->List Value) (w:World),len<=1000000000->w.cell? ⟨B,0,none⟩=some (.slice a len cap)->(∀ j,(X j).length=sz)->
  (0<len->∃ b off,a=some ⟨b,off,none⟩/\b<w.heap.size/\∀ j,j<len->∀ (i:Nat) (u:Value),(X j)[i]? = some u->w.cell? ⟨b,off+j*sz+i,none⟩=some u)->
  SeqStopsK Fence.wide 4 P gf #[.pointer (some ⟨B,0,none⟩)] (fun x:Fin len=> #[Value.int .i64 x.val, .agg (X x.val).toArray]) (Below w.heap.size) (fun ys=>ys.map Fin.val=Eg len len) (fun pre=>∃ k,k<=len/\pre.map Fin.val=Eg len k) len w

section
variable {P:Program} {T:Tys} {w0:Fl} {M0:Ms} {n d0:Nat} {ce:Ctx}
theorem RdAt.raw:∀ (l:List AV) {c:Ctx} {b off:Nat},RdAt l c b off->RdL l c ((List.range' off l.length).map fun i=>(c.w.cell? ⟨b,i,none⟩).getD undef)
 | [],_,_,_,_=>by simp [RdL]
 | x::l,c,b,off,h=>by
  simp only [RdAt] at h
  obtain⟨⟨u,h1,_,h3⟩,h4⟩:=h
  simp only [Ag,List.range'_succ,Ap,RdL]
  exact⟨_,_,rfl,by rw [h1];exact h3,RdAt.raw l h4⟩
theorem RdAt.some:∀ (l:List AV) {c:Ctx} {b off:Nat},RdAt l c b off->∀ i,i<l.length->∃ u,c.w.cell? ⟨b,off+i,none⟩=some u
 | [],_,_,_,_,i,hi=>by simp at hi
 | x::l,c,b,off,h,i,hi=>by
  simp only [RdAt] at h
  obtain⟨⟨u,h1,_,h3⟩,h4⟩:=h
  cases i with
  | zero=>exact⟨u,h1⟩
  | succ i=>
   obtain⟨v,hv⟩:=RdAt.some l h4 i (by simpa using hi)
   exact⟨v,by rw [show off+(i+1)=off+1+i by omega];exact hv⟩
def noIter:List AB->Bool
 | []=>true
 | .iter _ _::_=>false
 | _::r=>noIter r
theorem noIter_get:∀ {H:List AB},noIter H=true->∀ (k:Nat) (s:ByteArray) (p:Nat),H[k]? ≠some (.iter s p)
 | [],_,_,_,_,h=>by simp at h
 | x::r,h,k,s,p,hk=>by
  cases k with
  | zero=>simp at hk;subst hk;simp [noIter] at h
  | succ k=>
   simp at hk
   refine noIter_get (H:=r) ?_ k s p hk
   cases x <;> first | exact h | (simp [noIter] at h)
theorem HS.cells {c:Ctx} {H:List AB} (h:HS w0 M0 c H) (hni:noIter H=true) {k:Nat} {x:AB} {g:Nat} (hk:H[k]? = some x) (hl:x.live=true) (hg:oB (c.rho k)=some g):∃ o:Obj,c.w.heap[g]? = some o/\o.isCells=true:=by
 have hx:=h.blk k x hk
 cases x with
 | dead=>cases hl
 | iter s p=>exact absurd hk (noIter_get hni k s p)
 | box t cs=>
  obtain⟨g',xs,h1,h2,_⟩:=hx
  rw [h1] at hg
  simp only [oB,Option.some.injEq] at hg
  subst hg
  exact⟨_,h2,rfl⟩
 | row t sz es=>
  obtain⟨_,_,_,xs,⟨_,h4⟩,_⟩:=hx
  rcases h4 with ⟨e,_⟩ | ⟨g',cap,cur,e,_,hh,_⟩
  ·rw [e] at hg;cases hg
  ·rw [e] at hg
   simp only [oB,Option.some.injEq] at hg
   subst hg
   exact⟨_,hh,rfl⟩
 | rowo t sz es m=>
  obtain⟨_,_,_,_,xs,⟨_,h4⟩,_⟩:=hx
  rcases h4 with ⟨e,_⟩ | ⟨g',cap,cur,e,_,hh,_⟩
  ·rw [e] at hg;cases hg
  ·rw [e] at hg
   simp only [oB,Option.some.injEq] at hg
   subst hg
   exact⟨_,hh,rfl⟩
theorem HS.turn {c:Ctx} {H:List AB} (h:HS w0 M0 c H) (hni:noIter H=true) {B0:Nat} (hB:w0.w.heap.size<=B0) {W':World} {row:Option Nat} (hg:c.w.grownBy W' row) (hr:∀ r,row=some r->B0<=r/\∃ o:Obj,c.w.heap[r]? = some o/\o.isCells=false) :
  HS w0 M0 { c with w:=W' } H/\Like c { c with w:=W' }:=by
 have hoth:∀ (g:Nat) (o:Obj),c.w.heap[g]? = some o->o.isCells=true->W'.heap[g]? = c.w.heap[g]? :=by
  intro g o ho hc
  refine hg.block g (Array.getElem?_eq_some_iff.1 ho).1 fun e=>?_
  obtain⟨_,o',ho',hc'⟩:=hr g e.symm
  rw [ho] at ho'
  cases ho'
  rw [hc] at hc'
  cases hc'
 have hl:Like c { c with w:=W' }:=by
  refine⟨rfl,hg.size,fun a u hu=>?_,rfl,rfl,rfl⟩
  obtain⟨o,ho,hc⟩:=cells_of_cell hu
  exact(World.cell?_of_block (hoth _ _ ho hc)).trans hu
 refine⟨⟨⟨hg.os.trans h.low.os,hg.tape.trans h.low.tape,hg.output.trans h.low.output,AS h.low.size hg.size,fun b hb=>?_⟩,h.base,h.dom,h.foreign,fun b hm=>Aj (h.lt b hm) hg.size,fun k x hk=>?_,h.own,h.dis⟩,hl⟩
 ·rw [<-h.low.block b hb]
  have hb':=w0.lt b hb
  refine hg.block b (Aj hb' h.low.size) fun e=>?_
  have:=(hr b e.symm).1
  omega
 ·have hx:=h.blk k x hk
  cases x with
  | dead=>trivial
  | iter s p=>exact absurd hk (noIter_get hni k s p)
  | box t cs=>
   obtain⟨g,xs,h1,h2,h3,h4⟩:=hx
   exact⟨g,xs,h1,(hoth g _ h2 rfl).trans h2,RdL.like cs hl h3,h4⟩
  | row t sz es=>
   obtain⟨h1,h2,h3,xs,h4,h5,h6⟩:=hx
   refine⟨h1,h2,h3,xs,?_,RdL.like _ hl.closed h5,h6⟩
   refine⟨h4.1,h4.2.imp id ?_⟩
   rintro⟨g,cap,cur,q1,q2,q3,q4⟩
   exact⟨g,cap,cur,q1,q2,(hoth g _ q3 rfl).trans q3,q4⟩
  | rowo t sz es m=>
   obtain⟨h1,h2,h3,h3',xs,h4,h5,h6⟩:=hx
   refine⟨h1,h2,h3,h3',xs,?_,RdL.like _ hl h5,h6⟩
   refine⟨h4.1,h4.2.imp id ?_⟩
   rintro⟨g,cap,cur,q1,q2,q3,q4⟩
   exact⟨g,cap,cur,q1,q2,(hoth g _ q3 rfl).trans q3,q4⟩
theorem Ext.turn {c0 c:Ctx} (h:Ext c0 c) {B0:Nat} (hB:c0.w.heap.size<=B0) {W':World} {row:Option Nat} (hg:c.w.grownBy W' row) (hr:∀ r,row=some r->B0<=r/\∃ o:Obj,c.w.heap[r]? = some o/\o.isCells=false):Ext c0 { c with w:=W' }:=
 ⟨hg.os.trans h.os,hg.tape.trans h.tape,hg.output.trans h.output,AS h.size hg.size,fun b hb hm=>⟨(h.keep b hb hm).1,(hg.block b (Aj hb h.size) fun e=>by have:=(hr b e.symm).1;omega).trans (h.keep b hb hm).2⟩,h.dom,h.len,h.rho,h.box⟩
def Ctx.slim (c:Ctx) (B0:Nat) (H:List AB):Ctx:={ c with M:=fun b=>c.M b/\(b<B0\/∃ (j:Nat) (y:AB),H[j]? = some y/\y.live=true/\oB (c.rho j)=some b) }
theorem HS.slim {c:Ctx} {H:List AB} (h:HS w0 M0 c H) {B0:Nat} (hB:w0.w.heap.size<=B0):HS w0 M0 (c.slim B0 H) H/\Ext c (c.slim B0 H):=by
 have he:Ext c (c.slim B0 H):=⟨rfl,rfl,rfl,Nat.le_refl _,fun b _ hm=>⟨fun h=>hm h.1,rfl⟩,Nat.le_refl _,fun _ _=>Nat.le_refl _,fun _ _ _=>rfl,fun _ _ _ h=>h⟩
 refine⟨⟨h.low,h.base,h.dom,fun b hb=>⟨fun hm=>(h.foreign b hb).1 hm.1,fun hm=>⟨(h.foreign b hb).2 hm, .inl (Aj (w0.lt b hb) hB)⟩⟩,fun b hm=>h.lt b hm.1,fun k x hk=>?_,fun k x g hk hl ho=>⟨⟨(h.own k x g hk hl ho).1, .inr ⟨k,x,hk,hl,ho⟩⟩,(h.own k x g hk hl ho).2⟩,h.dis⟩,he⟩
 have hx:=h.blk k x hk
 cases x with
 | dead=>trivial
 | iter s p=>exact hx
 | box t cs=>
  obtain⟨g,xs,h1,h2,h3,h4⟩:=hx
  exact⟨g,xs,h1,h2,RdL.ext cs he h3,h4⟩
 | row t sz es=>
  obtain⟨h1,h2,h3,xs,h4,h5,h6⟩:=hx
  exact⟨h1,h2,h3,xs,h4,RdL.ext _ he.closed h5,h6⟩
 | rowo t sz es m=>
  obtain⟨h1,h2,h3,h3',xs,h4,h5,h6⟩:=hx
  exact⟨h1,h2,h3,h3',xs,h4,RdL.ext _ he h5,h6⟩
theorem Ko {c:Ctx} {H:List AB} (h:HS w0 M0 c H) (hni:noIter H=true) {B0 b:Nat} (hb:B0<=b) (hm:(c.slim B0 H).M b):∃ o:Obj,c.w.heap[b]? = some o/\o.isCells=true:=by
 obtain⟨_,h1 | ⟨j,y,h1,h2,h3⟩⟩:=hm
 ·omega
 ·exact h.cells hni h1 h2 h3
def Wa (T:Tys) (n:Nat):Code->Fr->List AB->(Fr->List AB->Prop)->Prop
 | .skip,fr,H,K=>K fr H
 | .region _ ops false,fr,H,K=>match ops.toList with
  | [o1,o2]=>match o1.op,o1.dst,o1.guard,o2.op,o2.dst,o2.guard with
   | .alloc t,some d,none, .store t' (.tmp d') (.tmp s),none,none=>match Nat.beq t t'&&Nat.beq d d'&&!Nat.beq s d&&Nat.blt d n with
    | true=>match tget T t with
     | some ty=>match ty.zero.all (·.oneCell')&&Nat.beq ty.zero.length ty.sz with
      | true=>CC (fget fr s) fun x=>match cellsOk x&&Nat.beq (cells1 x).length ty.sz with
       | true=>snocK H (.box t (cells1 x)) 0 fun k H=>K ((d, .bp k 0)::fr) H
       | false=>False
      | false=>False
     | none=>False
    | false=>False
   | _,_,_,_,_,_=>False
  | _=>False
 | _,_,_,_=>False
theorem Nl (hT:TOk P T) {l m:Nat} {ops:Array Oper} {o1 o2:Oper} {t:TypeId} {d s:Nat} {ty:Ty} (h1:o1.op = .alloc t) (h1d:o1.dst=some d) (h1g:o1.guard=none) (h2:o2.op = .store t (.tmp d) (.tmp s)) (h2d:o2.dst=none) (h2g:o2.guard=none) (hne:s≠d) (hd:d<n)
  (ht:tget T t=some ty) (hz:ty.zero.all (·.oneCell')=true) (hzl:ty.zero.length=ty.sz) {K:Fr->List AB->Prop} {Q:Exit->Act->World->Prop} {c:Ctx} {fr:Fr} {H:List AB} {a:Act} (hs:HS w0 M0 c H) (hf:FR w0 c n fr a) (he:Ext ce c)
  (hok:(cellsOk (fget fr s)&&Nat.beq (cells1 (fget fr s)).length ty.sz)=true) (h:K ((d, .bp H.length 0)::fr) (H ++ [.box t (cells1 (fget fr s))])) (hq:∀ a w,Dw w0 M0 ce n K a w->Old c.w w->Q .normal a w):wpListIn (Fence.wide.inRound l) m P ops Q [o1,o2] a c.w:=by
 simp only [Bool.and_eq_true] at hok
 have hsz:=Ae hok.2
 obtain⟨i,dd,z,hp⟩:=(hT.get ht).parts
 have hxl0:ty.zero.length=ty.sz:=hzl
 obtain⟨c1,e1,e2,e3,e4⟩:=hs.box t (cs:=ty.zero.map .v) (xs:=ty.zero) (Id _) (fun u hu=>Ao.1 hz u hu)
 have hrun:(execOp a.eval o1).run P c.w = .ok (.value (.pointer (some ⟨c.w.heap.size,0,none⟩))) c1.w:=by
  have hzc:z.cells=ty.zero.toArray:=Array.ext' (by simpa using hp.zc)
  simp [execOp,h1,Instr.alloc,zeroValue,typeInfo,hp.info,hp.zero,H5,e1,hzc]
 unfold wpListIn
 rw [if_pos (by simp [Region.wanted,h1g])]
 refine HK (by intro c e;rw [h1] at e;cases e) ?_
 unfold Oper.wp
 rw [hrun,Oper.upon_value,h1d]
 unfold wpListIn
 rw [if_pos (by simp [Region.wanted,h2g])]
 refine HK (by intro c e;rw [h2] at e;cases e) ?_
 have hf1:FR w0 c1 n ((d, .bp H.length 0)::fr) (a.put (some d) (.pointer (some ⟨c.w.heap.size,0,none⟩))):=(hf.ext e3).put hd e4
 have hfs:fget ((d, .bp H.length 0)::fr) s=fget fr s:=by
  show (bif Nat.beq d s then AV.bp H.length 0 else fget fr s)=fget fr s
  cases hb:Nat.beq d s with
  | true=>exact absurd (Ae hb).symm hne
  | false=>rfl
 have hev:Rd (fget fr s) c1 ((a.put (some d) (.pointer (some ⟨c.w.heap.size,0,none⟩))).eval (.tmp s)):=by
  rw [<-hfs]
  exact hf1.get s
 have hevd:(a.put (some d) (.pointer (some ⟨c.w.heap.size,0,none⟩))).eval (.tmp d) = .pointer (some ⟨c.w.heap.size,0,none⟩):=by
  have hsz':=hf.size
  simp only [Act.eval,Act.put]
  rw [Array.getD_eq_getD_getElem?,Array.getElem?_setIfInBounds_self_of_lt (by omega)]
  rfl
 generalize hav:a.put (some d) (.pointer (some ⟨c.w.heap.size,0,none⟩))=a1 at hf1 hev hevd |-
 obtain⟨hc1,hc2⟩:=Hj hev hok.1
 have hcl:=hc1.length
 have hcs:(a1.eval (.tmp s)).cells.size=ty.sz:=by rw [<-hsz,<-hcl];simp
 have hj:(H ++ [AB.box t (ty.zero.map .v)])[H.length]? = some (.box t (ty.zero.map .v)):=by simp
 obtain⟨g,xs,q1,q2,q3,q4⟩:=e2.blk _ _ hj
 have hg:g=c.w.heap.size:=by
  simp only [Rd] at e4
  obtain⟨_,g',hg',hu⟩:=e4
  rw [q1] at hg'
  cases hg'
  simpa using hu.symm
 subst hg
 have hxl:xs.length=ty.sz:=by rw [<-hxl0];have:=q3.length;simpa using this
 obtain⟨w',r1,r2,r3,r4,r5,r6,r7⟩:=Dn (P:=P) (a1.eval (.tmp s)).cells.toList (i:=0) (off:=0) q2 hc2 (by simp;omega)
 have hrun2:(execOp a1.eval o2).run P c1.w = .ok .skip w':=by
  have:=EQ (a:=⟨c.w.heap.size,0,none⟩) (hT.get ht) hcs r1
  simp [execOp,h2,Instr.storeAt,hevd,Instr.sureAddr,this]
 unfold Oper.wp
 rw [hrun2,Oper.upon_skip,h2d]
 have hE:Ext c1 { c1 with w:=w' }:=⟨r5,r6,r7,by simp [r4],fun b _ hm=>⟨hm,r3 b fun e=>hm (e ▸ (e2.own _ _ c.w.heap.size hj rfl (by rw [q1];rfl)).1)⟩,Nat.le_refl _,fun _ _=>Nat.le_refl _,fun _ _ _=>rfl,fun _ _ _ h=>h⟩
 have hset:=e2.set_ (y:= .box t (cells1 (fget fr s))) hj rfl rfl (g:=c.w.heap.size) (by rw [q1];rfl) r3 r4 r5 r6 r7 (by
  refine⟨c.w.heap.size,(a1.eval (.tmp s)).cells.toList,q1,?_,RdL.ext _ hE hc1,hc2⟩
  have hlen:(a1.eval (.tmp s)).cells.toList.length=xs.length:=by simp;omega
  rw [Ct,List.take_zero,Bn,Am,Au (by omega),List.append_nil] at r2
  exact r2)
 unfold wpListIn
 refine hq _ _ ⟨{ c1 with w:=w' },_,_,rfl,h,?_,hf1.ext hE,(he.trans e3).trans hE⟩ ?_
 ·have:=hset.1
  rwa [List.set_append_right _ _ (Nat.le_refl _),C8,List.set_cons_zero] at this
 ·intro b hb
  rw [r3 b (by omega),e1]
  exact((Below.refl c.w.heap.size c.w).alloc (Nat.le_refl _) _).block b hb
theorem Lt (hT:TOk P T) {l m:Nat} {asg:Code} {K:Fr->List AB->Prop} {Q:Exit->Act->World->Prop} {c:Ctx} {fr:Fr} {H:List AB} {a:Act} (hs:HS w0 M0 c H) (hf:FR w0 c n fr a) (he:Ext ce c) (h:Wa T n asg fr H K)
  (hq:∀ a w,Dw w0 M0 ce n K a w->Old c.w w->Q .normal a w):asg.wpIn (Fence.wide.inRound l) m P Q a c.w:=by
 unfold Wa at h
 split at h
 ·exact wpIn_skip (hq _ _ ⟨c,fr,H,rfl,h,hs,hf,he⟩ (Old.refl _))
 ·split at h
  ·rename_i o1 o2 hops
   split at h
   ·rename_i t d t' d' s h1 h1d h1g h2 h2d h2g
    split at h
    ·rename_i hb
     simp only [Bool.and_eq_true,AU] at hb
     obtain⟨⟨⟨hb1,hb2⟩,hb3⟩,hb4⟩:=hb
     have:=Ae hb1
     subst this
     have:=Ae hb2
     subst this
     have hne:s≠d:=fun e=>by subst e;rw [Nat.beq_refl] at hb3;cases hb3
     split at h
     ·rename_i ty ht
      split at h
      ·rename_i hz
       simp only [Bool.and_eq_true] at hz
       have h:=Bu h
       split at h
       ·rename_i hok
        have h:=snocK_iff h
        rw [Am] at h
        refine wpIn_region_list ?_
        rw [hops]
        exact Nl hT h1 h1d h1g h2 h2d h2g hne (by simpa using hb4) ht hz.1 (Ae hz.2) hs hf he hok h hq
       ·exact h.elim
      ·exact h.elim
     ·exact h.elim
    ·exact h.elim
   ·exact h.elim
  ·exact h.elim
 ·exact h.elim
def Nv (H:List AB) (x:AV) (sz len:Nat) (E:Nat->List AV):Prop:=
 match x with
 | .ow k n'=>n'=len/\∃ t es,hget H k=some (.row t sz es)/\es.length=len/\E=fun i=>es.getD i []
 | .sl sz' n' get=>sz'=sz/\n'=len/\E=get
 | .v (.slice none 0 0)=>len=0
 | _=>False
theorem L4 {c:Ctx} {H:List AB} (hs:HS w0 M0 c H) {x:AV} {sz len:Nat} {E:Nat->List AV} (h:Nv H x sz len E) {u:Value} (hr:Rd x c u) :
  ∃ a cap,u = .slice a len cap/\(0<len->∃ b off,a=some ⟨b,off,none⟩/\b<c.w.heap.size/\∀ i,i<len->(E i).length=sz/\RdAt (E i) c.closed b (off+i*sz)):=by
 unfold Nv at h
 split at h
 ·obtain⟨rfl,t,es,hk,hl,rfl⟩:=h
  rename_i k n'
  rw [hget_eq] at hk
  obtain⟨h1,h2,h3,xs,h4,h5,h6⟩:=hs.blk _ _ hk
  simp only [Rd] at hr
  obtain⟨_,_,⟨a,p,rfl,ha⟩,he⟩:=hr
  refine⟨a,p,rfl,fun hp=>?_⟩
  have hrho:=he (by rw [h1,hl])
  obtain⟨g,rfl⟩:=ha (by omega)
  have hgl:g<c.w.heap.size:=by
   rcases h4.2 with ⟨e,_⟩ | ⟨g',cap,cur,e,_,hh,_⟩
   ·rw [<-hrho] at e;cases e
   ·rw [<-hrho] at e;cases e;exact(Array.getElem?_eq_some_iff.1 hh).1
  have hat:=RdAt.of (b:=g) (off:=0) h5 h6 fun j u hu=>by rw [Am];exact FX (hl ▸ h4) hrho.symm hu
  exact⟨g,0,rfl,hgl,fun i hi=>⟨h3 _ (by simp only [List.getD_eq_getElem?_getD];rw [List.getElem?_eq_getElem (by omega)];exact BO _),by rw [Am];exact Hy h3 hat (by omega)⟩⟩
 ·obtain⟨rfl,rfl,rfl⟩:=h
  simp only [Rd] at hr
  obtain⟨a,k,rfl,h1,h2,h3⟩:=hr
  refine⟨a,k,rfl,fun hp=>?_⟩
  rcases h3 with h3 | ⟨b,off,rfl,_,hb,hc⟩
  ·omega
  ·exact⟨b,off,rfl,hb,hc⟩
 ·subst h
  simp only [Rd] at hr
  subst hr
  exact⟨none,0,rfl,fun hp=>absurd hp (Nat.lt_irrefl _)⟩
 ·exact h.elim
end
end Go.Proofs.YtkolckdakddggaaGreatDoor.A
end
