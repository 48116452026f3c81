/-
Several texts in one.
-/
import Derived.Test.YtpjkcgacjjbikaaGreatDoorPPC4P1
import Derived.ProofKit
import Derived.Deep.Slices
import Derived.OpenShut
import Derived.Lib.MapLaws
import Derived.Laws.Cover4
import Derived.Lib.AppendStr
import Derived.Laws.IdiomStrings
import Derived.RangeFuncNested
import Derived.RangeFuncBound
import Derived.RangeFuncCalls
import Derived.RangeFuncLeaves
import Derived.RangeFuncBox
import Derived.TacticsIn
set_option linter.defProp false
set_option maxRecDepth 100000
set_option maxHeartbeats 8000000
set_option linter.unusedSimpArgs false
set_option linter.unusedVariables false
set_option linter.deprecated false
namespace Go.Proofs.YtpjkcgacjjbikaaGreatDoor.A
section
open Go.RowKit
theorem OV (n lo hi:Int):Fn Tryz.prog 301 [iv n,iv lo,iv hi] fun r=>r = .v (.bool (CQ n lo hi)):=by
 refine zR Tryz.func301 rfl ?_;conv=>whnf
 repeat' (first | (refine Am (fun h=>?_) (fun h=>?_) <;> (try simp at h) <;> conv=>whnf) | (refine zF tys_ok mixed (by kernel_rfl) ?_;conv=>whnf) | (refine zZ ?_;conv=>whnf) | (refine Ad (by omega) ?_;conv=>whnf))
 all_goals exact⟨_,ri,by simp [CQ, *] <;> omega⟩
theorem XR (n:Int):Fn Tryz.prog 368 [iv n] fun r=>r = .v (.bool (!CQ n 0 4294967295)):=by
 refine zR Tryz.func368 rfl ?_;conv=>whnf
 refine zY (OV n 0 4294967295) ?_;exact⟨_,ri,rfl⟩
theorem Wh (l:List Int) (hl:l.length<=1000000):Fn Tryz.prog 152 [iA l, .v (.func (.func 368) #[] #[])] fun r=>∃ n:Int,r = iv n/\decide (0<=n)=l.any (fun x=>!CQ x 0 4294967295):=by
 refine zR Tryz.func152 rfl ?_;conv=>whnf
 refine zM Nat (fun k=>([(0,iA l),(1, .v (.func (.func 368) #[] #[])),(7,iv l.length),(8,iv k)], [])) (fun k=>k<=l.length/\(l.take k).any (fun x=>!CQ x 0 4294967295)=false) (fun k=>l.length - k) 0 ⟨Aj _,by simp⟩ ⟨[],tv,tA,tv,rfl,rfl,rfl⟩ ?_;rintro k ⟨hk,hI⟩;conv=>whnf
 refine Am (fun h2=>?_) (fun h2=>?_) <;> simp at h2 <;> conv=>whnf
 ·refine⟨by first | omega | (refine⟨rfl,?_,?_⟩ <;> first | omega | (simp only [Ab];done) | (simp only [Ab];omega)) | (simp only [Ab];omega),?_⟩;conv=>whnf
  refine zY (XR (l.getD k 0)) ?_;conv=>whnf
  refine Am (fun h3=>?_) (fun h3=>?_) <;> conv=>whnf
  ·exact⟨_,ri,_,rfl,by
    rw [Ds.2 ⟨l.getD k 0,A3 h2,h3⟩,decide_eq_true];omega⟩
  ·refine⟨k+1,⟨by omega,?_⟩,by omega, [],tv,⟨rfl,rfl,rfl,AG (by omega),tv⟩,tv,rfl,rfl,rfl⟩;rw [AW h2,List.any_append,hI];rw [Ac,Ag h2] at h3;simpa using h3
 ·exact⟨_,ri,_,rfl,by rw [A4 h2] at hI;rw [hI];try rfl⟩
theorem O2 (l:List Int) (hl:l.length<=1000000):Fn Tryz.prog 300 [iA l] fun r=>r = .v (.bool (l.all fun x=>CQ x 0 4294967295)):=by
 have hc:Fn Tryz.prog 284 [iA l, .v (.func (.func 368) #[] #[])] fun r=>r = .v (.bool (l.any fun x=>!CQ x 0 4294967295)):=by
  refine zR Tryz.func284 rfl ?_;conv=>whnf
  refine zH (Wh l hl) rfl ?_;rintro _ ⟨n,rfl,hn⟩;exact⟨_,ri,by rw [<-hn]⟩
 refine zR Tryz.func300 rfl ?_;conv=>whnf
 refine zY hc ?_;exact⟨_,ri,by rw [Ck]⟩
theorem Ul (g:Geo) (hg:Bq g=true):Fn Tryz.prog 108 [.ag (AK g)] fun r=>r = iv (g.d+1+g.sp):=by
 obtain⟨h1,h2,h3,h4,h5⟩:=Aq.1 hg;refine zR Tryz.func108 rfl ?_;exact⟨_,ri,by rw [wi (n:=g.d+1) (by omega),wi (by omega)]⟩
theorem PR (l:List Int) (p:Int) (hl:l.length<=1000000):Fn Tryz.prog 80 [iA l,iv p] fun r=>r = .v (.bool (l.any fun x=>p == x)):=by
 have hx:Fn Tryz.prog 153 [iA l,iv p] fun r=>∃ n:Int,r = iv n/\decide (0<=n)=l.any (fun x=>p == x):=by
  refine zR Tryz.func153 rfl ?_;conv=>whnf
  refine zM Nat (fun k=>([(0,iA l),(1,iv p),(7,iv l.length),(8,iv k)], [])) (fun k=>k<=l.length/\(l.take k).any (fun x=>p == x)=false) (fun k=>l.length - k) 0 ⟨Aj _,by simp⟩ ⟨[],tv,tA,tv,rfl,rfl,rfl⟩ ?_;rintro k ⟨hk,hI⟩;conv=>whnf
  refine Am (fun h2=>?_) (fun h2=>?_) <;> simp at h2 <;> conv=>whnf
  ·refine⟨by first | omega | (refine⟨rfl,?_,?_⟩ <;> first | omega | (simp only [Ab];done) | (simp only [Ab];omega)) | (simp only [Ab];omega),?_⟩;conv=>whnf
   refine Am (fun h3=>?_) (fun h3=>?_) <;> conv=>whnf
   ·exact⟨_,ri,_,rfl,by
     rw [Ds.2 ⟨l.getD k 0,A3 h2,h3⟩,decide_eq_true];omega⟩
   ·refine⟨k+1,⟨by omega,?_⟩,by omega, [],tv,⟨rfl,rfl,rfl,AG (by omega),tv⟩,tv,rfl,rfl,rfl⟩;rw [AW h2,List.any_append,hI];have h3:(p == l.getD k 0)=false:=h3;rw [Ac,Ag h2] at h3;simpa using h3
  ·exact⟨_,ri,_,rfl,by rw [A4 h2] at hI;rw [hI];try rfl⟩
 refine zR Tryz.func80 rfl ?_;conv=>whnf
 refine zH hx rfl ?_;rintro _ ⟨n,rfl,hn⟩;exact⟨_,ri,by rw [<-hn]⟩
def P7 (l:List Int) (n:Int):Bool:=(List.range l.length).all fun i=>CQ (l.getD i 0) 0 (n - 1)&&!(l.take i).any fun x=>l.getD i 0 == x
def Ed (g:Geo) (h:Hm):Bool:=decide ((h.places.length:Int)=g.d+1)&&(CQ h.next (g.d+1) (g.d+1+g.sp)&&(CQ h.root 0 4294967295&&P7 h.places h.next))
theorem Lk {l:List Int} {n:Int} {k:Nat} (hk:k<l.length) (h:(CQ (l.getD k 0) 0 (n - 1)&&!(l.take k).any fun x=>l.getD k 0 == x)=false):P7 l n=false:=by
 unfold P7;rw [List.all_eq_false];exact⟨k,by simpa using hk,by rw [h];simp⟩
theorem Yd (g:Geo) (h:Hm) (hg:Bq g=true):Fn Tryz.prog 304 [.ag (AK g), .ag (DL h)] fun r=>r = .v (.bool (Ed g h)):=by
 obtain⟨h1,h2,h3,h4,h5⟩:=Aq.1 hg;refine zR Tryz.func304 rfl ?_;conv=>whnf
 refine zA tys_ok mixed [0,1,2,3,4,5,6,7,8,9,10,11,12,13,14,15,16,17,18,19,20,21,22,23,24] (by kernel_rfl) ?_;conv=>whnf
 have w1:IntKind.i64.wrap (g.d+1)=g.d+1:=wi (by omega);refine Am (fun t1=>?_) (fun t1=>?_) <;> simp only [w1,bne_iff_ne,ne_eq,bne_eq_false_iff_eq] at t1 <;> conv=>whnf
 ·exact⟨_,ri,by simp [Ed,t1]⟩
 refine zY (Ul g hg) ?_;conv=>whnf
 refine zY (OV _ _ _) ?_;conv=>whnf
 refine Am (fun t2=>?_) (fun t2=>?_) <;> simp only [w1,By,BD] at t2 <;> conv=>whnf
 ·exact⟨_,ri,by simp [Ed,t2]⟩
 refine zO (O2 [h.root] (by simp)).go ?_;refine⟨rfl,?_⟩;conv=>whnf
 refine zV [iA [h.root]] (BK (l:= [h.root]) (es:= [[iv h.root]]) rfl) ?_;refine zY (O2 [h.root] (by simp)) ?_;conv=>whnf
 refine Am (fun t3=>?_) (fun t3=>?_) <;> simp only [A_,BB,B3,By,BD] at t3 <;> conv=>whnf
 ·exact⟨_,ri,by simp [Ed,t3]⟩
 refine zM Nat (fun k=>([(2, .bp 0 0),(3, .bp 1 0),(33,iA h.places),(34,iv h.places.length),(35,iv k)], [.box 24 (AK g), .box 108 (DL h)])) (fun k=>k<=h.places.length/\(List.range k).all (fun i=>CQ (h.places.getD i 0) 0 (h.next - 1)&&!(h.places.take i).any fun x=>h.places.getD i 0 == x)=true) (fun k=>h.places.length - k) 0 ⟨Aj _,by simp⟩ ⟨[],tv,tA,tA,rfl,rfl,rfl⟩ ?_;rintro k ⟨hk,hI⟩;conv=>whnf
 refine Am (fun h6=>?_) (fun h6=>?_) <;> simp at h6 <;> conv=>whnf
 ·refine⟨by first | omega | (refine⟨rfl,?_,?_⟩ <;> first | omega | (simp only [Ab];done) | (simp only [Ab];omega)) | (simp only [Ab];omega),?_⟩;conv=>whnf
  refine zY (OV _ _ _) ?_;conv=>whnf
  have f:0<=h.next/\h.next<=100:=by
   have:=AE.1 t2;omega
  have w2:IntKind.i64.wrap (h.next - 1)=h.next - 1:=wi (by omega);refine Am (fun t4=>?_) (fun t4=>?_) <;> simp only [w2,Aa,By,BD] at t4 <;> conv=>whnf
  ·exact⟨_,ri,by rw [Ed,Lk h6 (by rw [t4];try rfl)];simp⟩
  refine⟨⟨by omega,by omega,by omega,by omega⟩,?_⟩;conv=>whnf
  refine zV [iA (h.places.take k),iv (h.places.getD k 0)] ⟨fun c u hr=>zB (by simp;omega) (fun i hi=>by simp at hi;simp [BG hi]) hr,fun _ _ hr=>hr,tv⟩ ?_;refine zY (PR (h.places.take k) (h.places.getD k 0) (by simp;omega)) ?_;conv=>whnf
  refine Am (fun t5=>?_) (fun t5=>?_) <;> conv=>whnf
  ·exact⟨_,ri,by rw [Ed,Lk h6 (by rw [t5];simp)];simp⟩
  ·refine⟨k+1,⟨by omega,?_⟩,by omega, [],tv,⟨rfl,rfl,rfl,rfl,AG (by omega),tv⟩,tA,rfl,rfl,rfl⟩;rw [Bp,Dl,hI];have t5:((h.places.take k).any fun x=>h.places.getD k 0 == x)=false:=t5;simp only [A_,BB,t4,t5];rfl
 ·have e:k=h.places.length:=by omega
  rw [e] at hI;exact⟨_,ri,by rw [Ed,t2,t3,decide_eq_true t1,P7,hI];try rfl⟩
theorem UJ (g:Geo) (h:Hm) (hg:Bq g=true):Fn Tryz.prog 303 [.ag (DL h), .rp (AK g)] fun r=>r = .v (.bool (!Ed g h)):=by
 refine zR Tryz.func303 rfl ?_;conv=>whnf
 refine zY (Yd g h hg) ?_;exact⟨_,ri,rfl⟩
theorem UK (g:Geo) (l:List Hm) (hg:Bq g=true) (hl:l.length<=1000000):Fn Tryz.prog 302 [HE l, .fn 303 [.rp (AK g)]] fun r=>r = .v (.bool (l.any fun h=>!Ed g h)):=by
 have hx:Fn Tryz.prog 369 [HE l, .fn 303 [.rp (AK g)]] fun r=>∃ n:Int,r = iv n/\decide (0<=n)=l.any (fun h=>!Ed g h):=by
  refine zR Tryz.func369 rfl ?_;conv=>whnf
  refine zM Nat (fun k=>([(0,HE l),(1, .fn 303 [.rp (AK g)]),(7,iv l.length),(8,iv k)], [])) (fun k=>k<=l.length/\(l.take k).any (fun h=>!Ed g h)=false) (fun k=>l.length - k) 0 ⟨Aj _,by simp⟩ ⟨[],tv,tA,tv,rfl,rfl,rfl⟩ ?_;rintro k ⟨hk,hI⟩;conv=>whnf
  refine Am (fun h2=>?_) (fun h2=>?_) <;> simp at h2 <;> conv=>whnf
  ·refine⟨by first | omega | (refine⟨rfl,?_,?_⟩ <;> first | omega | (simp only [Ab];done) | (simp only [Ab];omega)) | (simp only [Ab];omega),?_⟩;conv=>whnf
   refine zY (UJ g (l.getD k ⟨[],0,0⟩) hg) ?_;conv=>whnf
   refine Am (fun h3=>?_) (fun h3=>?_) <;> conv=>whnf
   ·exact⟨_,ri,_,rfl,by
     rw [Ds.2 ⟨l.getD k ⟨[],0,0⟩,A3 h2,h3⟩,decide_eq_true];omega⟩
   ·refine⟨k+1,⟨by omega,?_⟩,by omega, [],tv,⟨rfl,rfl,rfl,AG (by omega),tv⟩,tv,rfl,rfl,rfl⟩;rw [AW h2,List.any_append,hI];rw [Ac,Ag h2] at h3;simpa using h3
  ·exact⟨_,ri,_,rfl,by rw [A4 h2] at hI;rw [hI];try rfl⟩
 refine zR Tryz.func302 rfl ?_;conv=>whnf
 refine zH hx rfl ?_;rintro _ ⟨n,rfl,hn⟩;exact⟨_,ri,by rw [<-hn]⟩
def Bj (g:Geo) (a:An):Bool:=([a.gen,a.epoch,a.seq,a.last].all fun x=>CQ x 0 4294967295)&&(decide (1<=a.seq)&&(decide (a.seq - 1<=a.last)&&(CQ a.pos 0 (g.sl - 1)&&(decide (EO a.label.data.toList=0)&&(decide ((a.homes.length:Int)=g.z)&&a.homes.all (Ed g))))))
theorem K4 (g:Geo) (a:An) (hl:a.label.size<=1000000) (hh:a.homes.length<=1000000):Fn Tryz.prog 223 [.ag (AK g), .ag (Ek a)] fun r=>r = .v (F1 (Bq g&&Bj g a)):=by
 have s1:Fn Tryz.prog 118 [.ag (AK g)] fun r=>r = .v (F1 (Bq g)):=DS g.z g.d g.sp g.sl g.an
 cases hg:Bq g with
 | false=>
  rw [hg] at s1;refine zR Tryz.func223 rfl ?_;conv=>whnf
  refine zZ ?_;conv=>whnf
  refine zZ ?_;conv=>whnf
  refine zY s1 ?_;exact⟨_,ri,rfl⟩
 | true=>
  rw [hg] at s1;obtain⟨h1,h2,h3,h4,h5⟩:=Aq.1 hg;have w1:IntKind.i64.wrap (g.sl - 1)=g.sl - 1:=wi (by omega);refine zR Tryz.func223 rfl ?_;conv=>whnf
  refine zZ ?_;conv=>whnf
  refine zZ ?_;conv=>whnf
  refine zY s1 ?_;conv=>whnf
  refine zO (O2 [a.gen,a.epoch,a.seq,a.last] (by simp)).go ?_;refine⟨rfl,?_⟩;conv=>whnf
  refine zV [iA [a.gen,a.epoch,a.seq,a.last]] (BK (l:= [a.gen,a.epoch,a.seq,a.last]) (es:= [[iv a.gen], [iv a.epoch], [iv a.seq], [iv a.last]]) rfl) ?_;refine zY (O2 [a.gen,a.epoch,a.seq,a.last] (by simp)) ?_;conv=>whnf
  refine Am (fun t1=>?_) (fun t1=>?_) <;> simp only [By,BD] at t1 <;> conv=>whnf
  ·exact⟨_,ri,by rw [Bj,t1];try rfl⟩
  have f:0<=a.seq/\a.seq<=4294967295:=AE.1 (Av.1 t1 a.seq (by simp));have w2:IntKind.i64.wrap (a.seq - 1)=a.seq - 1:=wi (by omega);refine Am (fun t2=>?_) (fun t2=>?_) <;> simp only [decide_eq_true_eq,decide_eq_false_iff_not] at t2 <;> conv=>whnf
  ·exact⟨_,ri,by rw [Bj,decide_eq_false (show ¬1<=a.seq by omega)];simp [F1]⟩
  refine Am (fun t3=>?_) (fun t3=>?_) <;> simp only [w2,decide_eq_true_eq,decide_eq_false_iff_not] at t3 <;> conv=>whnf
  ·exact⟨_,ri,by rw [Bj,decide_eq_false (show ¬a.seq - 1<=a.last by omega)];simp [F1]⟩
  refine zY (OV _ _ _) ?_;conv=>whnf
  refine Am (fun t4=>?_) (fun t4=>?_) <;> simp only [w1,By,BD] at t4 <;> conv=>whnf
  ·exact⟨_,ri,by rw [Bj,t4];simp [F1]⟩
  refine zY (IT a.label hl) ?_;conv=>whnf
  refine Am (fun t5=>?_) (fun t5=>?_) <;> simp only [bne_iff_ne,ne_eq,bne_eq_false_iff_eq] at t5 <;> conv=>whnf
  ·exact⟨_,ri,by rw [Bj,decide_eq_false t5];simp [F1]⟩
  refine Am (fun t6=>?_) (fun t6=>?_) <;> simp only [bne_iff_ne,ne_eq,bne_eq_false_iff_eq] at t6 <;> conv=>whnf
  ·exact⟨_,ri,by rw [Bj,decide_eq_false t6];simp [F1]⟩
  refine zY (UK g a.homes hg hh) ?_;conv=>whnf
  have hA:Bj g a=a.homes.all (Ed g):=by
   rw [Bj,t1,t4,decide_eq_true (show 1<=a.seq by omega),decide_eq_true (show a.seq - 1<=a.last by omega),decide_eq_true t5,decide_eq_true t6];simp
  rw [Ck] at hA;refine Am (fun t7=>?_) (fun t7=>?_) <;> conv=>whnf
  ·exact⟨_,ri,by rw [hA,t7];try rfl⟩
  ·exact⟨_,ri,by rw [hA,t7];try rfl⟩
theorem Ig (n lo hi:Int):Fn Tryz.prog 396 [iv n,iv lo,iv hi] fun r=>r = .v (.bool (CQ n lo hi)):=by
 refine zR Tryz.func396 rfl ?_;conv=>whnf
 repeat' (first | (refine Am (fun h=>?_) (fun h=>?_) <;> (try simp at h) <;> conv=>whnf) | (refine zF tys_ok mixed (by kernel_rfl) ?_;conv=>whnf) | (refine zZ ?_;conv=>whnf) | (refine Ad (by omega) ?_;conv=>whnf))
 all_goals exact⟨_,ri,by simp [CQ, *] <;> omega⟩
theorem Xg {l:List Int} {p:Int} {k:Nat} (hk:k<l.length) (h:((l.take k).any fun x=>p == x)=false) (e:(l.getD k 0 == p)=false):((l.take (k+1)).any fun x=>p == x)=false:=by
 rw [AW hk,List.any_append,h];rw [Ac,Ag hk] at e;simp at e |-
 exact fun h=>e h.symm
theorem ZL {l:List Int} {p:Int} {k i:Nat} (hk:k<l.length) (f:k<i) (e:(l.getD k 0 == p)=true):((l.take i).any fun x=>p == x)=true:=by
 refine Ds.2 ⟨l.getD k 0,?_,by simpa using (beq_iff_eq.1 e).symm⟩;rw [Ac,Ag hk];have:(l.take i)[k]? = some l[k]:=by rw [BG f,Ag hk]
 exact DG this
theorem Rq (g:Geo) (a:An) (hg:Bq g=true) (hl:a.label.size<=1000000):Fn Tryz.prog 365 [.ag (AK g), .ag (Ek a)] fun r=>r = .v (.bool (Bj g a)):=by
 obtain⟨h1,h2,h3,h4,h5⟩:=Aq.1 hg;have w1:IntKind.i64.wrap (g.sl - 1)=g.sl - 1:=wi (by omega);have w3:IntKind.i64.wrap (g.d+1)=g.d+1:=wi (by omega);have w4:IntKind.i64.wrap (g.d+1+g.sp)=g.d+1+g.sp:=wi (by omega);refine zR Tryz.func365 rfl ?_;conv=>whnf
 refine zY (Ig _ _ _) ?_;conv=>whnf
 refine Am (fun t1=>?_) (fun t1=>?_) <;> simp only [By,BD] at t1 <;> conv=>whnf
 ·exact⟨_,ri,by simp [Bj,t1]⟩
 refine zY (Ig _ _ _) ?_;conv=>whnf
 refine Am (fun t2=>?_) (fun t2=>?_) <;> simp only [By,BD] at t2 <;> conv=>whnf
 ·exact⟨_,ri,by simp [Bj,t2]⟩
 refine zY (Ig _ _ _) ?_;conv=>whnf
 refine Am (fun t3=>?_) (fun t3=>?_) <;> simp only [By,BD] at t3 <;> conv=>whnf
 ·refine⟨_,fun _ _ h=>h,?_⟩;have:(CQ a.seq 0 4294967295&&decide (1<=a.seq))=false:=by
   cases h:CQ a.seq 0 4294967295&&decide (1<=a.seq) with
   | false=>rfl
   | true=>
    simp only [Af,AE,decide_eq_true_eq] at h;have:CQ a.seq 1 4294967295=true:=AE.2 ⟨h.2,h.1.2⟩;rw [this] at t3;cases t3
  simp only [Bool.and_eq_false_iff] at this;rcases this with h | h <;> simp [Bj,h]
 have C:=AE.1 t3;have t3':CQ a.seq 0 4294967295=true:=AE.2 ⟨by omega,C.2⟩;have w2:IntKind.i64.wrap (a.seq - 1)=a.seq - 1:=wi (by omega);refine zY (Ig _ _ _) ?_;conv=>whnf
 refine Am (fun t4=>?_) (fun t4=>?_) <;> simp only [By,BD] at t4 <;> conv=>whnf
 ·exact⟨_,ri,by simp [Bj,t4]⟩
 refine Am (fun t5=>?_) (fun t5=>?_) <;> simp only [w2,decide_eq_true_eq,decide_eq_false_iff_not] at t5 <;> conv=>whnf
 ·exact⟨_,ri,by rw [Bj,decide_eq_false (show ¬a.seq - 1<=a.last by omega)];simp⟩
 refine zY (Ig _ _ _) ?_;conv=>whnf
 refine Am (fun t6=>?_) (fun t6=>?_) <;> simp only [w1,By,BD] at t6 <;> conv=>whnf
 ·exact⟨_,ri,by rw [Bj,t6];simp⟩
 refine zY (Nj a.label (by omega)) ?_;conv=>whnf
 refine Am (fun t7=>?_) (fun t7=>?_) <;> simp only [bne_iff_ne,ne_eq,bne_eq_false_iff_eq] at t7 <;> conv=>whnf
 ·exact⟨_,ri,by rw [Bj,decide_eq_false t7];simp⟩
 refine Am (fun t8=>?_) (fun t8=>?_) <;> simp only [bne_iff_ne,ne_eq,bne_eq_false_iff_eq] at t8 <;> conv=>whnf
 ·exact⟨_,ri,by rw [Bj,decide_eq_false t8];simp⟩
 have hA:Bj g a=a.homes.all (Ed g):=by
  rw [Bj,t6,decide_eq_true (show 1<=a.seq by omega),decide_eq_true (show a.seq - 1<=a.last by omega),decide_eq_true t7,decide_eq_true t8];simp [t1,t2,t3',t4]
 rw [hA];refine zM Nat (fun z=>([(2, .bp 0 0),(3, .bp 1 0),(5,iv z)], [.box 24 (AK g), .box 28 (Ek a)])) (fun z=>z<=a.homes.length/\(a.homes.take z).all (Ed g)=true) (fun z=>a.homes.length - z) 0 ⟨Aj _,by simp⟩ ⟨[],tv,tA,tA,rfl,rfl,rfl⟩ ?_;rintro z ⟨hz,hZ⟩;conv=>whnf
 refine Am (fun hz2=>?_) (fun hz2=>?_) <;> simp at hz2 <;> conv=>whnf
 ·have f:Ed g (a.homes.getD z ⟨[],0,0⟩)=false->a.homes.all (Ed g)=false:=fun h=>List.all_eq_false.2 ⟨_,A3 hz2,by rw [h];simp⟩
  refine⟨by first | omega | (refine⟨rfl,?_,?_⟩ <;> first | omega | (simp only [Ab];done) | (simp only [Ab];omega)) | (simp only [Ab];omega),?_⟩;conv=>whnf
  have ez:((z:Nat):Int).toNat=z:=Aa z;refine Am (fun u1=>?_) (fun u1=>?_) <;> simp only [ez,w3,bne_iff_ne,ne_eq,bne_eq_false_iff_eq] at u1 <;> conv=>whnf
  ·exact⟨_,ri,by rw [f (by rw [Ed,decide_eq_false u1];try rfl)]⟩
  refine zY (Ig _ _ _) ?_;conv=>whnf
  refine Am (fun u2=>?_) (fun u2=>?_) <;> simp only [ez,w3,w4,By,BD] at u2 <;> conv=>whnf
  ·exact⟨_,ri,by rw [f (by rw [Ed,u2];simp only [Db,Bool.and_false])]⟩
  refine zY (Ig _ _ _) ?_;conv=>whnf
  refine Am (fun u3=>?_) (fun u3=>?_) <;> simp only [ez,By,BD] at u3 <;> conv=>whnf
  ·exact⟨_,ri,by rw [f (by rw [Ed,u3];simp only [Db,Bool.and_false])]⟩
  have F:0<=(a.homes.getD z ⟨[],0,0⟩).next/\(a.homes.getD z ⟨[],0,0⟩).next<=100:=by
   have:=AE.1 u2;omega
  have w5:IntKind.i64.wrap ((a.homes.getD z ⟨[],0,0⟩).next - 1)=(a.homes.getD z ⟨[],0,0⟩).next - 1:=wi (by omega);have j:P7 (a.homes.getD z ⟨[],0,0⟩).places (a.homes.getD z ⟨[],0,0⟩).next=false->a.homes.all (Ed g)=false:=fun h=>f (by rw [Ed,h];simp)
  refine zM Nat (fun i=>([(2, .bp 0 0),(3, .bp 1 0),(5,iv z),(6, .bp 2 0),(7,iv i)], [.box 24 (AK g), .box 28 (Ek a), .box 108 (DL (a.homes.getD z ⟨[],0,0⟩))])) (fun i=>i<=(a.homes.getD z ⟨[],0,0⟩).places.length/\(List.range i).all (fun i=>CQ ((a.homes.getD z ⟨[],0,0⟩).places.getD i 0) 0 ((a.homes.getD z ⟨[],0,0⟩).next - 1)&&!((a.homes.getD z ⟨[],0,0⟩).places.take i).any fun x=>(a.homes.getD z ⟨[],0,0⟩).places.getD i 0 == x)=true) (fun i=>(a.homes.getD z ⟨[],0,0⟩).places.length - i) 0 ⟨Aj _,by simp⟩ ⟨[],tv,tA,tA,rfl,rfl,rfl⟩ ?_;rintro i ⟨hi,hI⟩;conv=>whnf
  refine Am (fun hi2=>?_) (fun hi2=>?_) <;> simp only [decide_eq_true_eq,decide_eq_false_iff_not,Int.ofNat_lt] at hi2 <;> conv=>whnf
  ·refine zA tys_ok mixed [0,1,2,3,4,5,6,7,8,9] (by kernel_rfl) ?_;refine⟨⟨by omega,by omega⟩,?_⟩;conv=>whnf
   have ei:((i:Nat):Int).toNat=i:=Aa i;refine zY (Ig _ _ _) ?_;conv=>whnf
   refine Am (fun u4=>?_) (fun u4=>?_) <;> simp only [ei,w5,By,BD] at u4 <;> conv=>whnf
   ·exact⟨_,ri,by rw [j (Lk hi2 (by rw [u4];try rfl))]⟩
   refine zM Nat (fun k=>([(2, .bp 0 0),(3, .bp 1 0),(5,iv z),(6, .bp 2 0),(7,iv i),(8,iv k)], [.box 24 (AK g), .box 28 (Ek a), .box 108 (DL (a.homes.getD z ⟨[],0,0⟩))])) (fun k=>k<=i/\(((a.homes.getD z ⟨[],0,0⟩).places.take k).any fun x=>(a.homes.getD z ⟨[],0,0⟩).places.getD i 0 == x)=false) (fun k=>i - k) 0 ⟨Aj _,by simp⟩ ⟨[],tv,tA,tA,rfl,rfl,rfl⟩ ?_;rintro k ⟨hk,hK⟩;conv=>whnf
   refine Am (fun hk2=>?_) (fun hk2=>?_) <;> simp only [decide_eq_true_eq,decide_eq_false_iff_not,Int.ofNat_lt] at hk2 <;> conv=>whnf
   ·refine zA tys_ok mixed [0,1,2,3,4,5,6,7,8,9,10] (by kernel_rfl) ?_;refine⟨⟨by omega,by omega⟩,?_⟩;refine⟨⟨by omega,by omega⟩,?_⟩;conv=>whnf
    have ek:((k:Nat):Int).toNat=k:=Aa k;refine Am (fun u5=>?_) (fun u5=>?_) <;> simp only [ei,ek] at u5 <;> conv=>whnf
    ·exact⟨_,ri,by rw [j (Lk hi2 (by rw [ZL (show k<(a.homes.getD z ⟨[],0,0⟩).places.length by omega) hk2 u5];simp))]⟩
    ·exact⟨k+1,⟨by omega,Xg (by omega) hK u5⟩,by omega, [],tv,⟨rfl,rfl,rfl,rfl,rfl,AG (by omega),tv⟩,tA,rfl,rfl,rfl⟩
   ·have e:k=i:=by omega
    subst e;refine⟨k+1,⟨by omega,?_⟩,by omega, [],tv,⟨rfl,rfl,rfl,rfl,AG (by omega),tv⟩,tA,rfl,rfl,rfl⟩;rw [Bp,Dl,hI];simp only [A_,BB,u4,hK];rfl
  ·have e:i=(a.homes.getD z ⟨[],0,0⟩).places.length:=by omega
   rw [e] at hI;refine⟨z+1,⟨by omega,?_⟩,by omega, [],tv,⟨rfl,rfl,AG (by omega),tv⟩,tA,rfl,rfl,rfl⟩;rw [AW hz2,Dl,hZ];have u:Ed g (a.homes.getD z ⟨[],0,0⟩)=true:=by rw [Ed,u2,u3,decide_eq_true u1,P7,hI];try rfl
   rw [Ac,Ag hz2] at u;simpa using u
 ·have e:z=a.homes.length:=by omega
  rw [e,Aw] at hZ;exact⟨_,ri,by rw [hZ]⟩
end
end Go.Proofs.YtpjkcgacjjbikaaGreatDoor.A
namespace Go.Proofs.YtpjkcgacjjbikaaGreatDoor
section
open Go.RowKit
def Df (b:List UInt8):Int:=
 if b.length<11\/107<b.length then 4
 else if leN (b.drop (b.length - 4))≠C3 (b.take (b.length - 4)) then 5
 else if F_ b=true/\De b=b.length - 11 then 0 else 4
def Cx (b:List UInt8):Int:=(leN ((b.drop (b.length - 10)).take 2):Nat)
def Cr (b:List UInt8):Int:=(leN ((b.drop (b.length - 8)).take 4):Nat)
def CE (b:List UInt8):List UInt8:=(b.drop 1).take (b.length - 11)
end
end Go.Proofs.YtpjkcgacjjbikaaGreatDoor
namespace Go.Proofs.YtpjkcgacjjbikaaGreatDoor.A
section
open Go.RowKit
def If (r:Rc) (a:An) (seq at_ of_ left:Int):Bool:=decide (r.kind≠0/\r.seq=seq/\r.at_=at_/\(of_=0->r.of_<=left)/\(of_≠0->r.of_=of_)/\(r.epoch=a.epoch\/seq<=a.last/\r.epoch<=a.epoch))
theorem bi (r:Rc) (a:An) (seq at_ of_ left:Int):Fn Tryz.prog 394 [.ag (J3 r), .ag (Ek a),iv seq,iv at_,iv of_,iv left] fun x=>x = .v (.bool (If r a seq at_ of_ left)):=by
 by_cases h1:(r.kind≠0/\r.seq=seq/\r.at_=at_/\(of_=0->r.of_<=left)/\(of_≠0->r.of_=of_)/\(r.epoch=a.epoch\/seq<=a.last/\r.epoch<=a.epoch))
 ·have e:If r a seq at_ of_ left=true:=decide_eq_true h1;rw [e];refine zR Tryz.func394 rfl ?_;conv=>whnf
  repeat' (refine Am (fun h=>?_) (fun h=>?_) <;> simp at h <;> conv=>whnf)
  all_goals first | (exfalso;omega) | exact⟨_,ri,rfl⟩ | exact⟨_,ri,by simp;omega⟩
 ·have e:If r a seq at_ of_ left=false:=decide_eq_false h1;rw [e];refine zR Tryz.func394 rfl ?_;conv=>whnf
  repeat' (refine Am (fun h=>?_) (fun h=>?_) <;> simp at h <;> conv=>whnf)
  all_goals first | (exfalso;omega) | exact⟨_,ri,rfl⟩ | exact⟨_,ri,by simp;omega⟩
theorem XC (r:Rc) (a:An) (seq at_ of_ left:Int):Fn Tryz.prog 297 [.ag (J3 r), .ag (Ek a),iv seq,iv at_,iv of_,iv left] fun x=>x = .v (.bool (If r a seq at_ of_ left)):=by
 by_cases h1:(r.kind≠0/\r.seq=seq/\r.at_=at_/\(of_=0->r.of_<=left)/\(of_≠0->r.of_=of_)/\(r.epoch=a.epoch\/seq<=a.last/\r.epoch<=a.epoch))
 ·have e:If r a seq at_ of_ left=true:=decide_eq_true h1;rw [e];refine zR Tryz.func297 rfl ?_;conv=>whnf
  repeat' (refine Am (fun h=>?_) (fun h=>?_) <;> simp at h <;> conv=>whnf)
  all_goals first | (exfalso;omega) | exact⟨_,ri,rfl⟩ | exact⟨_,ri,by simp;omega⟩
 ·have e:If r a seq at_ of_ left=false:=decide_eq_false h1;rw [e];refine zR Tryz.func297 rfl ?_;conv=>whnf
  repeat' (refine Am (fun h=>?_) (fun h=>?_) <;> simp at h <;> conv=>whnf)
  all_goals first | (exfalso;omega) | exact⟨_,ri,rfl⟩ | exact⟨_,ri,by simp;omega⟩
theorem Jo (b:List UInt8):Fn Tryz.prog 186 [bA b] fun r=>r = iv (C3 b:Nat):=by
 refine⟨⟨_,Tryz.func186,rfl,by decide⟩,fun c0 us hd hM _ hr=>?_⟩;obtain⟨u1,rfl,h1⟩:=ab hr;refine(Nc u1 b c0.w c0.M (Ir h1)).mono ?_;rintro e w' ⟨rfl,rfl⟩;exact⟨_,_,rfl,rfl,Below.refl _ _,P3 _⟩
theorem Fi {b:List UInt8} {n k:Nat} (hn:n=k) (hk:k<=b.length) (c:Ctx) (u:Value) (h:Rd (.sl 1 n fun i=> [.v (.int .u8 (b.getD (i+0) 0).toNat)]) c u):Rd (bA (b.take k)) c u:=
 zB (by rw [As];omega) (fun i hi=>by rw [Ac,Ac,BG (by omega),CU]) h
theorem Jv (e:Int) (c:Ctx) (v:Value) (h:Rd (.tp [.ag [iv 0,iv 0, .v (.slice none 0 0)],iv e]) c v):Rd (.tp [.ag (Of ⟨0,0, []⟩),iv e]) c v:=by
 have e1:SubL [.ag [iv 0,iv 0, .v (.slice none 0 0)],iv e] [.ag (Of ⟨0,0, []⟩),iv e]:=⟨Bf ⟨ri,ri,fun c u h=>Bg 1 _ c u h,tv⟩,ri,tv⟩;simp only [Rd] at h |-
 obtain⟨xs,rfl,h⟩:=h;exact⟨_,rfl,e1.rdl (c:=c) (xs:=xs) (by simpa only [RdL,Rd] using h)⟩
theorem Vn (b:List UInt8) (hl:b.length<=100000):Fn Tryz.prog 313 [bA b] fun r=>r = .tp [.ag (if Df b=0 then Of ⟨Cx b,Cr b,CE b⟩ else Of ⟨0,0, []⟩),iv (Df b)]:=by
 have e4:IntKind.i64.wrap ((b.length:Int) - 4)=(b.length:Int) - 4:=IntWalk.i64_in _ (by omega);have e11:IntKind.i64.wrap ((b.length:Int) - 11)=(b.length:Int) - 11:=IntWalk.i64_in _ (by omega);have em:((b.length:Int) - 4).toNat=b.length - 4:=by omega
 by_cases hB:b.length<11\/107<b.length
 ·have hE:Df b=4:=by rw [Df,if_pos hB]
  rw [hE,if_neg (by decide)];refine zR Tryz.func313 rfl ?_;conv=>whnf
  refine A5 (fun h=>?_) (fun h=>?_) <;> conv=>whnf
  ·exact⟨_,Jv 4,rfl⟩
  refine A5 (fun h2=>?_) (fun h2=>?_) <;> conv=>whnf
  ·exact⟨_,Jv 4,rfl⟩
  ·exfalso;omega
 have hg:=OA (b.drop (b.length - 4)) 4 (.inr (.inr rfl)) (by rw [Ak];omega) (by rw [Ak];omega);rw [show (b.drop (b.length - 4)).take (4:Int).toNat=b.drop (b.length - 4) from A4 (by rw [Ak];show _<=4;omega)] at hg;have hs:=Jo (b.take (b.length - 4));by_cases hS:leN (b.drop (b.length - 4))=C3 (b.take (b.length - 4))
 ·cases hp:F_ b with
  | false=>
   have hE:Df b=4:=by rw [Df,if_neg hB,if_neg (fun h=>h hS),hp];try rfl
   rw [hE,if_neg (by decide)];refine zR Tryz.func313 rfl ?_;conv=>whnf
   refine A5 (fun h=>?_) (fun h=>?_) <;> conv=>whnf
   ·exfalso;omega
   refine A5 (fun h=>?_) (fun h=>?_) <;> conv=>whnf
   ·exfalso;omega
   rw [e4];refine⟨by omega,?_⟩;conv=>whnf
   rw [em];refine zV [bA (b.drop (b.length - 4)),iv 4] ⟨AP (by omega),ri,tv⟩ ?_;refine zY hg ?_;refine⟨by omega,?_⟩;conv=>whnf
   rw [em];refine zV [bA (b.take (b.length - 4))] ⟨Fi (by omega) (by omega),tv⟩ ?_;refine zY hs ?_;conv=>whnf
   refine A5 (fun h=>?_) (fun h=>?_) <;> conv=>whnf
   ·exfalso;omega
   refine zY (SV b hp) ?_;exact⟨_,Jv 4,rfl⟩
  | true=>
   have j:=hp;simp only [F_,decide_eq_true_eq] at j;have u:((b.drop 1).take (De b)).length=De b:=by rw [As,Ak];omega
   by_cases hn:De b=b.length - 11
   ·have hE:Df b=0:=by rw [Df,if_neg hB,if_neg (fun h=>h hS),if_pos ⟨hp,hn⟩]
    have hu:=JY (b.drop (1+De b)) [2,4] (fun s h=>by simp at h;rcases h with rfl | rfl;exact .inr (.inl rfl);exact .inr (.inr rfl)) (by rw [Ak];omega) (by show 2<=1000;decide) (by rw [Ak];show 6<=_;omega);have i:nums [2,4] (b.drop (1+De b))=[Cx b,Cr b]:=by
     rw [Cx,Cr,show b.length - 10=1+De b by omega,show b.length - 8=(1+De b)+2 by omega,show b.drop ((1+De b)+2)=(b.drop (1+De b)).drop 2 by rw [Bc]];try rfl
    rw [i] at hu;have f:CE b=(b.drop 1).take (De b):=by rw [CE,hn]
    rw [hE,if_pos rfl,f];refine zR Tryz.func313 rfl ?_;conv=>whnf
    refine A5 (fun h=>?_) (fun h=>?_) <;> conv=>whnf
    ·exfalso;omega
    refine A5 (fun h=>?_) (fun h=>?_) <;> conv=>whnf
    ·exfalso;omega
    rw [e4];refine⟨by omega,?_⟩;conv=>whnf
    rw [em];refine zV [bA (b.drop (b.length - 4)),iv 4] ⟨AP (by omega),ri,tv⟩ ?_;refine zY hg ?_;refine⟨by omega,?_⟩;conv=>whnf
    rw [em];refine zV [bA (b.take (b.length - 4))] ⟨Fi (by omega) (by omega),tv⟩ ?_;refine zY hs ?_;conv=>whnf
    refine A5 (fun h=>?_) (fun h=>?_) <;> conv=>whnf
    ·exfalso;omega
    refine zY (L3 b (by omega) hp) ?_;conv=>whnf
    rw [e11];refine A5 (fun h=>?_) (fun h=>?_) <;> conv=>whnf
    ·exfalso;omega
    refine zO hu.go ?_;refine⟨rfl,?_⟩;conv=>whnf
    refine zV [bA (b.drop (1+De b)),iA [2,4]] ⟨ri,(BK (l:= [2,4]) rfl).1,tv⟩ ?_;refine zW (hu) rfl ?_;rintro _ _ ⟨rfl,rfl⟩;conv=>whnf
    refine zA tys_ok mixed [0,1,2,3,4,5,6,7,8,9] (by kernel_rfl) ?_;refine⟨⟨by decide,by decide⟩,?_⟩;refine⟨⟨rfl,rfl,by decide⟩,?_⟩;refine⟨⟨by decide,by decide⟩,?_⟩;refine⟨⟨rfl,rfl,by decide⟩,?_⟩;exact⟨_,ri,rfl⟩
   ·have hE:Df b=4:=by rw [Df,if_neg hB,if_neg (fun h=>h hS),if_neg (fun h=>hn h.2)]
    rw [hE,if_neg (by decide)];refine zR Tryz.func313 rfl ?_;conv=>whnf
    refine A5 (fun h=>?_) (fun h=>?_) <;> conv=>whnf
    ·exfalso;omega
    refine A5 (fun h=>?_) (fun h=>?_) <;> conv=>whnf
    ·exfalso;omega
    rw [e4];refine⟨by omega,?_⟩;conv=>whnf
    rw [em];refine zV [bA (b.drop (b.length - 4)),iv 4] ⟨AP (by omega),ri,tv⟩ ?_;refine zY hg ?_;refine⟨by omega,?_⟩;conv=>whnf
    rw [em];refine zV [bA (b.take (b.length - 4))] ⟨Fi (by omega) (by omega),tv⟩ ?_;refine zY hs ?_;conv=>whnf
    refine A5 (fun h=>?_) (fun h=>?_) <;> conv=>whnf
    ·exfalso;omega
    refine zY (L3 b (by omega) hp) ?_;conv=>whnf
    rw [e11];refine A5 (fun h=>?_) (fun h=>?_) <;> conv=>whnf
    ·exact⟨_,Jv 4,rfl⟩
    ·exfalso;omega
 ·have hE:Df b=5:=by rw [Df,if_neg hB,if_pos hS]
  rw [hE,if_neg (by decide)];refine zR Tryz.func313 rfl ?_;conv=>whnf
  refine A5 (fun h=>?_) (fun h=>?_) <;> conv=>whnf
  ·exfalso;omega
  refine A5 (fun h=>?_) (fun h=>?_) <;> conv=>whnf
  ·exfalso;omega
  rw [e4];refine⟨by omega,?_⟩;conv=>whnf
  rw [em];refine zV [bA (b.drop (b.length - 4)),iv 4] ⟨AP (by omega),ri,tv⟩ ?_;refine zY hg ?_;refine⟨by omega,?_⟩;conv=>whnf
  rw [em];refine zV [bA (b.take (b.length - 4))] ⟨Fi (by omega) (by omega),tv⟩ ?_;refine zY hs ?_;conv=>whnf
  refine A5 (fun h=>?_) (fun h=>?_) <;> conv=>whnf
  ·exact⟨_,Jv 5,rfl⟩
  ·exfalso;omega
def UX {α:Type} (p:α->Bool) (l:List α):Int:=if l.any p then ((l.findIdx p:Nat):Int) else -1
theorem I1 {α:Type} {p:α->Bool} {l:List α} {k:Nat} {d:α} (hk:k<l.length) (h:(l.take k).any p=false) (hp:p (l.getD k d)=true):UX p l=k:=by
 rw [Ac,Ag hk] at hp;have hp:p l[k]=true:=hp;unfold UX;rw [Ds.2 ⟨l[k],CD hk,hp⟩];simp only [if_true,Int.natCast_inj];refine(List.findIdx_eq hk).2 ⟨hp,fun j hj=>?_⟩;rw [List.any_eq_false] at h;have:=h l[j] (List.mem_take_iff_getElem.2 ⟨j,by omega,rfl⟩);simpa using this
theorem GM {α:Type} {p:α->Bool} {l:List α} (h:l.any p=false):UX p l = -1:=by
 unfold UX;rw [h];try rfl
theorem Kp {α:Type} {p:α->Bool} {l:List α}:decide (0<=UX p l)=l.any p:=by
 unfold UX;cases h:l.any p with
 | true=>simp
 | false=>rfl
theorem Ej {α:Type} {p:α->Bool} {l:List α} {k:Nat} {d:α} (hk:k<l.length) (h:(l.take k).any p=false) (hp:p (l.getD k d)=false):(l.take (k+1)).any p=false:=by
 rw [AW hk,List.any_append,h];rw [Ac,Ag hk] at hp;simpa using hp
def Cf (x:Ent):List AV:= [iv x.stamp,iv x.sum, .v (.bool x.lost)]
def Bm (l:List Ent):AV:= .sl 3 l.length fun i=>Cf (l.getD i ⟨0,0,false⟩)
theorem Xu (n:Int):Fn Tryz.prog 266 [iv n] fun r=>r = .v (.bool (H6 n)):=by
 refine zR Tryz.func266 rfl ?_;conv=>whnf
 repeat' (first | (refine Am (fun h=>?_) (fun h=>?_) <;> (try simp at h) <;> conv=>whnf) | (refine zF tys_ok mixed (by kernel_rfl) ?_;conv=>whnf) | (refine zZ ?_;conv=>whnf) | (refine Ad (by omega) ?_;conv=>whnf))
 all_goals exact⟨_,ri,by simp [H6,CQ, *] <;> omega⟩
theorem Va (x:Ent):Fn Tryz.prog 265 [.ag (Cf x)] fun r=>r = .v (.bool (!DO x)):=by
 refine zR Tryz.func265 rfl ?_;conv=>whnf
 repeat' (first | (refine Am (fun h=>?_) (fun h=>?_) <;> (try simp at h) <;> conv=>whnf) | (refine zF tys_ok mixed (by kernel_rfl) ?_;conv=>whnf) | (refine zZ ?_;conv=>whnf) | (refine zY (Xu _) ?_;conv=>whnf) | (refine Ad (by omega) ?_;conv=>whnf))
 all_goals exact⟨_,ri,by simp [DO, *]⟩
theorem ZS (l:List Ent)  (hl:l.length<=1000000):Fn Tryz.prog 328 [Bm l, .v (.func (.func 265) #[] #[])] fun r=>r = iv (UX (fun x=>!DO x) l):=by
 refine zR Tryz.func328 rfl ?_;conv=>whnf
 refine zM Nat (fun k=>([(0,Bm l),(1, .v (.func (.func 265) #[] #[])),(7,iv l.length),(8,iv k)], [])) (fun k=>k<=l.length/\(l.take k).any (fun x=>!DO x)=false) (fun k=>l.length - k) 0 ⟨Aj _,by simp⟩ ⟨[],tv,tA,tv,rfl,rfl,rfl⟩ ?_;rintro k ⟨hk,hI⟩;conv=>whnf
 refine Am (fun h2=>?_) (fun h2=>?_) <;> simp at h2 <;> conv=>whnf
 ·refine⟨by first | omega | (refine⟨rfl,?_,?_⟩ <;> first | omega | (simp only [Ab];done) | (simp only [Ab];omega)) | (simp only [Ab];omega),?_⟩;conv=>whnf
  refine zY (Va (l.getD k ⟨0,0,false⟩)) ?_;conv=>whnf
  refine Am (fun h3=>?_) (fun h3=>?_) <;> conv=>whnf
  ·exact⟨_,ri,by rw [I1 (d:=⟨0,0,false⟩) h2 hI (by first | exact h3 | (rw [Aa] at h3;exact h3) | simpa using h3)]⟩
  ·refine⟨k+1,⟨by omega,Ej (d:=⟨0,0,false⟩) h2 hI (by first | exact h3 | (rw [Aa] at h3;exact h3) | simpa using h3)⟩,by omega, [],tv,⟨rfl,rfl,rfl,AG (by omega),tv⟩,tv,rfl,rfl,rfl⟩
 ·exact⟨_,ri,by rw [A4 h2] at hI;rw [GM hI]⟩
theorem ZT (l:List Ent)  (hl:l.length<=1000000):Fn Tryz.prog 267 [Bm l, .v (.func (.func 265) #[] #[])] fun r=>r = .v (.bool (l.any (fun x=>!DO x))):=by
 refine zR Tryz.func267 rfl ?_;conv=>whnf
 refine zY (ZS l  hl) ?_;exact⟨_,ri,by rw [Kp]⟩

theorem M_ (g:Geo) (l:List Ent) (hl:l.length<=1000000):Fn Tryz.prog 188 [.ag (AK g), .ag [Bm l]] fun r=>r = .v (F1 (FK g l)):=by
 have hG:Fn Tryz.prog 118 [.ag (AK g)] fun r=>r = .v (F1 (Bq g)):=DS g.z g.d g.sp g.sl g.an
 cases hg:Bq g with
 | false=>
  rw [hg] at hG;rw [show FK g l=false by simp [FK,hg]];refine zR Tryz.func188 rfl ?_;conv=>whnf
  refine zY hG ?_;exact⟨_,ri,rfl⟩
 | true=>
  rw [hg] at hG;obtain⟨h1,h2,h3,h4,h5⟩:=Aq.1 hg;have hw:IntKind.i64.wrap (g.d+1)=g.d+1:=IntWalk.i64_in _ (by omega);by_cases hn:(l.length:Int)=g.d+1
  ·have hc:=ZT l hl;cases ha:l.any (fun x=>!DO x) with
   | true=>
    rw [ha] at hc;rw [show FK g l=false by rw [FK];simp only [Bool.and_eq_false_iff];refine .inl (.inr ?_);rw [Ck,ha];try rfl];refine zR Tryz.func188 rfl ?_;conv=>whnf
    refine zY hG ?_;conv=>whnf
    rw [hw,show ((l.length:Int) != g.d+1)=false by rw [hn];exact bne_self_eq_false _];conv=>whnf
    refine zY hc ?_;exact⟨_,ri,rfl⟩
   | false=>
    rw [ha] at hc;have i:l.all DO=true:=by rw [Ck,ha];try rfl
    have f:G8 l g.d.toNat=(l.getD g.d.toNat ⟨0,0,false⟩).lost:=by
     rw [G8,Ac,Ag (by omega)];try rfl
    rw [show FK g l = !(l.getD g.d.toNat ⟨0,0,false⟩).lost by rw [FK,hg,i,decide_eq_true hn,f];try rfl];refine zR Tryz.func188 rfl ?_;conv=>whnf
    refine zY hG ?_;conv=>whnf
    rw [hw,show ((l.length:Int) != g.d+1)=false by rw [hn];exact bne_self_eq_false _];conv=>whnf
    refine zY hc ?_;refine⟨by omega,?_⟩;conv=>whnf
    refine Am (fun h=>?_) (fun h=>?_) <;> conv=>whnf
    ·exact⟨_,ri,by rw [h];try rfl⟩
    ·exact⟨_,ri,by rw [h];try rfl⟩
  ·rw [show FK g l=false by simp [FK,hn]];refine zR Tryz.func188 rfl ?_;conv=>whnf
   refine zY hG ?_;conv=>whnf
   rw [hw,show ((l.length:Int) != g.d+1)=true from bne_iff_ne.2 hn];exact⟨_,ri,rfl⟩
theorem Na (g:Geo) (l:List Ent) (hl:l.length<=1000):Fn Tryz.prog 105 [.ag (AK g), .ag [Bm l]] fun r=>r = .tp [bA (if FK g l then CM l else []), .v (F1 (FK g l))]:=by
 have hc:=M_ g l (by omega);cases z:FK g l with
 | false=>
  rw [z] at hc;refine zR Tryz.func105 rfl ?_;conv=>whnf
  refine zY hc ?_;exact⟨.tp [bA [],iv 1],fun c v h=>by
   simp only [Rd,RdL] at h |-
   obtain⟨xs,rfl,y,ys,rfl,rfl,h⟩:=h;exact⟨_,rfl,_,_,rfl,Bg 1 (fun i=> [.v (.int .u8 (([]:List UInt8).getD i 0).toNat)]) c (.slice none 0 0) (by simp [Rd]),h⟩,rfl⟩
 | true=>
  rw [z] at hc;have F:∀ x∈l,DO x=true:=by
   simp only [FK,Af] at z;exact fun x hx=>Av.1 z.1.2 x hx
  refine zR Tryz.func105 rfl ?_;conv=>whnf
  refine zY hc ?_;conv=>whnf
  refine zm Nat (fun k=>([(7, .ow 2 (CM (l.take k)).length),(20,Bm l),(21,iv l.length),(22,iv k)], [.dead, .dead, .row 5 1 ((CM (l.take k)).map Ef)])) (fun k=>k<=l.length) (fun k=>l.length - k) 0 (Aj _) (zE ⟨[(7,5,1)],tA,tA,tA,rfl,rfl,rfl⟩) ?_;rintro k hk;conv=>whnf
  refine A5 (fun h2=>?_) (fun h2=>?_) <;> (repeat rw [Aa] at h2) <;> conv=>whnf
  ·have C:k<l.length:=by omega
   have hx:=F _ (A3 (d:=⟨0,0,false⟩) C);have j:=Nb C;have e9:l.getD k ⟨0,0,false⟩=l[k]:=by rw [Ac,Ag C];try rfl
   rw [<-e9] at j;have hr:=J0 [(l.getD k ⟨0,0,false⟩).stamp,(l.getD k ⟨0,0,false⟩).sum,Dg (l.getD k ⟨0,0,false⟩).lost] [4,4,1] rfl (by show 3<=1000;decide) (W9 hx);refine zZ ?_;refine⟨by omega,?_⟩;conv=>whnf
   rw [Aa];refine zZ ?_;conv=>whnf
   refine Am (fun hx2=>?_) (fun hx2=>?_) <;> conv=>whnf
   ·rw [hx2] at hr;refine zO hr.go ?_;refine⟨rfl,?_⟩;refine⟨rfl,?_⟩;conv=>whnf
    refine zV [iA [(l.getD k ⟨0,0,false⟩).stamp,(l.getD k ⟨0,0,false⟩).sum,Dg true],iA [4,4,1]] ⟨(BK (l:= [(l.getD k ⟨0,0,false⟩).stamp,(l.getD k ⟨0,0,false⟩).sum,Dg true]) rfl).1,(BK (l:= [4,4,1]) rfl).1,tv⟩ ?_;refine zW hr rfl ?_;rintro _ _ ⟨rfl,rfl⟩;refine⟨by simp,?_⟩;conv=>whnf
    refine Ad ⟨by simp,by rw [EQ,tot_rowB [(l.getD k ⟨0,0,false⟩).stamp,(l.getD k ⟨0,0,false⟩).sum,Dg true] [4,4,1] rfl];simp [tot];omega⟩ ?_;conv=>whnf
    have he:Jb (l.getD k ⟨0,0,false⟩)=rowB [(l.getD k ⟨0,0,false⟩).stamp,(l.getD k ⟨0,0,false⟩).sum,Dg true] [4,4,1]:=by rw [Jb,hx2]
    refine⟨k+1,by omega,by omega,zE ⟨[],tv,⟨?_,rfl,rfl,AG (by omega),tv⟩,⟨?_,tv⟩,rfl,rfl,rfl⟩⟩
    ·rw [j,he,Ai];try rfl
    ·rw [j,he,A8]
   ·rw [hx2] at hr;refine zO hr.go ?_;refine⟨rfl,?_⟩;refine⟨rfl,?_⟩;conv=>whnf
    refine zV [iA [(l.getD k ⟨0,0,false⟩).stamp,(l.getD k ⟨0,0,false⟩).sum,Dg false],iA [4,4,1]] ⟨(BK (l:= [(l.getD k ⟨0,0,false⟩).stamp,(l.getD k ⟨0,0,false⟩).sum,Dg false]) rfl).1,(BK (l:= [4,4,1]) rfl).1,tv⟩ ?_;refine zW hr rfl ?_;rintro _ _ ⟨rfl,rfl⟩;refine⟨by simp,?_⟩;conv=>whnf
    refine Ad ⟨by simp,by rw [EQ,tot_rowB [(l.getD k ⟨0,0,false⟩).stamp,(l.getD k ⟨0,0,false⟩).sum,Dg false] [4,4,1] rfl];simp [tot];omega⟩ ?_;conv=>whnf
    have he:Jb (l.getD k ⟨0,0,false⟩)=rowB [(l.getD k ⟨0,0,false⟩).stamp,(l.getD k ⟨0,0,false⟩).sum,Dg false] [4,4,1]:=by rw [Jb,hx2]
    refine⟨k+1,by omega,by omega,zE ⟨[],tv,⟨?_,rfl,rfl,AG (by omega),tv⟩,⟨?_,tv⟩,rfl,rfl,rfl⟩⟩
    ·rw [j,he,Ai];try rfl
    ·rw [j,he,A8]
  ·have G:k=l.length:=by omega
   subst G;rw [Aw];refine⟨by simp,?_⟩;exact⟨.tp [bA (CM l),iv 0],fun c v h=>by
    simp only [Rd,RdL] at h |-
    obtain⟨xs,rfl,y,ys,rfl,h1,h⟩:=h;exact⟨_,rfl,y,ys,rfl,zB (u:=y) rfl (fun i hi=>AY (f:=Ef) (l:=CM l) (d:=0) hi) (by simp only [Rd];exact h1),h⟩,rfl⟩
theorem ConvH.sealBox {H:List AB} (j k:Nat) {t t':TypeId} {sz':Nat} {cs cs2:List AV} {es':List (List AV)} (hj:H[j]? = some (.box t cs)) (hk:H[k]? = some (.row t' sz' es'))
  (he:cs.map (AV.slIn k es'.length (.sl sz' es'.length fun i=>es'.getD i []))=cs2):ConvH H ((H.set k .dead).set j (.box t cs2)):=by
 intro w0 M0 c hs;subst he;have z:j≠k:=by rintro rfl;rw [hj] at hk;cases hk
 obtain⟨c1,e1,s1,x1,r1⟩:=hs.freeze hk;have C:(H.set k .dead)[j]? = some (.box t cs):=by rw [A9 (Ne.symm z)];exact hj
 refine⟨c1,e1,s1.recell C rfl ?_,x1⟩;rintro⟨g,xs,h1,h2,_,h4⟩;obtain⟨g0,ys,q1,q2,q3,_⟩:=hs.blk j _ hj;have hg:=x1.box j _ (hs.klt hj) q1;rw [h1] at hg;injection hg with hg
 injection hg with hg
 injection hg with hg
 subst hg;rw [e1,q2] at h2;injection h2 with h2
 have f:ys.toArray=xs.toArray:=by injection h2
 have f:ys=xs:=by simpa using f
 subst f;refine⟨g,ys,h1,by rw [e1];exact q2,?_,h4⟩;have h8:∀ (l:List AV) (us:List Value),RdL l c us->RdL (l.map (AV.slIn k es'.length (.sl sz' es'.length fun i=>es'.getD i []))) c1 us:=by
  intro l;induction l with
  | nil=>intro us h;simp only [RdL] at h;subst h;simp [RdL]
  | cons x l ih=>
   intro us h;simp only [RdL] at h;obtain⟨u,vs,rfl,a1,a2⟩:=h;simp only [Az,RdL];refine⟨u,vs,rfl,?_,ih vs a2⟩;unfold AV.slIn;split
   ·rename_i i n;split
    ·rename_i hik;subst hik;split
     ·rename_i hn;subst hn;exact r1 u a1
     ·simp [Rd]
    ·exact Rd.ext _ x1 a1
   ·exact Rd.ext _ x1 a1
 exact h8 _ _ q3
def zw:=@ConvH.sealBox
def DZ (g:Geo) (b:List UInt8):Int:=if Bq g=false then 1 else if (Ce g b).isSome then 0 else 4
theorem Lf (e:Int) (c:Ctx) (v:Value) (h:Rd (.tp [.ag [.v (.slice none 0 0)],iv e]) c v):Rd (.tp [.ag [Bm []],iv e]) c v:=by
 have e1:SubL [.ag [.v (.slice none 0 0)],iv e] [.ag [Bm []],iv e]:=⟨Bf ⟨fun c u h=>Bg 3 _ c u h,tv⟩,ri,tv⟩;simp only [Rd] at h |-
 obtain⟨xs,rfl,h⟩:=h;exact⟨_,rfl,e1.rdl (c:=c) (xs:=xs) (by simpa only [RdL,Rd] using h)⟩
def a_ (g:Geo) (b:List UInt8) (k:Nat):Bool->List AB
 | false=> [.box 24 (AK g), .box 145 [.v (.slice none 0 0)], .box 145 [.ow 3 k], .row 189 3 ((entsOf k b).map Cf)]
 | true=> [.box 24 (AK g), .box 145 [.v (.slice none 0 0)], .box 145 [.sl 3 ((entsOf k b).map Cf).length fun i=>((entsOf k b).map Cf).getD i []], .dead]
theorem L6 (g:Geo) (b:List UInt8) (hl:b.length<=100000):Fn Tryz.prog 160 [.ag (AK g),bA b] fun r=>r = .tp [.ag [Bm (if Bq g then (Ce g b).getD [] else [])],iv (DZ g b)]:=by
 have hG:Fn Tryz.prog 118 [.ag (AK g)] fun r=>r = .v (F1 (Bq g)):=DS g.z g.d g.sp g.sl g.an
 cases hg:Bq g with
 | false=>
  rw [hg] at hG;rw [show DZ g b=1 by rw [DZ,if_pos hg]];refine zR Tryz.func160 rfl ?_;conv=>whnf
  refine zY hG ?_;exact⟨_,Lf 1,rfl⟩
 | true=>
  rw [hg] at hG;obtain⟨h1,h2,h3,h4,h5⟩:=Aq.1 hg;obtain⟨n,hn⟩:∃ n:Nat,g.d+1=n:=⟨(g.d+1).toNat,by omega⟩;have N:(g.d+1).toNat=n:=by omega
  have hw:IntKind.i64.wrap (g.d+1)=(n:Int):=by rw [IntWalk.i64_in _ (by omega),hn]
  by_cases hs:9*n<=b.length
  ·refine zR Tryz.func160 rfl ?_;conv=>whnf
   refine zY hG ?_;conv=>whnf
   refine zm (Nat × Bool) (fun s=>([(1,bA b),(2, .bp 0 0),(4, .bp 1 0),(5,iv 0),(6, .bp 2 0),(7,bA (b.drop (9*s.1))),(20,iv n),(21,iv s.1)],a_ g b s.1 s.2)) (fun s=>s.1<=n/\(s.2=false->s.1<n)/\(s.2=true->s.1=n)) (fun s=>n - s.1) (0,false) ⟨Aj _,fun _=>by show 0<n;omega,fun h=>by cases h⟩ (zE ⟨[(1002000,189,3)],tA,⟨rfl,rfl,rfl,rfl,rfl,rfl,congrArg (fun x=>AV.v (.int .i64 x)) hw,rfl,tv⟩,tA,rfl,rfl,rfl⟩) ?_;rintro⟨k,sd⟩ ⟨hk,hf,ht⟩;simp only at hk hf ht;cases sd with
   | false=>
    have O:=hf rfl;obtain⟨x,y,z,G,J⟩:=VV (b.drop (9*k));have hu:=JY (b.drop (9*k)) [4,4,1] (by decide) (by rw [Ak];omega) (by show 3<=1000;decide) (by rw [Ak];show 9<=_;omega);rw [G] at hu;have I:=entsOf_step k b;have V:=entsOf_len k b;conv=>whnf
    refine A5 (fun h6=>?_) (fun h6=>?_) <;> (repeat rw [Aa] at h6) <;> conv=>whnf
    ·refine zO hu.go ?_;refine⟨rfl,?_⟩;conv=>whnf
     refine zV [bA (b.drop (9*k)),iA [4,4,1]] ⟨ri,(BK (l:= [4,4,1]) rfl).1,tv⟩ ?_;refine zW (hu) rfl ?_;rintro _ _ ⟨rfl,rfl⟩;conv=>whnf
     apply z8 (0) tys_ok mixed (.o [0,1,2,3,4,5,6,7,8,9,10,11,12,13,14,15,16] .fin) [33,34,35,36,37,38,39,40,41,42,43,44,45,46,47,48] (by kernel_rfl)
     ·conv=>whnf
      try (first | (refine Ad ⟨by decide,by decide⟩ ?_;(conv=>whnf);refine Ad ⟨rfl,rfl,by decide⟩ ?_;(conv=>whnf)) | skip;conv=>whnf)
      try (refine tI ?_;conv=>whnf)
      try (first | (refine Ad ⟨by decide,by decide⟩ ?_;(conv=>whnf);refine Ad ⟨rfl,rfl,by decide⟩ ?_;(conv=>whnf)) | skip;conv=>whnf)
      try (refine tI ?_;conv=>whnf)
      try (first | (refine Ad ⟨by decide,by decide⟩ ?_;(conv=>whnf);refine Ad ⟨rfl,rfl,by decide⟩ ?_;(conv=>whnf)) | skip;conv=>whnf)
      try (refine tI ?_;conv=>whnf)
      try (first | (refine Ad ⟨by decide,by decide⟩ ?_;(conv=>whnf);refine Ad ⟨rfl,rfl,by decide⟩ ?_;(conv=>whnf)) | skip;conv=>whnf)
      try (refine tJ ?_;conv=>whnf)
      try (refine tK ?_;conv=>whnf)
      try (refine tS ?_;conv=>whnf)
      (skip)
      exact tA
     conv=>whnf
     have C:(entsOf k b).map Cf ++ [[iv x,iv y, .v (.bool (z == 1))]]=(entsOf (k+1) b).map Cf:=by rw [I,A8,J];try rfl
     have F:bA ((b.drop (9*k)).drop 9)=bA (b.drop (9*(k+1))):=by rw [Bc];try rfl
     by_cases L:k+1<n
     ·exact⟨(k+1,false),⟨by show k+1<=n;omega,fun _=>L,fun h=>by cases h⟩,by show n - (k+1)<n - k;omega,zE ⟨[],tv,⟨rfl,rfl,rfl,rfl,rfl,F,rfl,AG (by omega),tv⟩,⟨rfl,rfl,rfl,congrArg (AB.row _ _) C.symm,tv⟩,rfl,rfl,rfl⟩⟩
     ·refine⟨(k+1,true),⟨by show k+1<=n;omega,(fun h=>by cases h),fun _=>by show k+1=n;omega⟩,by show n - (k+1)<n - k;omega,_,zw 2 3 (es':=(entsOf (k+1) b).map Cf) (cs2:= [.sl 3 ((entsOf (k+1) b).map Cf).length fun i=>((entsOf (k+1) b).map Cf).getD i []]) rfl (congrArg (fun e=>some (AB.row _ _ e)) C) ?_, [],tv,⟨rfl,rfl,rfl,rfl,rfl,F,rfl,AG (by omega),tv⟩,tA,rfl,rfl,rfl⟩;have U:k+1=((entsOf (k+1) b).map Cf).length:=by rw [Ab,entsOf_len]
      show [AV.slIn 3 _ _ (.ow 3 (k+1))]=_;rw [AV.slIn,if_pos rfl,if_pos U]
    ·exfalso;omega
   | true=>
    have O:=ht rfl;subst O;have W:=entsOf_len k b;have esub:∀ (c:Ctx) (u:Value),Rd (.sl 3 ((entsOf k b).map Cf).length fun i=>((entsOf k b).map Cf).getD i []) c u->Rd (Bm (entsOf k b)) c u:=fun c u h=>
     zB (by rw [Ab]) (fun i hi=>AY (f:=Cf) (d:=⟨0,0,false⟩) (by rw [Ab] at hi;exact hi)) h
    have hb:=Na g (entsOf k b) (by omega);have hq:=W8 (CM (entsOf k b)) b;have K:Ce g b=if FK g (entsOf k b)=true/\CM (entsOf k b)=b then some (entsOf k b) else none:=by rw [Ce,N]
    conv=>whnf
    refine A5 (fun h6=>?_) (fun h6=>?_) <;> (repeat rw [Aa] at h6) <;> conv=>whnf
    ·exfalso;omega
    ·refine zV [.ag (AK g), .ag [Bm (entsOf k b)]] ⟨ri,Bf ⟨esub,tv⟩,tv⟩ ?_;cases j:FK g (entsOf k b) with
     | false=>
      rw [j] at hb;have hN:Ce g b=none:=by rw [K,if_neg (fun h=>by rw [j] at h;cases h.1)]
      rw [show DZ g b=4 by rw [DZ,if_neg (by rw [hg];decide),hN];try rfl,hN];refine zY hb ?_;exact⟨_,Lf 4,rfl⟩
     | true=>
      rw [j] at hb;by_cases he:CM (entsOf k b)=b
      ·have hN:Ce g b=some (entsOf k b):=by rw [K,if_pos ⟨j,he⟩]
       rw [show DZ g b=0 by rw [DZ,if_neg (by rw [hg];decide),hN];try rfl,hN];rw [decide_eq_true he] at hq;refine zY hb ?_;conv=>whnf
       refine zY hq ?_;exact⟨.tp [.ag [Bm (entsOf k b)],iv 0],fun c v h=>by
        have e1:SubL [.ag [.sl 3 ((entsOf k b).map Cf).length fun i=>((entsOf k b).map Cf).getD i []],iv 0] [.ag [Bm (entsOf k b)],iv 0]:=⟨Bf ⟨esub,tv⟩,ri,tv⟩;simp only [Rd] at h |-
        obtain⟨xs,rfl,h⟩:=h;exact⟨_,rfl,e1.rdl (c:=c) (xs:=xs) (by simpa only [RdL,Rd] using h)⟩,rfl⟩
      ·have hN:Ce g b=none:=by rw [K,if_neg (fun h=>he h.2)]
       rw [show DZ g b=4 by rw [DZ,if_neg (by rw [hg];decide),hN];try rfl,hN];rw [decide_eq_false he] at hq;refine zY hb ?_;conv=>whnf
       refine zY hq ?_;exact⟨_,Lf 4,rfl⟩
  ·have hN:Ce g b=none:=P2 (by rw [N];omega);rw [show DZ g b=4 by rw [DZ,if_neg (by rw [hg];decide),hN];try rfl,hN];refine zR Tryz.func160 rfl ?_;conv=>whnf
   refine zY hG ?_;conv=>whnf
   refine zm Nat (fun k=>([(1,bA b),(2, .bp 0 0),(4, .bp 1 0),(5,iv 0),(6, .bp 2 0),(7,bA (b.drop (9*k))),(20,iv n),(21,iv k)],a_ g b k false)) (fun k=>k<=n/\9*k<=b.length) (fun k=>n - k) 0 ⟨Aj _,Aj _⟩ (zE ⟨[(1002000,189,3)],tA,⟨rfl,rfl,rfl,rfl,rfl,rfl,congrArg (fun x=>AV.v (.int .i64 x)) hw,rfl,tv⟩,tA,rfl,rfl,rfl⟩) ?_;rintro k ⟨hk,X⟩;conv=>whnf
   refine A5 (fun h6=>?_) (fun h6=>?_) <;> (repeat rw [Aa] at h6) <;> conv=>whnf
   ·by_cases h9:9*(k+1)<=b.length
    ·obtain⟨x,y,z,G,J⟩:=VV (b.drop (9*k));have hu:=JY (b.drop (9*k)) [4,4,1] (by decide) (by rw [Ak];omega) (by show 3<=1000;decide) (by rw [Ak];show 9<=_;omega);rw [G] at hu;have I:=entsOf_step k b;have V:=entsOf_len k b;refine zO hu.go ?_;refine⟨rfl,?_⟩;conv=>whnf
     refine zV [bA (b.drop (9*k)),iA [4,4,1]] ⟨ri,(BK (l:= [4,4,1]) rfl).1,tv⟩ ?_;refine zW (hu) rfl ?_;rintro _ _ ⟨rfl,rfl⟩;conv=>whnf
     apply z8 (0) tys_ok mixed (.o [0,1,2,3,4,5,6,7,8,9,10,11,12,13,14,15,16] .fin) [33,34,35,36,37,38,39,40,41,42,43,44,45,46,47,48] (by kernel_rfl)
     ·conv=>whnf
      try (first | (refine Ad ⟨by decide,by decide⟩ ?_;(conv=>whnf);refine Ad ⟨rfl,rfl,by decide⟩ ?_;(conv=>whnf)) | skip;conv=>whnf)
      try (refine tI ?_;conv=>whnf)
      try (first | (refine Ad ⟨by decide,by decide⟩ ?_;(conv=>whnf);refine Ad ⟨rfl,rfl,by decide⟩ ?_;(conv=>whnf)) | skip;conv=>whnf)
      try (refine tI ?_;conv=>whnf)
      try (first | (refine Ad ⟨by decide,by decide⟩ ?_;(conv=>whnf);refine Ad ⟨rfl,rfl,by decide⟩ ?_;(conv=>whnf)) | skip;conv=>whnf)
      try (refine tI ?_;conv=>whnf)
      try (first | (refine Ad ⟨by decide,by decide⟩ ?_;(conv=>whnf);refine Ad ⟨rfl,rfl,by decide⟩ ?_;(conv=>whnf)) | skip;conv=>whnf)
      try (refine tJ ?_;conv=>whnf)
      try (refine tK ?_;conv=>whnf)
      try (refine tS ?_;conv=>whnf)
      (skip)
      exact tA
     conv=>whnf
     have C:(entsOf k b).map Cf ++ [[iv x,iv y, .v (.bool (z == 1))]]=(entsOf (k+1) b).map Cf:=by rw [I,A8,J];try rfl
     have F:bA ((b.drop (9*k)).drop 9)=bA (b.drop (9*(k+1))):=by rw [Bc];try rfl
     exact⟨k+1,⟨by omega,h9⟩,by omega,zE ⟨[],tv,⟨rfl,rfl,rfl,rfl,rfl,F,rfl,AG (by omega),tv⟩,⟨rfl,rfl,rfl,congrArg (AB.row _ _) C.symm,tv⟩,rfl,rfl,rfl⟩⟩
    ·have hu:=Vd (b.drop (9*k)) [4,4,1] (by decide) (by rw [Ak];omega) (by show 3<=1000;decide) (by rw [Ak];show _<9;omega);refine zO hu.go ?_;refine⟨rfl,?_⟩;conv=>whnf
     refine zV [bA (b.drop (9*k)),iA [4,4,1]] ⟨ri,(BK (l:= [4,4,1]) rfl).1,tv⟩ ?_;refine zY hu ?_;exact⟨_,Lf 4,rfl⟩
   ·exfalso;have:k=n:=by omega
    subst this;omega
theorem Kq (g:Geo) (x:Img) (hl:x.bytes.length<=100000):Fn Tryz.prog 148 [.ag (AK g), .ag (Dz x)] fun r=>r = .v (F1 (Bn g x)):=by
 have hG:Fn Tryz.prog 118 [.ag (AK g)] fun r=>r = .v (F1 (Bq g)):=DS g.z g.d g.sp g.sl g.an
 have ht:=L6 g x.bytes hl;cases hg:Bq g with
 | false=>
  rw [hg] at hG;rw [show Bn g x=false by simp [Bn,hg]];refine zR Tryz.func148 rfl ?_;conv=>whnf
  refine zY hG ?_;exact⟨_,ri,rfl⟩
 | true=>
  rw [hg] at hG ht;obtain⟨h1,h2,h3,h4,h5⟩:=Aq.1 hg;have i:IntKind.i64.wrap (g.z - 1)=g.z - 1:=IntWalk.i64_in _ (by omega);have u:IntKind.i64.wrap (g.d - 1)=g.d - 1:=IntWalk.i64_in _ (by omega);have f:=IL x.zone 0 (g.z - 1);have j:=IL x.what (-1) (g.d - 1);have hE:Bn g x=(CQ x.zone 0 (g.z - 1)&&(if x.what=255 then (Ce g x.bytes).isSome else CQ x.what (-1) (g.d - 1)&&decide (x.bytes.length=8))):=by rw [Bn,hg];try rfl
  rw [hE];cases hz:CQ x.zone 0 (g.z - 1) with
  | false=>
   rw [hz] at f;refine zR Tryz.func148 rfl ?_;conv=>whnf
   refine zY hG ?_;conv=>whnf
   rw [i];refine zY f ?_;exact⟨_,ri,rfl⟩
  | true=>
   rw [hz] at f;by_cases hw:x.what=255
   ·rw [if_pos hw];cases hr:Ce g x.bytes with
    | none=>
     rw [show DZ g x.bytes=4 by rw [DZ,if_neg (by rw [hg];decide),hr];try rfl] at ht;refine zR Tryz.func148 rfl ?_;conv=>whnf
     refine zY hG ?_;conv=>whnf
     rw [i];refine zY f ?_;conv=>whnf
     refine A5 (fun h=>?_) (fun h=>?_) <;> conv=>whnf
     ·refine zY ht ?_;exact⟨_,ri,rfl⟩
     ·exact absurd hw h
    | some l=>
     rw [show DZ g x.bytes=0 by rw [DZ,if_neg (by rw [hg];decide),hr];try rfl] at ht;refine zR Tryz.func148 rfl ?_;conv=>whnf
     refine zY hG ?_;conv=>whnf
     rw [i];refine zY f ?_;conv=>whnf
     refine A5 (fun h=>?_) (fun h=>?_) <;> conv=>whnf
     ·refine zY ht ?_;exact⟨_,ri,rfl⟩
     ·exact absurd hw h
   ·rw [if_neg hw];cases hh:CQ x.what (-1) (g.d - 1) with
    | false=>
     rw [hh] at j;refine zR Tryz.func148 rfl ?_;conv=>whnf
     refine zY hG ?_;conv=>whnf
     rw [i];refine zY f ?_;conv=>whnf
     refine A5 (fun h=>?_) (fun h=>?_) <;> conv=>whnf
     ·exact absurd h hw
     rw [u];refine zY j ?_;exact⟨_,ri,rfl⟩
    | true=>
     rw [hh] at j;refine zR Tryz.func148 rfl ?_;conv=>whnf
     refine zY hG ?_;conv=>whnf
     rw [i];refine zY f ?_;conv=>whnf
     refine A5 (fun h=>?_) (fun h=>?_) <;> conv=>whnf
     ·exact absurd h hw
     rw [u];refine zY j ?_;conv=>whnf
     refine A5 (fun h=>?_) (fun h=>?_) <;> conv=>whnf
     ·exact⟨_,ri,by rw [decide_eq_false (by omega)];try rfl⟩
     ·exact⟨_,ri,by rw [decide_eq_true (by omega)];try rfl⟩
theorem XT (x:Img):Fn Tryz.prog 324 [.ag (Dz x)] fun r=>r = .v (.bool (KP x)):=by
 refine zR Tryz.func324 rfl ?_;conv=>whnf
 repeat' (first | (refine Am (fun h=>?_) (fun h=>?_) <;> (try simp at h) <;> conv=>whnf) | (refine zF tys_ok mixed (by kernel_rfl) ?_;conv=>whnf) | (refine zZ ?_;conv=>whnf) | (refine Ad (by omega) ?_;conv=>whnf))
 all_goals exact⟨_,ri,by simp [KP, *]⟩
def HG (r:Rc):AV:=if r.kind=0 then .v .nilIface else if r.kind=1 then .ic 368 [.ag (Dz r.img)] else if r.kind=2 then .ic 365 [.ag []] else .v .nilIface
theorem UQ (g:Geo) (r:Rc) (hl:r.img.bytes.length<=100000):Fn Tryz.prog 261 [.ag (AK g), .ag (J3 r)] fun x=>x = .tp [HG r, .v (.bool (GT g r))]:=by
 have hi:=Kq g r.img hl;have hn:=XT r.img;have hw:CQ r.of_ 2 30=true->IntKind.i64.wrap (r.of_ - 2)=r.of_ - 2/\IntKind.i64.wrap (r.of_ - 1)=r.of_ - 1:=fun h=>by
  have:=AE.1 h;rw [IntKind.wrap_i64,IntKind.wrap_i64];omega
 by_cases h0:r.kind=0
 ·rw [show HG r = .v .nilIface by rw [HG,if_pos h0],GT,if_pos h0];refine zR Tryz.func261 rfl ?_;conv=>whnf
  repeat' (first | (refine Am (fun h=>?_) (fun h=>?_) <;> (try simp at h) <;> conv=>whnf) | (refine zF tys_ok mixed (by kernel_rfl) ?_;conv=>whnf) | (refine zZ ?_;conv=>whnf) | (refine zY hn ?_;conv=>whnf) | (refine Ad (by omega) ?_;conv=>whnf))
  all_goals first | (exfalso;simp_all;done) | (refine⟨_,fun _ _ h=>h,?_⟩;simp [*];done)
 by_cases h1:r.kind=1
 ·rw [show HG r = .ic 368 [.ag (Dz r.img)] by rw [HG,if_neg h0,if_pos h1],GT,if_neg h0,if_pos h1];cases hI:Bn g r.img <;> rw [hI] at hi;all_goals
   refine zR Tryz.func261 rfl ?_;conv=>whnf
   repeat' (first | (refine Am (fun h=>?_) (fun h=>?_) <;> (try simp at h) <;> conv=>whnf) | (refine zF tys_ok mixed (by kernel_rfl) ?_;conv=>whnf) | (refine zZ ?_;conv=>whnf) | (refine zY (IL _ _ _) ?_;conv=>whnf) | (refine zY hi ?_;conv=>whnf) | (refine Ad (by omega) ?_;conv=>whnf))
   all_goals first | (exfalso;simp_all;done) | (refine⟨.tp [.ic 368 [.ag (Dz r.img)], .v (.bool _)],fun _ _ h=>h,?_⟩;simp_all [KO];done) | trace_state
 by_cases h2:r.kind=2
 ·rw [show HG r = .ic 365 [.ag []] by rw [HG,if_neg h0,if_neg h1,if_pos h2],GT,if_neg h0,if_neg h1,if_pos h2];refine zR Tryz.func261 rfl ?_;conv=>whnf
  repeat' (first | (refine Am (fun h=>?_) (fun h=>?_) <;> (try simp at h) <;> conv=>whnf) | (refine zF tys_ok mixed (by kernel_rfl) ?_;conv=>whnf) | (refine zZ ?_;conv=>whnf) | (refine zY (IL _ _ _) ?_;conv=>whnf) | (refine zY hn ?_;conv=>whnf) | (refine Ad (by omega) ?_;conv=>whnf))
  all_goals first | (exfalso;simp_all;done) | (refine⟨.tp [.ic 365 [.ag []], .v (.bool _)],fun _ _ h=>h,?_⟩;simp_all [KO];done) | trace_state
 ·rw [show HG r = .v .nilIface by rw [HG,if_neg h0,if_neg h1,if_neg h2],GT,if_neg h0,if_neg h1,if_neg h2];refine zR Tryz.func261 rfl ?_;conv=>whnf
  repeat' (first | (refine Am (fun h=>?_) (fun h=>?_) <;> (try simp at h) <;> conv=>whnf) | (refine zF tys_ok mixed (by kernel_rfl) ?_;conv=>whnf) | (refine zZ ?_;conv=>whnf) | (refine zY (IL _ _ _) ?_;conv=>whnf) | (refine zY hn ?_;conv=>whnf) | (refine Ad (by omega) ?_;conv=>whnf))
  all_goals first | (exfalso;simp_all;done) | (refine⟨_,fun _ _ h=>h,?_⟩;rfl)
theorem sizes_own:ACalls Tryz.prog false 262 [] [] fun r H=>r = .ow 0 5/\H=[.row 3 1 (szR.map OX)]:=by
 refine zx tys_ok Tryz.func262 rfl rfl (Ae rfl) ?_;exact⟨.ow 0 5,_, [.row 3 1 (szR.map OX)],fun _ _ h=>h,zE ⟨[],tv,tA,tA,rfl,rfl,rfl⟩,rfl,rfl⟩
theorem T4 (g:Geo) (r:Rc) (hl:r.img.bytes.length<=100000):Fn Tryz.prog 185 [.ag (AK g), .ag (J3 r)] fun x=>x = .tp [bA (if Gm g r then Ex r else []), .v (F1 (Gm g r))]:=by
 have hb:=UQ g r hl;have hG:Fn Tryz.prog 118 [.ag (AK g)] fun r=>r = .v (F1 (Bq g)):=DS g.z g.d g.sp g.sl g.an
 have no:∀ (c:Ctx) (v:Value),Rd (.tp [.v (.slice none 0 0),iv 1]) c v->Rd (.tp [bA [],iv 1]) c v:=fun c v h=>by
  simp only [Rd,RdL] at h |-
  obtain⟨xs,rfl,y,ys,rfl,rfl,h⟩:=h;exact⟨_,rfl,_,_,rfl,Bg 1 (fun i=> [.v (.int .u8 (([]:List UInt8).getD i 0).toNat)]) c (.slice none 0 0) (by simp [Rd]),h⟩
 have hk:HG r = .v .nilIface\/HG r = .ic 368 [.ag (Dz r.img)]\/HG r = .ic 365 [.ag []]:=by
  unfold HG;split
  ·exact .inl rfl
  ·split
   ·exact .inr (.inl rfl)
   ·split
    ·exact .inr (.inr rfl)
    ·exact .inl rfl
 cases F:Gm g r with
 | false=>
  cases hg:Bq g with
  | false=>
   rw [hg] at hG;rcases hk with hk | hk | hk <;> rw [hk] at hb
   all_goals
    refine zR Tryz.func185 rfl ?_;conv=>whnf
    refine zY hb ?_;conv=>whnf
    refine zY hG ?_;exact⟨_,no,rfl⟩
  | true=>
   rw [hg] at hG;have G:GT g r=false:=by simpa [Gm,hg] using F
   rw [G] at hb;rcases hk with hk | hk | hk <;> rw [hk] at hb
   all_goals
    refine zR Tryz.func185 rfl ?_;conv=>whnf
    refine zY hb ?_;conv=>whnf
    refine zY hG ?_;exact⟨_,no,rfl⟩
 | true=>
  have hg:Bq g=true:=by simp only [Gm,Af] at F;exact F.1
  have G:GT g r=true:=by simp only [Gm,Af] at F;exact F.2
  rw [hg] at hG;rw [G] at hb;have j:=J0 (C9 r) szR rfl (by show 5<=1000;decide) (P0 F);have fin0:∀ (L:List UInt8) (n:Nat) (es:List (List AV)),n=L.length->es=L.map Ef->∀ (c:Ctx) (v:Value),Rd (.tp [.sl 1 n fun i=>es.getD i [],iv 0]) c v->Rd (.tp [bA L,iv 0]) c v:=fun L n es hn he c v h=>by
   subst he;simp only [Rd,RdL] at h |-
   obtain⟨xs,rfl,y,ys,rfl,h1,h⟩:=h;exact⟨_,rfl,y,ys,rfl,zB (u:=y) hn (fun i hi=>AY (f:=Ef) (l:=L) (d:=0) (hn ▸ hi)) (by simp only [Rd];exact h1),h⟩
  by_cases h1:r.kind=1
  ·have hI:Bn g r.img=true:=by
    rw [GT,if_neg (by omega),if_pos h1] at G;simp only [Af] at G;exact G.2.2
   have hs:=I2 hI;have e1:=J1 r;have e2:(rowB [r.img.zone,D1 r.img.what] [1,1]).length=2:=by rw [tot_rowB [r.img.zone,D1 r.img.what] [1,1] rfl];try rfl
   have C:=J0 [r.img.zone,D1 r.img.what] [1,1] rfl (by show 2<=1000;decide) (PS hI);have I:=VN r.img.bytes (by omega);rw [show HG r = .ic 368 [.ag (Dz r.img)] by rw [HG,if_neg (by omega),if_pos h1]] at hb;refine zR Tryz.func185 rfl ?_;conv=>whnf
   refine zY hb ?_;conv=>whnf
   refine zY hG ?_;conv=>whnf
   apply zX (0) tys_ok mixed (.o [0,1,2,3,4,5,6,7,8,9] (.two 10 (.o [11,12,13,14,15,16,17] .fin) 11 (.o [10,12,13,14,15,16,17] .fin))) (by kernel_rfl);refine Ad ?_ ?_;conv=>whnf
   (refine zW sizes_own rfl ?_;rintro _ _ ⟨rfl,rfl⟩)
   conv=>whnf
   (refine zO j.go ?_;(conv=>whnf);refine Ad rfl ?_;(conv=>whnf);refine Ad rfl ?_;(conv=>whnf);refine zV [iA (C9 r),iA szR] ⟨(BK (l:=C9 r) rfl).1,(BK (l:=szR) rfl).1,tv⟩ ?_;refine zW j rfl ?_;rintro _ _ ⟨rfl,rfl⟩)
   conv=>whnf
   rotate_left 1;conv=>whnf
   (refine zW sizes_own rfl ?_;rintro _ _ ⟨rfl,rfl⟩)
   conv=>whnf
   (refine zO j.go ?_;(conv=>whnf);refine Ad rfl ?_;(conv=>whnf);refine Ad rfl ?_;(conv=>whnf);refine zV [iA (C9 r),iA szR] ⟨(BK (l:=C9 r) rfl).1,(BK (l:=szR) rfl).1,tv⟩ ?_;refine zW j rfl ?_;rintro _ _ ⟨rfl,rfl⟩)
   conv=>whnf
   rotate_left 1;all_goals
    refine zZ ?_;conv=>whnf
    refine A5 (fun h2=>?_) (fun h2=>?_) <;> conv=>whnf
    ·have hz:D1 r.img.what=254:=by rw [D1,if_pos h2]
     refine zO C.go ?_;refine⟨rfl,?_⟩;refine⟨rfl,?_⟩;conv=>whnf
     refine zV [iA [r.img.zone,D1 r.img.what],iA [1,1]] ⟨(BK (l:= [r.img.zone,D1 r.img.what]) (by rw [hz];try rfl)).1,(BK (l:= [1,1]) rfl).1,tv⟩ ?_;refine zW C rfl ?_;rintro _ _ ⟨rfl,rfl⟩;conv=>whnf
     refine zW (I) rfl ?_;rintro _ _ ⟨rfl,rfl⟩;refine⟨by simp,?_⟩;refine⟨⟨by simp,by omega⟩,?_⟩;refine⟨by simp,?_⟩;conv=>whnf
     refine Ad ⟨by simp,by simp only [Ao];omega⟩ ?_;conv=>whnf
     refine Ad (by simp;omega) ?_;conv=>whnf
     exact⟨.tp [bA (Ex r),iv 0],fin0 _ _ _ (by rw [Ex,if_pos h1,IX];simp;omega) (by rw [Ex,if_pos h1,IX];simp),rfl⟩
    ·have hz:D1 r.img.what=r.img.what:=by rw [D1,if_neg h2]
     refine zO C.go ?_;refine⟨rfl,?_⟩;refine⟨rfl,?_⟩;conv=>whnf
     refine zV [iA [r.img.zone,D1 r.img.what],iA [1,1]] ⟨(BK (l:= [r.img.zone,D1 r.img.what]) (by rw [hz];try rfl)).1,(BK (l:= [1,1]) rfl).1,tv⟩ ?_;refine zW C rfl ?_;rintro _ _ ⟨rfl,rfl⟩;conv=>whnf
     refine zW (I) rfl ?_;rintro _ _ ⟨rfl,rfl⟩;refine⟨by simp,?_⟩;refine⟨⟨by simp,by omega⟩,?_⟩;refine⟨by simp,?_⟩;conv=>whnf
     refine Ad ⟨by simp,by simp only [Ao];omega⟩ ?_;conv=>whnf
     refine Ad (by simp;omega) ?_;conv=>whnf
     exact⟨.tp [bA (Ex r),iv 0],fin0 _ _ _ (by rw [Ex,if_pos h1,IX];simp;omega) (by rw [Ex,if_pos h1,IX];simp),rfl⟩
  have J:HG r = .v .nilIface\/HG r = .ic 365 [.ag []]:=by
   rcases hk with h | h | h
   ·exact .inl h
   ·exfalso;unfold HG at h;rw [if_neg h1] at h;split at h
    ·cases h
    ·split at h <;> simp at h
   ·exact .inr h
  rcases J with hk | hk <;> rw [hk] at hb
  ·refine zR Tryz.func185 rfl ?_;conv=>whnf
   refine zY hb ?_;conv=>whnf
   refine zY hG ?_;conv=>whnf
   apply zX (0) tys_ok mixed (.o [0,1,2,3,4,5,6,7,8,9] (.two 10 (.o [11,12,13,14,15,16,17] .fin) 11 (.o [10,12,13,14,15,16,17] .fin))) (by kernel_rfl);refine Ad ?_ ?_;conv=>whnf
   (refine zW sizes_own rfl ?_;rintro _ _ ⟨rfl,rfl⟩)
   conv=>whnf
   (refine zO j.go ?_;(conv=>whnf);refine Ad rfl ?_;(conv=>whnf);refine Ad rfl ?_;(conv=>whnf);refine zV [iA (C9 r),iA szR] ⟨(BK (l:=C9 r) rfl).1,(BK (l:=szR) rfl).1,tv⟩ ?_;refine zW j rfl ?_;rintro _ _ ⟨rfl,rfl⟩)
   conv=>whnf
   rotate_left 1;conv=>whnf
   (refine zW sizes_own rfl ?_;rintro _ _ ⟨rfl,rfl⟩)
   conv=>whnf
   (refine zO j.go ?_;(conv=>whnf);refine Ad rfl ?_;(conv=>whnf);refine Ad rfl ?_;(conv=>whnf);refine zV [iA (C9 r),iA szR] ⟨(BK (l:=C9 r) rfl).1,(BK (l:=szR) rfl).1,tv⟩ ?_;refine zW j rfl ?_;rintro _ _ ⟨rfl,rfl⟩)
   conv=>whnf
   rotate_left 1;all_goals
    refine⟨by simp,?_⟩;conv=>whnf
    exact⟨.tp [bA (rowB (C9 r) szR),iv 0],fin0 _ _ _ rfl rfl,by simp only [Ex,if_neg h1,AR,if_true];rfl⟩
  ·refine zR Tryz.func185 rfl ?_;conv=>whnf
   refine zY hb ?_;conv=>whnf
   refine zY hG ?_;conv=>whnf
   apply zX (0) tys_ok mixed (.o [0,1,2,3,4,5,6,7,8,9] (.two 10 (.o [11,12,13,14,15,16,17] .fin) 11 (.o [10,12,13,14,15,16,17] .fin))) (by kernel_rfl);refine Ad ?_ ?_;conv=>whnf
   (refine zW sizes_own rfl ?_;rintro _ _ ⟨rfl,rfl⟩)
   conv=>whnf
   (refine zO j.go ?_;(conv=>whnf);refine Ad rfl ?_;(conv=>whnf);refine Ad rfl ?_;(conv=>whnf);refine zV [iA (C9 r),iA szR] ⟨(BK (l:=C9 r) rfl).1,(BK (l:=szR) rfl).1,tv⟩ ?_;refine zW j rfl ?_;rintro _ _ ⟨rfl,rfl⟩)
   conv=>whnf
   rotate_left 1;conv=>whnf
   (refine zW sizes_own rfl ?_;rintro _ _ ⟨rfl,rfl⟩)
   conv=>whnf
   (refine zO j.go ?_;(conv=>whnf);refine Ad rfl ?_;(conv=>whnf);refine Ad rfl ?_;(conv=>whnf);refine zV [iA (C9 r),iA szR] ⟨(BK (l:=C9 r) rfl).1,(BK (l:=szR) rfl).1,tv⟩ ?_;refine zW j rfl ?_;rintro _ _ ⟨rfl,rfl⟩)
   conv=>whnf
   rotate_left 1;all_goals
    refine⟨by simp,?_⟩;conv=>whnf
    exact⟨.tp [bA (rowB (C9 r) szR),iv 0],fin0 _ _ _ rfl rfl,by simp only [Ex,if_neg h1,AR,if_true];rfl⟩


theorem Ik (n lo hi:Int):Fn Tryz.prog 159 [iv n,iv lo,iv hi] fun r=>r = .v (.bool (CQ n lo hi)):=by
 refine zR Tryz.func159 rfl ?_;conv=>whnf
 repeat' (first | (refine Am (fun h=>?_) (fun h=>?_) <;> (try simp at h) <;> conv=>whnf) | (refine zF tys_ok mixed (by kernel_rfl) ?_;conv=>whnf) | (refine zZ ?_;conv=>whnf) | (refine Ad (by omega) ?_;conv=>whnf))
 all_goals exact⟨_,ri,by simp [CQ, *] <;> omega⟩
theorem Iq (g:Geo) (n:Int) (b:Bool):Fn Tryz.prog 182 [.ag (AK g),iv n, .v (.bool b)] fun r=>r = .tp [iv (if Bq g&&b then n else 0),iv (if Bq g&&b then 0 else 1)]:=by
 have s1:Fn Tryz.prog 118 [.ag (AK g)] fun r=>r = .v (F1 (Bq g)):=DS g.z g.d g.sp g.sl g.an
 cases hg:Bq g <;> cases b;all_goals
  rw [hg] at s1;refine zR Tryz.func182 rfl ?_;conv=>whnf
  refine zY s1 ?_;exact⟨_,ri,rfl⟩
theorem Rz (g:Geo) (copy slot:Int):Fn Tryz.prog 102 [.ag (AK g),iv copy,iv slot] fun r=>r = .tp [iv (if Bq g&&KN g copy slot then Bi g copy slot else 0),iv (if Bq g&&KN g copy slot then 0 else 1)]:=by
 refine zR Tryz.func102 rfl ?_;conv=>whnf
 refine zA tys_ok mixed [0,1,2,3,4,5,6,7,8,9,10,11,12,13,14,15,16,17,18,19,20,21,22,23] (by kernel_rfl) ?_;conv=>whnf
 refine zY (Ik _ _ _) ?_;conv=>whnf
 refine Am (fun t1=>?_) (fun t1=>?_) <;> conv=>whnf
 ·refine zY (Ik _ _ _) ?_;conv=>whnf
  refine zY (Iq g _ _) ?_;refine⟨_,fun _ _ h=>h,?_⟩;cases hg:Bq g with
  | false=>rfl
  | true=>
   obtain⟨h1,h2,h3,h4,h5⟩:=Aq.1 hg;rw [wi (n:=g.sl - 1) (by omega)];have e:KN g copy slot=CQ slot 0 (g.sl - 1):=by rw [KN,t1];try rfl
   rw [e];cases hb:CQ slot 0 (g.sl - 1) with
   | false=>rfl
   | true=>
    obtain⟨c1,c2⟩:=AE.1 t1;obtain⟨b1,b2⟩:=AE.1 hb;have hm:0<=copy*g.sl/\copy*g.sl<=30:=by
     rcases(show copy=0\/copy=1 by omega) with rfl | rfl
     ·omega
     ·omega
    rw [wi (n:=copy*g.sl) (by omega),wi (n:=g.an+copy*g.sl) (by omega),wi (n:=g.an+copy*g.sl+slot) (by omega)];try rfl
 ·refine zY (Iq g _ _) ?_;refine⟨_,fun _ _ h=>h,?_⟩;have e:KN g copy slot=false:=by rw [KN,t1];try rfl
  rw [e];cases Bq g <;> rfl
def GF (g:Geo) (x:Gt) (copy slot:Int):Option Rc:=
 if Bq g&&KN g copy slot&&decide (x.err=0)&&decide (Df x.bytes=0)&&decide (Cx x.bytes=Bi g copy slot) then
  match Su g (CE x.bytes) with
  | some r=>if r.seq=Cr x.bytes then some r else none
  | none=>none
 else none
theorem BN {l m:List AV} (h:SubL l m) (c:Ctx) (u:Value) (hr:Rd (.tp l) c u):Rd (.tp m) c u:=by
 simp only [Rd] at hr |-
 obtain⟨xs,rfl,h1⟩:=hr;exact⟨xs,rfl,h.rdl h1⟩

theorem LL (b:List UInt8) (m:Nat) (hm:m<=b.length) (f:m<=4):Fn Tryz.prog 363 [bA b,iv m] fun r=>r = iv (leN (b.take m):Nat):=by
 refine zR Tryz.func363 rfl ?_;conv=>whnf
 rw [wi (show -9223372036854775808<=(m:Int) - 1/\(m:Int) - 1<=9223372036854775807 by omega)];have hl:(b.take m).length=m:=by rw [As];omega
 refine zU Nat (fun k=>([(0,bA b),(5,iv (leN ((b.take m).drop k):Nat)),(6,iv ((k:Int) - 1))], [])) (fun k=>k<=m) (fun k=>k) m (Ah _)
  (zS (s:= []) ⟨⟨rfl,by rw [AC (by omega)];try rfl,rfl,tv⟩,tv,rfl,rfl,rfl,rfl,rfl⟩) ?_
 intro k hk;conv=>whnf
 refine A5 (fun h5=>?_) (fun h5=>?_) <;> (repeat rw [Aa] at h5) <;> conv=>whnf
 ·obtain⟨j,rfl⟩:∃ j,k=j+1:=⟨k - 1,by omega⟩;have e1:(((j+1:Nat):Int) - 1)=(j:Nat):=by omega
  have hj:j<(b.take m).length:=by omega
  have hb:b.getD j 0=(b.take m)[j]:=by rw [List.getElem_take,Ac,Ag (by omega)];try rfl
  have hd:leN ((b.take m).drop j)=(b.take m)[j].toNat+256*leN ((b.take m).drop (j+1)):=by rw [Bt hj];try rfl
  have h:=leN_lt ((b.take m).drop (j+1));have hx:=(b.take m)[j].toNat_lt;have hp:256 ^ ((b.take m).drop (j+1)).length<=256 ^ 3:=Nat.pow_le_pow_right (by decide) (by rw [Ak];omega);rw [e1];refine⟨⟨by omega,by omega⟩,?_⟩;conv=>whnf
  have hv:IntKind.i64.wrap (IntKind.i64.wrap (256*((leN ((b.take m).drop (j+1)):Nat):Int))+IntKind.i64.wrap ((b.getD j 0).toNat:Nat))=((leN ((b.take m).drop j):Nat):Int):=by
   rw [hb,hd,wi (n:=(((b.take m)[j].toNat:Nat):Int)) (by omega),wi (n:=256*((leN ((b.take m).drop (j+1)):Nat):Int)) (by omega),wi (by omega)];omega
  exact⟨j,by omega,by omega,zS (s:= []) ⟨⟨rfl,congrArg (fun n=>AV.v (.int .i64 n)) hv,congrArg (fun n=>AV.v (.int .i64 n)) (wi (n:=(j:Int) - 1) (by omega)),tv⟩,tv,rfl,rfl,rfl,rfl,rfl⟩⟩
 ·have ek:k=0:=by omega
  subst ek;exact⟨_,ri,rfl⟩
theorem T2 (N:Nat) (hr:N<4294967296):Fn Tryz.prog 398 [iv N] fun r=>r = iv (FY N:Nat):=by
 refine zR Tryz.func398 rfl ?_;refine⟨by decide,?_⟩;conv=>whnf
 have ht:(N:Int).tmod 2=((N % 2:Nat):Int):=by rw [B9 (by omega)];omega
 have hd:IntKind.i64.wrap ((N:Int).tdiv 2)=((N / 2:Nat):Int):=by rw [AO (by omega),wi (by omega)];omega
 by_cases h2:N % 2=1
 ·have hs:FY N=N / 2 ^^^ 2197175160:=by unfold FY;rw [if_pos h2];try rfl
  rw [ht,h2,show (((1:Nat):Int) == 1)=true from rfl];refine⟨by decide,?_⟩;conv=>whnf
  rw [hd];exact⟨_,ri,by rw [hs,<-S7 (N / 2) 2197175160 (by omega) (by omega)];try rfl⟩
 ·have h0:N % 2=0:=by omega
  have hs:FY N=N / 2:=by unfold FY;rw [if_neg h2,Nat.xor_zero]
  rw [ht,h0,show (((0:Nat):Int) == 1)=false from rfl];refine⟨by decide,?_⟩;exact⟨_,ri,by rw [hs,hd]⟩
theorem Rg (r:Nat) (hr:r<4294967296):Fn Tryz.prog 367 [iv r] fun q=>q = iv (F3 r:Nat):=by
 refine zR Tryz.func367 rfl ?_;conv=>whnf
 refine zU Nat (fun k=>([(0,iv (stepsC k r:Nat)),(3,iv k)], [])) (fun k=>k<=8) (fun k=>8 - k) 0 (Aj _)
  (zS (s:= []) tA) ?_
 intro k hk;conv=>whnf
 refine A5 (fun h6=>?_) (fun h6=>?_) <;> (repeat rw [Aa] at h6) <;> conv=>whnf
 ·have f:=T2 (stepsC k r) (stepsC_lt k hr);refine zY f ?_;exact⟨k+1,by omega,by omega,zS (s:= []) ⟨⟨rfl,AG (by omega),tv⟩,tv,rfl,rfl,rfl,rfl,rfl⟩⟩
 ·have ek:k=8:=by omega
  subst ek;exact⟨_,ri,rfl⟩
theorem To (b:List UInt8) (hb:b.length<=1000000000):Fn Tryz.prog 299 [iv 0,bA b] fun r=>r = iv (C3 b:Nat):=by
 refine zR Tryz.func299 rfl ?_;conv=>whnf
 rw [show IntKind.i64.wrap (4294967295 - 0)=4294967295 by decide];refine zU Nat (fun k=>([(1,bA b),(5,iv (Gh 4294967295 (b.take k):Nat)),(6,iv k)], [])) (fun k=>k<=b.length) (fun k=>b.length - k) 0 (Aj _)
  (zS (s:= []) tA) ?_
 intro k hk;conv=>whnf
 refine A5 (fun h6=>?_) (fun h6=>?_) <;> (repeat rw [Aa] at h6) <;> conv=>whnf
 ·have h:k<b.length:=by omega
  have i:=Mu (r:=4294967295) h;have f:=foldC_lt (b.take k) (r:=4294967295) (by omega);refine⟨⟨by omega,by omega⟩,?_⟩;conv=>whnf
  have j:b.getD (k:Int).toNat 0=b[k]:=by rw [Aa,Ac,Ag h];try rfl
  have hy:=b[k].toNat_lt;have hx:IntKind.i64.wrap ((BitVec.ofInt IntKind.i64.bits ((Gh 4294967295 (b.take k):Nat):Int) ^^^ BitVec.ofInt IntKind.i64.bits (IntKind.i64.wrap ((b.getD (k:Int).toNat 0).toNat:Int))).toNat:Int)=((Gh 4294967295 (b.take k) ^^^ b[k].toNat:Nat):Int):=by
   rw [j,wi (n:=((b[k].toNat:Nat):Int)) (by omega)];exact S7 _ _ f (by omega)
  rw [hx];have h8:=Rg _ (Lx f (show b[k].toNat<4294967296 by omega));rw [<-i] at h8;refine zY h8 ?_;exact⟨k+1,h,by omega,zS (s:= []) ⟨⟨rfl,rfl,AG (by omega),tv⟩,tv,rfl,rfl,rfl,rfl,rfl⟩⟩
 ·have ek:k=b.length:=by omega
  subst ek;have f:=foldC_lt b (r:=4294967295) (by omega);exact⟨_,ri,congrArg (fun n=>AV.v (.int .i64 n)) (by rw [Aw];unfold C3;rw [wi (by omega)];omega)⟩
theorem Jz (b:List UInt8) (hb:b.length<=1000000000):Fn Tryz.prog 222 [bA b] fun r=>r = iv (C3 b:Nat):=by
 have h:=To b hb;refine zR Tryz.func222 rfl ?_;conv=>whnf
 refine zY h ?_;exact⟨_,ri,rfl⟩
theorem So (b:List UInt8) (hb:b.length<=1000000000):Fn Tryz.prog 222 [bA b] fun r=>r = iv (C3 b:Nat):=Jz b hb
theorem FB (b:List UInt8) (m:Nat) (hm:m<=b.length) (f:m<=4):Fn Tryz.prog 363 [bA b,iv m] fun r=>r = iv (leN (b.take m):Nat):=LL b m hm f
theorem Jg (c:Ctx) (u:Value) (e:Int) (h:Rd (.tp [.ag [iv 0,iv 0, .v (.slice none 0 0)],iv e]) c u):Rd (.tp [.ag (Of ⟨0,0, []⟩),iv e]) c u:=by
 refine BN ?_ c u h;exact⟨Bf ⟨ri,ri,Bg _ _,tv⟩,ri,tv⟩
theorem L9 {b:List UInt8} {lo:Int} {p:Nat} (h:lo.toNat=p) (hp:p<=b.length) (c:Ctx) (u:Value) (hr:Rd (.sl 1 (((b.length:Nat):Int).toNat - lo.toNat) fun i=>(fun i=> [AV.v (.int .u8 (b.getD i 0).toNat)]) (i+lo.toNat)) c u):Rd (bA (b.drop p)) c u:=
 zB (n':=(b.drop p).length) (by rw [Ak,h];omega) (fun i hi=>by simp only [Ac,BC,h,C5]) hr
theorem Se {b:List UInt8} {lo hi:Int} {p q:Nat} (h:lo.toNat=p) (h2:hi.toNat=q) (hp:p<=q) (hq:q<=b.length) (c:Ctx) (u:Value) (hr:Rd (.sl 1 (hi.toNat - lo.toNat) fun i=>(fun i=> [AV.v (.int .u8 (b.getD i 0).toNat)]) (i+lo.toNat)) c u):Rd (bA ((b.drop p).take (q - p))) c u:=
 zB (n':=((b.drop p).take (q - p)).length) (by rw [As,Ak,h,h2];omega) (fun i hi=>by
  have f:i<q - p:=by omega
  simp only [Ac,BG f,BC,h,C5]) hr
theorem V5 (b:List UInt8) (hl:b.length<=100000):Fn Tryz.prog 362 [bA b] fun r=>r = .tp [.ag (if Df b=0 then Of ⟨Cx b,Cr b,CE b⟩ else Of ⟨0,0, []⟩),iv (Df b)]:=by
 refine zR Tryz.func362 rfl ?_;conv=>whnf
 refine A5 (fun t1=>?_) (fun t1=>?_) <;> (repeat rw [Aa] at t1) <;> conv=>whnf
 ·have e:Df b=4:=by rw [Df,if_pos (by omega)]
  exact⟨_,fun c u h=>Jg c u 4 h,by rw [e];try rfl⟩
 refine A5 (fun t2=>?_) (fun t2=>?_) <;> (repeat rw [Aa] at t2) <;> conv=>whnf
 ·have e:Df b=4:=by rw [Df,if_pos (by omega)]
  exact⟨_,fun c u h=>Jg c u 4 h,by rw [e];try rfl⟩
 have w4:IntKind.i64.wrap ((b.length:Int) - 4)=b.length - 4:=wi (by omega);have w11:IntKind.i64.wrap ((b.length:Int) - 11)=b.length - 11:=wi (by omega);have w10:IntKind.i64.wrap ((b.length:Int) - 10)=b.length - 10:=wi (by omega);have w8:IntKind.i64.wrap ((b.length:Int) - 8)=b.length - 8:=wi (by omega);have e4:(b.drop (b.length - 4)).take 4=b.drop (b.length - 4):=A4 (by rw [Ak];omega);have s1:=FB (b.drop (b.length - 4)) 4 (by rw [Ak];omega) (by omega);rw [e4] at s1;have s2:=So (b.take (b.length - 4)) (by rw [As];omega);have s3:=Ew (CE b) (by simp [CE];omega);have s4:=FB (b.drop (b.length - 10)) 2 (by rw [Ak];omega) (by omega);have s5:=FB (b.drop (b.length - 8)) 4 (by rw [Ak];omega) (by omega);have x1:(IntKind.i64.wrap ((b.length:Int) - 4)).toNat=b.length - 4:=by rw [w4];omega
 have x2:(IntKind.i64.wrap ((b.length:Int) - 10)).toNat=b.length - 10:=by rw [w10];omega
 have x3:(IntKind.i64.wrap ((b.length:Int) - 8)).toNat=b.length - 8:=by rw [w8];omega
 refine zA tys_ok mixed [0,1,2,3,5,6,7,8,4,9,10] (by kernel_rfl) ?_;refine⟨⟨by omega,by omega,by omega,by omega⟩,?_⟩;refine⟨⟨by omega,by omega,by omega,by omega⟩,?_⟩;conv=>whnf
 refine zV _ ?_ (zH (s1) rfl ?_)
 ·repeat' (first | exact trivial | exact fun _ _ h=>h | exact Bg _ _ | exact L9 x1 (by omega) | refine Ad ?_ ?_ | refine Bf ?_)
 rintro _ rfl;conv=>whnf
 refine zV _ ?_ (zH (s2) rfl ?_)
 ·repeat' (first | exact trivial | exact fun _ _ h=>h | exact Bg _ _ | exact Se (p:=0) (q:=b.length - 4) (by simp) x1 (by omega) (by omega) | refine Ad ?_ ?_ | refine Bf ?_)
 rintro _ rfl;conv=>whnf
 have i:De b=(b.getD 0 0).toNat:=by
  unfold De;cases b <;> rfl
 have f:=(b.getD 0 0).toNat_lt;refine A5 (fun t3=>?_) (fun t3=>?_) <;> (repeat rw [Aa] at t3) <;> conv=>whnf
 ·have e:Df b=5:=by rw [Df,if_neg (by omega),if_pos t3]
  exact⟨_,fun c u h=>Jg c u 5 h,by rw [e];try rfl⟩
 refine⟨by first | omega | (refine⟨rfl,?_,?_⟩ <;> first | omega | (simp only [Ab];done) | (simp only [Ab];omega)) | (simp only [Ab];omega),?_⟩;conv=>whnf
 refine A5 (fun t4=>?_) (fun t4=>?_) <;> (repeat rw [Aa] at t4) <;> conv=>whnf
 ·have e:Df b=4:=by
   rw [Df,if_neg (by omega),if_neg (by rw [t3];simp),if_neg];rintro⟨h1,h2⟩;simp only [Int.toNat_zero] at t4;rw [w11,wi (by omega)] at t4;omega
  exact⟨_,fun c u h=>Jg c u 4 h,by rw [e];try rfl⟩
 have e:Df b=0:=by
  rw [Df,if_neg (by omega),if_neg (by rw [t3];simp),if_pos];simp only [Int.toNat_zero] at t4;rw [w11,wi (by omega)] at t4;refine⟨?_,by omega⟩;simp only [F_,decide_eq_true_eq];omega
 rw [e,if_pos rfl];refine zA tys_ok mixed [0,1,2,3,5,6,7,8,10,11,12,13,4,9,14,15,16,17] (by kernel_rfl) ?_;refine⟨⟨by omega,by omega,by omega,by omega⟩,?_⟩;refine⟨⟨by omega,by omega,by omega,by omega⟩,?_⟩;refine⟨⟨by omega,by omega,by omega,by omega⟩,?_⟩;conv=>whnf
 refine zV _ ?_ (zH (s3) rfl ?_)
 ·repeat' (first | exact trivial | exact fun _ _ h=>h | exact Bg _ _ | exact Se (p:=1) (q:=b.length - 10) (by simp) x2 (by omega) (by omega) | refine Ad ?_ ?_ | refine Bf ?_)
 rintro _ rfl;conv=>whnf
 refine zV _ ?_ (zH (s4) rfl ?_)
 ·repeat' (first | exact trivial | exact fun _ _ h=>h | exact Bg _ _ | exact L9 x2 (by omega) | refine Ad ?_ ?_ | refine Bf ?_)
 rintro _ rfl;conv=>whnf
 refine zV _ ?_ (zH (s5) rfl ?_)
 ·repeat' (first | exact trivial | exact fun _ _ h=>h | exact Bg _ _ | exact L9 x3 (by omega) | refine Ad ?_ ?_ | refine Bf ?_)
 rintro _ rfl;exact⟨_,ri,rfl⟩
theorem AU {α:Type} {f:α->List AV} {d:α} {sz:Nat} {es:List (List AV)} {n:Nat} (l:List α) (hn:n=l.length) (he:es=l.map f) (c:Ctx) (u:Value) (h:Rd (.sl sz n fun i=>es.getD i []) c u):Rd (.sl sz l.length fun i=>f (l.getD i d)) c u:=
 zB hn (fun i hi=>by rw [he,AY (d:=d) (by omega)]) h
theorem UM {n:Nat} {es:List (List AV)} (l:List UInt8) (hn:n=l.length) (he:es=l.map fun x=> [.v (.int .u8 x.toNat)]) (c:Ctx) (u:Value) (hr:Rd (.sl 1 n fun i=>es.getD i []) c u):Rd (bA l) c u:=
 AU (f:=fun x:UInt8=> [.v (.int .u8 x.toNat)]) l hn he c u hr
theorem Px (n lo hi:Int):Fn Tryz.prog 396 [iv n,iv lo,iv hi] fun r=>r = .v (.bool (CQ n lo hi)):=by
 refine zR Tryz.func396 rfl ?_;conv=>whnf
 repeat' (first | (refine Am (fun h=>?_) (fun h=>?_) <;> (try simp at h) <;> conv=>whnf) | (refine zF tys_ok mixed (by kernel_rfl) ?_;conv=>whnf) | (refine zZ ?_;conv=>whnf) | (refine Ad (by omega) ?_;conv=>whnf))
 all_goals exact⟨_,ri,by simp [CQ, *] <;> omega⟩
theorem Vx (g:Geo) (l:List Ent) (hg:Bq g=true) (hl:l.length<=1000000):Fn Tryz.prog 373 [.ag (AK g), .ag [Bm l]] fun r=>r = .v (.bool (FK g l)):=by
 obtain⟨h1,h2,h3,h4,h5⟩:=Aq.1 hg;have hw:IntKind.i64.wrap (g.d+1)=g.d+1:=wi (by omega);by_cases hn:(l.length:Int)=g.d+1
 ·have u:G8 l g.d.toNat=(l.getD g.d.toNat ⟨0,0,false⟩).lost:=by
   rw [G8,Ac,Ag (by omega)];try rfl
  have hO:FK g l=(l.all DO&&!(l.getD g.d.toNat ⟨0,0,false⟩).lost):=by rw [FK,hg,decide_eq_true hn,u];try rfl
  rw [hO];refine zR Tryz.func373 rfl ?_;conv=>whnf
  rw [hw,show ((l.length:Int) != g.d+1)=false by rw [hn];exact bne_self_eq_false _];refine⟨⟨by omega,by omega⟩,?_⟩;conv=>whnf
  cases hL:(l.getD g.d.toNat ⟨0,0,false⟩).lost with
  | true=>
   exact⟨_,ri,by rw [Bool.not_true,Bool.and_false]⟩
  | false=>
   conv=>whnf
   rw [Bool.not_false,B3];refine zU Nat (fun k=>([(2, .bp 0 0),(3, .bp 1 0),(4, .v (.bool false)),(5,iv k)], [.box 24 (AK g), .box 145 [Bm l]])) (fun k=>k<=l.length/\(l.take k).all DO=true) (fun k=>l.length - k) 0 ⟨Aj _,rfl⟩
    (zS (s:= [0,1]) tA) ?_
   rintro k ⟨hk,hI⟩;conv=>whnf
   refine A5 (fun h6=>?_) (fun h6=>?_) <;> (repeat rw [Aa] at h6) <;> conv=>whnf
   ·have i:k<l.length:=by omega
    have i1:=Px (l.getD (k:Int).toNat ⟨0,0,false⟩).stamp 0 4294967295;have i2:=Px (l.getD (k:Int).toNat ⟨0,0,false⟩).sum 0 4294967295;have f:(l.take (k+1)).all DO=(CQ (l.getD (k:Int).toNat ⟨0,0,false⟩).stamp 0 4294967295&&CQ (l.getD (k:Int).toNat ⟨0,0,false⟩).sum 0 4294967295):=by
     rw [Aa,Ac,Ag i,Ba,Ag i,Dl,hI];simp [DO,H6]
    have j:(l.take (k+1)).all DO=false->l.all DO=false:=fun h=>by
     rw [<-Cj (k+1) l,Dl,h,Db]
    refine⟨⟨by omega,by omega⟩,?_⟩;conv=>whnf
    cases c1:CQ (l.getD (k:Int).toNat ⟨0,0,false⟩).stamp 0 4294967295 with
    | false=>
     rw [c1] at i1;refine zY i1 ?_;exact⟨_,ri,by rw [j (by rw [f,c1,Db])]⟩
    | true=>
     rw [c1] at i1;refine zY i1 ?_;refine⟨⟨by omega,by omega⟩,?_⟩;conv=>whnf
     cases c2:CQ (l.getD (k:Int).toNat ⟨0,0,false⟩).sum 0 4294967295 with
     | false=>
      rw [c2] at i2;refine zY i2 ?_;exact⟨_,ri,by rw [j (by rw [f,c2,Bool.and_false])]⟩
     | true=>
      rw [c2] at i2;refine zY i2 ?_;conv=>whnf
      exact⟨k+1,⟨i,by rw [f,c1,c2];try rfl⟩,by omega,zS (s:= [0,1]) ⟨⟨rfl,rfl,rfl,AG (by omega),tv⟩,tA,rfl,rfl,rfl,rfl,rfl⟩⟩
   ·have ek:k=l.length:=by omega
    exact⟨_,ri,by rw [<-hI,ek,Aw]⟩
 ·have hO:FK g l=false:=by rw [FK,hg,decide_eq_false hn];try rfl
  rw [hO];refine zR Tryz.func373 rfl ?_;conv=>whnf
  rw [hw,show ((l.length:Int) != g.d+1)=true from bne_iff_ne.2 hn];exact⟨_,ri,rfl⟩
theorem Fn.subA {P:Program} {f:FuncId} {args args':List AV} {K:AV->Prop} (h:Fn P f args' K) (hs:SubL args args'):Fn P f args K:=
 ⟨h.go,fun c us hd hM hg hr=>h.calls c us hd hM hg (hs.rdl hr)⟩
theorem U4 {b:List UInt8} {n m p:Nat} (hn:n=b.length - m - p) (c:Ctx) (u:Value) (h:Rd (.sl 1 n fun i=> [.v (.int .u8 (b.getD (i+p+m) 0).toNat)]) c u):Rd (bA ((b.drop m).drop p)) c u:=
 zB (by rw [Ak,Ak];exact hn) (fun i _=>by rw [Ac,Ac,BC,BC,show i+p+m=m+(p+i) by omega]) h
theorem WA {x:List UInt8} (h:9<=x.length):IH x=⟨(leN (x.take 4):Nat),(leN ((x.drop 4).take 4):Nat),(x[8].toNat:Int) == 1⟩:=by
 have h8:=PL h;unfold Nv at h8;unfold IH;rw [h8];try rfl
theorem LJ (g:Geo) (b:List UInt8) (hg:Bq g=true):Fn Tryz.prog 318 [.ag (AK g),bA b] fun r=>r = .tp [.ag [Bm ((Ce g b).getD [])], .v (.bool (Ce g b).isSome)]:=by
 obtain⟨h1,h2,h3,h4,h5⟩:=Aq.1 hg;have hw:IntKind.i64.wrap (g.d+1)=g.d+1:=wi (by omega);have j:IntKind.i64.wrap (9*(g.d+1))=9*(g.d+1):=wi (by omega);have zs:∀ (c:Ctx) (v:Value),Rd (.tp [.ag [.v (.slice none 0 0)], .v (.bool false)]) c v->Rd (.tp [.ag [Bm []], .v (.bool false)]) c v:=BN (m:= [.ag [Bm []], .v (.bool false)]) ⟨Bf ⟨Bg 3 _,tv⟩,ri,tv⟩;by_cases hn:b.length=9*(g.d+1).toNat
 ·refine zR Tryz.func318 rfl ?_;conv=>whnf
  rw [hw,j,show ((b.length:Int) != 9*(g.d+1))=false by simp only [bne_eq_false_iff_eq];omega];conv=>whnf
  refine zU Nat (fun k=>([(1,bA b),(2, .bp 0 0),(4, .bp 1 0),(5, .v (.bool false)),(6, .bp 2 0),(7,iv k)], [.box 24 (AK g), .box 145 [.v (.slice none 0 0)], .box 145 [.ow 3 k], .row 189 3 ((entsOf k b).map Cf)])) (fun k=>(k:Int)<=g.d+1/\Ln k b) (fun k=>(g.d+1 - k).toNat) 0 ⟨by omega,fun i hi=>absurd hi (Ap i)⟩
   ⟨_,_,zC _ _, [(1002000,189,3)],tA, [0,1,2,3],tA⟩ ?_
  rintro k ⟨hk,hA⟩;conv=>whnf
  refine A5 (fun h6=>?_) (fun h6=>?_) <;> (repeat rw [Aa] at h6) <;> conv=>whnf
  ·have wk9:IntKind.i64.wrap (9*(k:Int))=((9*k:Nat):Int):=by rw [wi (by omega)];omega
   have I:(b.drop (9*k)).length=b.length - 9*k:=Ak;have h:9<=(b.drop (9*k)).length:=by omega
   rw [wk9];refine⟨⟨by omega,by omega,by omega,by omega⟩,?_⟩;conv=>whnf
   rw [Aa];have hv:=PL h;have he:=WA h;have C:=entsOf_step k b;refine⟨⟨by omega,by omega⟩,?_⟩;conv=>whnf
   have u:(b.getD (Int.toNat 8+((9*k:Nat):Int).toNat) 0).toNat=(b.drop (9*k))[8].toNat:=by
    rw [List.getElem_drop,Ac,Aa,show Int.toNat 8+9*k=9*k+8 by omega,Ag (by omega)];try rfl
   obtain⟨Y,hY⟩:∃ Y:Nat,Y=(b.drop (9*k))[8].toNat:=⟨_,rfl⟩;rw [u,<-hY];rw [<-hY] at hv he;by_cases F:Y<=1
   ·rw [show decide ((Y:Int) > 1)=false from decide_eq_false (by omega)];conv=>whnf
    have q1:=LL (b.drop (9*k)) 4 (by omega) (by decide);have q2:=LL ((b.drop (9*k)).drop 4) 4 (by rw [Ak];omega) (by decide);have G:k=((entsOf k b).map Cf).length:=by rw [Ab,entsOf_len]
    apply z8 (0) tys_ok mixed (.o [0,1,2,4,5,7,8,9,10,3,6,11,12,13,14,15] .fin) [32,33,34,35,36,37,38,39,40,41,42,43,44,45,46] (by kernel_rfl)
    ·conv=>whnf
     try (refine tI ?_;conv=>whnf)
     try (refine tI ?_;conv=>whnf)
     (refine zV [bA (b.drop (9*k)),iv 4] ⟨AP rfl,ri,tv⟩ ?_;refine zY q1 ?_)
     conv=>whnf
     (refine zV [bA ((b.drop (9*k)).drop 4),iv 4] ⟨U4 rfl,ri,tv⟩ ?_;refine zY q2 ?_)
     conv=>whnf
     try (refine tJ ?_;conv=>whnf)
     try (refine tK ?_;conv=>whnf)
     try (refine tS ?_;conv=>whnf)
     exact tA
    refine⟨k+1,⟨by omega,fun i hi=>?_⟩,by omega,zS (s:= [0,1,2,3]) ⟨⟨rfl,rfl,rfl,rfl,rfl,AG (by omega),tv⟩,⟨rfl,rfl,rfl,?_,tv⟩,rfl,rfl,rfl,rfl,rfl⟩⟩
    ·by_cases z:i=k
     ·rw [z,hv];omega
     ·exact hA i (by omega)
    ·rw [C,A8,he];show hget _ 3=_;rw [u,<-hY];try rfl
   ·rw [show decide ((Y:Int) > 1)=true from decide_eq_true (by omega)];conv=>whnf
    rw [Ke (.inr fun hall=>F (by have:=hall k (by omega);omega))];exact⟨_,zs,rfl⟩
  ·have ek:k=(g.d+1).toNat:=by omega
   subst ek;have hT:=Vx g (entsOf (g.d+1).toNat b) hg (by rw [entsOf_len];omega);have hR:=Tz hn hA;have hS:=hT.subA (args:= [.ag (AK g), .ag [.sl 3 (g.d+1).toNat fun i=>((entsOf (g.d+1).toNat b).map Cf).getD i []]]) ⟨ri,Bf ⟨AU (f:=Cf) (entsOf (g.d+1).toNat b) (by rw [entsOf_len]) rfl,tv⟩,tv⟩;refine zq hS ⟨by rw [Ab,entsOf_len],rfl⟩ ?_;rintro _ rfl;refine⟨rfl,?_⟩;conv=>whnf
   cases ho:FK g (entsOf (g.d+1).toNat b) with
   | false=>
    rw [hR,ho,if_neg (by decide)];exact⟨_,zs,rfl⟩
   | true=>
    rw [hR,ho,if_pos rfl];refine⟨(by rw [Ab,entsOf_len]),?_⟩;exact⟨.tp [.ag [Bm (entsOf (g.d+1).toNat b)], .v (.bool true)],BN ⟨Bf ⟨AU (f:=Cf) (entsOf (g.d+1).toNat b) (by rw [entsOf_len]) rfl,tv⟩,ri,tv⟩,rfl⟩
 ·refine zR Tryz.func318 rfl ?_;conv=>whnf
  rw [hw,j,show ((b.length:Int) != 9*(g.d+1))=true by simp only [bne_iff_ne,ne_eq];omega];conv=>whnf
  rw [Ke (.inl hn)];exact⟨_,zs,rfl⟩
theorem VE (n lo hi:Int):Fn Tryz.prog 247 [iv n,iv lo,iv hi] fun r=>r = .v (.bool (CQ n lo hi)):=by
 refine zR Tryz.func247 rfl ?_;conv=>whnf
 repeat' (first | (refine Am (fun h=>?_) (fun h=>?_) <;> (try simp at h) <;> conv=>whnf) | (refine zF tys_ok mixed (by kernel_rfl) ?_;conv=>whnf) | (refine zZ ?_;conv=>whnf) | (refine Ad (by omega) ?_;conv=>whnf))
 all_goals exact⟨_,ri,by simp [CQ, *] <;> omega⟩


theorem EM (g:Geo) (copy slot:Int) (hg:Bq g=true) (hl:KN g copy slot=true):Fn Tryz.prog 59 [.ag (AK g),iv copy,iv slot] fun r=>r = iv (Bi g copy slot):=by
 obtain⟨h1,h2,h3,h4,h5⟩:=Aq.1 hg;simp only [KN,Af,AE] at hl;refine zR Tryz.func59 rfl ?_;refine⟨_,fun _ _ h=>h,?_⟩;have hm:0<=copy*g.sl/\copy*g.sl<=30:=by
  rcases(show copy=0\/copy=1 by omega) with rfl | rfl <;> omega
 rw [wi (n:=copy*g.sl) (by omega),wi (n:=g.an+copy*g.sl) (by omega),wi (n:=g.an+copy*g.sl+slot) (by omega)];try rfl
def BY (x:Gt) (addr:Int):Option Sec:=if x.err=0/\Df x.bytes=0/\Cx x.bytes=addr then some ⟨Cx x.bytes,Cr x.bytes,CE x.bytes⟩ else none
def zeroS:Sec:=⟨0,0, []⟩
theorem JV (c:Ctx) (u:Value) (b:Bool) (h:Rd (.tp [.ag [iv 0,iv 0, .v (.slice none 0 0)], .v (.bool b)]) c u):Rd (.tp [.ag (Of zeroS), .v (.bool b)]) c u:=by
 refine BN ?_ c u h;exact⟨Bf ⟨ri,ri,Bg _ _,tv⟩,ri,tv⟩
theorem Iu (x:Gt) (addr:Int) (hl:x.bytes.length<=100000):Fn Tryz.prog 294 [.ag (Dt x),iv addr] fun r=>r = .tp [.ag (Of ((BY x addr).getD zeroS)), .v (.bool (BY x addr).isSome)]:=by
 have s1:=V5 x.bytes hl;refine zR Tryz.func294 rfl ?_;conv=>whnf
 refine A5 (fun t1=>?_) (fun t1=>?_) <;> (repeat rw [Aa] at t1) <;> conv=>whnf
 ·have e:BY x addr=none:=by rw [BY,if_neg (fun h=>t1 h.1)]
  rw [e];exact⟨_,fun c v h=>JV c v false h,rfl⟩
 by_cases hO:Df x.bytes=0
 ·rw [if_pos hO,hO] at s1;refine zY s1 ?_;conv=>whnf
  refine A5 (fun t2=>?_) (fun t2=>?_) <;> (repeat rw [Aa] at t2) <;> conv=>whnf
  ·have e:BY x addr=none:=by rw [BY,if_neg (fun h=>t2 h.2.2)]
   rw [e];exact⟨_,fun c v h=>JV c v false h,rfl⟩
  ·have e:BY x addr=some ⟨Cx x.bytes,Cr x.bytes,CE x.bytes⟩:=by rw [BY,if_pos ⟨t1,hO,t2⟩]
   rw [e];exact⟨_,ri,rfl⟩
 ·rw [if_neg hO] at s1;refine zY s1 ?_;conv=>whnf
  have e:BY x addr=none:=by rw [BY,if_neg (fun h=>hO h.2.1)]
  rw [e];refine A5 (fun t2=>?_) (fun t2=>?_) <;> (repeat rw [Aa] at t2) <;> conv=>whnf
  ·exact⟨_,fun c v h=>JV c v false h,rfl⟩
  ·exact absurd t2 hO
theorem Z_ (g:Geo) (x:Gt) (copy slot:Int) (hg:Bq g=true) (hL:KN g copy slot=true):GF g x copy slot=match BY x (Bi g copy slot) with | none=>none | some s=>match Su g s.pay with | some r=>if r.seq=s.stamp then some r else none | none=>none:=by
 unfold GF BY;rw [hg,hL];by_cases h1:x.err=0 <;> by_cases h2:Df x.bytes=0 <;> by_cases h3:Cx x.bytes=Bi g copy slot <;> simp [h1,h2,h3] <;> rfl
def TF (o:Option Rc) (a:An) (seq at_ of_ left:Int):Bool:=match o with | some r=>If r a seq at_ of_ left | none=>false
def S4 (p q:Option Rc) (b1 b2:Bool):Rc × List Int × Int:=
 if b1&&b2 then (p.getD zeroC, [],1) else if b1 then (p.getD zeroC, [1],1) else if b2 then (q.getD zeroC, [0],1) else if p.isSome || q.isSome then (zeroC, [],2) else (zeroC, [],3)
def am (g:Geo) (a:An) (x y:Gt) (slot seq at_ of_ left:Int):Rc × List Int × Int:=
 S4 (GF g x 0 slot) (GF g y 1 slot) (TF (GF g x 0 slot) a seq at_ of_ left) (TF (GF g y 1 slot) a seq at_ of_ left)
def Cv (g:Geo):Int:=g.d+1+g.sp
def Ar (g:Geo):Int:=g.an+2*g.sl+2*g.z+g.z*Cv g
def AM (g:Geo) (z k:Int):Int:=g.an+2*g.sl+2*z+k
def Cm (g:Geo) (z s:Int):Int:=g.an+2*g.sl+2*g.z+z*Cv g+s
theorem Hi {g:Geo} (hg:Bq g=true):2<=Cv g/\Cv g<=7:=by
 obtain⟨h1,h2,h3,h4,h5⟩:=Aq.1 hg;unfold Cv;omega
theorem GX {g:Geo} (hg:Bq g=true) {z:Int} (hz:0<=z/\z<=4):0<=z*Cv g/\z*Cv g<=28:=by
 obtain⟨p1,p2⟩:=Hi hg;rcases(show z=0\/z=1\/z=2\/z=3\/z=4 by omega) with rfl | rfl | rfl | rfl | rfl <;> omega
theorem EF {g:Geo} (hg:Bq g=true):32<=Ar g/\Ar g<=99:=by
 obtain⟨h1,h2,h3,h4,h5⟩:=Aq.1 hg;obtain⟨p1,p2⟩:=Hi hg;have:=GX hg (z:=g.z) (by omega);unfold Ar;rcases(show g.z=1\/g.z=2\/g.z=3\/g.z=4 by omega) with h | h | h | h <;> rw [h] at this |- <;> omega
theorem Mo (g:Geo) (hg:Bq g=true):Fn Tryz.prog 190 [.ag (AK g)] fun r=>r = iv (g.an+2*g.sl):=by
 obtain⟨h1,h2,h3,h4,h5⟩:=Aq.1 hg;refine zR Tryz.func190 rfl ?_;exact⟨_,ri,by rw [wi (n:=2*g.sl) (by omega),wi (by omega)]⟩
theorem I4 (g:Geo) (hg:Bq g=true):Fn Tryz.prog 108 [.ag (AK g)] fun r=>r = iv (Cv g):=by
 obtain⟨h1,h2,h3,h4,h5⟩:=Aq.1 hg;refine zR Tryz.func108 rfl ?_;conv=>whnf
 exact⟨_,ri,by rw [wi (n:=g.d+1) (by omega),wi (by omega)];try rfl⟩
theorem Mp (g:Geo) (hg:Bq g=true):Fn Tryz.prog 193 [.ag (AK g)] fun r=>r = iv (g.an+2*g.sl+2*g.z):=by
 obtain⟨h1,h2,h3,h4,h5⟩:=Aq.1 hg;refine zR Tryz.func193 rfl ?_;conv=>whnf
 apply zP tys_ok mixed (.o [0,2,3,4,1,5,6] .fin) [2,3,4,5,6,7,8] (by kernel_rfl)
 ·conv=>whnf
  refine zY (Mo g hg) ?_;exact tA
 exact⟨_,ri,by rw [wi (n:=2*g.z) (by omega),wi (by omega)]⟩
theorem R8 (g:Geo) (hg:Bq g=true):Fn Tryz.prog 183 [.ag (AK g)] fun r=>r = iv (Ar g):=by
 obtain⟨h1,h2,h3,h4,h5⟩:=Aq.1 hg;have hz:=GX hg (z:=g.z) (by omega);have hc:=EF hg;refine zR Tryz.func183 rfl ?_;conv=>whnf
 apply zP tys_ok mixed (.o [0,2,3,4,1,5,6,7,8] .fin) [2,3,4,5,6,7,8,9,10] (by kernel_rfl)
 ·conv=>whnf
  refine zY (Mp g hg) ?_;conv=>whnf
  refine zY (I4 g hg) ?_;exact tA
 conv=>whnf
 exact⟨_,ri,by rw [wi (n:=g.z*Cv g) (by omega),wi (by omega)];try rfl⟩
theorem Uq (g:Geo) (hg:Bq g=true):Fn Tryz.prog 98 [.ag (AK g)] fun r=>r = .tp [iv (Ar g),iv 0]:=by
 have ht:=Iq g (Ar g) true;rw [hg] at ht;refine zR Tryz.func98 rfl ?_;conv=>whnf
 apply zP tys_ok mixed (.o [0,1,2,3,4,5,6,7] .fin) [2,3,4,5,6,7,8,9] (by kernel_rfl)
 ·conv=>whnf
  refine zY (R8 g hg) ?_;conv=>whnf
  refine zY ht ?_;exact tA
 exact⟨_,ri,rfl⟩
theorem Mt (g:Geo) (i:Int) (hg:Bq g=true) (hi:0<=i/\i<g.an):Fn Tryz.prog 100 [.ag (AK g),iv i] fun r=>r = .tp [iv i,iv 0]:=by
 obtain⟨h1,h2,h3,h4,h5⟩:=Aq.1 hg;have ht:=Iq g i true;rw [hg] at ht;have hw:IntKind.i64.wrap (g.an - 1)=g.an - 1:=wi (by omega);have hn:=Ik i 0 (IntKind.i64.wrap (g.an - 1));rw [show CQ i 0 (IntKind.i64.wrap (g.an - 1))=true from AE.2 (by rw [hw];omega)] at hn;refine zR Tryz.func100 rfl ?_;conv=>whnf
 apply zP tys_ok mixed (.o [0,1,2,3,4,5,6,7,8,9,10,11] .fin) [4,5,6,7,8,9,10,11,12,13,14,15] (by kernel_rfl)
 ·conv=>whnf
  refine zY hn ?_;conv=>whnf
  refine zY ht ?_;exact tA
 exact⟨_,ri,rfl⟩
theorem Ks (g:Geo) (z k:Int) (hg:Bq g=true) (hz:0<=z/\z<g.z) (hk:0<=k/\k<=1):Fn Tryz.prog 106 [.ag (AK g),iv z,iv k] fun r=>r = .tp [iv (AM g z k),iv 0]:=by
 obtain⟨h1,h2,h3,h4,h5⟩:=Aq.1 hg;have e:IntKind.i64.wrap (IntKind.i64.wrap (g.an+2*g.sl+IntKind.i64.wrap (2*z))+k)=AM g z k:=by
  rw [wi (n:=2*z) (by omega),wi (n:=g.an+2*g.sl+2*z) (by omega),wi (by omega)];try rfl
 have ht:=Iq g (IntKind.i64.wrap (IntKind.i64.wrap (g.an+2*g.sl+IntKind.i64.wrap (2*z))+k)) true;rw [hg] at ht;have hw:IntKind.i64.wrap (g.z - 1)=g.z - 1:=wi (by omega);have hn:=Ik z 0 (IntKind.i64.wrap (g.z - 1));rw [show CQ z 0 (IntKind.i64.wrap (g.z - 1))=true from AE.2 (by rw [hw];omega)] at hn;have f:=Ik k 0 1;rw [show CQ k 0 1=true from AE.2 hk] at f;refine zR Tryz.func106 rfl ?_;conv=>whnf
 apply zP tys_ok mixed (.o [0,1,3,4,6,8,9,10,11,2,5,7,12,13,14,15,16,17,18,19,20,21] .fin) [6,7,8,9,10,11,12,13,14,15,16,17,18,19,20,21,22,23,24,25,26,27] (by kernel_rfl)
 ·conv=>whnf
  refine zY (Mo g hg) ?_;conv=>whnf
  refine zY hn ?_;conv=>whnf
  refine zY f ?_;conv=>whnf
  refine zY ht ?_;exact tA
 conv=>whnf
 exact⟨_,ri,by simp only [Bool.and_self,if_true];rw [e]⟩
theorem Wo (g:Geo) (z s:Int) (hg:Bq g=true) (hz:0<=z/\z<g.z) (hs:0<=s/\s<Cv g):Fn Tryz.prog 109 [.ag (AK g),iv z,iv s] fun r=>r = .tp [iv (Cm g z s),iv 0]:=by
 obtain⟨h1,h2,h3,h4,h5⟩:=Aq.1 hg;have i:=GX hg (z:=z) (by omega);have hp:=Hi hg;have e:IntKind.i64.wrap (IntKind.i64.wrap (g.an+2*g.sl+2*g.z+IntKind.i64.wrap (z*Cv g))+s)=Cm g z s:=by
  rw [wi (n:=z*Cv g) (by omega),wi (n:=g.an+2*g.sl+2*g.z+z*Cv g) (by omega),wi (by omega)];try rfl
 have ht:=Iq g (IntKind.i64.wrap (IntKind.i64.wrap (g.an+2*g.sl+2*g.z+IntKind.i64.wrap (z*Cv g))+s)) true;rw [hg] at ht;have hw:IntKind.i64.wrap (g.z - 1)=g.z - 1:=wi (by omega);have hn:=Ik z 0 (IntKind.i64.wrap (g.z - 1));rw [show CQ z 0 (IntKind.i64.wrap (g.z - 1))=true from AE.2 (by rw [hw];omega)] at hn;have h:IntKind.i64.wrap (Cv g - 1)=Cv g - 1:=wi (by omega);have f:=Ik s 0 (IntKind.i64.wrap (Cv g - 1));rw [show CQ s 0 (IntKind.i64.wrap (Cv g - 1))=true from AE.2 (by rw [h];omega)] at f;refine zR Tryz.func109 rfl ?_;conv=>whnf
 apply zP tys_ok mixed (.o [0,1,3,4,8,10,11,12,13,2,5,6,7,9,14,15,16,17,18,19,20,21,22,23,24,25,26] .fin) [6,7,8,9,10,11,12,13,14,15,16,17,18,19,20,21,22,23,24,25,26,27,28,29,30,31,32] (by kernel_rfl)
 ·conv=>whnf
  refine zY (Mp g hg) ?_;conv=>whnf
  refine zY (I4 g hg) ?_;conv=>whnf
  refine zY hn ?_;conv=>whnf
  refine zY (I4 g hg) ?_;conv=>whnf
  refine zY f ?_;conv=>whnf
  refine zY ht ?_;exact tA
 conv=>whnf
 exact⟨_,ri,by simp only [Bool.and_self,if_true];rw [e]⟩
theorem Ok (g:Geo) (hg:Bq g=true):Fn Tryz.prog 34 [.ag (AK g)] fun r=>r = iv (Cv g):=by
 obtain⟨h1,h2,h3,h4,h5⟩:=Aq.1 hg;refine zR Tryz.func34 rfl ?_;conv=>whnf
 exact⟨_,ri,by rw [wi (n:=g.d+1) (by omega),wi (by omega)];try rfl⟩
theorem Rm (g:Geo) (hg:Bq g=true):Fn Tryz.prog 23 [.ag (AK g)] fun r=>r = iv (Ar g):=by
 obtain⟨h1,h2,h3,h4,h5⟩:=Aq.1 hg;have hz:=GX hg (z:=g.z) (by omega);have hc:=EF hg;refine zR Tryz.func23 rfl ?_;conv=>whnf
 apply zP tys_ok mixed (.o [0,1,2,3,4,5,6,7,8,9,10,11,12,13,14,15,16] .fin) [2,3,4,5,6,7,8,9,10,11,12,13,14,15,16,17,18] (by kernel_rfl)
 ·conv=>whnf
  refine zY (Ok g hg) ?_;exact tA
 conv=>whnf
 exact⟨_,ri,by rw [wi (n:=g.z*Cv g) (by omega),wi (n:=2*g.sl) (by omega),wi (n:=2*g.z) (by omega),wi (n:=g.an+2*g.sl) (by omega),wi (n:=g.an+2*g.sl+2*g.z) (by omega),wi (by omega)];try rfl⟩
theorem Iv (g:Geo) (z k:Int) (hg:Bq g=true) (hz:0<=z/\z<g.z) (hk:0<=k/\k<=1):Fn Tryz.prog 62 [.ag (AK g),iv z,iv k] fun r=>r = iv (AM g z k):=by
 obtain⟨h1,h2,h3,h4,h5⟩:=Aq.1 hg;refine zR Tryz.func62 rfl ?_;conv=>whnf
 exact⟨_,ri,by rw [wi (n:=2*g.sl) (by omega),wi (n:=2*z) (by omega),wi (n:=g.an+2*g.sl) (by omega),wi (n:=g.an+2*g.sl+2*z) (by omega),wi (by omega)];try rfl⟩
theorem LI (g:Geo) (z s:Int) (hg:Bq g=true) (hz:0<=z/\z<g.z) (hs:0<=s/\s<Cv g):Fn Tryz.prog 13 [.ag (AK g),iv z,iv s] fun r=>r = iv (Cm g z s):=by
 obtain⟨h1,h2,h3,h4,h5⟩:=Aq.1 hg;have f:=GX hg (z:=z) (by omega);have hp:=Hi hg;refine zR Tryz.func13 rfl ?_;conv=>whnf
 apply zP tys_ok mixed (.o [0,1,2,3,4,5,6,7,8,9,10,11,15,12,13,14,16,17] .fin) [6,7,8,9,10,11,12,13,14,15,16,17,18,19,20,21,22,23] (by kernel_rfl)
 ·conv=>whnf
  refine zY (Ok g hg) ?_;exact tA
 conv=>whnf
 exact⟨_,ri,by rw [wi (n:=z*Cv g) (by omega),wi (n:=2*g.sl) (by omega),wi (n:=2*g.z) (by omega),wi (n:=g.an+2*g.sl) (by omega),wi (n:=g.an+2*g.sl+2*g.z) (by omega),wi (n:=g.an+2*g.sl+2*g.z+z*Cv g) (by omega),wi (by omega)];try rfl⟩
theorem Sp (L:List UInt8):((List.range L.length).map fun i=> [AV.v (Value.int IntKind.u8 ((L.getD i 0).toNat:Int))])=L.map Ef:=by
 apply List.ext_getElem
 ·simp
 ·intro i h1 h2;simp only [Ab,BQ] at h1;simp [Ef,Ac,Ag h1]
theorem F8 {L:List UInt8} {n:Nat} {es:List (List AV)} (hn:n=L.length) (he:es=L.map Ef) (c:Ctx) (v:Value) (h:Rd (.sl 1 n fun i=>es.getD i []) c v):Rd (bA L) c v:=AU (f:=Ef) L hn he c v h
theorem MY (b:List UInt8) (hb:b.length<=1000000000):ACalls Tryz.prog false 221 [bA b] [] fun r H=>r = .ow 0 b.length/\H=[.row 5 1 (b.map Ef)]:=by
 refine zx tys_ok Tryz.func221 rfl rfl (Ae rfl) ?_;refine⟨hb,?_⟩;exact⟨.ow 0 b.length, .ow 0 b.length, [.row 5 1 (b.map Ef)],fun _ _ h=>h,zE ⟨[],tv,tA,⟨congrArg (AB.row 5 1) (Sp b).symm,tv⟩,rfl,rfl,rfl⟩,rfl,rfl⟩
theorem HU (l:List UInt8) (n:Int) (m:Nat) (hl:l.length<=1000000) (hn:0<=n/\n<=4294967295) (hm:m<=4):ACalls Tryz.prog false 134 [bA l,iv n,iv m] [] fun r H=>r = .ow 0 (l ++ leB m n.toNat).length/\H=[.row 5 1 ((l ++ leB m n.toNat).map Ef)]:=by
 have j:=MY l (by omega);obtain⟨q,rfl⟩:∃ q:Nat,n=q:=⟨n.toNat,by omega⟩;rw [Aa];refine zx tys_ok Tryz.func134 rfl rfl (Ae rfl) ?_;conv=>whnf
 refine zW (j) rfl ?_;rintro _ _ ⟨rfl,rfl⟩;conv=>whnf
 refine zU Nat (fun k=>([(1,iv (q / 256 ^ k:Nat)),(2,iv m),(7, .ow 0 (l ++ leB k q).length),(8,iv k)], [.row 5 1 ((l ++ leB k q).map Ef)])) (fun k=>k<=m) (fun k=>m - k) 0 (Aj _)
  (zS (s:= [0]) ⟨⟨congrArg (fun n:Nat=>AV.v (.int .i64 n)) (show q=q / 256 ^ 0 by simp),rfl,congrArg (fun n:Nat=>AV.ow 0 n) (show l.length=(l ++ leB 0 q).length by simp [leB]),rfl,tv⟩,⟨show some (AB.row 5 1 (l.map Ef))=some (AB.row 5 1 ((l ++ leB 0 q).map Ef)) by simp [leB],tv⟩,rfl,rfl,rfl,rfl,rfl⟩) ?_
 intro k hk;have f:=leB_step k q;have hq:q / 256 ^ k<=4294967295:=Bo (Nat.div_le_self _ _) (by omega);have i:q / 256 ^ k / 256=q / 256 ^ (k+1):=by rw [Nat.div_div_eq_div_mul,Nat.pow_succ]
 have z:(l ++ leB k q).length<=1000004:=by rw [Ai,leB_len];omega
 generalize q / 256 ^ k=Q at f hq i;conv=>whnf
 refine A5 (fun h6=>?_) (fun h6=>?_) <;> (repeat rw [Aa] at h6) <;> conv=>whnf
 ·refine⟨rfl,?_⟩;refine⟨⟨by rw [Ab],by omega⟩,?_⟩;refine⟨by decide,?_⟩;conv=>whnf
  have u:IntKind.i64.wrap ((Q:Int).tdiv 256)=((Q / 256:Nat):Int):=by rw [AO (by omega),wi (by omega)];omega
  have hU : [[AV.v (Value.int IntKind.u8 (IntKind.u8.wrap (Q:Int)))]]=[UInt8.ofNat (Q % 256)].map Ef:=by
   show _=[[AV.v (.int .u8 ((UInt8.ofNat (Q % 256)).toNat:Nat))]];rw [B8 (show Q % 256<256 by omega),IntKind.wrap_u8];try rfl
  refine⟨k+1,by omega,by omega,zS (s:= [0]) ⟨⟨congrArg (fun n:Int=>AV.v (.int .i64 n)) (by rw [u,i]),rfl,congrArg (fun n:Nat=>AV.ow 0 n) (show (l ++ leB k q).length+1=(l ++ leB (k+1) q).length by rw [f];simp;omega),AG (by omega),tv⟩,⟨?_,tv⟩,rfl,rfl,rfl,rfl,rfl⟩⟩;rw [f,<-A7,A8,<-hU];try rfl
 ·have ek:k=m:=by omega
  subst ek;exact⟨.ow 0 (l ++ leB k q).length, .ow 0 (l ++ leB k q).length, [.row 5 1 ((l ++ leB k q).map Ef)],fun _ _ h=>h,zE ⟨[],tv,tA,tA,rfl,rfl,rfl⟩,rfl,rfl⟩
theorem Oj (l:List UInt8) (n m:Nat) (hl:l.length<=1000000) (hn:n<=4294967295) (hm:m<=4):Fn Tryz.prog 134 [bA l,iv n,iv m] fun r=>r=bA (l ++ leB m n):=by
 refine ACalls.fn (HU l n m hl (by omega) hm) ?_;rintro _ _ ⟨rfl,rfl⟩;refine⟨_,zy _,?_⟩;refine Ad (Ab _).symm ?_;exact⟨bA (l ++ leB m n),F8 rfl rfl,rfl⟩
theorem EA (l:List UInt8) (n:Int) (m:Nat) (hl:l.length<=1000000) (hn:0<=n/\n<=4294967295) (hm:m<=4):Fn Tryz.prog 134 [bA l,iv n,iv m] fun r=>r=bA (l ++ leB m n.toNat):=by
 have:=Oj l n.toNat m hl (by omega) hm;rwa [Int.toNat_of_nonneg hn.1] at this
theorem LK (l:List UInt8) (hl:l.length<=255):ACalls Tryz.prog false 220 [bA l] [] fun r H=>r = .ow 0 (UInt8.ofNat l.length::l).length/\H=[.row 5 1 ((UInt8.ofNat l.length::l).map Ef)]:=by
 refine zx tys_ok Tryz.func220 rfl rfl (Ae rfl) ?_;refine⟨⟨rfl,by omega⟩,?_⟩;conv=>whnf
 have e : [[AV.v (Value.int IntKind.u8 (IntKind.u8.wrap (l.length:Int)))]] ++ (List.range l.length).map (fun i=> [AV.v (Value.int IntKind.u8 ((l.getD i 0).toNat:Int))])=(UInt8.ofNat l.length::l).map Ef:=by
  rw [Sp,Az,List.singleton_append,Ef,B8 (show l.length<256 by omega),IntKind.wrap_u8];congr 4;omega
 exact⟨.ow 0 (1+l.length), .ow 0 (1+l.length), [.row 5 1 ((UInt8.ofNat l.length::l).map Ef)],fun _ _ h=>h,zE ⟨[],tv,tA,⟨congrArg (AB.row 5 1) e.symm,tv⟩,rfl,rfl,rfl⟩,congrArg (AV.ow 0) (by rw [Ao];omega),rfl⟩
theorem Ti (addr stamp:Int) (p:List UInt8) (f:UW addr stamp p):Fn Tryz.prog 136 [.ag [iv addr,iv stamp,bA p]] fun r=>r=bA (Bk addr stamp p):=by
 obtain⟨q1,q2,q3,q4,q5⟩:=f;have hp:=LK p (by omega);have a1:=EA (UInt8.ofNat p.length::p) addr 2 (by simp;omega) (by omega) (by decide);have a2:=EA ((UInt8.ofNat p.length::p) ++ leB 2 addr.toNat) stamp 4 (by simp [leB_len];omega) (by omega) (by decide);have a3:=Jz ((UInt8.ofNat p.length::p) ++ leB 2 addr.toNat ++ leB 4 stamp.toNat) (by simp [leB_len];omega);have a4:=Oj ((UInt8.ofNat p.length::p) ++ leB 2 addr.toNat ++ leB 4 stamp.toNat) (C3 ((UInt8.ofNat p.length::p) ++ leB 2 addr.toNat ++ leB 4 stamp.toNat)) 4 (by simp [leB_len];omega) (by unfold C3;omega) (by decide);have e:Bk addr stamp p=(((UInt8.ofNat p.length::p) ++ leB 2 addr.toNat) ++ leB 4 stamp.toNat) ++ leB 4 (C3 (((UInt8.ofNat p.length::p) ++ leB 2 addr.toNat) ++ leB 4 stamp.toNat)):=rfl;rw [e];refine zR Tryz.func136 rfl ?_;conv=>whnf
 apply z8 (0) tys_ok mixed (.o [0,1,3,4,6,7,2,5,8,9] .fin) [3,4,5,6,7,8,9,10,11,12] (by kernel_rfl)
 ·conv=>whnf
  (refine zW hp rfl ?_;rintro _ _ ⟨rfl,rfl⟩)
  conv=>whnf
  (refine zO a1.go ?_;(conv=>whnf);refine Ad (Ab _).symm ?_;(conv=>whnf);refine zV [bA (UInt8.ofNat p.length::p),iv addr,iv 2] ⟨F8 rfl rfl,ri,ri,tv⟩ ?_;refine zY a1 ?_)
  conv=>whnf
  refine zY a2 ?_;exact tA
 conv=>whnf
 conv=>whnf
 refine zV [bA (UInt8.ofNat p.length::p ++ leB 2 addr.toNat ++ leB 4 stamp.toNat)] ⟨ri,tv⟩ ?_;refine zY a3 ?_;conv=>whnf
 refine zY a4 ?_;exact⟨_,ri,rfl⟩
theorem Fs (addr stamp:Int) (p:List UInt8) (f:UW addr stamp p):Fn Tryz.prog 63 [iv addr,iv stamp,bA p] fun r=>r=bA (Bk addr stamp p):=by
 have h:=Ti addr stamp p f;refine zR Tryz.func63 rfl ?_;conv=>whnf
 refine zY h ?_;exact⟨_,ri,rfl⟩
def zero8:List UInt8:= [0,0,0,0,0,0,0,0]
def ent0:Ent:=⟨0,(C3 zero8:Nat),false⟩
def ES (g:Geo):List Ent:=List.replicate (g.d+1).toNat ent0
theorem MB (stamp:Int) (b:List UInt8) (hb:b.length<=1000000000):Fn Tryz.prog 135 [iv stamp,bA b] fun r=>r = .ag (Cf ⟨stamp,(C3 b:Nat),false⟩):=by
 refine zR Tryz.func135 rfl ?_;conv=>whnf
 repeat' (first | (refine zZ ?_;conv=>whnf) | (refine A5 (fun _=>?_) (fun _=>?_) <;> conv=>whnf) | (refine zY (So b hb) ?_;conv=>whnf) | (refine Ad (by first | omega | exact of_decide_eq_true rfl) ?_;conv=>whnf) | fail)
 exact⟨_,ri,rfl⟩
def bv (l:List Ent):Nat->AV
 | 0=> .v (.slice none 0 0)
 | k+1=>bA (CM (l.take (k+1)))
theorem Sd (l:List Ent) (hl:l.length<=1000) (hb:∀ e∈l,(0<=e.stamp/\e.stamp<=4294967295)/\0<=e.sum/\e.sum<=4294967295):Fn Tryz.prog 60 [.ag [Bm l]] fun r=>r=bA (CM l):=by
 refine zR Tryz.func60 rfl ?_;conv=>whnf
 refine zM Nat (fun k=>([(1, .bp 0 0),(3,bv l k),(4,iv k)], [.box 145 [Bm l]])) (fun k=>k<=l.length) (fun k=>l.length - k) 0 (Aj _) ⟨[],tv,tA,tA,rfl,rfl,rfl⟩ ?_;intro k hk;conv=>whnf
 refine A5 (fun c1=>?_) (fun c1=>?_) <;> (repeat rw [Aa] at c1) <;> conv=>whnf
 ·have he:=hb _ (A3 (d:=⟨0,0,false⟩) c1);refine zZ ?_;conv=>whnf
  refine⟨by first | omega | (refine⟨rfl,?_,?_⟩ <;> first | omega | (simp only [Ab];done) | (simp only [Ab];omega)) | (simp only [Ab];omega),?_⟩;conv=>whnf
  have j:(CM (l.take k)).length<=9000:=by rw [EQ,As];omega
  have p1:=EA (CM (l.take k)) (l.getD k ⟨0,0,false⟩).stamp 4 (by omega) he.1 (by decide);have p2:=EA (CM (l.take k) ++ leB 4 (l.getD k ⟨0,0,false⟩).stamp.toNat) (l.getD k ⟨0,0,false⟩).sum 4 (by rw [Ai,leB_len];omega) he.2 (by decide);have p3:=EA (CM (l.take k) ++ leB 4 (l.getD k ⟨0,0,false⟩).stamp.toNat ++ leB 4 (l.getD k ⟨0,0,false⟩).sum.toNat) (Dg (l.getD k ⟨0,0,false⟩).lost) 1 (by rw [Ai,Ai,leB_len,leB_len];omega) (by unfold Dg;split <;> omega) (by decide);have f:bv l (k+1)=bA (CM (l.take k) ++ leB 4 (l.getD k ⟨0,0,false⟩).stamp.toNat ++ leB 4 (l.getD k ⟨0,0,false⟩).sum.toNat ++ leB 1 (Dg (l.getD k ⟨0,0,false⟩).lost).toNat):=by
   rw [bv,Nb c1,Jb];rw [Ac,Ag c1];simp [rowB,A7]
  obtain⟨L,i⟩:∃ L,(l.getD k ⟨0,0,false⟩).lost=L:=⟨_,rfl⟩;rw [i] at p3 f;rcases k with _ | k
  all_goals
   refine zA tys_ok mixed [0,1,2,4,5,3,6,7] (by kernel_rfl) ?_;conv=>whnf
   refine zV _ ?_ (zH (p1) rfl ?_)
   ·repeat' (first | exact trivial | exact fun _ _ h=>h | exact Bg _ _ | refine Ad ?_ ?_ | refine Bf ?_)
   rintro _ rfl;conv=>whnf
   refine zV _ ?_ (zH (p2) rfl ?_)
   ·repeat' (first | exact trivial | exact fun _ _ h=>h | exact Bg _ _ | refine Ad ?_ ?_ | refine Bf ?_)
   rintro _ rfl;conv=>whnf
   refine zZ ?_;conv=>whnf
   rw [Aa,i];cases L
  all_goals
   conv=>whnf
   refine zY p3 ?_;refine⟨_,by omega,by omega, [],tv,⟨rfl,f.symm,AG (by omega),tv⟩,tA,rfl,rfl,rfl⟩
 ·have ek:k=l.length:=by omega
  rcases k with _ | k
  ·have e:l=[]:=AT.1 ek.symm;subst e;exact⟨bA (CM []),Bg 1 _,rfl⟩
  ·conv=>whnf
   exact⟨_,ri,by rw [ek,Aw];try rfl⟩
theorem Xw (g:Geo) (hg:Bq g=true):Fn Tryz.prog 61 [.ag (AK g)] fun r=>r = .ag [Bm (ES g)]:=by
 obtain⟨h1,h2,h3,h4,h5⟩:=Aq.1 hg;refine zR Tryz.func61 rfl ?_;conv=>whnf
 have w1:IntKind.i64.wrap (g.d+1)=g.d+1:=by rw [IntKind.wrap_i64];omega
 refine zM Nat (fun k=>([(1, .bp 0 0),(2, .bp 1 0),(3, .bp 2 0),(4,iv k)], [.box 24 (AK g), .box 145 [.v (.slice none 0 0)], .box 145 [.ow 3 k], .row 189 3 ((List.replicate k ent0).map Cf)])) (fun k=>(k:Int)<=g.d+1) (fun k=>(g.d+1 - k).toNat) 0 (show (0:Int)<=g.d+1 by omega) ⟨[(1002000,189,3)],tA,tA,tA,rfl,rfl,rfl⟩ ?_;intro k hk;conv=>whnf
 refine A5 (fun c1=>?_) (fun c1=>?_) <;> (repeat rw [Aa] at c1) <;> conv=>whnf
 ·refine zA tys_ok mixed [0,1,2,3,4,5,6,7] (by kernel_rfl) ?_;conv=>whnf
  repeat' (refine Ad (by first | omega | exact of_decide_eq_true rfl) ?_;conv=>whnf)
  have e0:=MB 0 zero8 (by decide);refine zO (e0).go ?_;conv=>whnf
  repeat' (refine Ad (by first | rfl | omega | (simp;done) | (simp only [Ab];omega)) ?_;conv=>whnf)
  refine zV _ ?_ (zH (e0) rfl ?_)
  ·repeat' (first | exact trivial | exact fun _ _ h=>h | exact Bg _ _ | exact UM zero8 rfl rfl | refine Ad ?_ ?_ | refine Bf ?_)
  rintro _ rfl;conv=>whnf
  repeat' (first | (refine Ad (by first | rfl | omega) ?_;conv=>whnf) | fail)
  refine⟨⟨by rw [Ab,BJ],by omega⟩,?_⟩;conv=>whnf
  exact⟨k+1,by omega,by omega, [],tv,⟨rfl,rfl,rfl,AG (by omega),tv⟩,⟨rfl,rfl,rfl,by rw [List.replicate_succ',A8];try rfl,tv⟩,rfl,rfl,rfl⟩
 ·refine⟨(by rw [Ab,BJ]),?_⟩;conv=>whnf
  have ek:k=(g.d+1).toNat:=by omega
  refine⟨.ag [Bm (ES g)],Bf ⟨AU (ES g) ?_ ?_,tv⟩,rfl⟩
  ·rw [ES,BJ,ek]
  ·rw [ES,ek]
theorem Jt (addr stamp:Int) (p:List UInt8) (f:UW addr stamp p):Fn Tryz.prog 107 [.ag [iv addr,iv stamp,bA p]] fun r=>r = .tp [bA (Bk addr stamp p),iv 0]:=by
 refine⟨⟨_,Tryz.func107,rfl,by decide⟩,fun c0 us hd hM _ hr=>?_⟩;obtain⟨u,rfl,h⟩:=ab hr;simp only [Rd,RdL] at h;obtain⟨xs,rfl,a,_,rfl,rfl,b,_,rfl,rfl,d,_,rfl,h3,rfl⟩:=h;refine(Wa addr stamp d p c0.w c0.M (Ir (by simpa only [Rd,bA] using h3)) f).mono ?_;rintro e w' ⟨q,rfl,ho,hB⟩;exact⟨_,_,rfl,rfl,hB,O1 (VU ho hM) (P3 _)⟩
theorem P4 (g:Geo) (x:Rc) (copy slot:Int) (hl:x.img.bytes.length<=100000):Fn Tryz.prog 103 [.ag (AK g), .ag (J3 x),iv copy,iv slot] fun r=>r = .tp [bA (if Gm g x&&KN g copy slot then BF g x copy slot else []), .v (F1 (Gm g x&&KN g copy slot))]:=by
 have hb:=T4 g x hl;have hL:=Rz g copy slot;have no:∀ (c:Ctx) (v:Value),Rd (.tp [.v (.slice none 0 0),iv 1]) c v->Rd (.tp [bA [],iv 1]) c v:=fun c v h=>by
  simp only [Rd,RdL] at h |-
  obtain⟨xs,rfl,y,ys,rfl,rfl,h⟩:=h;exact⟨_,rfl,_,_,rfl,Bg 1 (fun i=> [.v (.int .u8 (([]:List UInt8).getD i 0).toNat)]) c (.slice none 0 0) (by simp [Rd]),h⟩
 cases f:Gm g x with
 | false=>
  rw [f] at hb;refine zR Tryz.func103 rfl ?_;conv=>whnf
  refine zY hb ?_;exact⟨_,no,rfl⟩
 | true=>
  have hg:Bq g=true:=by simp only [Gm,Af] at f;exact f.1
  rw [f] at hb;rw [hg] at hL;cases j:KN g copy slot with
  | false=>
   rw [j] at hL;refine zR Tryz.func103 rfl ?_;conv=>whnf
   refine zY hb ?_;conv=>whnf
   refine zY hL ?_;exact⟨_,no,rfl⟩
  | true=>
   rw [j] at hL;have h1:=Fd hg j;have h2:=JA f;have h3:=Er f;have hm:=Jt (Bi g copy slot) x.seq (Ex x) ⟨h1.1,h1.2,h2.1,h2.2,by omega⟩;refine zR Tryz.func103 rfl ?_;conv=>whnf
   refine zY hb ?_;conv=>whnf
   refine zY hL ?_;conv=>whnf
   refine zY hm ?_;exact⟨_,ri,rfl⟩
theorem Iy (x:Rc):rowB (C9 x) szR=leB 1 x.kind.toNat ++ (leB 4 x.seq.toNat ++ (leB 4 x.epoch.toNat ++ (leB 1 x.at_.toNat ++ leB 1 x.of_.toNat))):=by
 simp [rowB,C9,szR]
theorem OO {L:List UInt8} {n:Nat} {es:List (List AV)} (hn:n=L.length) (he:es=L.map Ef) (c:Ctx) (v:Value) (h:Rd (.sl 1 n fun i=>es.getD i []) c v):Rd (bA L) c v:=by
 subst he;exact zB hn (fun i hi=>AY (f:=Ef) (l:=L) (d:=0) (hn ▸ hi)) h
theorem Tk (g:Geo) (x:Rc) (j:Gm g x=true):Fn Tryz.prog 133 [.ag (J3 x)] fun r=>r=bA (Ex x):=by
 obtain⟨K,S,E,A,O,k1,k2,k3,k4,k5,hS,hE⟩:=XP j;have p1:=Oj (leB 1 K) S 4 (by rw [leB_len];decide) hS (by decide);have p2:=HU (leB 1 K ++ leB 4 S) (E:Nat) 4 (by simp [leB_len]) (by omega) (by decide);have eK : [[AV.v (.int .u8 (IntKind.u8.wrap x.kind))]]=(leB 1 K).map Ef:=by
  rw [k1];show _=[[AV.v (.int .u8 ((UInt8.ofNat (K % 256)).toNat:Nat))]];rw [B8 (show K % 256<256 by omega),IntKind.wrap_u8];try rfl
 refine zR Tryz.func133 rfl ?_;conv=>whnf
 apply zX (0) tys_ok mixed (.o [0,1,2,4,5,7,8,3,6,9,10] .fin) (by kernel_rfl);conv=>whnf
 (refine zO p1.go ?_;(conv=>whnf);refine Ad rfl ?_;(conv=>whnf);refine zV [bA (leB 1 K),iv S,iv 4] ⟨OO rfl eK,by rw [k2];exact fun _ _ h=>h,ri,tv⟩ ?_;refine zY p1 ?_)
 conv=>whnf
 (rw [k3];refine zW p2 rfl ?_;rintro _ _ ⟨rfl,rfl⟩)
 refine⟨rfl,?_⟩;refine⟨⟨by simp,by simp [leB_len]⟩,?_⟩;have eR:List.map Ef (leB 1 K ++ leB 4 S ++ leB 4 ((E:Nat):Int).toNat) ++ [[AV.v (.int .u8 (IntKind.u8.wrap x.at_))], [AV.v (.int .u8 (IntKind.u8.wrap x.of_))]]=(rowB (C9 x) szR).map Ef:=by
  rw [Iy,k1,k2,k3,k4,k5];have e8:∀ n:Nat, [[AV.v (.int .u8 (IntKind.u8.wrap (n:Int)))]]=(leB 1 n).map Ef:=fun n=>by
   show _=[[AV.v (.int .u8 ((UInt8.ofNat (n % 256)).toNat:Nat))]];rw [B8 (show n % 256<256 by omega),IntKind.wrap_u8];try rfl
  simp only [A8,<-e8,Aa,A7];rfl
 rw [eR];conv=>whnf
 by_cases hk:x.kind=1
 ·rw [show (x.kind != 1)=false by simpa using hk];conv=>whnf
  repeat' (refine zZ ?_;conv=>whnf)
  obtain⟨Z,W,z1,z2,z3,z4⟩:=XQ j hk;have f:=LK x.img.bytes z4;have i:(rowB (C9 x) szR).length=11:=by rw [Iy];simp [leB_len]
  have hA:(leB 1 K ++ leB 4 S ++ leB 4 ((E:Nat):Int).toNat).length+2=(List.map Ef (rowB (C9 x) szR)).length:=by rw [Ab,i];simp [leB_len]
  have J:(leB 1 K ++ leB 4 S ++ leB 4 ((E:Nat):Int).toNat).length+2+2<=1000000000:=by simp [leB_len]
  have e8:∀ n:Nat, [[AV.v (.int .u8 (IntKind.u8.wrap (n:Int)))]]=(leB 1 n).map Ef:=fun n=>by
   show _=[[AV.v (.int .u8 ((UInt8.ofNat (n % 256)).toNat:Nat))]];rw [B8 (show n % 256<256 by omega),IntKind.wrap_u8];try rfl
  obtain⟨Q,hQ⟩:∃ Q,Q=rowB (C9 x) szR ++ (leB 1 Z ++ leB 1 W):=⟨_,rfl⟩;have hB:Ex x=Q ++ (UInt8.ofNat x.img.bytes.length::x.img.bytes):=by
   unfold Ex;rw [if_pos hk,hQ,A7];unfold IX;rw [z1,z2];simp [rowB]
  have eQ:List.map Ef (rowB (C9 x) szR) ++ [[AV.v (.int .u8 (IntKind.u8.wrap (Z:Int)))], [AV.v (.int .u8 (IntKind.u8.wrap (W:Int)))]]=Q.map Ef:=by
   rw [hQ,A8,A8,<-e8,<-e8];try rfl
  have z:Q.length=13:=by rw [hQ];simp [leB_len,i]
  have hP:(UInt8.ofNat x.img.bytes.length::x.img.bytes).length=(List.map Ef (UInt8.ofNat x.img.bytes.length::x.img.bytes)).length:=(Ab _).symm;have I:(UInt8.ofNat x.img.bytes.length::x.img.bytes).length<=256:=by rw [Ao];omega
  have u:(leB 1 K ++ leB 4 S ++ leB 4 ((E:Nat):Int).toNat).length+2+2=(List.map Ef Q).length:=by rw [Ab,z];simp [leB_len]
  have G:(leB 1 K ++ leB 4 S ++ leB 4 ((E:Nat):Int).toNat).length=9:=by simp [leB_len]
  have F:(leB 1 K ++ leB 4 S ++ leB 4 ((E:Nat):Int).toNat).length+2+2+(UInt8.ofNat x.img.bytes.length::x.img.bytes).length=(List.map Ef Q ++ List.map Ef (UInt8.ofNat x.img.bytes.length::x.img.bytes)).length:=by rw [u,hP];exact List.length_append.symm
  have C:(leB 1 K ++ leB 4 S ++ leB 4 ((E:Nat):Int).toNat).length+2+2+(UInt8.ofNat x.img.bytes.length::x.img.bytes).length=(Q ++ (UInt8.ofNat x.img.bytes.length::x.img.bytes)).length:=by rw [u,Ab];exact List.length_append.symm
  by_cases hw:x.img.what = -1;rw [show (x.img.what == -1)=true by simpa using hw];conv=>whnf
  have hW:(254:Int)=(W:Int):=by rw [<-z2,hw];try rfl
  rotate_left 1;rw [show (x.img.what == -1)=false by simpa using hw];conv=>whnf
  have hW:x.img.what=(W:Int):=by rw [<-z2];unfold D1;rw [if_neg hw]
  all_goals
   apply zX (2048) tys_ok mixed (.o [0,1,2,3,4,5,6,9,10] (.two 7 (.two 8 (.o [11,12,13,14] .fin) 11 (.o [8,12,13,14] .fin)) 11 (.o [7,8,12,13,14] .fin))) (by kernel_rfl);refine Ad ?_ ?_;refine Ad ?_ ?_;conv=>whnf
   try (refine tJ ?_;conv=>whnf)
   try (refine tK ?_;conv=>whnf)
   (rw [z1,hW,eQ];refine zW f rfl ?_;rintro _ _ ⟨rfl,rfl⟩)
   conv=>whnf
   try (refine tJ ?_;conv=>whnf)
   try (refine tK ?_;conv=>whnf)
   rotate_left 1;conv=>whnf
   try (refine tJ ?_;conv=>whnf)
   try (refine tK ?_;conv=>whnf)
   (rw [z1,hW,eQ];refine zW f rfl ?_;rintro _ _ ⟨rfl,rfl⟩)
   conv=>whnf
   try (refine tJ ?_;conv=>whnf)
   try (refine tK ?_;conv=>whnf)
   rotate_left 1;conv=>whnf
   try (refine tJ ?_;conv=>whnf)
   try (refine tK ?_;conv=>whnf)
   (rw [z1,hW,eQ];refine zW f rfl ?_;rintro _ _ ⟨rfl,rfl⟩)
   conv=>whnf
   try (refine tJ ?_;conv=>whnf)
   try (refine tK ?_;conv=>whnf)
   rotate_left 1;all_goals
    refine⟨F,?_⟩;conv=>whnf
    rw [hB];exact⟨bA _,OO C List.map_append.symm,rfl⟩
 ·rw [show (x.kind != 1)=true by simpa using hk];conv=>whnf
  have hB:Ex x=rowB (C9 x) szR:=by unfold Ex;rw [if_neg hk,AR]
  rw [hB];refine Ad (by rw [Ab,Iy];simp [leB_len]) ?_;conv=>whnf
  exact⟨bA _,OO (by rw [Iy];simp [leB_len]) rfl,rfl⟩
theorem Ha (g:Geo) (x:Rc) (copy slot:Int) (f:Gm g x=true) (hl:KN g copy slot=true):Fn Tryz.prog 58 [.ag (AK g), .ag (J3 x),iv copy,iv slot] fun r=>r=bA (BF g x copy slot):=by
 have hg:Bq g=true:=by unfold Gm at f;simp only [Af] at f;exact f.1
 have hb:=Fd hg hl;have hs:=JA f;have hn:=Er f;have h1:=EM g copy slot hg hl;have h2:=Tk g x f;have h3:=Fs (Bi g copy slot) x.seq (Ex x) ⟨hb.1,by omega,hs.1,hs.2,by omega⟩;refine zR Tryz.func58 rfl ?_;conv=>whnf
 apply z8 (0) tys_ok mixed (.o [0,1,2,4,5,6,3,7,8,9] .fin) [8,9,10,11,12,13,14,15,16,17] (by kernel_rfl)
 ·conv=>whnf
  refine zY h1 ?_;conv=>whnf
  refine zY h2 ?_;conv=>whnf
  refine zY h3 ?_;exact tA
 exact⟨_,ri,rfl⟩
theorem Zi (f:Int) (c:Ctx) (u:Value) (h:Rd (.tp [.ag [iv 0,iv 0,iv 0,iv 0,iv 0,iv 0,iv 0, .v (.slice none 0 0)], .v (.slice none 0 0),iv f]) c u):Rd (.tp [.ag (J3 zeroC),iA [],iv f]) c u:=by
 refine BN ?_ c u h;exact⟨Bf ⟨ri,ri,ri,ri,ri,ri,ri,Bg _ _,tv⟩,Bg _ _,ri,tv⟩
end
end Go.Proofs.YtpjkcgacjjbikaaGreatDoor.A
namespace Go.Proofs.YtpjkcgacjjbikaaGreatDoor
section

theorem L7 {l m:List UInt8} {n:Nat} (h:l.length=n):(l ++ m).take n=l:=by subst h;simp
theorem ME {l m:List UInt8} {n:Nat} (h:l.length=n):(l ++ m).drop n=m:=by subst h;simp
theorem G_ (a s:Int) (p:List UInt8):(E9 a s p).length=p.length+7:=by
 simp only [E9,Ai,Ao,leB_len]
theorem DR (a s:Int) (p:List UInt8):(Bk a s p).length=p.length+11:=by
 simp only [Bk,Ai,G_,leB_len]
theorem GD {a s:Int} {p:List UInt8} (h:UW a s p):Df (Bk a s p)=0/\Cx (Bk a s p)=a/\Cr (Bk a s p)=s/\CE (Bk a s p)=p:=by
 obtain⟨h1,h2,h3,h4,h5⟩:=h;have hl:=DR a s p;have hs:=Is (E9 a s p);have e1:Bk a s p=E9 a s p ++ leB 4 (C3 (E9 a s p)):=rfl;have e2:Bk a s p=(UInt8.ofNat p.length::p) ++ (leB 2 a.toNat ++ (leB 4 s.toNat ++ leB 4 (C3 (E9 a s p)))):=by rw [e1];simp only [E9,A7]
 have e3:Bk a s p=((UInt8.ofNat p.length::p) ++ leB 2 a.toNat) ++ (leB 4 s.toNat ++ leB 4 (C3 (E9 a s p))):=by rw [e2,A7]
 have f:De (Bk a s p)=p.length:=by
  rw [e2];show (UInt8.ofNat p.length).toNat=p.length;rw [B8];exact Nat.lt_of_le_of_lt h5 (by decide)
 refine⟨?_,?_,?_,?_⟩
 ·unfold Df;rw [if_neg (by omega),if_neg,if_pos]
  ·refine⟨?_,by omega⟩;simp only [F_,decide_eq_true_eq];omega
  ·rw [hl,show p.length+11 - 4=p.length+7 by omega,e1,ME (G_ a s p),L7 (G_ a s p),leN_leB _ _ (by have:(256:Nat) ^ 4=4294967296:=rfl;omega)];simp
 ·unfold Cx;rw [hl,show p.length+11 - 10=p.length+1 by omega,e2,ME (by simp),L7 (leB_len 2 _),leN_leB _ _ (by have:(256:Nat) ^ 2=65536:=rfl;omega)];omega
 ·unfold Cr;rw [hl,show p.length+11 - 8=p.length+3 by omega,e3,ME (by simp [leB_len]),L7 (leB_len 4 _),leN_leB _ _ (by have:(256:Nat) ^ 4=4294967296:=rfl;omega)];omega
 ·unfold CE;rw [hl,show p.length+11 - 11=p.length by omega,e2];simp
end
end Go.Proofs.YtpjkcgacjjbikaaGreatDoor
namespace Go.Proofs.YtpjkcgacjjbikaaGreatDoor.A
section
open Go.RowKit
def IR (x:Int) (n:Int):Int:=IntKind.i64.wrap ((IntKind.u64.wrap x).tmod n)
theorem Fb {x n:Int} (h:0<n) (h2:n<=4611686018427387904):0<=IR x n/\IR x n<n:=by
 have h0:0<=IntKind.u64.wrap x:=by rw [IntKind.wrap_u64];omega
 have h1:=Bw n h0;have h3:=AZ (IntKind.u64.wrap x) h;unfold IR;rw [wi (by omega)];exact⟨h1,h3⟩
def Js (z d sp sl an:Int):Geo:=⟨1+IR z 4,1+IR d 4,IR sp 3,14+IR sl 17,1+IR an 3⟩
theorem Pi (z d sp sl an:Int):Bq (Js z d sp sl an)=true:=by
 have h1:=Fb (x:=z) (n:=4) (by decide) (by decide);have h2:=Fb (x:=d) (n:=4) (by decide) (by decide);have h3:=Fb (x:=sp) (n:=3) (by decide) (by decide);have h4:=Fb (x:=sl) (n:=17) (by decide) (by decide);have h5:=Fb (x:=an) (n:=3) (by decide) (by decide);refine Aq.2 ?_;simp only [Js];omega
theorem Sf (z d sp sl an:Int):Fn Tryz.prog 10 [iv z,iv d,iv sp,iv sl,iv an] fun r=>r = .ag (AK (Js z d sp sl an)):=by
 have h1:=Fb (x:=z) (n:=4) (by decide) (by decide);have h2:=Fb (x:=d) (n:=4) (by decide) (by decide);have h4:=Fb (x:=sl) (n:=17) (by decide) (by decide);have h5:=Fb (x:=an) (n:=3) (by decide) (by decide);refine zR Tryz.func10 rfl ?_;conv=>whnf
 repeat' (refine Ad (by decide) ?_;conv=>whnf)
 refine⟨_,fun _ _ h=>h,?_⟩;simp only [AK,Js];rw [<-wi (n:=1+IR z 4) (by omega),<-wi (n:=1+IR d 4) (by omega),<-wi (n:=14+IR sl 17) (by omega),<-wi (n:=1+IR an 3) (by omega)];try rfl
def Cc (g:Geo) (s:ByteArray):An:=⟨1,0,0,1,0,s,List.replicate g.z.toNat ⟨(List.range (g.d+1).toNat).map Int.ofNat,g.d+1,0⟩⟩
def Hg (n:Nat):List (List AV):=(List.range n).map fun i=> [iv (i:Nat)]
theorem KI (n:Nat):Hg (n+1)=Hg n ++ [[iv (n:Nat)]]:=by simp [Hg,Bp]
theorem Ro {n i:Nat} (h:i<n):(Hg n).getD i []=[iv (i:Nat)]:=EI h
def N5 (g:Geo):List AV:= [.sl 1 (g.d+1).toNat fun i=>(Hg (g.d+1).toNat).getD i [],iv (g.d+1),iv 0]
theorem Uh (g:Geo):SubL (N5 g) (DL ⟨(List.range (g.d+1).toNat).map Int.ofNat,g.d+1,0⟩):=
 ⟨fun _ _ h=>zB (by simp) (fun i hi=>by rw [Ro hi,EI hi];try rfl) h,fun _ _ h=>h,fun _ _ h=>h,tv⟩
theorem W7 (g:Geo) (s:ByteArray) (hg:Bq g=true):Fn Tryz.prog 56 [.ag (AK g), .v (.string s)] fun r=>r = .ag (Ek (Cc g s)):=by
 obtain⟨h1,h2,h3,h4,h5⟩:=Aq.1 hg;have w1:IntKind.i64.wrap (g.d+1)=g.d+1:=wi (by omega);refine zR Tryz.func56 rfl ?_;conv=>whnf
 refine zM Nat (fun k=>([(2, .bp 0 0),(4, .bp 1 0),(5, .bp 2 0),(6,iv k)], [.box 24 (AK g), .box 28 [iv 0,iv 0,iv 0,iv 0,iv 0, .v (.string ⟨#[]⟩), .v (.slice none 0 0)], .box 28 [iv 1,iv 0,iv 0,iv 1,iv 0, .v (.string s), .ow 3 k], .row 108 3 (List.replicate k (N5 g))])) (fun k=>k<=g.z.toNat) (fun k=>g.z.toNat - k) 0 (Aj _) ⟨[(1002006,108,3)],tA,tA,tA,rfl,rfl,rfl⟩ ?_;intro k hk;conv=>whnf
 refine A5 (fun t1=>?_) (fun t1=>?_) <;> (repeat rw [Aa] at t1) <;> conv=>whnf
 ·refine zM Nat (fun j=>([(2, .bp 0 0),(4, .bp 1 0),(5, .bp 2 0),(6,iv k),(7, .bp 4 0),(8,iv j)], [.box 24 (AK g), .box 28 [iv 0,iv 0,iv 0,iv 0,iv 0, .v (.string ⟨#[]⟩), .v (.slice none 0 0)], .box 28 [iv 1,iv 0,iv 0,iv 1,iv 0, .v (.string s), .ow 3 k], .row 108 3 (List.replicate k (N5 g)), .box 108 [.ow 5 j,iv (g.d+1),iv 0], .row 3 1 (Hg j)])) (fun j=>j<=(g.d+1).toNat) (fun j=>(g.d+1).toNat - j) 0 (Aj _) ⟨[(1004000,3,1)],tA,tA,⟨rfl,rfl,rfl,rfl,by rw [w1];try rfl,rfl,tv⟩,rfl,rfl,rfl⟩ ?_;intro j hj;conv=>whnf
  refine A5 (fun t2=>?_) (fun t2=>?_) <;> (repeat rw [Aa] at t2) <;> conv=>whnf
  ·refine⟨rfl,?_⟩;refine⟨⟨by simp [Hg],by omega⟩,?_⟩;exact⟨j+1,by omega,by omega,(Wk.plain (by repeat' first | exact trivial | exact rfl | refine Ad ?_ ?_ | exact AG (by omega) | exact congrArg (AB.row _ _) (KI j)) (by repeat' first | exact trivial | exact rfl | refine Ad ?_ ?_ | exact AG (by omega) | exact congrArg (AB.row _ _) (KI j)) rfl rfl rfl)⟩
  ·have ej:j=(g.d+1).toNat:=by omega
   refine⟨(by simp [Hg]),?_⟩;refine⟨rfl,?_⟩;refine⟨⟨by simp,by omega⟩,?_⟩;conv=>whnf
   have er:AB.row 108 3 (List.replicate (k+1) (N5 g)) = .row 108 3 (List.replicate k (N5 g) ++ [[AV.sl 1 j fun i=>(Hg j).getD i [],iv (g.d+1),iv 0]]):=by
    rw [List.replicate_succ',N5,<-ej]
   exact⟨k+1,by omega,by omega,(Wk.plain (by repeat' first | exact trivial | exact rfl | refine Ad ?_ ?_ | exact AG (by omega) | exact er) (by repeat' first | exact trivial | exact rfl | refine Ad ?_ ?_ | exact AG (by omega) | exact er) rfl rfl rfl)⟩
 ·refine⟨by simp,?_⟩;conv=>whnf
  have ek:k=g.z.toNat:=by omega
  refine⟨.ag (Ek (Cc g s)),fun c u h=>?_,rfl⟩;refine Bf ?_ c u h;refine⟨fun _ _ h=>h,fun _ _ h=>h,fun _ _ h=>h,fun _ _ h=>h,fun _ _ h=>h,fun _ _ h=>h,fun c u h=>Rd.sub (by simp [Cc,ek]) (fun i hi=>?_) h,tv⟩;rw [Cc,Ac,Ac,C_ hi,C_ (by omega)];exact Uh g
theorem Te {g:Geo} {r:Rc} {copy slot:Int} (hg:Bq g=true) (f:Gm g r=true) (hl:KN g copy slot=true):GF g ⟨0,BF g r copy slot⟩ copy slot=some r:=by
 have hb:=Fd hg hl;have hs:=JA f;have hn:=Er f;obtain⟨h1,h2,h3,h4⟩:=GD (a:=Bi g copy slot) (s:=r.seq) (p:=Ex r) ⟨hb.1,hb.2,hs.1,hs.2,by omega⟩;unfold GF;rw [hg,hl];simp only [BF,h1,h2,h3,h4,Ri f];rfl
theorem lab_nil:EO []=0:=by rw [<-Nz,IW];simp
theorem Kv {g:Geo} {s:ByteArray} (hg:Bq g=true) (hs:EO s.data.toList=0):Bj g (Cc g s)=true:=by
 obtain⟨h1,h2,h3,h4,h5⟩:=Aq.1 hg;have hp:P7 ((List.range (g.d+1).toNat).map Int.ofNat) (g.d+1)=true:=by
  rcases(show g.d=1\/g.d=2\/g.d=3\/g.d=4 by omega) with h | h | h | h <;> rw [h] <;> decide
 have hh:Ed g ⟨(List.range (g.d+1).toNat).map Int.ofNat,g.d+1,0⟩=true:=by
  simp [Ed,hp,CQ];omega
 simp [Bj,Cc,hs,CQ];exact⟨by omega,by omega, .inr hh⟩
theorem RK (b:List UInt8) (h:b.length<=100000000000):Fn Tryz.prog 17 [bA b,bA b] fun x=>x = .v (.bool true):=by
 have:=Qv b b h;rw [decide_eq_true rfl] at this;exact this


end
end Go.Proofs.YtpjkcgacjjbikaaGreatDoor.A
namespace Go.Proofs.YtpjkcgacjjbikaaGreatDoor
section
open Go.ChangeShapes Go.WideShapes Go.ChangeAt Go.RowKit Go.Deep
variable {H:Type} {enc:TypeId × Value->H}

theorem Tb {w:World} {a:Addr} {u:Value} (h:w.cell? a=some u):a.spot=none:=by
 unfold World.cell? at h;split at h
 ·split at h
  ·cases h
  ·rename_i hn;cases hs:a.spot with
   | none=>rfl
   | some x=>rw [hs] at hn;exact absurd rfl hn
 ·cases h

theorem ZX {k:Int} (h:(Lit.int .u8 k).wf=true):∃ x:UInt8,k=x.toNat:=by
 have h2:0<=k/\k<256:=by
  simp only [Lit.wf,Af,decide_eq_true_eq] at h;have e1:IntKind.u8.min=0:=by decide
  have e2:IntKind.u8.max=255:=by decide
  omega
 obtain⟨j,rfl⟩:=Int.eq_ofNat_of_zero_le h2.1;exact⟨UInt8.ofNat j,by rw [B8 (show j<256 by omega)]⟩
instance:Rp Geo where
 sz:=5
 agg:=true
 pos:=by omega
 E:=fun _ _ cs g=>cs=[.int .i64 g.z, .int .i64 g.d, .int .i64 g.sp, .int .i64 g.sl, .int .i64 g.an]
 len:=fun h=>by rw [h];try rfl
 one:=fun h u hu=>by rw [h] at hu;simp at hu;rcases hu with rfl | rfl | rfl | rfl | rfl <;> rfl
 mono:=fun _ h=>h
end
end Go.Proofs.YtpjkcgacjjbikaaGreatDoor
namespace Go.Proofs.YtpjkcgacjjbikaaGreatDoor.A
section
open Go.RowKit
def Ld (w:World):Ctx:={ w:=w,M:=noM,base:=w.heap.size,dom:=0,len:=fun _=>0,rho:=fun _=>undef }
theorem Fn.any {P:Program} {f:FuncId} {args:List AV} {a:AV} (h:Fn P f args fun r=>r=a) (w:World) (hg:globOk w) (us:List Value) (hr:RdL args (Ld w) us) :
  Calls P f us.toArray w fun e w'=>∃ v,e = .returned v/\Below w.heap.size w w'/\Rd a { Ld w with w:=w' } v:=by
 refine(h.calls (Ld w) us rfl (fun _ h=>h.elim) hg hr).mono ?_;rintro e w' ⟨v,r,rfl,rfl,h1,h2⟩;exact⟨v,rfl,h1,h2⟩
theorem Fn.anyV {P:Program} {f:FuncId} {args:List AV} {a:Value} (h:Fn P f args fun r=>r = .v a) (w:World) (hg:globOk w) (us:List Value) (hr:RdL args (Ld w) us) :
  Calls P f us.toArray w fun e w'=>e = .returned a/\Below w.heap.size w w':=by
 refine(h.any w hg us hr).mono ?_;rintro e w' ⟨v,rfl,h1,h2⟩;simp only [Rd] at h2;exact⟨by rw [h2],h1⟩
end
section
open Go.RowKit Go.ChangeShapes Go.WideShapes Go.ChangeAt Go.Deep
open Go.ChangeMaps (open_string)

section
variable {H:Type} {enc:TypeId × Value->H} {w:World}
def OpenE (enc:TypeId × Value->H) (w:World) (t:TypeId) (sz:Nat) (G:List AV->Prop):Prop:=
 Tryz.prog.cellsOf t=sz/\∀ n cs x,DataW.trod enc Tryz.prog w 0 (fun _=>true) true n t cs=some x->∃ L,G L/\RdL L (Ld w) cs/\(∀ u∈cs,u.oneCell'=true)/\L.length=sz
theorem OpenE.mono {t sz:Nat} {G G':List AV->Prop} (h:OpenE enc w t sz G) (hg:∀ L,G L->G' L):OpenE enc w t sz G':=
 ⟨h.1,fun n cs x hx=>let ⟨L,h1,h2⟩:=h.2 n cs x hx;⟨L,hg L h1,h2⟩⟩
def br (L:List AV):Prop:=∃ k:UInt8,L=[.v (.int .u8 k.toNat)]
theorem af {t:Nat} (ht:Tryz.prog.underlying t=some (.int .u8)) (hc:Tryz.prog.cellsOf t=1):OpenE enc w t 1 br:=⟨hc,fun n cs x h=>by
 obtain⟨k,rfl, -,hw⟩:=DataW.trod_int ht h;obtain⟨y,rfl⟩:=ZX hw;exact⟨_,⟨y,rfl⟩,by simp only [RdL,Rd];exact⟨_,_,rfl,rfl,rfl⟩,by simp [Value.oneCell'],rfl⟩⟩
def bu {α:Type} (sz:Nat) (f:α->List AV) (d:α) (L:List AV):Prop:=∃ l:List α,L=[.sl sz l.length fun i=>f (l.getD i d)]
theorem ah {α:Type} {t e sz:Nat} {f:α->List AV} {d:α} (ht:Tryz.prog.underlying t=some (.slice e)) (hc:Tryz.prog.cellsOf t=1) (X:0<sz) (he:OpenE enc w e sz fun L=>∃ a,L=f a):OpenE enc w t 1 (bu sz f d):=⟨hc,fun n cs x h=>by
 have N:∀ (u:Value),Rd (.v (.slice none 0 0)) (Ld w) u->Rd (.sl sz ([]:List α).length fun i=>f (([]:List α).getD i d)) (Ld w) u:=fun u h=>by
  simp only [Rd] at h |-
  exact⟨none,0,h,by simp,by simp [maxLen], .inl rfl⟩
 rcases open_slice ht h with ⟨rfl, -⟩ | ⟨a,len,cap,m,n',D,Pl,rfl, -,Z,K,hm, -,F⟩
 ·exact⟨_,⟨[],rfl⟩,by simp only [RdL];exact⟨_,_,rfl,N _ (by simp [Rd]),rfl⟩,by simp [Value.oneCell'],rfl⟩
 ·simp only [if_true] at hm;subst hm;obtain⟨b,off,spot⟩:=a;by_cases h0:len=0
  ·subst h0;refine⟨_,⟨[],rfl⟩,?_,by simp [Value.oneCell'],rfl⟩;simp only [RdL,Rd];exact⟨_,_,rfl,⟨_,m,rfl,by simp,K, .inl rfl⟩,rfl⟩
  ·have U:spot=none:=by
    obtain⟨cs',G,C⟩:=F 0 (by omega);obtain⟨L,⟨a,rfl⟩,hR,h1,hl⟩:=he.2 n' cs' _ C;obtain⟨-,J,z⟩:=World.cells?_some G;have O:=hR.length;have:=z 0 (by rw [he.1];omega);rw [Ag (by omega)] at this;simp only [Addr.add,Nat.zero_mul,if_true] at this;exact Tb this
   subst U;have key:∀ i,i<len->∃ cs,∃ a:α,RdL (f a) (Ld w) cs/\(∀ u∈cs,u.oneCell'=true)/\(f a).length=sz/\∀ j u,cs[j]? = some u->w.cell? ⟨b,off+(i*sz+j),none⟩=some u:=fun i hi=>by
    obtain⟨cs',G,C⟩:=F i (by omega);obtain⟨L,⟨a,rfl⟩,hR,h1,hl⟩:=he.2 n' cs' _ C;refine⟨cs',a,hR,h1,hl,fun j u hu=>?_⟩;obtain⟨-,J,z⟩:=World.cells?_some G;have hj:j<Tryz.prog.cellsOf e:=by rw [<-J];exact(At.1 hu).1
    have h3:=(z j hj).trans hu;rw [he.1,Addr.add_lit,Addr.add_lit,CV] at h3;exact h3
   have W:∀ k,k<=len->∃ l:List α,l.length=k/\∀ i,i<k->(f (l.getD i d)).length=sz/\RdAt (f (l.getD i d)) (Ld w) b (off+i*sz):=by
    intro k;induction k with
    | zero=>exact fun _=>⟨[],rfl,fun i hi=>absurd hi (Ap i)⟩
    | succ k ih=>
     intro hk;obtain⟨l,hl,hr⟩:=ih (by omega);obtain⟨cs',a,hR,h1,I,h2⟩:=key k (by omega);refine⟨l ++ [a],by simp [hl],fun i hi=>?_⟩;by_cases V:i<k
     ·have e:(l ++ [a]).getD i d=l.getD i d:=by rw [Ac,Ac,AH (by omega)]
      rw [e];exact hr i V
     ·have e2:i=k:=by omega
      subst e2;have e:(l ++ [a]).getD i d=a:=by rw [Ac,AN (by omega),hl];simp
      rw [e];refine⟨I,RdAt.of hR h1 fun j u hu=>?_⟩;have:=h2 j u hu;rw [CV];exact this
   obtain⟨l,hl,hr⟩:=W len (Ah _);refine⟨_,⟨l,rfl⟩,?_,by simp [Value.oneCell'],rfl⟩;simp only [RdL,Rd];refine⟨_,_,rfl,⟨_,m,by rw [hl],by omega,K, .inr ⟨b,off,rfl,fun h=>h,?_,fun i hi=>hr i (by omega)⟩⟩,rfl⟩;obtain⟨cs',a,hR,h1,I,h2⟩:=key 0 (by omega);have O:=hR.length;have h3:=h2 0 cs'[0] (Ag (by omega));exact World.block_lt_of_cell? _ _ h3⟩
structure FieldE (enc:TypeId × Value->H) (w:World) where
 t:TypeId
 sz:Nat
 G:List AV->Prop
 ok:OpenE enc w t sz G
end
section
variable {H:Type} {enc:TypeId × Value->H} {w:World}
def bw (L:List AV):Prop:=∃ b:List UInt8,L=[bA b]
theorem oBy:OpenE enc w 22 1 bw:=
 (ah (α:=UInt8) (sz:=1) (f:=fun k=> [.v (.int .u8 k.toNat)]) (d:=0) Tryz.underlying22 (by kernel_rfl) (by decide) ((af Tryz.underlying5 (by kernel_rfl)).mono fun _ h=>h)).mono fun L ⟨l,h⟩=>⟨l,h⟩
theorem Y3 {t:Nat} {G:List AV->Prop} {v:Value} {d:DataW H} {ps:List MemPlace} (ho:OpenE enc w t 1 G) (hv:v.cells.toList=[v]) (h:DataW.Trod enc Tryz.prog w 0 (fun _=>true) true t v d ps):∃ L,G L/\RdL L (Ld w) [v]:=by
 obtain⟨n,hn⟩:=h;obtain⟨L,h1,h2,_⟩:=ho.2 n _ _ hn;rw [hv] at h2;exact⟨L,h1,h2⟩
theorem XI {a:AV} {c:Ctx} {v:Value} (h:RdL [a] c [v]):Rd a c v:=by
 simp only [RdL] at h;obtain⟨y,ys,e,h1,_⟩:=h;injection e with e _
 subst e;exact h1
end
end
section
open Go.RowKit
theorem QT {g:Geo} {x:Gt} {copy slot:Int} (h:(Bq g&&KN g copy slot)=false):GF g x copy slot=none:=by
 unfold GF;rw [h];try rfl
def gz:Gt:=⟨0, []⟩
def CX (g:Geo) (pos at_:Int):Int:=(IntKind.i64.wrap (pos+at_)).tmod g.sl
def aa (g:Geo) (a:An) (x y:List Gt) (pos seq left at_ of_:Int):Rc × Int × List Wr:=
 let s:=CX g pos at_;let q:=am g a (x.getD s.toNat gz) (y.getD s.toNat gz) s seq at_ of_ left
 (q.1,q.2.2,q.2.1.map fun c=>⟨Bi g c s,BF g q.1 c s⟩)
def OC (look:Int->Rc × Int × List Wr):Nat->Int->Rc->List Img->List Wr->Int × List Img × List Wr
 | 0,_,r,im,w=>(1,if r.kind=1 then im ++ [r.img] else im,w)
 | f+1,at_,r,im,w=>
  let q:=look at_
  if q.2.1≠1 then (q.2.1, [], []) else OC look f (at_+1) q.1 (if r.kind=1 then im ++ [r.img] else im) (w ++ q.2.2)
def ZY (g:Geo) (a:An) (x y:List Gt) (pos seq left:Int):Int × Int × List Img × List Wr:=
 let q:=aa g a x y pos seq left 0 0
 if q.2.1≠1 then (q.2.1,0, [], []) else
  let t:=OC (fun k=>aa g a x y pos seq left k q.1.of_) (q.1.of_ - 1).toNat 1 q.1 [] q.2.2
  if t.1≠1 then (t.1,0, [], []) else (1,q.1.of_,t.2.1,t.2.2)
def Sl (g:Geo) (a:An) (x y:List Gt):Nat->Int->Int->Int->List Tx->List Wr->Option (List Tx × List Wr × Int)
 | 0,_,seq,_,l,w=>some (l,w,seq)
 | f+1,pos,seq,left,l,w=>
  if 0<left/\seq<=4294967295 then
   let t:=ZY g a x y pos seq left
   if t.1=3 then none else if t.1≠1 then some (l,w,seq)
   else Sl g a x y f ((pos+t.2.1).tmod g.sl) (seq+1) (left - t.2.1) (l ++ [⟨seq,pos,t.2.1,t.2.2.1⟩]) (w ++ t.2.2.2)
  else some (l,w,seq)
def damaged:Int:=12
def Z4 (a:An):Option (List Tx × List Wr × Int)->List Tx × List Wr × Int
 | none=>([], [],damaged)
 | some (l,w,seq)=>if seq - 1<a.last then ([], [],damaged) else (l,w,0)
theorem Qe {a:An} {l:List Tx} {w:List Wr} {seq:Int} (h:¬seq - 1<a.last):Z4 a (some (l,w,seq))=(l,w,0):=if_neg h
def GE (g:Geo) (a:An) (x y:List Gt):List Tx × List Wr × Int:=Z4 a (Sl g a x y g.sl.toNat a.pos a.seq g.sl [] [])
theorem Ju {g:Geo} {pos at_:Int} (hg:Bq g=true) (hp:0<=pos/\pos<g.sl) (f:0<=at_/\at_<=1000):0<=CX g pos at_/\CX g pos at_<g.sl:=by
 obtain⟨h1,h2,h3,h4,h5⟩:=Aq.1 hg;have hw:IntKind.i64.wrap (pos+at_)=pos+at_:=by rw [IntKind.wrap_i64];omega
 exact⟨Bw _ (by rw [hw];omega),AZ _ (by omega)⟩
@[reducible] def b7 (g:Geo) (a:An) (x y:List Gt) (pos seq left:Int) (w:AV):List AV:=
 [iv g.z,iv g.d,iv g.sp,iv g.sl,iv g.an,iv a.gen,iv a.epoch,iv a.pos,iv a.seq,iv a.last, .v (.string a.label),HE a.homes,Ij x,Ij y,iv pos,iv seq,iv left,w]
theorem Mk (seq epoch of_:Int) {k:Nat} {l:List Img} (hk:k<l.length):(IB seq epoch of_ (k+1) l).map J3=(IB seq epoch of_ k l).map J3 ++ [J3 ⟨1,seq,epoch,(k:Nat),of_,l.getD k ⟨0,0, []⟩⟩]:=by
 rw [Uf seq epoch of_ hk,A8,Ac,Ag hk];try rfl

def Wd (seq epoch n:Int):List AV:= [iv 2,iv seq,iv epoch,iv n,iv (n+1),iv 0,iv 0, .v (.slice none 0 0)]
theorem Pz (seq epoch:Int) (l:List Img) (i:Nat) (hi:i<l.length+1) :
  SubL ((List.map J3 (IB seq epoch (l.length+1) l.length l) ++ [Wd seq epoch l.length]).getD i [])
   (J3 ((CF seq epoch l).getD i ⟨0,0,0,0,0,⟨0,0, []⟩⟩)):=by
 have f:(IB seq epoch (l.length+1) l.length l).length=l.length:=by rw [Ih];omega
 rcases Cd i l.length with h | h
 ·have e1:(List.map J3 (IB seq epoch (l.length+1) l.length l) ++ [Wd seq epoch l.length]).getD i []=J3 ((CF seq epoch l).getD i ⟨0,0,0,0,0,⟨0,0, []⟩⟩):=by
   unfold CF;rw [JH (by rw [Ab,f];exact h),JH (by rw [f];exact h)];exact AY (by rw [f];exact h)
  rw [e1];exact SubL.refl _
 ·obtain rfl:i=l.length:=by omega
  unfold CF;rw [I3 (by rw [Ab,f];omega),I3 (by rw [f];omega),Ab,f,CH];simp only [List.getD_cons_zero,J3,noImg,Wd];exact⟨fun _ _ h=>h,fun _ _ h=>h,fun _ _ h=>h,fun _ _ h=>h,fun _ _ h=>h,fun _ _ h=>h,fun _ _ h=>h,Bg _ _,tv⟩
theorem He (seq epoch:Int) (l:List Img):(CF seq epoch l).length=l.length+1:=by
 unfold CF;rw [Ai,Ih];simp
theorem Rh (seq epoch:Int) (l:List Img) (hl:l.length<=1000000) (hb:∀ x∈l,x.bytes.length<=1000000000):Fn Tryz.prog 176 [iv seq,iv epoch,D2 l] fun r=>r=LO (CF seq epoch l):=by
 refine zR Tryz.func176 rfl ?_;conv=>whnf
 refine zM Nat (fun k=>([(0,iv seq),(1,iv epoch),(2,D2 l),(7, .ow 0 k),(8,iv k)], [.row 141 8 ((IB seq epoch (l.length+1) k l).map J3)])) (fun k=>k<=l.length) (fun k=>l.length - k) 0 (Aj _) ⟨[(7,141,8)],tA,tA,tA,rfl,rfl,rfl⟩ ?_;rintro k hk;have f:=Ih seq epoch (l.length+1) k l;conv=>whnf
 refine Am (fun h2=>?_) (fun h2=>?_) <;> simp at h2 <;> conv=>whnf
 ·refine zF tys_ok mixed (by kernel_rfl) ?_;conv=>whnf
  refine⟨by first | omega | (refine⟨rfl,?_,?_⟩ <;> first | omega | (simp only [Ab];done) | (simp only [Ab];omega)) | (simp only [Ab];omega),?_⟩;conv=>whnf
  refine⟨by first | omega | (refine⟨rfl,?_,?_⟩ <;> first | omega | (simp only [Ab];done) | (simp only [Ab];omega)) | (simp only [Ab];omega),?_⟩;conv=>whnf
  refine⟨by first | omega | (refine⟨rfl,?_,?_⟩ <;> first | omega | (simp only [Ab];done) | (simp only [Ab];omega)) | (simp only [Ab];omega),?_⟩;conv=>whnf
  refine zH (Ew (l.getD k ⟨0,0, []⟩).bytes (hb _ (A3 h2))) rfl ?_;rintro _ rfl;refine⟨rfl,?_⟩;conv=>whnf
  refine⟨⟨by rw [Ab,f];omega,by omega⟩,?_⟩;refine⟨k+1,by omega,by omega, [],tv,⟨rfl,rfl,rfl,rfl,AG (by omega),tv⟩,⟨Y9 ?_,tv⟩,rfl,rfl,rfl⟩;rw [Mk _ _ _ h2,wi (by omega)];try rfl
 ·obtain rfl:k=l.length:=by omega
  rw [wi (by omega)];refine⟨rfl,?_⟩;conv=>whnf
  refine⟨⟨by rw [Ab,f];omega,by omega⟩,?_⟩;conv=>whnf
  refine⟨by rw [Ai,Ab,f];simp,?_⟩;exact⟨LO (CF seq epoch l),fun c v h=>Rd.sub (He seq epoch l).symm (Pz seq epoch l) h,rfl⟩


def ZW (g:Geo) (t:Tx) (s:Int):Int:=(IntKind.i64.wrap (IntKind.i64.wrap (s - t.pos)+g.sl)).tmod g.sl
def ZV (g:Geo) (t:Tx) (s:Int):Bool:=CQ t.pos 0 (g.sl - 1)&&CQ t.n 0 g.sl&&decide (ZW g t s<t.n)
def YO (g:Geo) (s:Int):List Tx->Nat->Option (Nat × Int)
 | [],_=>none
 | t::r,i=>if ZV g t s then some (i,ZW g t s) else YO g s r (i+1)
end
end Go.Proofs.YtpjkcgacjjbikaaGreatDoor.A
namespace Go.Proofs.YtpjkcgacjjbikaaGreatDoor
section

def rc0:Rc:=⟨0,0,0,0,0,⟨0,0, []⟩⟩
theorem Iw (seq epoch:Int) (l:List Img) {k:Nat} (hk:k<l.length+1):(CF seq epoch l).getD k rc0=if k<l.length then ⟨1,seq,epoch,(k:Nat),l.length+1,l.getD k ⟨0,0, []⟩⟩ else ⟨2,seq,epoch,(k:Nat),l.length+1,noImg⟩:=by
 have f:(IB seq epoch (l.length+1) l.length l).length=l.length:=by rw [Ih];omega
 unfold CF;rw [Ac];by_cases h:k<l.length
 ·rw [if_pos h,AH (by omega)];have h2:(IB seq epoch (l.length+1) l.length l)[k]? = some ⟨1,seq,epoch,(k:Nat),l.length+1,l[k]⟩:=by
   unfold IB;rw [Aw,Bb,List.getElem?_zipIdx,Ag h];simp
  rw [h2,Ac,Ag h];try rfl
 ·have e:k=l.length:=by omega
  subst e;rw [if_neg h,AN (by omega),f];simp
structure RecAt (g:Geo) (seq epoch:Int) (l:List Img) (k:Nat) (r:Rc):Prop where
 ok:Gm g r=true
 seq:r.seq=seq
 epoch:r.epoch=epoch
 at_:r.at_=(k:Nat)
 of_:r.of_=l.length+1
 kind:r.kind≠0
 img:(r.kind=1↔k<l.length)/\(k<l.length->r.img=l.getD k ⟨0,0, []⟩)
end
end Go.Proofs.YtpjkcgacjjbikaaGreatDoor
namespace Go.Proofs.YtpjkcgacjjbikaaGreatDoor.A
section
open Go.RowKit
def tz:Tx:=⟨0,0,0, []⟩
def VI (g:Geo) (l:List Tx) (epoch s:Int):Rc:=match YO g s l 0 with
 | none=>zeroC
 | some (i,k)=>(CF (l.getD i tz).seq epoch (l.getD i tz).images).getD k.toNat zeroC
def GA (g:Geo) (l:List Tx) (epoch copy:Int) (n:Nat):List Gt:=(List.range n).map fun s=>⟨0,BF g (VI g l epoch (s:Nat)) copy (s:Nat)⟩
structure LogOk (g:Geo) (l:List Tx) (epoch:Int):Prop where
 len:l.length<=1000
 img:∀ t∈l,t.images.length<=1000/\∀ x∈t.images,x.bytes.length<=1000000
 who:∀ s i k,0<=s/\s<g.sl->YO g s l 0=some (i,k)->i<l.length/\0<=k/\k.toNat<(l.getD i tz).images.length+1
 ok:∀ s,0<=s/\s<g.sl->Gm g (VI g l epoch s)=true
def iz:Img:=⟨0,0, []⟩
def Dp (l:List Img) (z w:Int):Nat->Option Img
 | 0=>none
 | k+1=>if (l.getD k iz).zone=z/\(l.getD k iz).what=w then some (l.getD k iz) else Dp l z w k
def E6 (l:List Tx) (z w:Int):Nat->Option (Img × Int)
 | 0=>none
 | k+1=>match Dp (l.getD k tz).images z w (l.getD k tz).images.length with
  | some x=>some (x,(l.getD k tz).seq)
  | none=>E6 l z w k
def CB (l:List Tx) (z w:Int):Option (Img × Int):=E6 l z w l.length
theorem NG {l:List Img} {z w:Int}:∀ {k:Nat} {x:Img},k<=l.length->Dp l z w k=some x->x∈l/\x.zone=z/\x.what=w
 | k+1,x,hk,h=>by
  rw [Dp] at h;split at h
  ·rename_i hc;obtain rfl:=Option.some.inj h;exact⟨A3 (by omega),hc⟩
  ·exact NG (by omega) h
theorem GP {l:List Tx} {z w:Int}:∀ {k:Nat} {x:Img} {s:Int},k<=l.length->E6 l z w k=some (x,s)->∃ t∈l,t.seq=s/\x∈t.images/\x.zone=z/\x.what=w
 | k+1,x,s,hk,h=>by
  rw [E6] at h;split at h
  ·rename_i y hy;obtain⟨rfl,rfl⟩:=Prod.mk.inj (Option.some.inj h);exact⟨l.getD k tz,A3 (by omega),rfl,NG (Ah _) hy⟩
  ·exact GP (by omega) h
def CN (a:An) (l:List Tx) (z:Int):Int:=match CB l z 255 with
 | some p=>p.2
 | none=>(a.homes.getD z.toNat ⟨[],0,0⟩).root
def Gu (n:Int):Int:=if 0<=n/\n<=30 then n else 0
def FX (l:List Tx):Nat->Int
 | 0=>0
 | k+1=>FX l k+Gu (l.getD k tz).n
def Cw (l:List Tx):Int:=FX l l.length
theorem L1 (n:Int):0<=Gu n/\Gu n<=30:=by
 unfold Gu;split <;> omega
theorem E8 (l:List Tx):∀ k:Nat,0<=FX l k/\FX l k<=30*k
 | 0=>by simp [FX]
 | k+1=>by
  have:=E8 l k;have:=L1 (l.getD k tz).n;rw [FX];omega
def EJ (g:Geo) (w:Int):Int:=if w = -1 then g.d else w
def Br (g:Geo) (a:An) (z w:Int):Int:=Cm g z ((a.homes.getD z.toNat ⟨[],0,0⟩).places.getD (EJ g w).toNat 0)
def BT (g:Geo) (x:Gt) (addr root:Int):Option (List Ent):=match BY x addr with
 | some s=>if s.stamp=root then Ce g s.pay else none
 | none=>none
def D5 (x:Gt) (addr:Int) (e:Ent):Option (List UInt8):=match BY x addr with
 | some s=>if s.stamp=e.stamp/\s.pay.length=8/\((C3 s.pay:Nat):Int)=e.sum then some s.pay else none
 | none=>none
def EP (a b:List UInt8):List UInt8:=List.zipWith (fun x y=>x ^^^ y) a b
def ez:Ent:=⟨0,0,false⟩
def DA (t:List Ent) (had:List (List UInt8)) (at_:Nat):Nat->Option (List UInt8)
 | 0=>some zero8
 | k+1=>match DA t had at_ k with
  | none=>none
  | some b=>if k=at_\/(t.getD k ez).lost=true then some b else if (had.getD k []).length=0 then none else some (EP b (had.getD k []))
def BO (g:Geo) (t:List Ent) (had:List (List UInt8)) (at_:Nat):List UInt8:=
 if (t.getD at_ ez).lost then []
 else if 0<(had.getD at_ []).length then had.getD at_ []
 else match DA t had at_ (g.d.toNat+1) with
  | none=> []
  | some b=>if ((C3 b:Nat):Int)=(t.getD at_ ez).sum then b else []
def flatX:AV->Bool
 | .v _=>true
 | _=>false
def flatO:AV->Bool
 | .v _=>true
 | .ow _ _=>true
 | .tp l=>l.all fun x=>match x with | .v _=>true | .ow _ _=>true | _=>false
 | _=>false
def flatR:List AB->Bool
 | []=>true
 | .row _ _ es::r=>es.flatten.all flatX&&flatR r
 | _::_=>false
theorem Qd {c c':Ctx}:∀ {l:List AV} {us:List Value},l.all flatX=true->RdL l c us->RdL l c' us
 | [],us,_,h=>by simpa only [RdL] using h
 | x::l,us,hf,h=>by
  rw [A_,Af] at hf;simp only [RdL] at h |-
  obtain⟨u,vs,rfl,h1,h2⟩:=h;refine⟨u,vs,rfl,?_,Qd hf.2 h2⟩;cases x <;> simp [flatX] at hf;simpa only [Rd] using h1
theorem OG {c c':Ctx} (hr:c'.rho=c.rho) (hl:c'.len=c.len) (hd:c'.dom=c.dom) {x:AV} (hx:(match x with | .v _=>true | .ow _ _=>true | _=>false)=true) {u:Value} (h:Rd x c u):Rd x c' u:=by
 cases x <;> simp at hx
 ·simpa only [Rd] using h
 ·simp only [Rd] at h |-
  rw [hr,hl,hd];exact h
theorem W6 {c c':Ctx} (hr:c'.rho=c.rho) (hl:c'.len=c.len) (hd:c'.dom=c.dom) {x:AV} (hx:flatO x=true) {u:Value} (h:Rd x c u):Rd x c' u:=by
 cases x with
 | v y=>exact OG hr hl hd rfl h
 | ow k n=>exact OG hr hl hd rfl h
 | tp l=>
  simp only [Rd] at h |-
  obtain⟨xs,rfl,f⟩:=h;refine⟨xs,rfl,?_⟩;simp only [flatO] at hx;induction l generalizing xs with
  | nil=>simpa only [RdL] using f
  | cons y l ih=>
   rw [A_,Af] at hx;simp only [RdL] at f |-
   obtain⟨u,us,rfl,h1,h2⟩:=f;exact⟨u,us,rfl,OG hr hl hd hx.1 h1,ih hx.2 us h2⟩
 | _=>simp [flatO] at hx
theorem flatR_mem:∀ {R:List AB} {y:AB},flatR R=true->y∈R->∃ t sz es,y = .row t sz es/\es.flatten.all flatX=true
 | .row t sz es::r,y,h,hy=>by
  rw [flatR,Af] at h;rcases Bd.1 hy with rfl | hy
  ·exact⟨t,sz,es,rfl,h.1⟩
  ·exact flatR_mem h.2 hy
theorem FnO.lend {P:Program} {f:FuncId} {args args':List AV} {H:List AB} {K:AV->List AB->Prop} {q:Bool} {k:AV->List AB->Prop} (h:FnO P f args' K) (hs:sealA args H fun a _=>a=args') (hk:∀ r R,K r R->(flatO r=true/\flatR R=true)/\appK H R 0 fun d H=>D4 (r.shift d) fun r=>k r H):ACalls P q f args H k:=by
 refine⟨h.go,fun w0 M0 c us hs0 hr=>?_⟩;obtain⟨l',H',c',rfl,h2,h3,h4,h5,_⟩:=sealA_sound hs0 hr hs;have j:globOk c'.closed.w:=h3.glob;have hc:=h.calls c'.closed us j rfl h3.lt h5;have ew:c'.closed.w=c.w:=h2
 suffices hh:Calls P f us.toArray c'.closed.w fun e w'=>∃ v c1 r H1,e = .returned v/\c1.w=w'/\k r H1/\HS w0 M0 c1 H1/\Ext c c1/\Rd r c1 v/\(q=true->Old c.w w') by
  rw [ew] at hh;exact hh
 refine hc.mono ?_;rintro e w' ⟨v,r,c2,R,rfl,q1,rfl,q2,q3,q4⟩;obtain⟨⟨f1,f2⟩,F⟩:=hk r R q1
 -- the same memory;what the caller holds is not read
 obtain⟨c3,e3⟩:∃ c3:Ctx,c3={ c2 with M:=fun b=>c2.M b\/c.M b }:=⟨_,rfl⟩;have hsub:∀ b,b<c.w.heap.size->c'.M b->c.M b:=fun b hb hm=>by
  by_cases hx:c.M b
  ·exact hx
  ·exact absurd hm (h4.keep b hb hx).1
 have u:=q2.low;have q2':HS (Fl.all c.w hs0.glob) c.M c3 R:=by
  subst e3;refine⟨⟨?_,?_,?_,?_,?_⟩,q2.base,q2.dom,fun b hb=>?_,fun b hb=>?_,fun i y hi=>?_,fun i y g hi hl ho=>?_,q2.dis⟩
  ·have:=u.os;rw [show (Fl.all c'.closed.w j).w=c.w from ew] at this;exact this
  ·have:=u.tape;rw [show (Fl.all c'.closed.w j).w=c.w from ew] at this;exact this
  ·have:=u.output;rw [show (Fl.all c'.closed.w j).w=c.w from ew] at this;exact this
  ·have:=u.size;rw [show (Fl.all c'.closed.w j).w=c.w from ew] at this;exact this
  ·intro b hb;have:=u.block b (by show b<c'.closed.w.heap.size;rw [ew];exact hb);rw [show (Fl.all c'.closed.w j).w=c.w from ew] at this;exact this
  ·have z:b<c.w.heap.size:=hb;have:=q2.foreign b (by show b<c'.closed.w.heap.size;rw [ew];exact z);exact⟨fun hx=>hx.elim (fun hx=>hsub b z (this.1 hx)) (fun hx=>hx),fun hx=> .inr hx⟩
  ·have C:c.w.heap.size<=c2.w.heap.size:=by
    have:=u.size;rw [show (Fl.all c'.closed.w j).w=c.w from ew] at this;exact this
   rcases hb with hb | hb
   ·exact q2.lt b hb
   ·exact Au (hs0.lt b hb) C
  ·obtain⟨t,sz,es,rfl,G⟩:=flatR_mem f2 (DG hi);obtain⟨a1,a2,a3,xs,a4,a5,a6⟩:=q2.blk i _ hi;exact⟨a1,a2,a3,xs,a4,Qd G a5,a6⟩
  ·have:=q2.own i y g hi hl ho;refine⟨.inl this.1,fun hx=>this.2 ?_⟩;show g<c'.closed.w.heap.size;rw [ew];exact hx
 have q3':Rd r c3 v:=W6 (by rw [e3]) (by rw [e3]) (by rw [e3]) f1 q3;have q5:c3.w=c2.w:=by rw [e3]
 obtain⟨p1,p2⟩:=hs0.beside (c':=c3) q2' q4;have h1:=BV (appK_iff F);rw [A0,<-hs0.dom] at h1;exact⟨v,c.beside c3,_,_,rfl,by show c3.w=_;exact q5,h1,p1,p2,Rd.shift r q3',fun _=>by have:=q2'.low.below.old;rw [q5] at this;exact this⟩
theorem Pr (l:List Tx) (hl:l.length<=1000000):Fn Tryz.prog 171 [CS l] fun r=>r = iv (Cw l):=by
 refine zR Tryz.func171 rfl ?_;conv=>whnf
 refine zU Nat (fun k=>([(0,CS l),(3,iv (FX l k)),(4,iv k)], [])) (fun k=>k<=l.length) (fun k=>l.length - k) 0 (Aj _)
  (zS (s:= []) tA) ?_
 intro k hk;conv=>whnf
 refine A5 (fun h6=>?_) (fun h6=>?_) <;> (repeat rw [Aa] at h6) <;> conv=>whnf
 ·have f:k<l.length:=by omega
  have hb:=E8 l k;have hi:=VE (l.getD (k:Int).toNat ⟨0,0,0, []⟩).n 0 30;have hs:FX l (k+1)=FX l k+Gu (l.getD (k:Int).toNat ⟨0,0,0, []⟩).n:=rfl;have hn:=L1 (l.getD (k:Int).toNat ⟨0,0,0, []⟩).n;repeat' (refine zZ ?_;conv=>whnf)
  refine⟨⟨by omega,by omega⟩,?_⟩;conv=>whnf
  cases hc:CQ (l.getD (k:Int).toNat ⟨0,0,0, []⟩).n 0 30 with
  | false=>
   rw [hc] at hi;have h0:Gu (l.getD (k:Int).toNat ⟨0,0,0, []⟩).n=0:=by
    unfold Gu;rw [if_neg];intro h;rw [AE.2 h] at hc;cases hc
   refine zY hi ?_;exact⟨k+1,f,by omega,zS (s:= []) ⟨⟨rfl,congrArg (fun n:Int=>AV.v (.int .i64 n)) (by rw [hs,h0,Int.add_zero]),AG (by omega),tv⟩,tv,rfl,rfl,rfl,rfl,rfl⟩⟩
  | true=>
   rw [hc] at hi;have h0:Gu (l.getD (k:Int).toNat ⟨0,0,0, []⟩).n=(l.getD (k:Int).toNat ⟨0,0,0, []⟩).n:=by
    unfold Gu;rw [if_pos (AE.1 hc)]
   refine zY hi ?_;refine⟨⟨by omega,by omega⟩,?_⟩;conv=>whnf
   exact⟨k+1,f,by omega,zS (s:= []) ⟨⟨rfl,congrArg (fun n:Int=>AV.v (.int .i64 n)) (by rw [hs,h0,wi (by rw [<-h0];omega)]),AG (by omega),tv⟩,tv,rfl,rfl,rfl,rfl,rfl⟩⟩
 ·have ek:k=l.length:=by omega
  subst ek;exact⟨_,ri,rfl⟩
theorem V7 (g:Geo) (a:An) (l:List Tx) (hg:Bq g=true) (ha:Bj g a=true) (hl:l.length<=1000000):Fn Tryz.prog 172 [.ag (AK g), .ag (Ek a),CS l] fun r=>r = .tp [iv ((a.pos+Cw l).tmod g.sl),iv (a.seq+l.length)]:=by
 obtain⟨g1,g2,g3,g4,g5⟩:=Aq.1 hg;have hu:=Pr l hl;have hb:=E8 l l.length;have hp:(1<=a.seq/\a.seq<=4294967295)/\(0<=a.pos/\a.pos<g.sl):=by
  simp only [Bj,A_,BB,B3,Af,decide_eq_true_eq,AE] at ha;omega
 refine zR Tryz.func172 rfl ?_;conv=>whnf
 apply zP tys_ok mixed (.o [0,1,2,5,6,8,9,10,11,12,3,4,7,13,14] .fin) [6,7,8,9,10,11,12,13,14,15,16,17,18,19,20] (by kernel_rfl)
 ·conv=>whnf
  refine zY hu ?_;conv=>whnf
  try (refine Ad (by first | omega | exact ixA | exact ixB | (simp;done)) ?_;conv=>whnf)
  exact tA
 conv=>whnf
 exact⟨_,ri,by rw [wi (n:=a.pos+Cw l) (by unfold Cw;omega),wi (by omega)]⟩
def au (o:Option (Img × Int)) (r:AV) (R:List AB):Prop:=match o with
 | some p=>r = .tp [.ow 0 p.1.bytes.length,iv p.2, .v (.bool true)]/\R=[.row 5 1 (p.1.bytes.map Ef)]
 | none=>r = .tp [.v (.slice none 0 0),iv 0, .v (.bool false)]/\R=[]
theorem Kd (l:List Tx) (z w:Int) (hl:l.length<=1000000) (hi:∀ t∈l,t.images.length<=1000000/\∀ x∈t.images,x.bytes.length<=1000000000):FnO Tryz.prog 317 [CS l,iv z,iv w] (au (CB l z w)):=by
 refine FnO.of tys_ok Tryz.func317 rfl rfl (Ae rfl) ?_;conv=>whnf
 rw [wi (n:=(l.length:Int) - 1) (by omega)];refine zU Nat (fun k=>([(0,CS l),(1,iv z),(2,iv w),(9,iv ((k:Int) - 1))], [])) (fun k=>k<=l.length/\CB l z w=E6 l z w k) (fun k=>k) l.length ⟨Ah _,rfl⟩
  (zS (s:= []) tA) ?_
 rintro k ⟨hk,hI⟩;conv=>whnf
 refine A5 (fun h6=>?_) (fun h6=>?_) <;> (repeat rw [Aa] at h6) <;> conv=>whnf
 ·obtain⟨j,rfl⟩:∃ j,k=j+1:=⟨k - 1,by omega⟩;have e1:((j+1:Nat):Int) - 1=(j:Nat):=by omega
  have hm:=hi _ (A3 (d:=(⟨0,0,0, []⟩:Tx)) (show j<l.length by omega));rw [e1];refine⟨⟨by omega,by omega⟩,?_⟩;conv=>whnf
  rw [Aa,wi (n:=((l.getD j ⟨0,0,0, []⟩).images.length:Int) - 1) (by omega)];have hF:E6 l z w (j+1)=match Dp (l.getD j ⟨0,0,0, []⟩).images z w (l.getD j ⟨0,0,0, []⟩).images.length with | some x=>some (x,(l.getD j ⟨0,0,0, []⟩).seq) | none=>E6 l z w j:=rfl
  generalize hT:l.getD j ⟨0,0,0, []⟩=T at hm hF;refine zU Nat (fun m=>([(0,CS l),(1,iv z),(2,iv w),(9,iv (j:Nat)),(10,iv ((m:Int) - 1))], [])) (fun m=>m<=T.images.length/\E6 l z w (j+1)=match Dp T.images z w m with | some x=>some (x,T.seq) | none=>E6 l z w j) (fun m=>m) T.images.length ⟨Ah _,hF⟩
   (zS (s:= []) tA) ?_
  rintro m ⟨F,hJ⟩;conv=>whnf
  refine A5 (fun h7=>?_) (fun h7=>?_) <;> (repeat rw [Aa] at h7) <;> conv=>whnf
  ·obtain⟨i,rfl⟩:∃ i,m=i+1:=⟨m - 1,by omega⟩;have e2:((i+1:Nat):Int) - 1=(i:Nat):=by omega
   rw [e2];refine⟨⟨by omega,by omega⟩,?_⟩;conv=>whnf
   rw [Aa,hT];refine⟨⟨by omega,by omega⟩,?_⟩;conv=>whnf
   rw [Aa];have hK:Dp T.images z w (i+1)=if (T.images.getD i ⟨0,0, []⟩).zone=z/\(T.images.getD i ⟨0,0, []⟩).what=w then some (T.images.getD i ⟨0,0, []⟩) else Dp T.images z w i:=rfl
   have C:=hm.2 _ (A3 (d:=(⟨0,0, []⟩:Img)) (show i<T.images.length by omega));generalize T.images.getD i ⟨0,0, []⟩=y at hK C;have f:¬(y.zone=z/\y.what=w)->E6 l z w (j+1)=match Dp T.images z w i with | some x=>some (x,T.seq) | none=>E6 l z w j:=fun h=>by rw [hJ,hK,if_neg h]
   by_cases hz:y.zone=z
   ·rw [show (y.zone == z)=true by simpa using hz];conv=>whnf
    by_cases hw:y.what=w
    ·rw [show (y.what == w)=true by simpa using hw];conv=>whnf
     have u:=MY y.bytes (by omega);apply z8 (0) tys_ok mixed (.o [0,1,3,4,5,6,7,2,8,9,10] .fin) [6,7,8,48,49,50,51,52,53,54,55] (by kernel_rfl)
     ·conv=>whnf
      try (refine tI ?_;conv=>whnf)
      (refine zW u rfl ?_;rintro _ _ ⟨rfl,rfl⟩)
      exact tA
     conv=>whnf
     rw [hI,hJ,hK,if_pos ⟨hz,hw⟩,Aa,hT];exact tA
    ·rw [show (y.what == w)=false by simpa using hw];exact⟨i,⟨by omega,f fun h=>hw h.2⟩,by omega,zS (s:= []) ⟨⟨rfl,rfl,rfl,rfl,congrArg (fun n:Int=>AV.v (.int .i64 n)) (wi (by omega)),tv⟩,tv,rfl,rfl,rfl,rfl,rfl⟩⟩
   ·rw [show (y.zone == z)=false by simpa using hz];exact⟨i,⟨by omega,f fun h=>hz h.1⟩,by omega,zS (s:= []) ⟨⟨rfl,rfl,rfl,rfl,congrArg (fun n:Int=>AV.v (.int .i64 n)) (wi (by omega)),tv⟩,tv,rfl,rfl,rfl,rfl,rfl⟩⟩
  ·have em:m=0:=by omega
   subst em;exact⟨j,⟨by omega,by rw [hI,hJ];try rfl⟩,by omega,zS (s:= []) ⟨⟨rfl,rfl,rfl,congrArg (fun n:Int=>AV.v (.int .i64 n)) (wi (by omega)),tv⟩,tv,rfl,rfl,rfl,rfl,rfl⟩⟩
 ·have ek:k=0:=by omega
  subst ek;rw [hI];exact tA
theorem FnO.subA {P:Program} {f:FuncId} {args args':List AV} {K:AV->List AB->Prop} (h:FnO P f args' K) (hs:SubL args args'):FnO P f args K:=
 ⟨h.go,fun c0 us hg h1 h2 h3=>h.calls c0 us hg h1 h2 (hs.rdl h3)⟩
theorem V0 (g:Geo) (a:An) (l:List Tx) (z:Int) (ha:(a.homes.length:Int)=g.z) (hz:0<=z/\z<g.z) (hl:l.length<=1000000) (hi:∀ t∈l,t.images.length<=1000000/\∀ x∈t.images,x.bytes.length<=1000000000):Fn Tryz.prog 319 [.ag (Ek a),CS l,iv z] fun r=>r = iv (CN a l z):=by
 have hf:=Kd l z 255 hl hi;unfold CN;cases hL:CB l z 255 with
 | some p=>
  obtain⟨x,q⟩:=p;rw [hL] at hf;refine zR Tryz.func319 rfl ?_;conv=>whnf
  refine FnO.call hf rfl ?_;rintro _ _ ⟨rfl,rfl⟩;exact⟨_,ri,rfl⟩
 | none=>
  rw [hL] at hf;refine zR Tryz.func319 rfl ?_;conv=>whnf
  refine FnO.call hf rfl ?_;rintro _ _ ⟨rfl,rfl⟩;refine⟨⟨by omega,by omega⟩,?_⟩;exact⟨_,ri,rfl⟩
theorem Og (n:Int):Fn Tryz.prog 177 [iA [],iv n] fun r=>r=iA []:=by
 refine zR Tryz.func177 rfl ?_;conv=>whnf
 refine zU Nat (fun k=>([(0,iA []),(5, .v (.slice none 0 0)),(6,iv k)], [])) (fun k=>k=0) (fun k=>k) 0 rfl
  (zS (s:= []) tA) ?_
 rintro k rfl;exact⟨iA [],Bg 1 _,rfl⟩
theorem V9 (g:Geo) (lba:Int) (hg:Bq g=true) (h:0<=lba/\lba<g.z*g.d):Fn Tryz.prog 170 [.ag (AK g),iA [lba]] fun r=>r = iv 4:=by
 obtain⟨g1,g2,g3,g4,g5⟩:=Aq.1 hg;have hq:lba.tdiv g.d=lba / g.d:=AO h.1;have f:0<=lba / g.d:=C6 h.1 (by omega);have i:lba / g.d<g.z:=BZ (by omega) h.2;refine zR Tryz.func170 rfl ?_;refine⟨⟨rfl,by omega,by omega⟩,?_⟩;conv=>whnf
 refine zU Nat (fun k=>([(1,iA [lba]),(2, .bp 0 0),(5, .ow 1 g.z.toNat),(6,iv (3*(k:Int))),(7,iv k)], [.box 24 (AK g), .row 4 1 (if k=0 then List.replicate g.z.toNat [AV.v (.bool false)] else (List.replicate g.z.toNat [AV.v (.bool false)]).set (lba / g.d).toNat [AV.v (.bool true)])])) (fun k=>k<=1) (fun k=>1 - k) 0 (by decide)
  (zS (s:= [0,1]) tA) ?_
 intro k hk;conv=>whnf
 refine A5 (fun h6=>?_) (fun h6=>?_)
 ·have ek:k=0:=by simp only [Ao,Bv] at h6;omega
  subst ek;rw [if_pos rfl];conv=>whnf
  repeat' (refine zZ ?_;conv=>whnf)
  refine zA tys_ok mixed [0,1,2,3,4,5,6,7] (by kernel_rfl) ?_;conv=>whnf
  refine Ad ⟨by decide,by show ((0:Nat):Int)<((1:Nat):Int);decide⟩ ?_;refine⟨by omega,?_⟩;conv=>whnf
  rw [show IntKind.i64.wrap (([lba].getD (Int.toNat ((0:Nat):Int)) 0).tdiv g.d)=lba / g.d by rw [show [lba].getD (Int.toNat ((0:Nat):Int)) 0=lba from rfl,hq,wi (by omega)]];refine⟨⟨f,by omega⟩,?_⟩;refine⟨⟨rfl,by simp,by omega⟩,?_⟩;rw [show (List.replicate g.z.toNat [AV.v (.bool false)]).getD (lba / g.d).toNat []=[AV.v (.bool false)] by rw [Ac,List.getElem?_replicate,if_pos (by omega)];try rfl];refine⟨⟨f,by omega⟩,?_⟩;refine⟨⟨rfl,by simp,by omega⟩,?_⟩;rw [show (List.replicate g.z.toNat [AV.v (.bool false)]).getD (lba / g.d).toNat []=[AV.v (.bool false)] by rw [Ac,List.getElem?_replicate,if_pos (by omega)];try rfl];exact⟨1,by omega,by omega,zS (s:= [0,1]) tA⟩
 ·have ek:k=1:=by simp only [Ao,Bv] at h6;omega
  subst ek;conv=>whnf
  repeat' (refine zZ ?_;conv=>whnf)
  exact⟨_,ri,rfl⟩
end
section
open Go.RowKit Go.Lib
def GL (s:ByteArray):List UInt8:=UInt8.ofNat s.size::s.data.toList
theorem Gf (s:ByteArray):(GL s).length=1+s.size:=by simp [GL,C5]
theorem Qo (l:List UInt8):(decodeL l).2<=4:=by
 rw [decodeL_N];rcases decodeN_shape l.length (l.getD 0 0).toNat (l.getD 1 0).toNat (l.getD 2 0).toNat (l.getD 3 0).toNat with ⟨_,e⟩ | ⟨_,_,_,_,e⟩ | ⟨_,_,_,_,_,_,e⟩ | ⟨_,_,_,_,_,_,_,e⟩ | e <;> rw [e] <;> simp
theorem Tg (n:Nat):∀ l:List UInt8,l.length=n->l.length<=4*E_ l:=by
 induction n using Nat.strongRecOn with
 | ind n ih=>
  intro l hl;by_cases h:l=[]
  ·subst h;simp
  ·have h1:=Hv h;have h2:=ih _ (by rw [<-hl];exact h1) _ rfl;have h3:=Qo l;rw [HP l h];rw [Ak] at h2;omega
theorem Ie {l:List UInt8} (h:EO l=0):l.length<=24:=by
 have h1:=Tg _ l rfl;unfold EO at h;split at h
 ·cases h
 ·split at h
  ·cases h
  ·omega
def H9 (b:List UInt8):Option (ByteArray × Nat):=
 if b.length<1+(b.getD 0 0).toNat then none
 else if EO ((b.drop 1).take (b.getD 0 0).toNat)=0 then some (⟨((b.drop 1).take (b.getD 0 0).toNat).toArray⟩,1+(b.getD 0 0).toNat) else none
theorem N0 {b:List UInt8} {s:ByteArray} {n:Nat} (h:H9 b=some (s,n)):n<=b.length/\GL s=b.take n/\n=1+s.size/\EO s.data.toList=0:=by
 unfold H9 at h;split at h
 ·cases h
 ·rename_i h1;split at h
  ·rename_i h2;simp only [Option.some.injEq,Prod.mk.injEq] at h;obtain⟨rfl,rfl⟩:=h;have hl:((b.drop 1).take (b.getD 0 0).toNat).length=(b.getD 0 0).toNat:=by rw [As,Ak];omega
   have hb:b=b.getD 0 0::b.drop 1:=by
    cases b with
    | nil=>simp at h1
    | cons x r=>rfl
   refine⟨by omega,?_,by show _=1+(List.toArray _).size;simp only [BP,hl],h2⟩;have e:(⟨((b.drop 1).take (b.getD 0 0).toNat).toArray⟩:ByteArray).size=(b.getD 0 0).toNat:=by show (List.toArray _).size=_;simp only [BP,hl]
   unfold GL;rw [e];simp only;rw [C5,hb];simp
  ·cases h
theorem TO {s:ByteArray} (h:EO s.data.toList=0) (r:List UInt8):H9 (GL s ++ r)=some (s,1+s.size):=by
 have f:=Ie h;have hs:s.size=s.data.toList.length:=rfl;have e0:((GL s ++ r).getD 0 0).toNat=s.size:=by
  show (UInt8.ofNat s.size).toNat=s.size;simp;omega
 have e1:((GL s ++ r).drop 1).take s.size=s.data.toList:=by
  show (s.data.toList ++ r).take s.size=_;rw [List.take_append_of_le_length (by omega),A4 (by omega)]
 unfold H9;rw [e0,e1,if_neg (by rw [Ai,Gf];omega),if_pos h]

def FL (n:Nat):List Int:=List.replicate n 1
def szA:List Int:= [4,4,4,4,1]
def K1 (a:An):List Int:= [a.gen,a.epoch,a.seq,a.last,a.pos]
def Ov (l:List Int):List UInt8:=rowB l (FL l.length)
def MM (h:Hm):List UInt8:=Ov h.places ++ rowB [h.next,h.root] [1,4]
def KV (a:An):List UInt8:=rowB (K1 a) szA ++ GL a.label ++ (a.homes.map MM).flatten
def QL (n:Nat):List Int:=FL (n+1) ++ [4]
def Kr (n:Nat) (c:List UInt8):Hm:=⟨(nums (QL n) c).take n,(nums (QL n) c).getD n 0,(nums (QL n) c).getD (n+1) 0⟩
def ED (n k:Nat) (c:List UInt8):List Hm:=(List.range k).map fun i=>Kr n (c.drop ((n+5)*i))
def MK (n k:Nat) (b:List UInt8) (s:ByteArray) (u:Nat):An:=⟨(nums szA b).getD 0 0,(nums szA b).getD 1 0,(nums szA b).getD 4 0,(nums szA b).getD 2 0,(nums szA b).getD 3 0,s,ED n k (b.drop (17+u))⟩
def Fp (g:Geo) (b:List UInt8):Option An:=
 if b.length<17 then none else
 match H9 (b.drop 17) with
 | none=>none
 | some (s,u)=>if b.length≠17+u+g.z.toNat*(g.d.toNat+6) then none
  else if Bj g (MK (g.d.toNat+1) g.z.toNat b s u) then some (MK (g.d.toNat+1) g.z.toNat b s u) else none

theorem tot_ones:∀ n,tot (FL n)=n
 | 0=>rfl
 | n+1=>by show 1+tot (FL n)=n+1;rw [tot_ones n];omega
theorem tot_app:∀ (a b:List Int),tot (a ++ b)=tot a+tot b
 | [],b=>by simp [tot]
 | x::a,b=>by simp only [B6,tot,tot_app a b];omega
theorem Jk (n:Nat):tot (QL n)=n+5:=by rw [QL,tot_app,tot_ones];try rfl
theorem Jn (n:Nat):(QL n).length=n+2:=by simp [QL,FL]
theorem J9 (n:Nat):(FL n).length=n:=by simp [FL]
theorem rowB_app:∀ (a s b t:List Int),a.length=s.length->rowB (a ++ b) (s ++ t)=rowB a s ++ rowB b t
 | [], [],b,t,_=>rfl
 | x::a,y::s,b,t,h=>by simp only [B6,rowB,rowB_app a s b t (by simpa using h),A7]
theorem Nr (n:Nat):FL (n+1)=FL n ++ [1]:=by simp [FL,List.replicate_succ']
theorem JG (h:Hm):MM h=rowB (h.places ++ [h.next,h.root]) (QL h.places.length):=by
 rw [QL,Nr,A7,rowB_app _ _ _ _ (J9 _).symm];try rfl
theorem PM {l:List Int} {n:Nat} (h:l.length=n+2):l=l.take n ++ [l.getD n 0,l.getD (n+1) 0]:=by
 have h1:n<l.length:=by omega
 have h2:n+1<l.length:=by omega
 conv=>lhs;rw [<-Cj n l]
 congr 1;rw [Bt h1,Bt h2,AC (by omega)];simp [Ac,Ag h1,Ag h2]
theorem Wn (n:Nat) (c:List UInt8) (hc:n+5<=c.length):MM (Kr n c)=c.take (n+5):=by
 have hl:(nums (QL n) c).length=n+2:=by rw [nums_len,Jn]
 have hp:(Kr n c).places.length=n:=by show ((nums (QL n) c).take n).length=n;rw [As];omega
 rw [JG,hp,show (Kr n c).places ++ [(Kr n c).next,(Kr n c).root]=nums (QL n) c from (PM hl).symm,rowB_nums _ _ (by rw [Jk];exact hc),Jk]
theorem S8 (n:Nat):∀ (k:Nat) (c:List UInt8),(n+5)*k<=c.length->((ED n k c).map MM).flatten=c.take ((n+5)*k)
 | 0,c,_=>by simp [ED]
 | k+1,c,h=>by
  have h':(n+5)*k+(n+5)<=c.length:=by rw [Nat.mul_succ] at h;exact h
  have ih:=S8 n k c (by omega);rw [ED,Bp,A8,A8,Ci,show ((List.map (fun i=>Kr n (List.drop ((n+5)*i) c)) (List.range k)).map MM).flatten=_ from ih];simp only [Az,Bx,AI,List.flatten_nil,AR];rw [Wn n _ (by rw [Ak];omega),Nat.mul_succ,<-List.take_add]
theorem Xi (n k:Nat) (b:List UInt8) (s:ByteArray) (u:Nat) (f:17<=b.length) (hl:H9 (b.drop 17)=some (s,u)) (hk:17+u+(n+5)*k<=b.length):KV (MK n k b s u)=b.take (17+u+(n+5)*k):=by
 obtain⟨h1,h2,h3,h4⟩:=N0 hl;have e1:K1 (MK n k b s u)=nums szA b:=rfl;have e2:rowB (nums szA b) szA=b.take 17:=rowB_nums szA b f;have e3:=S8 n k (b.drop (17+u)) (by rw [Ak];omega);rw [KV,e1,e2,show (MK n k b s u).homes=ED n k (b.drop (17+u)) from rfl,e3,show GL (MK n k b s u).label=GL s from rfl,h2,<-List.take_add,<-List.take_add]

theorem O9 {g:Geo} {h:Hm} (hg:Bq g=true) (hh:Ed g h=true):h.places.length=g.d.toNat+1/\(∀ p∈h.places,0<=p/\p<256)/\(0<=h.next/\h.next<256)/\0<=h.root/\h.root<4294967296:=by
 obtain⟨h1,h2,h3,h4,h5⟩:=Aq.1 hg;simp only [Ed,Af,decide_eq_true_eq,AE,P7,Av,AS] at hh;obtain⟨q1,q2,q3,q4⟩:=hh;refine⟨by omega,fun p hp=>?_,by omega,by omega⟩;obtain⟨i,hi,rfl⟩:=List.getElem_of_mem hp;have:=(q4 i hi).1;rw [Ac,Ag hi] at this;simp only [BH] at this;omega
theorem VR {l:List Int} (h:∀ p∈l,0<=p/\p<256):∀ k (a:k<l.length) (b:k<(FL l.length).length),ET (FL l.length)[k]/\0<=l[k]/\l[k]<Dr (FL l.length)[k]:=fun k a b=>by
 have e:(FL l.length)[k]=1:=by simp [FL]
 rw [e];exact⟨.inl rfl,h _ (CD a)⟩
theorem Yj {a s b t:List Int} (ha:a.length=s.length) (h1:∀ k (p:k<a.length) (q:k<s.length),ET s[k]/\0<=a[k]/\a[k]<Dr s[k]) (h2:∀ k (p:k<b.length) (q:k<t.length),ET t[k]/\0<=b[k]/\b[k]<Dr t[k]) :
  ∀ k (p:k<(a ++ b).length) (q:k<(s ++ t).length),ET (s ++ t)[k]/\0<=(a ++ b)[k]/\(a ++ b)[k]<Dr (s ++ t)[k]:=fun k p q=>by
 by_cases hk:k<a.length
 ·rw [List.getElem_append_left hk,List.getElem_append_left (by omega)];exact h1 k hk (by omega)
 ·rw [List.getElem_append_right (by omega),List.getElem_append_right (by omega)];have:=h2 (k - a.length) (by rw [Ai] at p;omega) (by rw [Ai] at q;omega);simpa only [ha] using this
theorem Sa {x y:Int} (h1:0<=x/\x<256) (h2:0<=y/\y<4294967296):∀ k (_:k < [x,y].length) (_:k<([1,4]:List Int).length),ET ([1,4]:List Int)[k]/\0<= [x,y][k]/\ [x,y][k]<Dr ([1,4]:List Int)[k]:=fun k p _=>by
 have hk:k=0\/k=1:=by simp at p;omega
 rcases hk with rfl | rfl
 ·exact⟨.inl rfl,h1⟩
 ·exact⟨.inr (.inr rfl),h2⟩
theorem Yf {g:Geo} {h:Hm} (hg:Bq g=true) (hh:Ed g h=true):(MM h).length=g.d.toNat+6:=by
 obtain⟨h1,_⟩:=O9 hg hh;rw [JG,tot_rowB _ _ (by rw [Ai,Jn];try rfl),Jk,h1]
theorem Wm {g:Geo} {h:Hm} (hg:Bq g=true) (hh:Ed g h=true) (r:List UInt8):Kr (g.d.toNat+1) (MM h ++ r)=h:=by
 obtain⟨h1,h2,h3,h4⟩:=O9 hg hh;have e:nums (QL (g.d.toNat+1)) (MM h ++ r)=h.places ++ [h.next,h.root]:=by
  rw [<-h1,JG];refine nums_rowB _ _ _ (by rw [Ai,Jn];try rfl) ?_;rw [QL,Nr,A7];exact Yj (J9 _).symm (VR h2) (Sa h3 h4)
 unfold Kr;rw [e,<-h1];obtain⟨p,n,ro⟩:=h;simp [Ac]
theorem Lo {g:Geo} (hg:Bq g=true):∀ (l:List Hm),(∀ h∈l,Ed g h=true)->ED (g.d.toNat+1) l.length (l.map MM).flatten=l/\(l.map MM).flatten.length=l.length*(g.d.toNat+6)
 | [],_=>⟨rfl,by simp⟩
 | h::l,hh=>by
  obtain⟨ih,ih2⟩:=Lo hg l fun x hx=>hh x (by simp [hx])
  have hB:=Yf hg (hh h (by simp));refine⟨?_,by simp only [Az,AI,Ai,ih2,hB,Ao,B5];omega⟩;simp only [ED,Az,AI,Ao,List.range_succ_eq_map,List.map_map];rw [Nat.mul_zero,List.drop_zero,Wm hg (hh h (by simp))];congr 1;refine Eq.trans (CJ fun i _=>?_) ih;simp only [Function.comp,Nat.succ_eq_add_one];rw [show (g.d.toNat+1+5)*(i+1)=(MM h).length+(g.d.toNat+1+5)*i by rw [hB,Nat.mul_succ];omega,Cp];rw [AC (by omega),B7,Nat.add_sub_cancel_left]
theorem T1 {g:Geo} {a:An} (hg:Bq g=true) (ha:Bj g a=true):Fp g (KV a)=some a:=by
 obtain⟨g1,g2,g3,g4,g5⟩:=Aq.1 hg;have i:=ha;simp only [Bj,Af,decide_eq_true_eq,A_,BB,B3,AE,Av] at ha;obtain⟨⟨q1,q2,q3,q4⟩,_,_,q5,q6,q7,q8⟩:=ha;have hz:a.homes.length=g.z.toNat:=by omega
 obtain⟨e1,e2⟩:=Lo hg a.homes q8;have hf:∀ k (p:k<(K1 a).length) (q:k<szA.length),ET szA[k]/\0<=(K1 a)[k]/\(K1 a)[k]<Dr szA[k]:=fun k p q=>by
  have hk:k=0\/k=1\/k=2\/k=3\/k=4:=by simp [K1] at p;omega
  have l4:Dr 4=4294967296:=rfl;have l1:Dr 1=256:=rfl;rcases hk with rfl | rfl | rfl | rfl | rfl
  ·exact⟨.inr (.inr rfl),q1.1,by show a.gen<Dr 4;omega⟩
  ·exact⟨.inr (.inr rfl),q2.1,by show a.epoch<Dr 4;omega⟩
  ·exact⟨.inr (.inr rfl),q3.1,by show a.seq<Dr 4;omega⟩
  ·exact⟨.inr (.inr rfl),q4.1,by show a.last<Dr 4;omega⟩
  ·exact⟨.inl rfl,q5.1,by show a.pos<Dr 1;omega⟩
 have hn:nums szA (KV a)=K1 a:=by
  rw [KV,A7];exact nums_rowB _ _ _ rfl hf
 have f:(rowB (K1 a) szA).length=17:=tot_rowB _ _ rfl;have hd:(KV a).drop 17=GL a.label ++ (a.homes.map MM).flatten:=by
  rw [KV,A7,<-f,Cp,AC (Ah _),CH];simp
 have j:(KV a).length=17+(1+a.label.size)+g.z.toNat*(g.d.toNat+6):=by
  rw [KV,Ai,Ai,f,Gf,e2,hz]
 have h:(KV a).drop (17+(1+a.label.size))=(a.homes.map MM).flatten:=by
  rw [<-Bc,hd,<-Gf,Cp,AC (Ah _),CH];simp
 have ho:MK (g.d.toNat+1) g.z.toNat (KV a) a.label (1+a.label.size)=a:=by
  unfold MK;rw [hn,h,<-hz,e1];try rfl
 unfold Fp;rw [if_neg (by omega),hd,TO q6];simp only;rw [if_neg (by omega),ho,if_pos i]
theorem Rj {g:Geo} {b:List UInt8} {a:An} (hg:Bq g=true) (h:Fp g b=some a):Bj g a=true/\KV a=b:=by
 obtain⟨g1,g2,g3,g4,g5⟩:=Aq.1 hg;unfold Fp at h;split at h
 ·cases h
 ·rename_i h17;split at h
  ·cases h
  ·rename_i s u hl;split at h
   ·cases h
   ·rename_i hlen;split at h
    ·rename_i hok;cases h;refine⟨hok,?_⟩;have hm:(g.d.toNat+1+5)*g.z.toNat=g.z.toNat*(g.d.toNat+6):=Nat.mul_comm _ _;rw [Xi _ _ _ _ _ (by omega) hl (by omega),A4 (by omega)]
    ·cases h
end
section
open Go.Lib
theorem FT (n:Nat) (z:Int) (h:z=n):UInt8.ofNat n=z.toNat.toUInt8:=by subst h;rfl
theorem Z5 (r:Nat) (h:r<=1114111) (hv:r<55296\/57344<=r):(Utf8.encode (r:Int)).data.toList=encodeRune (r:Int):=by
 have v:Utf8.valid (r:Int)=true:=by simp [Utf8.valid];omega
 unfold encodeRune;by_cases c1:r<128
 ·rw [encodeRuneZ_one (by omega) (by omega)];simp [Utf8.encode,v,c1]
 by_cases c2:r<2048
 ·rw [encodeRuneZ_two (by omega) (by omega),show (Utf8.encode (r:Int)).data.toList=[UInt8.ofNat (192+r / 64),UInt8.ofNat (128+r % 64)] by simp [Utf8.encode,v,c1,c2]];exact congr (congrArg List.cons (FT _ _ (by omega))) (congr (congrArg List.cons (FT _ _ (by omega))) rfl)
 by_cases c3:r<65536
 ·rw [encodeRuneZ_three (by omega),show (Utf8.encode (r:Int)).data.toList=[UInt8.ofNat (224+r / 4096),UInt8.ofNat (128+r / 64 % 64),UInt8.ofNat (128+r % 64)] by simp [Utf8.encode,v,c1,c2,c3]];exact congr (congrArg List.cons (FT _ _ (by omega))) (congr (congrArg List.cons (FT _ _ (by omega))) (congr (congrArg List.cons (FT _ _ (by omega))) rfl))
 ·rw [encodeRuneZ_four (by omega) (by omega),show (Utf8.encode (r:Int)).data.toList=[UInt8.ofNat (240+r / 262144),UInt8.ofNat (128+r / 4096 % 64),UInt8.ofNat (128+r / 64 % 64),UInt8.ofNat (128+r % 64)] by simp [Utf8.encode,v,c1,c2,c3]];exact congr (congrArg List.cons (FT _ _ (by omega))) (congr (congrArg List.cons (FT _ _ (by omega))) (congr (congrArg List.cons (FT _ _ (by omega))) (congr (congrArg List.cons (FT _ _ (by omega))) rfl)))
def Eb (l:List UInt8):List Int:=if _h:l=[] then [] else ((decodeL l).1:Int)::Eb (l.drop (decodeL l).2)
termination_by l.length
decreasing_by exact Hv _h
theorem runesL_nil:Eb []=[]:=by rw [Eb];simp
theorem HR (l:List UInt8) (h:¬l=[]):Eb l=((decodeL l).1:Int)::Eb (l.drop (decodeL l).2):=by rw [Eb,dif_neg h]
theorem RG {l:List UInt8}:(decodeL l).1<55296\/57344<=(decodeL l).1:=by
 rw [decodeL_N];have k0:=(l.getD 0 0).toNat_lt;have k1:=(l.getD 1 0).toNat_lt;have k2:=(l.getD 2 0).toNat_lt;rcases decodeN_shape l.length (l.getD 0 0).toNat (l.getD 1 0).toNat (l.getD 2 0).toNat (l.getD 3 0).toNat with ⟨_,e⟩ | ⟨_,_,_,_,e⟩ | ⟨_,_,_,_,_,_,e⟩ | ⟨_,_,_,_,_,_,_,e⟩ | e <;> rw [e] <;> simp only <;> omega
theorem QV (n:Nat):∀ l:List UInt8,l.length=n->(Eb l).length<=l.length:=by
 induction n using Nat.strongRecOn with
 | ind n ih=>
  intro l hl;by_cases h:l=[]
  ·subst h;rw [runesL_nil];simp
  ·have h1:=Hv h;have h2:=ih _ (by rw [<-hl];exact h1) _ rfl;rw [HR l h,Ao];omega
theorem Uz (n:Nat):∀ (l:List UInt8) (b:ByteArray),l.length=n->validD l=true->((Eb l).foldl (fun r n=>r ++ Utf8.encode n) b).data.toList=b.data.toList ++ l:=by
 induction n using Nat.strongRecOn with
 | ind n ih=>
  intro l b hl hv;by_cases h:l=[]
  ·subst h;rw [runesL_nil];simp
  ·have h1:=Hv h;rw [validD_step l h] at hv;split at hv
   ·cases hv
   ·rename_i hn;rw [HR l h,List.foldl_cons,ih _ (by rw [<-hl];exact h1) _ _ rfl hv];have e:(b ++ Utf8.encode ((decodeL l).1:Int)).data.toList=b.data.toList ++ (Utf8.encode ((decodeL l).1:Int)).data.toList:=by simp [ByteArray.data_append]
    rw [e,Z5 _ (decodeL_rune l) RG,encode_decode l h hn,A7,Cj]
theorem Kc {s:ByteArray} (h:validD s.data.toList=true):runesBytes (Eb s.data.toList)=s:=by
 have:=Uz _ s.data.toList ByteArray.empty rfl h;apply ByteArray.ext;apply Array.ext';rw [runesBytes,this];try rfl
theorem Jy (s:ByteArray):∀ (bound i:Nat) (acc:Array Value),s.size<=i+bound->Conv.runesFrom s bound i acc=acc ++ ((Eb (s.data.toList.drop i)).map (Value.int .i32)).toArray
 | 0,i,acc,h=>by
  have:s.data.toList.drop i=[]:=AC (by rw [Ea];omega);rw [this,runesL_nil];simp [Conv.runesFrom]
 | bound+1,i,acc,h=>by
  unfold Conv.runesFrom;split
  ·rename_i hi;have f:¬s.data.toList.drop i=[]:=by
    intro e;have:=congrArg List.length e;rw [Ak,Ea] at this;simp at this;omega
   have hd:=Il s i;have hw:1<=(Utf8.decode s i).2:=by rw [hd];exact decodeL_width _
   show Conv.runesFrom s bound (i+(Utf8.decode s i).2) (acc.push (Value.int IntKind.i32 (Int.ofNat (Utf8.decode s i).1)))=_;rw [Jy s bound _ _ (by omega),HR _ f,<-hd,Bc];simp
  ·have:s.data.toList.drop i=[]:=AC (by rw [Ea];omega);rw [this,runesL_nil];simp
end
end Go.Proofs.YtpjkcgacjjbikaaGreatDoor.A
namespace Go.Proofs.YtpjkcgacjjbikaaGreatDoor
section
open Go.RowKit
attribute [local go_sem ↓] Go.wp_at_zero Go.wp_at_succ

theorem FW {P:Program} {w:World} {ops:Array Oper} {rest:List Oper} {o:Oper} {a:Act} {Q:Exit->Act->World->Prop} (f:o.guard=none) (d s:Operand) (t t':TypeId)
  (ho:o.op = .call { callee:= .builtin .append,args:= #[d,s],argTypes:= #[t,t'] }) {v u:Value} (hd:a.eval d=v) (hs:a.eval s=u) {v':Value} {w':World}
  (hr:(Builtin.append_ #[t,t'] o.type #[v,u]).run P w = .ok v' w') (h:wpList P ops Q rest (a.put o.dst v') w'):wpList P ops Q (o::rest) a w:=by
 refine wpList_plain f fun _ hK=>?_
 unfold Oper.wp execOp;simp only [ho,resolve,invoke,builtin,Sem.run_bind,Sem.run_pure,Result.andThen_ok,List.map_toArray,Az,Bx,hd,hs,hr];exact hK _ _ h
theorem MC (w:World) (M:Ms) (n:Int) (x:UInt8) (hx:n=(x.toNat:Int)) (s:ByteArray):Elems (Rp.sz UInt8) (Rp.E w M) ([Value.int .u8 n] ++ Lib.strCells s) (x::s.data.toList):=by
 subst hx;refine⟨[.int .u8 x.toNat],_,rfl,rfl,rfl,?_⟩;unfold Lib.strCells;induction s.data.toList with
 | nil=>rfl
 | cons y l ih=>exact⟨[.int .u8 y.toNat],_,rfl,rfl,rfl,ih⟩

theorem Tq (s:ByteArray) (w:World) (M:Ms) (hs:s.size<=255) :
  Calls Tryz.prog 219 #[.string s] w fun e w'=>∃ r,e = .returned r/\OwR w' M w.heap.size 5 r (UInt8.ofNat s.size::s.data.toList)/\Below w.heap.size w w':=by
 obtain⟨i,h1,h2,h3,h4⟩:=info_parts (show (Tryz.prog.info? 5).map (fun i=>(i.zero,i.size,i.bytes))=some (some (.int .u8 0),1,1) by kernel_rfl);have hw8:IntKind.u8.wrap (s.size:Int)=s.size:=by rw [IntKind.wrap_u8];omega
 have hN:(s.size:Int)=((UInt8.ofNat s.size).toNat:Int):=by simp;omega
 have hB:=(Below.refl w.heap.size w).alloc (Ah _) (.cells #[Value.int .u8 (s.size:Int)] 5);have ho:(w.alloc (.cells #[Value.int .u8 (s.size:Int)] 5)).ownsRow w.heap.size 5 1 (.slice (some ⟨w.heap.size,0,none⟩) 1 1) 1 [.int .u8 (s.size:Int)]:=
  ⟨rfl, .inr ⟨w.heap.size,1,_,rfl,Ah _,heap_alloc_new w _,Ah _,by decide,rfl,rfl⟩⟩
 obtain⟨v',w',hr,hr2,hr3,_⟩:=Lib.run_append_own_string (P:=Tryz.prog) (w.alloc (.cells #[Value.int .u8 (s.size:Int)] 5)) w.heap.size 22 9 22 5 i Tryz.underlying22 Tryz.underlying9 h1 h2 h3 h4 _ 1 _ ho s (by unfold maxLen;omega) (by omega) hB.size;have HO:=Lib.hid (Ad (⟨_,by simp only [Ao,DQ];rw [C5];exact hr2,MC _ _ _ _ hN s⟩:OwR w' M w.heap.size 5 v' (UInt8.ofNat s.size::s.data.toList)) (hB.grown hr3 hB.size (fun b e=>by cases e;exact Ah _)));clear hr2 hr3 ho hB hN h1 h2 h3 h4
 go_enter Tryz.func219,Tryz.ntmps219
 go_wp2_with (at_builtin;refine FW rfl _ _ _ _ rfl (by rfl) (by rfl) hr ?_)
 go_ret
 exact⟨_,rfl,HO.out⟩
theorem X_ (s:ByteArray) (w:World) (e0:Int) (he:(e0 != 0)=true) (hc:Calls Tryz.prog 181 #[.string s] w fun e w'=>e = .returned (.int .i64 e0)/\Below w.heap.size w w') :
  Calls Tryz.prog 260 #[.string s] w fun e w'=>e = .returned (.tuple #[.slice none 0 0, .int .i64 e0])/\Below w.heap.size w w':=by
 have HC:=Lib.hid hc;clear hc
 go_enter Tryz.func260,Tryz.ntmps260
 go_wp2_with (go_at_call 181;go_must (with_reducible refine HC.out.mono ?_);rintro e w1 ⟨rfl,hB1⟩)
 have HB:=Lib.hid hB1;clear hB1
 go_wp2
 go_ret2
 exact⟨rfl,HB.out⟩
theorem Wb (s:ByteArray) (w:World) (M:Ms) (hs:s.size<=255) (hv:Lib.validD s.data.toList=true) (hc:Calls Tryz.prog 181 #[.string s] w fun e w'=>e = .returned (.int .i64 0)/\Below w.heap.size w w') :
  Calls Tryz.prog 260 #[.string s] w fun e w'=>∃ r,e = .returned (.tuple #[r, .int .i64 0])/\OwR w' M w.heap.size 5 r (UInt8.ofNat s.size::s.data.toList)/\Below w.heap.size w w':=by
 obtain⟨i,h1,h2,h3,h4⟩:=info_parts (show (Tryz.prog.info? 5).map (fun i=>(i.zero,i.size,i.bytes))=some (some (.int .u8 0),1,1) by kernel_rfl);have HI:=Lib.hid (Ad h1 (Ad h2 (Ad h3 h4)));have hw8:IntKind.u8.wrap (s.size:Int)=s.size:=by rw [IntKind.wrap_u8];omega
 have HC:=Lib.hid hc;have HV:=Lib.hid hv;have HS:=Lib.hid hs;clear hc h1 h2 h3 h4 hv hs
 go_enter Tryz.func260,Tryz.ntmps260
 go_wp2_with (go_at_call 181;go_must (with_reducible refine HC.out.mono ?_);rintro e w1 ⟨rfl,hB1⟩)
 have hrf:=A.Jy s s.size 0 #[] (by omega);rw [List.drop_zero,Array.empty_append] at hrf;have hrl:=A.QV _ s.data.toList rfl;have hsz:s.data.toList.length=s.size:=rfl;have hrs:(Conv.runesFrom s s.size 0 #[]).size=(A.Eb s.data.toList).length:=by rw [hrf];simp
 have hconv:=run_runes_of_string (P:=Tryz.prog) w1 9 429 21 s Tryz.underlying9 Tryz.underlying429 Tryz.underlying21 (by rw [hrs];have:=HS.out;omega);rw [hconv];have hB2:=hB1.trans (((MI w1).trans ((Below.refl w1.drew.heap.size w1.drew).alloc (Ah _) (.cells (Conv.runesFrom s s.size 0 #[] ++ Array.replicate (grownCap w1 (Conv.runesFrom s s.size 0 #[]).size 0 21 - (Conv.runesFrom s s.size 0 #[]).size) (.int .i32 0)) 21))).mono hB1.size);have hcell:∀ j,j<(A.Eb s.data.toList).length->(w1.drew.alloc (.cells (Conv.runesFrom s s.size 0 #[] ++ Array.replicate (grownCap w1 (Conv.runesFrom s s.size 0 #[]).size 0 21 - (Conv.runesFrom s s.size 0 #[]).size) (.int .i32 0)) 21)).cell? ⟨w1.heap.size,j,none⟩=some (.int .i32 ((A.Eb s.data.toList).getD j 0)):=fun j hj=>by
  rw [cell_of_row _ w1.heap.size _ _ 21 (0,0) (heap_alloc_new w1.drew _),Array.getElem?_append_left (by rw [hrs];exact hj),hrf];simp [Ac,Ag hj]
 generalize w1.drew.alloc (.cells (Conv.runesFrom s s.size 0 #[] ++ Array.replicate (grownCap w1 (Conv.runesFrom s s.size 0 #[]).size 0 21 - (Conv.runesFrom s s.size 0 #[]).size) (.int .i32 0)) 21)=w2 at hB2 hcell |-
 rw [hrs] at *
 generalize grownCap w1 (A.Eb s.data.toList).length 0 21=cap;have hgl:w1.heap.size<w2.heap.size\/(A.Eb s.data.toList).length=0:=by
  rcases Dv (A.Eb s.data.toList).length with h | h
  ·exact .inr h
  ·exact .inl (World.block_lt_of_cell? _ _ (hcell 0 h))
 generalize w1.heap.size=g at hcell hgl |-
 have hN:(s.size:Int)=((UInt8.ofNat s.size).toNat:Int):=by have:=HS.out;simp;omega
 have hB3:=hB2.trans (((Below.refl w2.heap.size w2).alloc (Ah _) (.cells #[Value.int .u8 (s.size:Int)] 5)).mono hB2.size);have hcv:(convert 429 9 (.slice (some ⟨g,0,none⟩) (A.Eb s.data.toList).length cap)).run Tryz.prog (w2.alloc (.cells #[Value.int .u8 (s.size:Int)] 5)) = .ok (.string s) (w2.alloc (.cells #[Value.int .u8 (s.size:Int)] 5)):=by
  rw [run_convert_runes (P:=Tryz.prog) _ 429 9 21 ⟨g,0,none⟩ (A.Eb s.data.toList).length cap (A.Eb s.data.toList) (Ah _) Tryz.underlying429 Tryz.underlying21 Tryz.underlying9 (fun j hj=>by
   rw [Addr.add_lit,A0];exact RQ ((Below.refl w2.heap.size w2).alloc (Ah _) _) (hcell j hj)),Aw,A.Kc HV.out]
 have ho:(w2.alloc (.cells #[Value.int .u8 (s.size:Int)] 5)).ownsRow w.heap.size 5 1 (.slice (some ⟨w2.heap.size,0,none⟩) 1 1) 1 [.int .u8 (s.size:Int)]:=
  ⟨rfl, .inr ⟨w2.heap.size,1,_,rfl,hB2.size,heap_alloc_new w2 _,Ah _,by decide,rfl,rfl⟩⟩
 obtain⟨v',w',hr,hr2,hr3,_⟩:=Lib.run_append_own_string (P:=Tryz.prog) (w2.alloc (.cells #[Value.int .u8 (s.size:Int)] 5)) w.heap.size 22 9 22 5 i Tryz.underlying22 Tryz.underlying9 HI.out.1 HI.out.2.1 HI.out.2.2.1 HI.out.2.2.2 _ 1 _ ho s (by have:=HS.out;unfold maxLen;omega) (by have:=HS.out;omega) hB3.size;have HO:=Lib.hid (Ad (⟨_,by simp only [Ao,DQ];rw [C5];exact hr2,MC _ _ _ _ hN s⟩:OwR w' M w.heap.size 5 v' (UInt8.ofNat s.size::s.data.toList)) (hB3.grown hr3 hB3.size (fun b e=>by cases e;exact hB2.size)));clear hr2 hr3 ho hB3 hB2 hB1 hN hcell hgl hconv hrf hrl hsz hrs
 go_wp2_with (at_builtin;refine FW rfl _ _ _ _ rfl (by rfl) (by rfl) hr ?_)
 go_ret2
 exact⟨_,rfl,HO.out⟩
end
end Go.Proofs.YtpjkcgacjjbikaaGreatDoor
namespace Go.Proofs.YtpjkcgacjjbikaaGreatDoor.A
section
open Go.RowKit
def PO (b:List UInt8):AV:=match H9 b with
 | some (s,n)=> .tp [.v (.string s),iv n,iv 0]
 | none=> .tp [.v (.string ⟨#[]⟩),iv 0,iv 4]
theorem al (b:List UInt8) (hl:b.length<=100000):Fn Tryz.prog 399 [bA b] fun r=>r=PO b:=by
 have z:=(b.getD 0 0).toNat_lt;have hw:IntKind.i64.wrap (1+IntKind.i64.wrap ((b.getD 0 0).toNat:Int))=((1+(b.getD 0 0).toNat:Nat):Int):=by rw [wi (n:=((b.getD 0 0).toNat:Int)) (by omega),wi (by omega)];omega
 by_cases hs:b.length<1+(b.getD 0 0).toNat
 ·have hr:PO b = .tp [.v (.string ⟨#[]⟩),iv 0,iv 4]:=by rw [PO,H9,if_pos hs]
  rw [hr];refine zR Tryz.func399 rfl ?_;conv=>whnf
  refine A5 (fun h=>?_) (fun h=>?_) <;> (repeat rw [Aa] at h) <;> conv=>whnf
  ·exact⟨_,ri,rfl⟩
  ·refine⟨by first | omega | (refine⟨rfl,?_,?_⟩ <;> first | omega | (simp only [Ab];done) | (simp only [Ab];omega)) | (simp only [Ab];omega),?_⟩;conv=>whnf
   refine A5 (fun h2=>?_) (fun h2=>?_) <;> (repeat rw [Aa] at h2) <;> conv=>whnf
   ·exact⟨_,ri,rfl⟩
   ·exfalso;have h2:IntKind.i64.wrap (1+IntKind.i64.wrap ((b.getD 0 0).toNat:Int))<=(b.length:Int):=h2;rw [hw] at h2;omega
 ·have f:((b.drop 1).take (b.getD 0 0).toNat).length=(b.getD 0 0).toNat:=by rw [As,Ak];omega
  have hc:=IT ⟨((b.drop 1).take (b.getD 0 0).toNat).toArray⟩ (by show (List.toArray _).size<=_;simp only [BP];omega);have e1:(IntKind.i64.wrap (1+IntKind.i64.wrap ((b.getD 0 0).toNat:Int)) - 1).toNat=(b.getD 0 0).toNat:=by rw [hw];omega
  refine zR Tryz.func399 rfl ?_;conv=>whnf
  refine A5 (fun h=>?_) (fun h=>?_) <;> (repeat rw [Aa] at h) <;> conv=>whnf
  ·exfalso;have h:(b.length:Int)=0:=h;omega
  ·refine⟨by first | omega | (refine⟨rfl,?_,?_⟩ <;> first | omega | (simp only [Ab];done) | (simp only [Ab];omega)) | (simp only [Ab];omega),?_⟩;conv=>whnf
   refine A5 (fun h2=>?_) (fun h2=>?_) <;> (repeat rw [Aa] at h2) <;> conv=>whnf
   ·exfalso;have h2:(b.length:Int)<IntKind.i64.wrap (1+IntKind.i64.wrap ((b.getD 0 0).toNat:Int)):=h2;rw [hw] at h2;omega
   ·refine⟨by first | omega | (refine⟨rfl,?_,?_⟩ <;> first | omega | (simp only [Ab];done) | (simp only [Ab];omega)) | (simp only [Ab];omega),?_⟩;conv=>whnf
    have j:IntKind.i64.wrap (1+IntKind.i64.wrap ((b.getD (Int.toNat 0) 0).toNat:Int))=((1+(b.getD 0 0).toNat:Nat):Int):=hw;rw [j];refine⟨⟨by omega,by omega,by omega,by omega⟩,?_⟩;conv=>whnf
    refine⟨(b.drop 1).take (b.getD 0 0).toNat,⟨rfl,by rw [f];omega,fun i hi=>?_⟩,?_⟩
    ·have u:i<(b.getD 0 0).toNat:=by omega
     show [AV.v (Value.int IntKind.u8 ((b.getD (i+1) 0).toNat:Int))]=_;rw [show ((b.drop 1).take (b.getD 0 0).toNat).getD i 0=b.getD (i+1) 0 by rw [Ac,BG u,BC,C5];try rfl]
    conv=>whnf
    refine zY hc ?_;conv=>whnf
    refine A5 (fun h3=>?_) (fun h3=>?_) <;> (repeat rw [Aa] at h3) <;> conv=>whnf
    ·have h3:EO ((b.drop 1).take (b.getD 0 0).toNat)≠0:=h3;exact⟨_,ri,by rw [PO,H9,if_neg hs,if_neg h3]⟩
    ·have h3:EO ((b.drop 1).take (b.getD 0 0).toNat)=0:=h3;exact⟨_,ri,by rw [PO,H9,if_neg hs,if_pos h3]⟩
theorem Tl (b:List UInt8) (hl:b.length<=100000):Fn Tryz.prog 364 [bA b] fun r=>r=match H9 b with | some (s,n)=> .tp [.v (.string s),iv n] | none=> .tp [.v (.string ⟨#[]⟩),iv 0]:=by
 have F:=(b.getD 0 0).toNat_lt;have hw:IntKind.i64.wrap (1+IntKind.i64.wrap ((b.getD 0 0).toNat:Int))=((1+(b.getD 0 0).toNat:Nat):Int):=by rw [wi (n:=((b.getD 0 0).toNat:Int)) (by omega),wi (by omega)];omega
 by_cases hs:b.length<1+(b.getD 0 0).toNat
 ·rw [show H9 b=none by rw [H9,if_pos hs]];refine zR Tryz.func364 rfl ?_;conv=>whnf
  refine A5 (fun h=>?_) (fun h=>?_) <;> (repeat rw [Aa] at h) <;> conv=>whnf
  ·exact⟨_,ri,rfl⟩
  ·refine⟨by first | omega | (refine⟨rfl,?_,?_⟩ <;> first | omega | (simp only [Ab];done) | (simp only [Ab];omega)) | (simp only [Ab];omega),?_⟩;conv=>whnf
   refine A5 (fun h2=>?_) (fun h2=>?_) <;> (repeat rw [Aa] at h2) <;> conv=>whnf
   ·exact⟨_,ri,rfl⟩
   ·exfalso;have h2:IntKind.i64.wrap (1+IntKind.i64.wrap ((b.getD 0 0).toNat:Int))<=(b.length:Int):=h2;rw [hw] at h2;omega
 ·have f:((b.drop 1).take (b.getD 0 0).toNat).length=(b.getD 0 0).toNat:=by rw [As,Ak];omega
  have j:(⟨((b.drop 1).take (b.getD 0 0).toNat).toArray⟩:ByteArray).size=(b.getD 0 0).toNat:=by show (List.toArray _).size=_;simp only [BP,f]
  have hc:=Nj ⟨((b.drop 1).take (b.getD 0 0).toNat).toArray⟩ (by rw [j];omega);have u:IntKind.i64.wrap (1+((⟨((b.drop 1).take (b.getD 0 0).toNat).toArray⟩:ByteArray).size:Int))=((1+(b.getD 0 0).toNat:Nat):Int):=by rw [j,wi (by omega)];omega
  refine zR Tryz.func364 rfl ?_;conv=>whnf
  refine A5 (fun h=>?_) (fun h=>?_) <;> (repeat rw [Aa] at h) <;> conv=>whnf
  ·exfalso;have h:(b.length:Int)=0:=h;omega
  ·refine⟨by first | omega | (refine⟨rfl,?_,?_⟩ <;> first | omega | (simp only [Ab];done) | (simp only [Ab];omega)) | (simp only [Ab];omega),?_⟩;conv=>whnf
   refine A5 (fun h2=>?_) (fun h2=>?_) <;> (repeat rw [Aa] at h2) <;> conv=>whnf
   ·exfalso;have h2:(b.length:Int)<IntKind.i64.wrap (1+IntKind.i64.wrap ((b.getD 0 0).toNat:Int)):=h2;rw [hw] at h2;omega
   ·refine⟨by first | omega | (refine⟨rfl,?_,?_⟩ <;> first | omega | (simp only [Ab];done) | (simp only [Ab];omega)) | (simp only [Ab];omega),?_⟩;conv=>whnf
    have z:IntKind.i64.wrap (1+IntKind.i64.wrap ((b.getD (Int.toNat 0) 0).toNat:Int))=((1+(b.getD 0 0).toNat:Nat):Int):=hw;rw [z];refine⟨⟨by omega,by omega,by omega,by omega⟩,?_⟩;conv=>whnf
    refine⟨(b.drop 1).take (b.getD 0 0).toNat,⟨rfl,by rw [f];omega,fun i hi=>?_⟩,?_⟩
    ·have C:i<(b.getD 0 0).toNat:=by omega
     show [AV.v (Value.int IntKind.u8 ((b.getD (i+1) 0).toNat:Int))]=_;rw [show ((b.drop 1).take (b.getD 0 0).toNat).getD i 0=b.getD (i+1) 0 by rw [Ac,BG C,BC,C5];try rfl]
    conv=>whnf
    refine zY hc ?_;conv=>whnf
    refine A5 (fun h3=>?_) (fun h3=>?_) <;> (repeat rw [Aa] at h3) <;> conv=>whnf
    ·have h3:EO ((b.drop 1).take (b.getD 0 0).toNat)≠0:=h3;exact⟨_,ri,by rw [H9,if_neg hs,if_neg h3]⟩
    ·have h3:EO ((b.drop 1).take (b.getD 0 0).toNat)=0:=h3;exact⟨_,ri,by rw [H9,if_neg hs,if_pos h3];simp only;rw [u]⟩
theorem VA (s:ByteArray) (hs:s.size<=255):Fn Tryz.prog 219 [.v (.string s)] fun r=>r=bA (GL s):=by
 refine⟨⟨_,Tryz.func219,rfl,by decide⟩,fun c0 us hd hM _ hr=>?_⟩;obtain⟨u1,rfl,h1⟩:=ab hr;simp only [Rd] at h1;subst h1;refine(Tq s c0.w noM hs).mono ?_;rintro e w' ⟨r,rfl,ho,hB⟩;exact⟨_,_,rfl,rfl,hB,VU ho hM⟩
theorem TM (s:ByteArray) (hs:s.size<=1000000):Fn Tryz.prog 260 [.v (.string s)] fun r=>r = .tp [bA (if EO s.data.toList=0 then GL s else []),iv (EO s.data.toList)]:=by
 have hc:=IT s hs;refine⟨⟨_,Tryz.func260,rfl,by decide⟩,fun c0 us hd hM hg hr=>?_⟩;have f:=hr;obtain⟨u1,rfl,h1⟩:=ab hr;simp only [Rd] at h1;subst h1;have hC:=hc.calls c0 _ hd hM hg f;by_cases h0:EO s.data.toList=0
 ·have j:=Ie h0;have hv:Lib.validD s.data.toList=true:=by
   unfold EO at h0;split at h0
   ·cases h0
   ·rename_i h;simp at h;exact h.2
  rw [if_pos h0];rw [h0] at hC |-
  refine(Wb s c0.w noM (by have:s.size=s.data.toList.length:=rfl;omega) hv (hC.mono ?_)).mono ?_
  ·rintro e w' ⟨v,r,rfl,rfl,q1,q2⟩;simp only [Rd] at q2;exact⟨by rw [q2],q1⟩
  ·rintro e w' ⟨r,rfl,ho,hB⟩;exact⟨_,_,rfl,rfl,hB,O1 (VU ho hM) (P3 _)⟩
 ·rw [if_neg h0];refine(X_ s c0.w (EO s.data.toList) (by simpa using h0) (hC.mono ?_)).mono ?_
  ·rintro e w' ⟨v,r,rfl,rfl,q1,q2⟩;simp only [Rd] at q2;exact⟨by rw [q2],q1⟩
  ·rintro e w' ⟨rfl,hB⟩;refine⟨_,_,rfl,rfl,hB,O1 ?_ (P3 _)⟩;exact Bg 1 (fun i=> [.v (.int .u8 (([]:List UInt8).getD i 0).toNat)]) _ (.slice none 0 0) (by simp [Rd])
theorem P8 (l:List Int) (j:Nat) (h:j<l.length):Ov (l.take (j+1))=Ov (l.take j) ++ leB 1 (l.getD j 0).toNat:=by
 have e:∀ n,n<=l.length->Ov (l.take n)=rowB (l.take n) ((FL l.length).take n):=fun n hn=>by
  rw [Ov,As,D8 hn,FL,FL,List.take_replicate,D8 hn]
 rw [e _ (by omega),e _ (by omega),rowB_step l (FL l.length) j h (by rw [J9];exact h)];simp [FL,Ac,Ag h]
theorem Ll (l:List Int):(Ov l).length=l.length:=by rw [Ov,tot_rowB _ _ (J9 _).symm,tot_ones]
def Gq (a:An) (k:Nat):List UInt8:=rowB (K1 a) szA ++ GL a.label ++ ((a.homes.take k).map MM).flatten
theorem NW (a:An) (k:Nat) (h:k<a.homes.length):Gq a (k+1)=Gq a k ++ MM (a.homes.getD k ⟨[],0,0⟩):=by
 rw [Gq,Gq,AW h,A8,Ci,A7];simp only [Az,Bx,AI,List.flatten_nil,AR,Ac,Ag h,BH,A7]
theorem Q7 (a:An):Gq a a.homes.length=KV a:=by rw [Gq,Aw,KV]
theorem Y5 {g:Geo} {a:An} (hg:Bq g=true) (ha:Bj g a=true):∀ k (_:k<(K1 a).length) (_:k<szA.length),ET szA[k]/\0<=(K1 a)[k]/\(K1 a)[k]<Dr szA[k]:=by
 obtain⟨g1,g2,g3,g4,g5⟩:=Aq.1 hg;simp only [Bj,Af,decide_eq_true_eq,A_,BB,B3,AE,Av] at ha;obtain⟨⟨q1,q2,q3,q4⟩,_,_,q5,q6,q7,q8⟩:=ha;intro k p _;have hk:k=0\/k=1\/k=2\/k=3\/k=4:=by simp [K1] at p;omega
 have l4:Dr 4=4294967296:=rfl;have l1:Dr 1=256:=rfl;rcases hk with rfl | rfl | rfl | rfl | rfl
 ·exact⟨.inr (.inr rfl),q1.1,by show a.gen<Dr 4;omega⟩
 ·exact⟨.inr (.inr rfl),q2.1,by show a.epoch<Dr 4;omega⟩
 ·exact⟨.inr (.inr rfl),q3.1,by show a.seq<Dr 4;omega⟩
 ·exact⟨.inr (.inr rfl),q4.1,by show a.last<Dr 4;omega⟩
 ·exact⟨.inl rfl,q5.1,by show a.pos<Dr 1;omega⟩
theorem EG {g:Geo} {a:An} (hg:Bq g=true) (ha:Bj g a=true) (k:Nat) (hk:k<=a.homes.length):(Gq a k).length<=200/\a.homes.length<=4/\EO a.label.data.toList=0/\a.label.size<=24/\(∀ h∈a.homes,Ed g h=true):=by
 obtain⟨g1,g2,g3,g4,g5⟩:=Aq.1 hg;simp only [Bj,Af,decide_eq_true_eq,A_,BB,B3,AE,Av] at ha;obtain⟨_,_,_,q5,q6,q7,q8⟩:=ha;have j:=Ie q6;have hs:a.label.size=a.label.data.toList.length:=rfl;have hr:(rowB (K1 a) szA).length=17:=tot_rowB _ _ rfl;have hm:((a.homes.take k).map MM).flatten.length=(a.homes.take k).length*(g.d.toNat+6):=(Lo hg (a.homes.take k) fun h hh=>q8 h (Cn hh)).2;have f:(a.homes.take k).length<=4:=by rw [As];omega
 have i:(a.homes.take k).length*(g.d.toNat+6)<=4*10:=Du f (by omega);refine⟨?_,by omega,q6,by omega,q8⟩;rw [Gq,Ai,Ai,hr,Gf,hm];omega
theorem MH {L:List UInt8} {n:Nat} {es:List (List AV)} (hn:n=L.length) (he:es=L.map Ef) (c:Ctx) (v:Value) (h:Rd (.sl 1 n fun i=>es.getD i []) c v):Rd (bA L) c v:=by
 subst he;exact zB hn (fun i hi=>AY (f:=Ef) (l:=L) (d:=0) (hn ▸ hi)) h
theorem Hh {α:Type} {d:α} {β:Type} (f:α->β) (l:List α):(List.range l.length).map (fun i=>f (l.getD i d))=l.map f:=by
 refine List.ext_getElem (by simp) fun i h1 h2=>?_
 simp only [Ab,BQ] at h1;simp [Ac,Ag h1]
theorem Qx (L:List UInt8):((List.range L.length).map fun i=> [AV.v (Value.int IntKind.u8 ((L.getD i 0).toNat:Int))])=L.map Ef:=Hh (d:=0) Ef L
theorem UU (g:Geo) (a:An) (hl:a.label.size<=1000000) (hh:a.homes.length<=1000000):Fn Tryz.prog 184 [.ag (AK g), .ag (Ek a)] fun r=>r = .tp [bA (if Bq g&&Bj g a then KV a else []), .v (F1 (Bq g&&Bj g a))]:=by
 have hc:=K4 g a hl hh;have no:∀ (c:Ctx) (v:Value),Rd (.tp [.v (.slice none 0 0),iv 1]) c v->Rd (.tp [bA [],iv 1]) c v:=fun c v h=>by
  simp only [Rd,RdL] at h |-
  obtain⟨xs,rfl,y,ys,rfl,rfl,h⟩:=h;exact⟨_,rfl,_,_,rfl,Bg 1 (fun i=> [.v (.int .u8 (([]:List UInt8).getD i 0).toNat)]) c (.slice none 0 0) (by simp [Rd]),h⟩
 cases f:(Bq g&&Bj g a) with
 | false=>
  rw [f] at hc;refine zR Tryz.func184 rfl ?_;conv=>whnf
  refine zY hc ?_;exact⟨_,no,rfl⟩
 | true=>
  rw [f] at hc;have hg:Bq g=true:=by simp only [Af] at f;exact f.1
  have ha:Bj g a=true:=by simp only [Af] at f;exact f.2
  obtain⟨q1,q2,q3,q4,q5⟩:=EG hg ha 0 (Aj _);have G:=J0 (K1 a) szA rfl (by show 5<=1000;decide) (Y5 hg ha);have J:=TM a.label hl;rw [if_pos q3,q3] at J;refine zR Tryz.func184 rfl ?_;conv=>whnf
  refine zY hc ?_;conv=>whnf
  refine zO (G).go ?_;refine⟨rfl,?_⟩;refine⟨rfl,?_⟩;conv=>whnf
  refine zV [iA (K1 a),iA szA] ⟨(BK (l:=(K1 a)) rfl).1,(BK (l:=szA) rfl).1,tv⟩ ?_;refine zW (G) rfl ?_;rintro _ _ ⟨rfl,rfl⟩;conv=>whnf
  refine zY J ?_;conv=>whnf
  have O:(rowB (K1 a) szA).length=17:=tot_rowB _ _ rfl;refine Ad ⟨by simp,by rw [O,Gf];omega⟩ ?_;conv=>whnf
  have e0:(rowB (K1 a) szA).map Ef ++ ((List.range (GL a.label).length).map fun i=> [AV.v (Value.int IntKind.u8 (((GL a.label).getD i 0).toNat:Int))])=(Gq a 0).map Ef:=by
   rw [Qx,<-A8];simp [Gq]
  have e1:(rowB (K1 a) szA).length+(GL a.label).length=(Gq a 0).length:=by simp [Gq]
  refine zj Nat (fun k=>([(2, .bp 0 0),(3, .bp 1 0),(7, .ow 4 (Gq a k).length),(49,HE a.homes),(50,iv a.homes.length),(51,iv k)], [.box 24 (AK g), .box 28 (Ek a), .dead, .dead, .row 5 1 ((Gq a k).map Ef)])) (fun k=>k<=a.homes.length) (fun k=>a.homes.length - k) 0 (Aj _)
   (zE ⟨[],tv,⟨rfl,rfl,congrArg (AV.ow 4) e1,rfl,rfl,rfl,tv⟩,⟨rfl,rfl,congrArg (AB.row _ _) e0.symm,tv⟩,rfl,rfl,rfl⟩) ?_
  intro k hk;conv=>whnf
  refine A5 (fun h6=>?_) (fun h6=>?_) <;> (repeat rw [Aa] at h6) <;> conv=>whnf
  ·refine⟨by first | omega | (refine⟨rfl,?_,?_⟩ <;> first | omega | (simp only [Ab];done) | (simp only [Ab];omega)) | (simp only [Ab];omega),?_⟩;conv=>whnf
   have F:k<a.homes.length:=by omega
   have L:=q5 _ (A3 (d:=(⟨[],0,0⟩:Hm)) F);obtain⟨f1,f2,f3,f4,f5⟩:=O9 hg L;have u:=NW a k F;have hB:=(EG hg ha k hk).1;have N:=(EG hg ha (k+1) F).1;generalize hX:Gq a k=X at u hB |-
   rw [show a.homes.getD (k:Int).toNat ⟨[],0,0⟩=a.homes.getD k ⟨[],0,0⟩ by rw [Aa]];generalize a.homes.getD k ⟨[],0,0⟩=h at L f1 f2 f3 f4 f5 u |-
   rw [u] at N;have V:(MM h).length=h.places.length+5:=by rw [JG,tot_rowB _ _ (by rw [Ai,Jn];try rfl),Jk]
   rw [Ai,V] at N;refine zj Nat (fun j=>([(2, .bp 0 0),(3, .bp 1 0),(7, .ow 4 (X ++ Ov (h.places.take j)).length),(12, .bp 5 0),(49,HE a.homes),(50,iv a.homes.length),(51,iv k),(56,iA h.places),(57,iv h.places.length),(58,iv j)], [.box 24 (AK g), .box 28 (Ek a), .dead, .dead, .row 5 1 ((X ++ Ov (h.places.take j)).map Ef), .box 108 (DL h)])) (fun j=>j<=h.places.length) (fun j=>h.places.length - j) 0 (Aj _)
    (zE ⟨[],tv,⟨rfl,rfl,congrArg (fun l=>AV.ow 4 (List.length l)) (AR X).symm,rfl,rfl,rfl,rfl,rfl,rfl,rfl,tv⟩,⟨rfl,rfl,congrArg (fun l=>AB.row _ _ (List.map Ef l)) (AR X),rfl,tv⟩,rfl,rfl,rfl⟩) ?_
   intro j hj;conv=>whnf
   refine A5 (fun h7=>?_) (fun h7=>?_) <;> (repeat rw [Aa] at h7) <;> conv=>whnf
   ·refine⟨by first | omega | (refine⟨rfl,?_,?_⟩ <;> first | omega | (simp only [Ab];done) | (simp only [Ab];omega)) | (simp only [Ab];omega),?_⟩;conv=>whnf
    rw [Aa];have K:j<h.places.length:=by omega
    have hp:=f2 _ (A3 (d:=(0:Int)) K);have C:=Ll (h.places.take j);have U:=P8 h.places j K;have z:=XL (X ++ Ov (h.places.take j)) (h.places.getD j 0) 1 (.inl rfl) (by rw [Ai,C,As];omega) hp.1 hp.2;rw [show (1:Int).toNat=1 from rfl,A7,<-U] at z;refine zO (z).go ?_;conv=>whnf
    repeat' (refine Ad (by first | rfl | omega | (simp;done) | (simp only [Ab];omega) | (simp;omega)) ?_;conv=>whnf)
    refine zV [bA (X ++ Ov (h.places.take j)),iv (h.places.getD j 0),iv 1] ⟨MH rfl rfl,ri,ri,tv⟩ ?_;refine zW (z) rfl ?_;rintro _ _ ⟨rfl,rfl⟩;refine⟨j+1,by omega,by omega,zS (s:= [0,1,2,3,6,5]) ⟨⟨rfl,rfl,rfl,rfl,rfl,rfl,rfl,rfl,rfl,AG (by omega),tv⟩,tA,rfl,rfl,rfl,rfl,rfl⟩⟩
   ·have ej:j=h.places.length:=by omega
    subst ej;have I:=J0 [h.next,h.root] [1,4] rfl (by show 2<=1000;decide) (Sa f3 ⟨f4,f5⟩);have l5:(rowB [h.next,h.root] [1,4]).length=5:=tot_rowB _ _ rfl;have C:=Ll (h.places.take h.places.length);rw [Aw] at C |-
    refine zO (I).go ?_;refine⟨rfl,?_⟩;refine⟨rfl,?_⟩;conv=>whnf
    refine zV [iA [h.next,h.root],iA [1,4]] ⟨(BK (l:= [h.next,h.root]) rfl).1,(BK (l:= [1,4]) rfl).1,tv⟩ ?_;refine zW (I) rfl ?_;rintro _ _ ⟨rfl,rfl⟩;refine⟨by simp,?_⟩;conv=>whnf
    refine Ad ⟨by simp,by rw [l5,Ai,C];omega⟩ ?_;conv=>whnf
    refine⟨k+1,F,by omega,zS (s:= [0,1,2,3,4]) ⟨⟨rfl,rfl,congrArg (AV.ow 4) (by rw [u];simp [MM,CV]),rfl,rfl,AG (by omega),tv⟩,⟨rfl,rfl,tv,tv,congrArg (fun l=>some (AB.row _ _ l)) (by rw [u];simp [MM]),tv⟩,rfl,rfl,rfl,rfl,rfl⟩⟩
  ·have ek:k=a.homes.length:=by omega
   subst ek;rw [Q7];refine⟨by simp,?_⟩;exact⟨.tp [bA (KV a),iv 0],fun c v h=>by
    simp only [Rd,RdL] at h |-
    obtain⟨xs,rfl,y,ys,rfl,h1,h⟩:=h;exact⟨_,rfl,y,ys,rfl,MH rfl rfl c y (by simp only [Rd];exact h1),h⟩,rfl⟩
section
variable {P:Program} {T:Tys} {w0:Fl} {M0:Ms} {n d0:Nat} {ce:Ctx} {l m:Nat}
theorem Ol {row:String} {args:Array Value} {w:World} {R:Value->World->Prop} (h:Rows P row args w R):RowsIn (Fence.wide.inRound l) m P row args w R:=
 fun c cs _=>let ⟨v,w',r,s⟩:=h c cs;⟨v,w',r,stepsIn_wide.2 s⟩
theorem Hk {o:Oper} {a:Act} {w:World} {next:Act->World->Prop} {Q:Exit->Act->World->Prop} (hd:∀ c,o.op≠ .defer c) (h:o.wp P a w next Q):o.wpIn (Fence.wide.inRound l) m P a w next Q:=by
 refine⟨fun _ _=>trivial,?_⟩;rw [show (Fence.wide.inRound l).round=some l from rfl,Oper.semAt_some l a.eval o hd];unfold Oper.wp at h;revert h;generalize (execOp a.eval o).run P w=r;intro h;cases r with
 | ok x w'=>
  cases x with
  | value v=>exact h
  | skip=>exact h
  | defer d=>exact h
  | enter f args=>exact⟨fun e=>(by cases e),CallsIn.inRound l (callsIn_wide.2 h)⟩
  | row r args=>exact⟨fun e=>(by cases e),Ol h⟩
  | _=>exact h.elim
 | halt x w'=>
  cases x with
  | panic v=>exact h
  | _=>exact h.elim
def roundOk:Code->Bool
 | .skip=>true
 | .exit _=>true
 | .ret=>true
 | .region _ ops draw=>!draw&&ops.toList.all ae
 | .seq a b=>roundOk a&&roundOk b
 | .cond _ a b=>roundOk a&&roundOk b
 | .block _ c=>roundOk c
 | .rangeFunc _ _ _ body=>noRF body
 | _=>false
theorem Zp {o:Oper} (h:ae o=true):∀ c,o.op≠ .defer c:=by
 intro c e;unfold ae at h;rw [e] at h;cases h
theorem IN (hT:TOk P T) {ops:Array Oper} {K:Fr->List AB->Prop} {Q:Exit->Act->World->Prop} (hq:∀ a w,Em w0 M0 ce n K a w->Q .normal a w) :
  ∀ (r:List Oper) (c:Ctx) (fr:Fr) (H:List AB) (a:Act),r.all ae=true->HS w0 M0 c H->FR w0 c n fr a->Ext ce c->Ox P T n ops.toList r fr H K->wpListIn (Fence.wide.inRound l) m P ops Q r a c.w
 | [],c,fr,H,a,_,hs,hf,he,h=>hq _ _ ⟨c,fr,H,rfl,h,hs,hf,he⟩
 | o::r,c,fr,H,a,hr,hs,hf,he,h=>by
  simp only [A_,Af] at hr;simp only [Ox] at h;unfold wpListIn;rcases DC (ops:=ops) hf h with ⟨hw,fr',f,h⟩ | ⟨hw,fr',f,h⟩
  ·rw [if_pos hw];refine Hk (Zp hr.1) (FE hT hs f he h ?_);rintro a' w' ⟨c',fr2,H',rfl,h1,h2,h3,h4⟩ -
   exact IN hT hq r c' fr2 H' a' hr.2 h2 h3 h4 h1
  ·rw [if_neg (by rw [hw];simp)];obtain⟨fr2,h1,h2⟩:=C8 (v:=undef) f (by simp [Rd]) h;exact⟨fun _ _=>trivial,IN hT hq r c fr2 H _ hr.2 hs h2 he h1⟩
theorem CA (hT:TOk P T) (hd:ce.dom=d0):∀ (cd:Code) (Q:QA) (Q':Exit->Act->World->Prop) (c:Ctx) (fr:Fr) (H:List AB) (a:Act),roundOk cd=true->(noRF cd=true\/(3<=m/\∃ r,ce.w.heap[l]? = some (.loop r)/\¬ce.M l))->(∀ e a w,LiftQ w0 M0 ce n Q e a w->Q' e a w)->HS w0 M0 c H->FR w0 c n fr a->Ext ce c->
  C2 P T n d0 cd Q fr H->cd.wpIn (Fence.wide.inRound l) m P Q' a c.w
 | .skip,Q,Q',c,fr,H,a,_,_,hq,hs,hf,he,h=>wpIn_skip (hq .normal _ _ ⟨c,fr,H,rfl,h,hs,hf,he⟩)
 | .region id ops draw,Q,Q',c,fr,H,a,hr,hm,hq,hs,hf,he,h=>by
  simp only [roundOk,Af,By] at hr;obtain⟨rfl,hr⟩:=hr;simp only [C2] at h;exact wpIn_region_list (IN hT (fun a w hl=>hq .normal a w hl) ops.toList c fr H a hr hs hf he h)
 | .seq x y,Q,Q',c,fr,H,a,hr,hm,hq,hs,hf,he,h=>by
  simp only [roundOk,Af] at hr;have j:=hm.imp_left fun h=>(by simp only [noRF,Af] at h;exact h.1)
  have f:=hm.imp_left fun h=>(by simp only [noRF,Af] at h;exact h.2)
  simp only [C2] at h;have plain:C2 P T n d0 x (EX.then (fun fr H=>C2 P T n d0 y Q fr H) Q) fr H->(Code.seq x y).wpIn (Fence.wide.inRound l) m P Q' a c.w:=by
   intro h;refine wpIn_seq_k fun K hK=>CA hT hd x _ _ c fr H a hr.1 j (z7 ?_ hq) hs hf he h
   rintro a' w' ⟨c',fr',H',rfl,h1,h2,h3,h4⟩;exact hK _ _ (CA hT hd y Q Q' c' fr' H' a' hr.2 f hq h2 h3 h4 h1)
  split at h
  ·rcases h.ex with h | ⟨ι,st,I,h,hk⟩ | ⟨ι,st,I,h,hk⟩ | ⟨ι,st,I,h,hk⟩
   ·exact plain h
   ·refine wpIn_seq_k fun K hK=>CA hT hd x _ _ c fr H a hr.1 j (z7 ?_ hq) hs hf he h
    rintro a' w' ⟨c',fr',H',rfl,⟨z,hI,hw⟩,h2,h3,h4⟩;obtain⟨c4,e4,u,C,F⟩:=hw.sound hd h2 h3 h4;rw [<-e4];exact hK _ _ (CA hT hd y Q Q' c4 _ _ a' hr.2 f hq u C F (hk z hI))
   ·refine wpIn_seq_k fun K hK=>CA hT hd x _ _ c fr H a hr.1 j (z7 ?_ hq) hs hf he h
    rintro a' w' ⟨c',fr',H',rfl,⟨z,hI,hw⟩,h2,h3,h4⟩;obtain⟨c4,e4,u,C,F⟩:=hw.sound hd h2 h3 h4;rw [<-e4];exact hK _ _ (CA hT hd y Q Q' c4 _ _ a' hr.2 f hq u C F (hk z hI))
   ·refine wpIn_seq_k fun K hK=>CA hT hd x _ _ c fr H a hr.1 j (z7 ?_ hq) hs hf he h
    rintro a' w' ⟨c',fr',H',rfl,⟨z,hI,hw⟩,h2,h3,h4⟩;obtain⟨c4,e4,u,C,F⟩:=hw.sound hd h2 h3 h4;rw [<-e4];exact hK _ _ (CA hT hd y Q Q' c4 _ _ a' hr.2 f hq u C F (hk z hI))
  ·exact plain h
 | .cond x y z,Q,Q',c,fr,H,a,hr,hm,hq,hs,hf,he,h=>by
  simp only [roundOk,Af] at hr;have j:=hm.imp_left fun h=>(by simp only [noRF,Af] at h;exact h.1)
  have f:=hm.imp_left fun h=>(by simp only [noRF,Af] at h;exact h.2)
  simp only [C2] at h;split at h
  ·rename_i t ht;have G:=hf.ev x;rw [ht] at G;simp only [Rd] at G;obtain⟨h1,h2⟩:=EN h;refine wpIn_cond_split G (fun e=>?_) fun e=>?_
   ·exact CA hT hd y Q Q' c fr H a hr.1 j hq hs hf he (h1 e)
   ·exact CA hT hd z Q Q' c fr H a hr.2 f hq hs hf he (h2 e)
  ·exact h.elim
 | .block id x,Q,Q',c,fr,H,a,hr,hm,hq,hs,hf,he,h=>by
  simp only [roundOk] at hr;simp only [noRF] at hm;simp only [C2] at h;refine wpIn_block (CA hT hd x _ _ c fr H a hr hm ?_ hs hf he h);intro e a' w' hl;cases e with
  | normal=>exact hq .normal _ _ hl
  | exit i=>
   simp only [Exit.inBlock];have hl:Em w0 M0 ce n (match Nat.beq i id with | true=>Q .normal | false=>Q (.exit i)) a' w':=by
    have e:(EX.inBlock id Q (EX.exit i))=(match Nat.beq i id with | true=>Q .normal | false=>Q (.exit i)):=by
     funext fr H;simp only [EX.inBlock];cases Nat.beq i id <;> rfl
    rw [<-e];exact hl
   by_cases hi:i=id
   ·subst hi;rw [if_pos rfl];rw [Nat.beq_refl] at hl;exact hq .normal _ _ hl
   ·rw [if_neg hi];have hb:Nat.beq i id=false:=by
     cases hq:Nat.beq i id with
     | true=>exact absurd (Al hq) hi
     | false=>rfl
    rw [hb] at hl;exact hq (.exit i) _ _ hl
  | ret=>exact hq .ret _ _ hl
  | _=>exact hl.elim
 | .exit id,Q,Q',c,fr,H,a,_,_,hq,hs,hf,he,h=>wpIn_exit (hq (.exit id) _ _ ⟨c,fr,H,rfl,h,hs,hf,he⟩)
 | .ret,Q,Q',c,fr,H,a,_,_,hq,hs,hf,he,h=>wpIn_ret (hq .ret _ _ ⟨c,fr,H,rfl,h,hs,hf,he⟩)
 | .loop _,_,_,_,_,_,_,hr,_,_,_,_,_,_=>by simp [roundOk] at hr
 | .rangeFunc g ps asg body,Q,Q',c,fr,H,a,hr,hm,hq,hs,hf,he,h=>by
  simp only [roundOk] at hr;rcases hm with hm | ⟨hm,r,h1,h2⟩
  ·simp [noRF] at hm
  ·simp only [C2] at h;have hk:=he.keep l (Ay.1 h1).1 h2;exact h.wpR hr w0 M0 ce c a hs hf he hd l r m (hk.2.trans h1) hm Q' fun ex c' fr' H' a' q1 q2 q3 q4=>by
    cases ex <;> exact hq _ _ _ ⟨c',fr',H',rfl,q1,q2,q3,q4⟩
 | .label _,_,_,_,_,_,_,hr,_,_,_,_,_,_=>by simp [roundOk] at hr
 | .goto _,_,_,_,_,_,_,hr,_,_,_,_,_,_=>by simp [roundOk] at hr
 | .scope _,_,_,_,_,_,_,hr,_,_,_,_,_,_=>by simp [roundOk] at hr
 | .refuse _,_,_,_,_,_,_,hr,_,_,_,_,_,_=>by simp [roundOk] at hr
end
def Dq (n j:Nat):List Nat:=(List.range j).map fun i=>n - 1 - i
structure IsBack (P:Program) (gf:FuncId) (sz:Nat):Prop where
 enters:∀ args w,(callFunc gf args).run P w = .ok (.enter gf args) w
 seq:∀ (m:Nat),1<=m->∀ (B:Nat) (a:Option Addr) (len cap:Nat) (X:Nat->List Value) (w:World),len<=1000000000->w.cell? ⟨B,0,none⟩=some (.slice a len cap)->(∀ j,(X j).length=sz)->
  (0<len->∃ b off,a=some ⟨b,off,none⟩/\b<w.heap.size/\∀ j,j<len->∀ (i:Nat) (u:Value),(X j)[i]? = some u->w.cell? ⟨b,off+j*sz+i,none⟩=some u)->
  SeqStopsK Fence.wide m P gf #[.pointer (some ⟨B,0,none⟩)] (fun x:Fin len=> #[Value.int .i64 x.val, .agg (X x.val).toArray]) (Below w.heap.size) (fun ys=>ys.map Fin.val=Dq len len) (fun pre=>∃ k,k<=len/\pre.map Fin.val=Dq len k) len w

section
variable {P:Program} {T:Tys} {w0:Fl} {M0:Ms} {n d0:Nat} {ce:Ctx}
theorem RdAt.raw:∀ (l:List AV) {c:Ctx} {b off:Nat},RdAt l c b off->RdL l c ((List.range' off l.length).map fun i=>(c.w.cell? ⟨b,i,none⟩).getD undef)
 | [],_,_,_,_=>by simp [RdL]
 | x::l,c,b,off,h=>by
  simp only [RdAt] at h;obtain⟨⟨u,h1,_,h3⟩,h4⟩:=h;simp only [Ao,List.range'_succ,Az,RdL];exact⟨_,_,rfl,by rw [h1];exact h3,RdAt.raw l h4⟩
theorem RdAt.some:∀ (l:List AV) {c:Ctx} {b off:Nat},RdAt l c b off->∀ i,i<l.length->∃ u,c.w.cell? ⟨b,off+i,none⟩=some u
 | [],_,_,_,_,i,hi=>by simp at hi
 | x::l,c,b,off,h,i,hi=>by
  simp only [RdAt] at h;obtain⟨⟨u,h1,_,h3⟩,h4⟩:=h;cases i with
  | zero=>exact⟨u,h1⟩
  | succ i=>
   obtain⟨v,hv⟩:=RdAt.some l h4 i (by simpa using hi);exact⟨v,by rw [show off+(i+1)=off+1+i by omega];exact hv⟩
def noIter:List AB->Bool
 | []=>true
 | .iter _ _::_=>false
 | _::r=>noIter r
theorem noIter_get:∀ {H:List AB},noIter H=true->∀ (k:Nat) (s:ByteArray) (p:Nat),H[k]? ≠some (.iter s p)
 | [],_,_,_,_,h=>by simp at h
 | x::r,h,k,s,p,hk=>by
  cases k with
  | zero=>simp at hk;subst hk;simp [noIter] at h
  | succ k=>
   simp at hk;refine noIter_get (H:=r) ?_ k s p hk;cases x <;> first | exact h | (simp [noIter] at h)
theorem HS.cells {c:Ctx} {H:List AB} (h:HS w0 M0 c H) (f:noIter H=true) {k:Nat} {x:AB} {g:Nat} (hk:H[k]? = some x) (hl:x.live=true) (hg:oB (c.rho k)=some g):∃ o:Obj,c.w.heap[g]? = some o/\o.isCells=true:=by
 have hx:=h.blk k x hk;cases x with
 | dead=>cases hl
 | iter s p=>exact absurd hk (noIter_get f k s p)
 | box t cs=>
  obtain⟨g',xs,h1,h2,_⟩:=hx;rw [h1] at hg;simp only [oB,Option.some.injEq] at hg;subst hg;exact⟨_,h2,rfl⟩
 | row t sz es=>
  obtain⟨_,_,_,xs,⟨_,h4⟩,_⟩:=hx;rcases h4 with ⟨e,_⟩ | ⟨g',cap,cur,e,_,hh,_⟩
  ·rw [e] at hg;cases hg
  ·rw [e] at hg;simp only [oB,Option.some.injEq] at hg;subst hg;exact⟨_,hh,rfl⟩
 | rowo t sz es m=>
  obtain⟨_,_,_,_,xs,⟨_,h4⟩,_⟩:=hx;rcases h4 with ⟨e,_⟩ | ⟨g',cap,cur,e,_,hh,_⟩
  ·rw [e] at hg;cases hg
  ·rw [e] at hg;simp only [oB,Option.some.injEq] at hg;subst hg;exact⟨_,hh,rfl⟩
theorem HS.turn {c:Ctx} {H:List AB} (h:HS w0 M0 c H) (z:noIter H=true) {B0:Nat} (hB:w0.w.heap.size<=B0) {W':World} {row:Option Nat} (hg:c.w.grownBy W' row) (hr:∀ r,row=some r->B0<=r/\∃ o:Obj,c.w.heap[r]? = some o/\o.isCells=false) :
  HS w0 M0 { c with w:=W' } H/\Like c { c with w:=W' }:=by
 have f:∀ (g:Nat) (o:Obj),c.w.heap[g]? = some o->o.isCells=true->W'.heap[g]? = c.w.heap[g]? :=by
  intro g o ho hc;refine hg.block g (Ay.1 ho).1 fun e=>?_
  obtain⟨_,o',i,j⟩:=hr g e.symm;rw [ho] at i;cases i;rw [hc] at j;cases j
 have hl:Like c { c with w:=W' }:=by
  refine⟨rfl,hg.size,fun a u hu=>?_,rfl,rfl,rfl⟩;obtain⟨o,ho,hc⟩:=cells_of_cell hu;exact(World.cell?_of_block (f _ _ ho hc)).trans hu
 refine⟨⟨⟨hg.os.trans h.low.os,hg.tape.trans h.low.tape,hg.output.trans h.low.output,Bo h.low.size hg.size,fun b hb=>?_⟩,h.base,h.dom,h.foreign,fun b hm=>Au (h.lt b hm) hg.size,fun k x hk=>?_,h.own,h.dis⟩,hl⟩
 ·rw [<-h.low.block b hb];have C:=w0.lt b hb;refine hg.block b (Au C h.low.size) fun e=>?_
  have:=(hr b e.symm).1;omega
 ·have hx:=h.blk k x hk;cases x with
  | dead=>trivial
  | iter s p=>exact absurd hk (noIter_get z k s p)
  | box t cs=>
   obtain⟨g,xs,h1,h2,h3,h4⟩:=hx;exact⟨g,xs,h1,(f g _ h2 rfl).trans h2,RdL.like cs hl h3,h4⟩
  | row t sz es=>
   obtain⟨h1,h2,h3,xs,h4,h5,h6⟩:=hx;refine⟨h1,h2,h3,xs,?_,RdL.like _ hl.closed h5,h6⟩;refine⟨h4.1,h4.2.imp id ?_⟩;rintro⟨g,cap,cur,q1,q2,q3,q4⟩;exact⟨g,cap,cur,q1,q2,(f g _ q3 rfl).trans q3,q4⟩
  | rowo t sz es m=>
   obtain⟨h1,h2,h3,F,xs,h4,h5,h6⟩:=hx;refine⟨h1,h2,h3,F,xs,?_,RdL.like _ hl h5,h6⟩;refine⟨h4.1,h4.2.imp id ?_⟩;rintro⟨g,cap,cur,q1,q2,q3,q4⟩;exact⟨g,cap,cur,q1,q2,(f g _ q3 rfl).trans q3,q4⟩
theorem Ext.turn {c0 c:Ctx} (h:Ext c0 c) {B0:Nat} (hB:c0.w.heap.size<=B0) {W':World} {row:Option Nat} (hg:c.w.grownBy W' row) (hr:∀ r,row=some r->B0<=r/\∃ o:Obj,c.w.heap[r]? = some o/\o.isCells=false):Ext c0 { c with w:=W' }:=
 ⟨hg.os.trans h.os,hg.tape.trans h.tape,hg.output.trans h.output,Bo h.size hg.size,fun b hb hm=>⟨(h.keep b hb hm).1,(hg.block b (Au hb h.size) fun e=>by have:=(hr b e.symm).1;omega).trans (h.keep b hb hm).2⟩,h.dom,h.len,h.rho,h.box⟩
def Ctx.slim (c:Ctx) (B0:Nat) (H:List AB):Ctx:={ c with M:=fun b=>c.M b/\(b<B0\/∃ (j:Nat) (y:AB),H[j]? = some y/\y.live=true/\oB (c.rho j)=some b) }
theorem HS.slim {c:Ctx} {H:List AB} (h:HS w0 M0 c H) {B0:Nat} (hB:w0.w.heap.size<=B0):HS w0 M0 (c.slim B0 H) H/\Ext c (c.slim B0 H):=by
 have he:Ext c (c.slim B0 H):=⟨rfl,rfl,rfl,Ah _,fun b _ hm=>⟨fun h=>hm h.1,rfl⟩,Ah _,fun _ _=>Ah _,fun _ _ _=>rfl,fun _ _ _ h=>h⟩;refine⟨⟨h.low,h.base,h.dom,fun b hb=>⟨fun hm=>(h.foreign b hb).1 hm.1,fun hm=>⟨(h.foreign b hb).2 hm, .inl (Au (w0.lt b hb) hB)⟩⟩,fun b hm=>h.lt b hm.1,fun k x hk=>?_,fun k x g hk hl ho=>⟨⟨(h.own k x g hk hl ho).1, .inr ⟨k,x,hk,hl,ho⟩⟩,(h.own k x g hk hl ho).2⟩,h.dis⟩,he⟩;have hx:=h.blk k x hk;cases x with
 | dead=>trivial
 | iter s p=>exact hx
 | box t cs=>
  obtain⟨g,xs,h1,h2,h3,h4⟩:=hx;exact⟨g,xs,h1,h2,RdL.ext cs he h3,h4⟩
 | row t sz es=>
  obtain⟨h1,h2,h3,xs,h4,h5,h6⟩:=hx;exact⟨h1,h2,h3,xs,h4,RdL.ext _ he.closed h5,h6⟩
 | rowo t sz es m=>
  obtain⟨h1,h2,h3,f,xs,h4,h5,h6⟩:=hx;exact⟨h1,h2,h3,f,xs,h4,RdL.ext _ he h5,h6⟩
theorem LD {c:Ctx} {H:List AB} (h:HS w0 M0 c H) (f:noIter H=true) {B0 b:Nat} (hb:B0<=b) (hm:(c.slim B0 H).M b):∃ o:Obj,c.w.heap[b]? = some o/\o.isCells=true:=by
 obtain⟨_,h1 | ⟨j,y,h1,h2,h3⟩⟩:=hm
 ·omega
 ·exact h.cells f h1 h2 h3
def GV (T:Tys) (n:Nat):Code->Fr->List AB->(Fr->List AB->Prop)->Prop
 | .skip,fr,H,K=>K fr H
 | .region _ ops false,fr,H,K=>match ops.toList with
  | [o1]=>match o1.op,o1.dst,o1.guard with
   | .assign (.tmp s),some d,none=>match Nat.blt d n with
    | true=>D4 (fget fr s) fun x=>K ((d,x)::fr) H
    | false=>False
   | _,_,_=>False
  | [o1,o2]=>match o1.op,o1.dst,o1.guard,o2.op,o2.dst,o2.guard with
   | .alloc t,some d,none, .store t' (.tmp d') (.tmp s),none,none=>match Nat.beq t t'&&Nat.beq d d'&&!Nat.beq s d&&Nat.blt d n with
    | true=>match tget T t with
     | some ty=>match ty.zero.all (·.oneCell')&&Nat.beq ty.zero.length ty.sz with
      | true=>D4 (fget fr s) fun x=>match cellsOk x&&Nat.beq (cells1 x).length ty.sz with
       | true=>snocK H (.box t (cells1 x)) 0 fun k H=>K ((d, .bp k 0)::fr) H
       | false=>False
      | false=>False
     | none=>False
    | false=>False
   | _,_,_,_,_,_=>False
  | _=>False
 | .seq x y,fr,H,K=>GV T n x fr H fun fr H=>GV T n y fr H K
 | _,_,_,_=>False
theorem O4 (hT:TOk P T) {l m:Nat} {ops:Array Oper} {o1 o2:Oper} {t:TypeId} {d s:Nat} {ty:Ty} (h1:o1.op = .alloc t) (hn:o1.dst=some d) (hl:o1.guard=none) (h2:o2.op = .store t (.tmp d) (.tmp s)) (hk:o2.dst=none) (hi:o2.guard=none) (Z:s≠d) (hd:d<n)
  (ht:tget T t=some ty) (hz:ty.zero.all (·.oneCell')=true) (V:ty.zero.length=ty.sz) {K:Fr->List AB->Prop} {Q:Exit->Act->World->Prop} {c:Ctx} {fr:Fr} {H:List AB} {a:Act} (hs:HS w0 M0 c H) (hf:FR w0 c n fr a) (he:Ext ce c)
  (f:(cellsOk (fget fr s)&&Nat.beq (cells1 (fget fr s)).length ty.sz)=true) (h:K ((d, .bp H.length 0)::fr) (H ++ [.box t (cells1 (fget fr s))])) (hq:∀ a w,Em w0 M0 ce n K a w->Old c.w w->Q .normal a w):wpListIn (Fence.wide.inRound l) m P ops Q [o1,o2] a c.w:=by
 simp only [Af] at f;have X:=Al f.2;obtain⟨i,dd,z,hp⟩:=(hT.get ht).parts;have N:ty.zero.length=ty.sz:=V;obtain⟨c1,e1,e2,e3,e4⟩:=hs.box t (cs:=ty.zero.map .v) (xs:=ty.zero) (Jh _) (fun u hu=>Av.1 hz u hu);have U:(execOp a.eval o1).run P c.w = .ok (.value (.pointer (some ⟨c.w.heap.size,0,none⟩))) c1.w:=by
  have W:z.cells=ty.zero.toArray:=Array.ext' (by simpa using hp.zc);simp [execOp,h1,Instr.alloc,zeroValue,typeInfo,hp.info,hp.zero,IJ,e1,W]
 unfold wpListIn;rw [if_pos (by simp [Region.wanted,hl])];refine Hk (by intro c e;rw [h1] at e;cases e) ?_;unfold Oper.wp;rw [U,Oper.upon_value,hn];unfold wpListIn;rw [if_pos (by simp [Region.wanted,hi])];refine Hk (by intro c e;rw [h2] at e;cases e) ?_;have j:FR w0 c1 n ((d, .bp H.length 0)::fr) (a.put (some d) (.pointer (some ⟨c.w.heap.size,0,none⟩))):=(hf.ext e3).put hd e4;have ha:fget ((d, .bp H.length 0)::fr) s=fget fr s:=by
  show (bif Nat.beq d s then AV.bp H.length 0 else fget fr s)=fget fr s;cases hb:Nat.beq d s with
  | true=>exact absurd (Al hb).symm Z
  | false=>rfl
 have I:Rd (fget fr s) c1 ((a.put (some d) (.pointer (some ⟨c.w.heap.size,0,none⟩))).eval (.tmp s)):=by
  rw [<-ha];exact j.get s
 have C:(a.put (some d) (.pointer (some ⟨c.w.heap.size,0,none⟩))).eval (.tmp d) = .pointer (some ⟨c.w.heap.size,0,none⟩):=by
  have ho:=hf.size;simp only [Act.eval,Act.put];rw [AJ,CT (by omega)];try rfl
 generalize hw:a.put (some d) (.pointer (some ⟨c.w.heap.size,0,none⟩))=a1 at j I C |-
 obtain⟨L,J⟩:=I7 I f.1;have hh:=L.length;have hc:(a1.eval (.tmp s)).cells.size=ty.sz:=by rw [<-X,<-hh];simp
 have hj:(H ++ [AB.box t (ty.zero.map .v)])[H.length]? = some (.box t (ty.zero.map .v)):=by simp
 obtain⟨g,xs,q1,q2,q3,q4⟩:=e2.blk _ _ hj;have hg:g=c.w.heap.size:=by
  simp only [Rd] at e4;obtain⟨_,g',G,hu⟩:=e4;rw [q1] at G;cases G;simpa using hu.symm
 subst hg;have hv:xs.length=ty.sz:=by rw [<-N];have:=q3.length;simpa using this
 obtain⟨w',r1,r2,r3,r4,r5,r6,r7⟩:=Ep (P:=P) (a1.eval (.tmp s)).cells.toList (i:=0) (off:=0) q2 J (by simp;omega);have F:(execOp a1.eval o2).run P c1.w = .ok .skip w':=by
  have:=FP (a:=⟨c.w.heap.size,0,none⟩) (hT.get ht) hc r1;simp [execOp,h2,Instr.storeAt,C,Instr.sureAddr,this]
 unfold Oper.wp;rw [F,Oper.upon_skip,hk];have hE:Ext c1 { c1 with w:=w' }:=⟨r5,r6,r7,by simp [r4],fun b _ hm=>⟨hm,r3 b fun e=>hm (e ▸ (e2.own _ _ c.w.heap.size hj rfl (by rw [q1];try rfl)).1)⟩,Ah _,fun _ _=>Ah _,fun _ _ _=>rfl,fun _ _ _ h=>h⟩;have O:=e2.set_ (y:= .box t (cells1 (fget fr s))) hj rfl rfl (g:=c.w.heap.size) (by rw [q1];try rfl) r3 r4 r5 r6 r7 (by
  refine⟨c.w.heap.size,(a1.eval (.tmp s)).cells.toList,q1,?_,RdL.ext _ hE L,J⟩;have hr:(a1.eval (.tmp s)).cells.toList.length=xs.length:=by simp;omega
  rw [CU,List.take_zero,B7,A0,AC (by omega),AR] at r2;exact r2)
 unfold wpListIn;refine hq _ _ ⟨{ c1 with w:=w' },_,_,rfl,h,?_,j.ext hE,(he.trans e3).trans hE⟩ ?_
 ·have:=O.1;rwa [Dy _ _ (Ah _),CH,List.set_cons_zero] at this
 ·intro b hb;rw [r3 b (by omega),e1];exact((Below.refl c.w.heap.size c.w).alloc (Ah _) _).block b hb
theorem OS {l m:Nat} {ops:Array Oper} {o1:Oper} {d s:Nat} (h1:o1.op = .assign (.tmp s)) (i:o1.dst=some d) (f:o1.guard=none) (hd:d<n) {K:Fr->List AB->Prop} {Q:Exit->Act->World->Prop} {c:Ctx} {fr:Fr} {H:List AB} {a:Act} (hs:HS w0 M0 c H) (hf:FR w0 c n fr a) (he:Ext ce c)
  (h:K ((d,fget fr s)::fr) H) (hq:∀ a w,Em w0 M0 ce n K a w->Old c.w w->Q .normal a w):wpListIn (Fence.wide.inRound l) m P ops Q [o1] a c.w:=by
 unfold wpListIn;rw [if_pos (by simp [Region.wanted,f])];refine Hk (by intro c e;rw [h1] at e;cases e) ?_;unfold Oper.wp;rw [show (execOp a.eval o1).run P c.w = .ok (.value (a.eval (.tmp s))) c.w by simp [execOp,h1],Oper.upon_value,i];unfold wpListIn;exact hq _ _ ⟨c,_,H,rfl,h,hs,hf.put hd (hf.get s),he⟩ (zv _)
theorem Hx (hT:TOk P T) {l m:Nat}:∀ {asg:Code} {K:Fr->List AB->Prop} {Q:Exit->Act->World->Prop} {c:Ctx} {fr:Fr} {H:List AB} {a:Act},HS w0 M0 c H->FR w0 c n fr a->Ext ce c->GV T n asg fr H K->
  (∀ a w,Em w0 M0 ce n K a w->Old c.w w->Q .normal a w)->asg.wpIn (Fence.wide.inRound l) m P Q a c.w
 | .skip,K,Q,c,fr,H,a,hs,hf,he,h,hq=>wpIn_skip (hq _ _ ⟨c,fr,H,rfl,h,hs,hf,he⟩ (zv _))
 | .seq x y,K,Q,c,fr,H,a,hs,hf,he,h,hq=>by
  simp only [GV] at h;refine wpIn_seq_k fun KK hK=>Hx hT (asg:=x) hs hf he h ?_
  rintro a' w' ⟨c',fr',H',rfl,h1,h2,h3,h4⟩ i;exact hK _ _ (Hx hT (asg:=y) h2 h3 h4 h1 fun a2 w2 hl ho=>hq a2 w2 hl (i.trans ho))
 | .region id ops draw,K,Q,c,fr,H,a,hs,hf,he,h,hq=>by
  cases draw with
  | true=>simp [GV] at h
  | false=>
  simp only [GV] at h;split at h
  ·rename_i o1 hops;split at h
   ·rename_i s d h1 h1d h1g;split at h
    ·rename_i hb;have h:=BV h;refine wpIn_region_list ?_;rw [hops];exact OS h1 h1d h1g (by simpa using hb) hs hf he h hq
    ·exact h.elim
   ·exact h.elim
  ·rename_i o1 o2 hops;split at h
   ·rename_i t d t' d' s h1 h1d h1g h2 h2d h2g;split at h
    ·rename_i hb;simp only [Af,By] at hb;obtain⟨⟨⟨C,z⟩,f⟩,u⟩:=hb;have:=Al C;subst this;have:=Al z;subst this;have j:s≠d:=fun e=>by subst e;rw [Nat.beq_refl] at f;cases f
     split at h
     ·rename_i ty ht;split at h
      ·rename_i hz;simp only [Af] at hz;have h:=BV h;split at h
       ·rename_i hok;have h:=snocK_iff h;rw [A0] at h;refine wpIn_region_list ?_;rw [hops];exact O4 hT h1 h1d h1g h2 h2d h2g j (by simpa using u) ht hz.1 (Al hz.2) hs hf he hok h hq
       ·exact h.elim
      ·exact h.elim
     ·exact h.elim
    ·exact h.elim
   ·exact h.elim
  ·exact h.elim
 | .cond _ _ _,_,_,_,_,_,_,_,_,_,h,_=>by simp [GV] at h
 | .block _ _,_,_,_,_,_,_,_,_,_,h,_=>by simp [GV] at h
 | .exit _,_,_,_,_,_,_,_,_,_,h,_=>by simp [GV] at h
 | .ret,_,_,_,_,_,_,_,_,_,h,_=>by simp [GV] at h
 | .loop _,_,_,_,_,_,_,_,_,_,h,_=>by simp [GV] at h
 | .rangeFunc _ _ _ _,_,_,_,_,_,_,_,_,_,h,_=>by simp [GV] at h
 | .label _,_,_,_,_,_,_,_,_,_,h,_=>by simp [GV] at h
 | .goto _,_,_,_,_,_,_,_,_,_,h,_=>by simp [GV] at h
 | .scope _,_,_,_,_,_,_,_,_,_,h,_=>by simp [GV] at h
 | .refuse _,_,_,_,_,_,_,_,_,_,h,_=>by simp [GV] at h
def Lr (H:List AB) (x:AV) (sz len:Nat) (E:Nat->List AV):Prop:=
 match x with
 | .ow k n'=>n'=len/\∃ t es,hget H k=some (.row t sz es)/\es.length=len/\E=fun i=>es.getD i []
 | .sl sz' n' get=>sz'=sz/\n'=len/\E=get
 | .v (.slice none 0 0)=>len=0
 | _=>False
theorem MT {c:Ctx} {H:List AB} (hs:HS w0 M0 c H) {x:AV} {sz len:Nat} {E:Nat->List AV} (h:Lr H x sz len E) {u:Value} (hr:Rd x c u) :
  ∃ a cap,u = .slice a len cap/\(0<len->∃ b off,a=some ⟨b,off,none⟩/\b<c.w.heap.size/\∀ i,i<len->(E i).length=sz/\RdAt (E i) c.closed b (off+i*sz)):=by
 unfold Lr at h;split at h
 ·obtain⟨rfl,t,es,hk,hl,rfl⟩:=h;rename_i k n';rw [hget_eq] at hk;obtain⟨h1,h2,h3,xs,h4,h5,h6⟩:=hs.blk _ _ hk;simp only [Rd] at hr;obtain⟨_,_,⟨a,p,rfl,ha⟩,he⟩:=hr;refine⟨a,p,rfl,fun hp=>?_⟩;have f:=he (by rw [h1,hl]);obtain⟨g,rfl⟩:=ha (by omega);have z:g<c.w.heap.size:=by
   rcases h4.2 with ⟨e,_⟩ | ⟨g',cap,cur,e,_,hh,_⟩
   ·rw [<-f] at e;cases e
   ·rw [<-f] at e;cases e;exact(Ay.1 hh).1
  have C:=RdAt.of (b:=g) (off:=0) h5 h6 fun j u hu=>by rw [A0];exact Hb (hl ▸ h4) f.symm hu
  exact⟨g,0,rfl,z,fun i hi=>⟨h3 _ (by simp only [Ac];rw [Ag (by omega)];exact CD _),by rw [A0];exact IG h3 C (by omega)⟩⟩
 ·obtain⟨rfl,rfl,rfl⟩:=h;simp only [Rd] at hr;obtain⟨a,k,rfl,h1,h2,h3⟩:=hr;refine⟨a,k,rfl,fun hp=>?_⟩;rcases h3 with h3 | ⟨b,off,rfl,_,hb,hc⟩
  ·omega
  ·exact⟨b,off,rfl,hb,hc⟩
 ·subst h;simp only [Rd] at hr;subst hr;exact⟨none,0,rfl,fun hp=>absurd hp (Nat.lt_irrefl _)⟩
 ·exact h.elim
end
end
end Go.Proofs.YtpjkcgacjjbikaaGreatDoor.A
