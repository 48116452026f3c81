/-
Several texts in one.
-/
import Derived.Test.YtkolckdakddggaaGreatDoorPPC3P1
import Derived.ProofKit
import Derived.Deep.Slices
import Derived.OpenShut
import Derived.Lib.MapLaws
import Derived.Laws.Cover4
import Derived.Lib.AppendStr
import Derived.Laws.IdiomStrings
set_option linter.defProp false
set_option maxRecDepth 100000
set_option maxHeartbeats 8000000
set_option linter.unusedSimpArgs false
set_option linter.unusedVariables false
set_option linter.deprecated false
namespace Go.Proofs.YtkolckdakddggaaGreatDoor.A
section
open Go.RowKit
theorem Pv (n lo hi:Int):Fn Tryz.prog 169 [iv n,iv lo,iv hi] fun r=>r = .v (.bool (CK n lo hi)):=by
 refine zS Tryz.func169 rfl ?_;conv=>whnf
 repeat' (first | (refine Ao (fun h=>?_) (fun h=>?_) <;> (try simp at h) <;> conv=>whnf) | (refine zF tys_ok mixed (by kernel_rfl) ?_;conv=>whnf) | (refine zY ?_;conv=>whnf) | (refine Ad (by omega) ?_;conv=>whnf))
 all_goals exact⟨_,ri,by simp [CK, *] <;> omega⟩
theorem Yt (n:Int):Fn Tryz.prog 222 [iv n] fun r=>r = .v (.bool (!CK n 0 4294967295)):=by
 refine zS Tryz.func222 rfl ?_;conv=>whnf
 refine z_ (Pv n 0 4294967295) ?_;exact⟨_,ri,rfl⟩
theorem WE (l:List Int) (hl:l.length<=1000000):Fn Tryz.prog 199 [iA l, .v (.func (.func 222) #[] #[])] fun r=>∃ n:Int,r = iv n/\decide (0<=n)=l.any (fun x=>!CK x 0 4294967295):=by
 refine zS Tryz.func199 rfl ?_;conv=>whnf
 refine zM Nat (fun k=>([(0,iA l),(1, .v (.func (.func 222) #[] #[])),(7,iv l.length),(8,iv k)], [])) (fun k=>k<=l.length/\(l.take k).any (fun x=>!CK x 0 4294967295)=false) (fun k=>l.length - k) 0 ⟨Aj _,by simp⟩ ⟨[],tv,tA,tv,rfl,rfl,rfl⟩ ?_;rintro k ⟨hk,hI⟩;conv=>whnf
 refine Ao (fun h2=>?_) (fun h2=>?_) <;> simp at h2 <;> conv=>whnf
 ·refine⟨by first | omega | (refine⟨rfl,?_,?_⟩ <;> first | omega | (simp only [Aa];done) | (simp only [Aa];omega)) | (simp only [Aa];omega),?_⟩;conv=>whnf
  refine z_ (Yt (l.getD k 0)) ?_;conv=>whnf
  refine Ao (fun h3=>?_) (fun h3=>?_) <;> conv=>whnf
  ·exact⟨_,ri,_,rfl,by
    rw [Dw.2 ⟨l.getD k 0,A7 h2,h3⟩,decide_eq_true];omega⟩
  ·refine⟨k+1,⟨by omega,?_⟩,by omega, [],tv,⟨rfl,rfl,rfl,AL (by omega),tv⟩,tv,rfl,rfl,rfl⟩;rw [AR h2,List.any_append,hI];rw [Ab,Af h2] at h3;simpa using h3
 ·exact⟨_,ri,_,rfl,by rw [A3 h2] at hI;rw [hI];rfl⟩
theorem Pc (l:List Int) (hl:l.length<=1000000):Fn Tryz.prog 168 [iA l] fun r=>r = .v (.bool (l.all fun x=>CK x 0 4294967295)):=by
 have hc:Fn Tryz.prog 221 [iA l, .v (.func (.func 222) #[] #[])] fun r=>r = .v (.bool (l.any fun x=>!CK x 0 4294967295)):=by
  refine zS Tryz.func221 rfl ?_;conv=>whnf
  refine zG (WE l hl) rfl ?_;rintro _ ⟨n,rfl,hn⟩;exact⟨_,ri,by rw [<-hn]⟩
 refine zS Tryz.func168 rfl ?_;conv=>whnf
 refine z_ hc ?_;exact⟨_,ri,by rw [Cn]⟩
theorem Uw (g:Geo) (hg:Bq g=true):Fn Tryz.prog 220 [.ag (AT g)] fun r=>r = iv (g.d+1+g.sp):=by
 obtain⟨h1,h2,h3,h4,h5⟩:=Aq.1 hg;refine zS Tryz.func220 rfl ?_;exact⟨_,ri,by rw [wi (n:=g.d+1) (by omega),wi (by omega)]⟩
theorem Qx (l:List Int) (p:Int) (hl:l.length<=1000000):Fn Tryz.prog 128 [iA l,iv p] fun r=>r = .v (.bool (l.any fun x=>p == x)):=by
 have hx:Fn Tryz.prog 200 [iA l,iv p] fun r=>∃ n:Int,r = iv n/\decide (0<=n)=l.any (fun x=>p == x):=by
  refine zS Tryz.func200 rfl ?_;conv=>whnf
  refine zM Nat (fun k=>([(0,iA l),(1,iv p),(7,iv l.length),(8,iv k)], [])) (fun k=>k<=l.length/\(l.take k).any (fun x=>p == x)=false) (fun k=>l.length - k) 0 ⟨Aj _,by simp⟩ ⟨[],tv,tA,tv,rfl,rfl,rfl⟩ ?_;rintro k ⟨hk,hI⟩;conv=>whnf
  refine Ao (fun h2=>?_) (fun h2=>?_) <;> simp at h2 <;> conv=>whnf
  ·refine⟨by first | omega | (refine⟨rfl,?_,?_⟩ <;> first | omega | (simp only [Aa];done) | (simp only [Aa];omega)) | (simp only [Aa];omega),?_⟩;conv=>whnf
   refine Ao (fun h3=>?_) (fun h3=>?_) <;> conv=>whnf
   ·exact⟨_,ri,_,rfl,by
     rw [Dw.2 ⟨l.getD k 0,A7 h2,h3⟩,decide_eq_true];omega⟩
   ·refine⟨k+1,⟨by omega,?_⟩,by omega, [],tv,⟨rfl,rfl,rfl,AL (by omega),tv⟩,tv,rfl,rfl,rfl⟩;rw [AR h2,List.any_append,hI];have h3:(p == l.getD k 0)=false:=h3;rw [Ab,Af h2] at h3;simpa using h3
  ·exact⟨_,ri,_,rfl,by rw [A3 h2] at hI;rw [hI];rfl⟩
 refine zS Tryz.func128 rfl ?_;conv=>whnf
 refine zG hx rfl ?_;rintro _ ⟨n,rfl,hn⟩;exact⟨_,ri,by rw [<-hn]⟩
def OU (l:List Int) (n:Int):Bool:=(List.range l.length).all fun i=>CK (l.getD i 0) 0 (n - 1)&&!(l.take i).any fun x=>l.getD i 0 == x
def Ee (g:Geo) (h:Hm):Bool:=decide ((h.places.length:Int)=g.d+1)&&(CK h.next (g.d+1) (g.d+1+g.sp)&&(CK h.root 0 4294967295&&OU h.places h.next))
theorem LC {l:List Int} {n:Int} {k:Nat} (hk:k<l.length) (h:(CK (l.getD k 0) 0 (n - 1)&&!(l.take k).any fun x=>l.getD k 0 == x)=false):OU l n=false:=by
 unfold OU;rw [List.all_eq_false];exact⟨k,by simpa using hk,by rw [h];simp⟩
theorem Y5 (g:Geo) (h:Hm) (hg:Bq g=true):Fn Tryz.prog 173 [.ag (AT g), .ag (DU h)] fun r=>r = .v (.bool (Ee g h)):=by
 obtain⟨h1,h2,h3,h4,h5⟩:=Aq.1 hg;refine zS Tryz.func173 rfl ?_;conv=>whnf
 refine z7 tys_ok mixed [0,1,2,3,4,5,6,7,8,9,10,11,12,13,14,15,16,17,18,19,20,21,22,23,24] (by kernel_rfl) ?_;conv=>whnf
 have w1:IntKind.i64.wrap (g.d+1)=g.d+1:=wi (by omega);refine Ao (fun t1=>?_) (fun t1=>?_) <;> simp only [w1,bne_iff_ne,ne_eq,bne_eq_false_iff_eq] at t1 <;> conv=>whnf
 ·exact⟨_,ri,by simp [Ee,t1]⟩
 refine z_ (Uw g hg) ?_;conv=>whnf
 refine z_ (Pv _ _ _) ?_;conv=>whnf
 refine Ao (fun t2=>?_) (fun t2=>?_) <;> simp only [w1,Br,BB] at t2 <;> conv=>whnf
 ·exact⟨_,ri,by simp [Ee,t2]⟩
 refine zO (Pc [h.root] (by simp)).go ?_;refine⟨rfl,?_⟩;conv=>whnf
 refine zX [iA [h.root]] (BN (l:= [h.root]) (es:= [[iv h.root]]) rfl) ?_;refine z_ (Pc [h.root] (by simp)) ?_;conv=>whnf
 refine Ao (fun t3=>?_) (fun t3=>?_) <;> simp only [Bc,BL,BA,Br,BB] at t3 <;> conv=>whnf
 ·exact⟨_,ri,by simp [Ee,t3]⟩
 refine zM Nat (fun k=>([(2, .bp 0 0),(3, .bp 1 0),(33,iA h.places),(34,iv h.places.length),(35,iv k)], [.box 23 (AT g), .box 53 (DU h)])) (fun k=>k<=h.places.length/\(List.range k).all (fun i=>CK (h.places.getD i 0) 0 (h.next - 1)&&!(h.places.take i).any fun x=>h.places.getD i 0 == x)=true) (fun k=>h.places.length - k) 0 ⟨Aj _,by simp⟩ ⟨[],tv,tA,tA,rfl,rfl,rfl⟩ ?_;rintro k ⟨hk,hI⟩;conv=>whnf
 refine Ao (fun h6=>?_) (fun h6=>?_) <;> simp at h6 <;> conv=>whnf
 ·refine⟨by first | omega | (refine⟨rfl,?_,?_⟩ <;> first | omega | (simp only [Aa];done) | (simp only [Aa];omega)) | (simp only [Aa];omega),?_⟩;conv=>whnf
  refine z_ (Pv _ _ _) ?_;conv=>whnf
  have hnx:0<=h.next/\h.next<=100:=by
   have:=AI.1 t2;omega
  have w2:IntKind.i64.wrap (h.next - 1)=h.next - 1:=wi (by omega);refine Ao (fun t4=>?_) (fun t4=>?_) <;> simp only [w2,Ac,Br,BB] at t4 <;> conv=>whnf
  ·exact⟨_,ri,by rw [Ee,LC h6 (by rw [t4];rfl)];simp⟩
  refine⟨⟨by omega,by omega,by omega,by omega⟩,?_⟩;conv=>whnf
  refine zX [iA (h.places.take k),iv (h.places.getD k 0)] ⟨fun c u hr=>zC (by simp;omega) (fun i hi=>by simp at hi;simp [BE hi]) hr,fun _ _ hr=>hr,tv⟩ ?_;refine z_ (Qx (h.places.take k) (h.places.getD k 0) (by simp;omega)) ?_;conv=>whnf
  refine Ao (fun t5=>?_) (fun t5=>?_) <;> conv=>whnf
  ·exact⟨_,ri,by rw [Ee,LC h6 (by rw [t5];simp)];simp⟩
  ·refine⟨k+1,⟨by omega,?_⟩,by omega, [],tv,⟨rfl,rfl,rfl,rfl,AL (by omega),tv⟩,tA,rfl,rfl,rfl⟩;rw [Bm,Dn,hI];have t5:((h.places.take k).any fun x=>h.places.getD k 0 == x)=false:=t5;simp only [Bc,BL,t4,t5];rfl
 ·have e:k=h.places.length:=by omega
  rw [e] at hI;exact⟨_,ri,by rw [Ee,t2,t3,decide_eq_true t1,OU,hI];rfl⟩
theorem UK (g:Geo) (h:Hm) (hg:Bq g=true):Fn Tryz.prog 172 [.ag (DU h), .rp (AT g)] fun r=>r = .v (.bool (!Ee g h)):=by
 refine zS Tryz.func172 rfl ?_;conv=>whnf
 refine z_ (Y5 g h hg) ?_;exact⟨_,ri,rfl⟩
theorem UW (g:Geo) (l:List Hm) (hg:Bq g=true) (hl:l.length<=1000000):Fn Tryz.prog 171 [Ig l, .fn 172 [.rp (AT g)]] fun r=>r = .v (.bool (l.any fun h=>!Ee g h)):=by
 have hx:Fn Tryz.prog 225 [Ig l, .fn 172 [.rp (AT g)]] fun r=>∃ n:Int,r = iv n/\decide (0<=n)=l.any (fun h=>!Ee g h):=by
  refine zS Tryz.func225 rfl ?_;conv=>whnf
  refine zM Nat (fun k=>([(0,Ig l),(1, .fn 172 [.rp (AT g)]),(7,iv l.length),(8,iv k)], [])) (fun k=>k<=l.length/\(l.take k).any (fun h=>!Ee g h)=false) (fun k=>l.length - k) 0 ⟨Aj _,by simp⟩ ⟨[],tv,tA,tv,rfl,rfl,rfl⟩ ?_;rintro k ⟨hk,hI⟩;conv=>whnf
  refine Ao (fun h2=>?_) (fun h2=>?_) <;> simp at h2 <;> conv=>whnf
  ·refine⟨by first | omega | (refine⟨rfl,?_,?_⟩ <;> first | omega | (simp only [Aa];done) | (simp only [Aa];omega)) | (simp only [Aa];omega),?_⟩;conv=>whnf
   refine z_ (UK g (l.getD k ⟨[],0,0⟩) hg) ?_;conv=>whnf
   refine Ao (fun h3=>?_) (fun h3=>?_) <;> conv=>whnf
   ·exact⟨_,ri,_,rfl,by
     rw [Dw.2 ⟨l.getD k ⟨[],0,0⟩,A7 h2,h3⟩,decide_eq_true];omega⟩
   ·refine⟨k+1,⟨by omega,?_⟩,by omega, [],tv,⟨rfl,rfl,rfl,AL (by omega),tv⟩,tv,rfl,rfl,rfl⟩;rw [AR h2,List.any_append,hI];rw [Ab,Af h2] at h3;simpa using h3
  ·exact⟨_,ri,_,rfl,by rw [A3 h2] at hI;rw [hI];rfl⟩
 refine zS Tryz.func171 rfl ?_;conv=>whnf
 refine zG hx rfl ?_;rintro _ ⟨n,rfl,hn⟩;exact⟨_,ri,by rw [<-hn]⟩
def Bj (g:Geo) (a:An):Bool:=([a.gen,a.epoch,a.seq,a.last].all fun x=>CK x 0 4294967295)&&(decide (1<=a.seq)&&(decide (a.seq - 1<=a.last)&&(CK a.pos 0 (g.sl - 1)&&(decide (Fi a.label.data.toList=0)&&(decide ((a.homes.length:Int)=g.z)&&a.homes.all (Ee g))))))
theorem La (g:Geo) (a:An) (hl:a.label.size<=1000000) (hh:a.homes.length<=1000000):Fn Tryz.prog 102 [.ag (AT g), .ag (Ew a)] fun r=>r = .v (FM (Bq g&&Bj g a)):=by
 have s1:Fn Tryz.prog 46 [.ag (AT g)] fun r=>r = .v (FM (Bq g)):=Ec g.z g.d g.sp g.sl g.an
 cases hg:Bq g with
 | false=>
  rw [hg] at s1;refine zS Tryz.func102 rfl ?_;conv=>whnf
  refine zY ?_;conv=>whnf
  refine zY ?_;conv=>whnf
  refine z_ s1 ?_;exact⟨_,ri,rfl⟩
 | true=>
  rw [hg] at s1;obtain⟨h1,h2,h3,h4,h5⟩:=Aq.1 hg;have w1:IntKind.i64.wrap (g.sl - 1)=g.sl - 1:=wi (by omega);refine zS Tryz.func102 rfl ?_;conv=>whnf
  refine zY ?_;conv=>whnf
  refine zY ?_;conv=>whnf
  refine z_ s1 ?_;conv=>whnf
  refine zO (Pc [a.gen,a.epoch,a.seq,a.last] (by simp)).go ?_;refine⟨rfl,?_⟩;conv=>whnf
  refine zX [iA [a.gen,a.epoch,a.seq,a.last]] (BN (l:= [a.gen,a.epoch,a.seq,a.last]) (es:= [[iv a.gen], [iv a.epoch], [iv a.seq], [iv a.last]]) rfl) ?_;refine z_ (Pc [a.gen,a.epoch,a.seq,a.last] (by simp)) ?_;conv=>whnf
  refine Ao (fun t1=>?_) (fun t1=>?_) <;> simp only [Br,BB] at t1 <;> conv=>whnf
  ·exact⟨_,ri,by rw [Bj,t1];rfl⟩
  have hseq:0<=a.seq/\a.seq<=4294967295:=AI.1 (Av.1 t1 a.seq (by simp));have w2:IntKind.i64.wrap (a.seq - 1)=a.seq - 1:=wi (by omega);refine Ao (fun t2=>?_) (fun t2=>?_) <;> simp only [decide_eq_true_eq,decide_eq_false_iff_not] at t2 <;> conv=>whnf
  ·exact⟨_,ri,by rw [Bj,decide_eq_false (show ¬1<=a.seq by omega)];simp [FM]⟩
  refine Ao (fun t3=>?_) (fun t3=>?_) <;> simp only [w2,decide_eq_true_eq,decide_eq_false_iff_not] at t3 <;> conv=>whnf
  ·exact⟨_,ri,by rw [Bj,decide_eq_false (show ¬a.seq - 1<=a.last by omega)];simp [FM]⟩
  refine z_ (Pv _ _ _) ?_;conv=>whnf
  refine Ao (fun t4=>?_) (fun t4=>?_) <;> simp only [w1,Br,BB] at t4 <;> conv=>whnf
  ·exact⟨_,ri,by rw [Bj,t4];simp [FM]⟩
  refine z_ (Jw a.label hl) ?_;conv=>whnf
  refine Ao (fun t5=>?_) (fun t5=>?_) <;> simp only [bne_iff_ne,ne_eq,bne_eq_false_iff_eq] at t5 <;> conv=>whnf
  ·exact⟨_,ri,by rw [Bj,decide_eq_false t5];simp [FM]⟩
  refine Ao (fun t6=>?_) (fun t6=>?_) <;> simp only [bne_iff_ne,ne_eq,bne_eq_false_iff_eq] at t6 <;> conv=>whnf
  ·exact⟨_,ri,by rw [Bj,decide_eq_false t6];simp [FM]⟩
  refine z_ (UW g a.homes hg hh) ?_;conv=>whnf
  have hA:Bj g a=a.homes.all (Ee g):=by
   rw [Bj,t1,t4,decide_eq_true (show 1<=a.seq by omega),decide_eq_true (show a.seq - 1<=a.last by omega),decide_eq_true t5,decide_eq_true t6];simp
  rw [Cn] at hA;refine Ao (fun t7=>?_) (fun t7=>?_) <;> conv=>whnf
  ·exact⟨_,ri,by rw [hA,t7];rfl⟩
  ·exact⟨_,ri,by rw [hA,t7];rfl⟩
theorem I2 (n lo hi:Int):Fn Tryz.prog 285 [iv n,iv lo,iv hi] fun r=>r = .v (.bool (CK n lo hi)):=by
 refine zS Tryz.func285 rfl ?_;conv=>whnf
 repeat' (first | (refine Ao (fun h=>?_) (fun h=>?_) <;> (try simp at h) <;> conv=>whnf) | (refine zF tys_ok mixed (by kernel_rfl) ?_;conv=>whnf) | (refine zY ?_;conv=>whnf) | (refine Ad (by omega) ?_;conv=>whnf))
 all_goals exact⟨_,ri,by simp [CK, *] <;> omega⟩
theorem XA {l:List Int} {p:Int} {k:Nat} (hk:k<l.length) (h:((l.take k).any fun x=>p == x)=false) (e:(l.getD k 0 == p)=false):((l.take (k+1)).any fun x=>p == x)=false:=by
 rw [AR hk,List.any_append,h];rw [Ab,Af hk] at e;simp at e |-
 exact fun h=>e h.symm
theorem ZZ {l:List Int} {p:Int} {k i:Nat} (hk:k<l.length) (hki:k<i) (e:(l.getD k 0 == p)=true):((l.take i).any fun x=>p == x)=true:=by
 refine Dw.2 ⟨l.getD k 0,?_,by simpa using (beq_iff_eq.1 e).symm⟩;rw [Ab,Af hk];have:(l.take i)[k]? = some l[k]:=by rw [BE hki,Af hk]
 exact DM this
theorem RL (g:Geo) (a:An) (hg:Bq g=true) (hl:a.label.size<=1000000):Fn Tryz.prog 294 [.ag (AT g), .ag (Ew a)] fun r=>r = .v (.bool (Bj g a)):=by
 obtain⟨h1,h2,h3,h4,h5⟩:=Aq.1 hg;have w1:IntKind.i64.wrap (g.sl - 1)=g.sl - 1:=wi (by omega);have w3:IntKind.i64.wrap (g.d+1)=g.d+1:=wi (by omega);have w4:IntKind.i64.wrap (g.d+1+g.sp)=g.d+1+g.sp:=wi (by omega);refine zS Tryz.func294 rfl ?_;conv=>whnf
 refine z_ (I2 _ _ _) ?_;conv=>whnf
 refine Ao (fun t1=>?_) (fun t1=>?_) <;> simp only [Br,BB] at t1 <;> conv=>whnf
 ·exact⟨_,ri,by simp [Bj,t1]⟩
 refine z_ (I2 _ _ _) ?_;conv=>whnf
 refine Ao (fun t2=>?_) (fun t2=>?_) <;> simp only [Br,BB] at t2 <;> conv=>whnf
 ·exact⟨_,ri,by simp [Bj,t2]⟩
 refine z_ (I2 _ _ _) ?_;conv=>whnf
 refine Ao (fun t3=>?_) (fun t3=>?_) <;> simp only [Br,BB] at t3 <;> conv=>whnf
 ·refine⟨_,fun _ _ h=>h,?_⟩;have:(CK a.seq 0 4294967295&&decide (1<=a.seq))=false:=by
   cases h:CK a.seq 0 4294967295&&decide (1<=a.seq) with
   | false=>rfl
   | true=>
    simp only [Ae,AI,decide_eq_true_eq] at h;have:CK a.seq 1 4294967295=true:=AI.2 ⟨h.2,h.1.2⟩;rw [this] at t3;cases t3
  simp only [Bool.and_eq_false_iff] at this;rcases this with h | h <;> simp [Bj,h]
 have hseq:=AI.1 t3;have t3':CK a.seq 0 4294967295=true:=AI.2 ⟨by omega,hseq.2⟩;have w2:IntKind.i64.wrap (a.seq - 1)=a.seq - 1:=wi (by omega);refine z_ (I2 _ _ _) ?_;conv=>whnf
 refine Ao (fun t4=>?_) (fun t4=>?_) <;> simp only [Br,BB] at t4 <;> conv=>whnf
 ·exact⟨_,ri,by simp [Bj,t4]⟩
 refine Ao (fun t5=>?_) (fun t5=>?_) <;> simp only [w2,decide_eq_true_eq,decide_eq_false_iff_not] at t5 <;> conv=>whnf
 ·exact⟨_,ri,by rw [Bj,decide_eq_false (show ¬a.seq - 1<=a.last by omega)];simp⟩
 refine z_ (I2 _ _ _) ?_;conv=>whnf
 refine Ao (fun t6=>?_) (fun t6=>?_) <;> simp only [w1,Br,BB] at t6 <;> conv=>whnf
 ·exact⟨_,ri,by rw [Bj,t6];simp⟩
 refine z_ (NF a.label (by omega)) ?_;conv=>whnf
 refine Ao (fun t7=>?_) (fun t7=>?_) <;> simp only [bne_iff_ne,ne_eq,bne_eq_false_iff_eq] at t7 <;> conv=>whnf
 ·exact⟨_,ri,by rw [Bj,decide_eq_false t7];simp⟩
 refine Ao (fun t8=>?_) (fun t8=>?_) <;> simp only [bne_iff_ne,ne_eq,bne_eq_false_iff_eq] at t8 <;> conv=>whnf
 ·exact⟨_,ri,by rw [Bj,decide_eq_false t8];simp⟩
 have hA:Bj g a=a.homes.all (Ee g):=by
  rw [Bj,t6,decide_eq_true (show 1<=a.seq by omega),decide_eq_true (show a.seq - 1<=a.last by omega),decide_eq_true t7,decide_eq_true t8];simp [t1,t2,t3',t4]
 rw [hA];refine zM Nat (fun z=>([(2, .bp 0 0),(3, .bp 1 0),(5,iv z)], [.box 23 (AT g), .box 28 (Ew a)])) (fun z=>z<=a.homes.length/\(a.homes.take z).all (Ee g)=true) (fun z=>a.homes.length - z) 0 ⟨Aj _,by simp⟩ ⟨[],tv,tA,tA,rfl,rfl,rfl⟩ ?_;rintro z ⟨hz,hZ⟩;conv=>whnf
 refine Ao (fun hz2=>?_) (fun hz2=>?_) <;> simp at hz2 <;> conv=>whnf
 ·have hno:Ee g (a.homes.getD z ⟨[],0,0⟩)=false->a.homes.all (Ee g)=false:=fun h=>List.all_eq_false.2 ⟨_,A7 hz2,by rw [h];simp⟩
  refine⟨by first | omega | (refine⟨rfl,?_,?_⟩ <;> first | omega | (simp only [Aa];done) | (simp only [Aa];omega)) | (simp only [Aa];omega),?_⟩;conv=>whnf
  have ez:((z:Nat):Int).toNat=z:=Ac z;refine Ao (fun u1=>?_) (fun u1=>?_) <;> simp only [ez,w3,bne_iff_ne,ne_eq,bne_eq_false_iff_eq] at u1 <;> conv=>whnf
  ·exact⟨_,ri,by rw [hno (by rw [Ee,decide_eq_false u1];rfl)]⟩
  refine z_ (I2 _ _ _) ?_;conv=>whnf
  refine Ao (fun u2=>?_) (fun u2=>?_) <;> simp only [ez,w3,w4,Br,BB] at u2 <;> conv=>whnf
  ·exact⟨_,ri,by rw [hno (by rw [Ee,u2];simp only [D5,Bool.and_false])]⟩
  refine z_ (I2 _ _ _) ?_;conv=>whnf
  refine Ao (fun u3=>?_) (fun u3=>?_) <;> simp only [ez,Br,BB] at u3 <;> conv=>whnf
  ·exact⟨_,ri,by rw [hno (by rw [Ee,u3];simp only [D5,Bool.and_false])]⟩
  have hnx:0<=(a.homes.getD z ⟨[],0,0⟩).next/\(a.homes.getD z ⟨[],0,0⟩).next<=100:=by
   have:=AI.1 u2;omega
  have w5:IntKind.i64.wrap ((a.homes.getD z ⟨[],0,0⟩).next - 1)=(a.homes.getD z ⟨[],0,0⟩).next - 1:=wi (by omega);have hno2:OU (a.homes.getD z ⟨[],0,0⟩).places (a.homes.getD z ⟨[],0,0⟩).next=false->a.homes.all (Ee g)=false:=fun h=>hno (by rw [Ee,h];simp)
  refine zM Nat (fun i=>([(2, .bp 0 0),(3, .bp 1 0),(5,iv z),(6, .bp 2 0),(7,iv i)], [.box 23 (AT g), .box 28 (Ew a), .box 53 (DU (a.homes.getD z ⟨[],0,0⟩))])) (fun i=>i<=(a.homes.getD z ⟨[],0,0⟩).places.length/\(List.range i).all (fun i=>CK ((a.homes.getD z ⟨[],0,0⟩).places.getD i 0) 0 ((a.homes.getD z ⟨[],0,0⟩).next - 1)&&!((a.homes.getD z ⟨[],0,0⟩).places.take i).any fun x=>(a.homes.getD z ⟨[],0,0⟩).places.getD i 0 == x)=true) (fun i=>(a.homes.getD z ⟨[],0,0⟩).places.length - i) 0 ⟨Aj _,by simp⟩ ⟨[],tv,tA,tA,rfl,rfl,rfl⟩ ?_;rintro i ⟨hi,hI⟩;conv=>whnf
  refine Ao (fun hi2=>?_) (fun hi2=>?_) <;> simp only [decide_eq_true_eq,decide_eq_false_iff_not,Int.ofNat_lt] at hi2 <;> conv=>whnf
  ·refine z7 tys_ok mixed [0,1,2,3,4,5,6,7,8,9] (by kernel_rfl) ?_;refine⟨⟨by omega,by omega⟩,?_⟩;conv=>whnf
   have ei:((i:Nat):Int).toNat=i:=Ac i;refine z_ (I2 _ _ _) ?_;conv=>whnf
   refine Ao (fun u4=>?_) (fun u4=>?_) <;> simp only [ei,w5,Br,BB] at u4 <;> conv=>whnf
   ·exact⟨_,ri,by rw [hno2 (LC hi2 (by rw [u4];rfl))]⟩
   refine zM Nat (fun k=>([(2, .bp 0 0),(3, .bp 1 0),(5,iv z),(6, .bp 2 0),(7,iv i),(8,iv k)], [.box 23 (AT g), .box 28 (Ew a), .box 53 (DU (a.homes.getD z ⟨[],0,0⟩))])) (fun k=>k<=i/\(((a.homes.getD z ⟨[],0,0⟩).places.take k).any fun x=>(a.homes.getD z ⟨[],0,0⟩).places.getD i 0 == x)=false) (fun k=>i - k) 0 ⟨Aj _,by simp⟩ ⟨[],tv,tA,tA,rfl,rfl,rfl⟩ ?_;rintro k ⟨hk,hK⟩;conv=>whnf
   refine Ao (fun hk2=>?_) (fun hk2=>?_) <;> simp only [decide_eq_true_eq,decide_eq_false_iff_not,Int.ofNat_lt] at hk2 <;> conv=>whnf
   ·refine z7 tys_ok mixed [0,1,2,3,4,5,6,7,8,9,10] (by kernel_rfl) ?_;refine⟨⟨by omega,by omega⟩,?_⟩;refine⟨⟨by omega,by omega⟩,?_⟩;conv=>whnf
    have ek:((k:Nat):Int).toNat=k:=Ac k;refine Ao (fun u5=>?_) (fun u5=>?_) <;> simp only [ei,ek] at u5 <;> conv=>whnf
    ·exact⟨_,ri,by rw [hno2 (LC hi2 (by rw [ZZ (show k<(a.homes.getD z ⟨[],0,0⟩).places.length by omega) hk2 u5];simp))]⟩
    ·exact⟨k+1,⟨by omega,XA (by omega) hK u5⟩,by omega, [],tv,⟨rfl,rfl,rfl,rfl,rfl,AL (by omega),tv⟩,tA,rfl,rfl,rfl⟩
   ·have e:k=i:=by omega
    subst e;refine⟨k+1,⟨by omega,?_⟩,by omega, [],tv,⟨rfl,rfl,rfl,rfl,AL (by omega),tv⟩,tA,rfl,rfl,rfl⟩;rw [Bm,Dn,hI];simp only [Bc,BL,u4,hK];rfl
  ·have e:i=(a.homes.getD z ⟨[],0,0⟩).places.length:=by omega
   rw [e] at hI;refine⟨z+1,⟨by omega,?_⟩,by omega, [],tv,⟨rfl,rfl,AL (by omega),tv⟩,tA,rfl,rfl,rfl⟩;rw [AR hz2,Dn,hZ];have hok:Ee g (a.homes.getD z ⟨[],0,0⟩)=true:=by rw [Ee,u2,u3,decide_eq_true u1,OU,hI];rfl
   rw [Ab,Af hz2] at hok;simpa using hok
 ·have e:z=a.homes.length:=by omega
  rw [e,As] at hZ;exact⟨_,ri,by rw [hZ]⟩
end
end Go.Proofs.YtkolckdakddggaaGreatDoor.A
namespace Go.Proofs.YtkolckdakddggaaGreatDoor
section
open Go.RowKit
def Di (b:List UInt8):Int:=
 if b.length<11\/107<b.length then 4
 else if leN (b.drop (b.length - 4))≠CR (b.take (b.length - 4)) then 5
 else if FG b=true/\Ct b=b.length - 11 then 0 else 4
def CZ (b:List UInt8):Int:=(leN ((b.drop (b.length - 10)).take 2):Nat)
def Cv (b:List UInt8):Int:=(leN ((b.drop (b.length - 8)).take 4):Nat)
def C9 (b:List UInt8):List UInt8:=(b.drop 1).take (b.length - 11)
end
end Go.Proofs.YtkolckdakddggaaGreatDoor
namespace Go.Proofs.YtkolckdakddggaaGreatDoor.A
section
open Go.RowKit
def DA (r:Rc) (a:An) (seq at_ of_ left:Int):Bool:=decide (r.kind≠0/\r.seq=seq/\r.at_=at_/\(of_=0->r.of_<=left)/\(of_≠0->r.of_=of_)/\(r.epoch=a.epoch\/seq<=a.last/\r.epoch<=a.epoch))
theorem bo (r:Rc) (a:An) (seq at_ of_ left:Int):Fn Tryz.prog 299 [.ag (G4 r), .ag (Ew a),iv seq,iv at_,iv of_,iv left] fun x=>x = .v (.bool (DA r a seq at_ of_ left)):=by
 by_cases h1:(r.kind≠0/\r.seq=seq/\r.at_=at_/\(of_=0->r.of_<=left)/\(of_≠0->r.of_=of_)/\(r.epoch=a.epoch\/seq<=a.last/\r.epoch<=a.epoch))
 ·have e:DA r a seq at_ of_ left=true:=decide_eq_true h1;rw [e];refine zS Tryz.func299 rfl ?_;conv=>whnf
  repeat' (refine Ao (fun h=>?_) (fun h=>?_) <;> simp at h <;> conv=>whnf)
  all_goals first | (exfalso;omega) | exact⟨_,ri,rfl⟩ | exact⟨_,ri,by simp;omega⟩
 ·have e:DA r a seq at_ of_ left=false:=decide_eq_false h1;rw [e];refine zS Tryz.func299 rfl ?_;conv=>whnf
  repeat' (refine Ao (fun h=>?_) (fun h=>?_) <;> simp at h <;> conv=>whnf)
  all_goals first | (exfalso;omega) | exact⟨_,ri,rfl⟩ | exact⟨_,ri,by simp;omega⟩
theorem SE (r:Rc) (a:An) (seq at_ of_ left:Int):Fn Tryz.prog 276 [.ag (G4 r), .ag (Ew a),iv seq,iv at_,iv of_,iv left] fun x=>x = .v (.bool (DA r a seq at_ of_ left)):=by
 by_cases h1:(r.kind≠0/\r.seq=seq/\r.at_=at_/\(of_=0->r.of_<=left)/\(of_≠0->r.of_=of_)/\(r.epoch=a.epoch\/seq<=a.last/\r.epoch<=a.epoch))
 ·have e:DA r a seq at_ of_ left=true:=decide_eq_true h1;rw [e];refine zS Tryz.func276 rfl ?_;conv=>whnf
  repeat' (refine Ao (fun h=>?_) (fun h=>?_) <;> simp at h <;> conv=>whnf)
  all_goals first | (exfalso;omega) | exact⟨_,ri,rfl⟩ | exact⟨_,ri,by simp;omega⟩
 ·have e:DA r a seq at_ of_ left=false:=decide_eq_false h1;rw [e];refine zS Tryz.func276 rfl ?_;conv=>whnf
  repeat' (refine Ao (fun h=>?_) (fun h=>?_) <;> simp at h <;> conv=>whnf)
  all_goals first | (exfalso;omega) | exact⟨_,ri,rfl⟩ | exact⟨_,ri,by simp;omega⟩
theorem LV (b:List UInt8):Fn Tryz.prog 236 [bA b] fun r=>r = iv (CR b:Nat):=by
 refine⟨⟨_,Tryz.func236,rfl,by decide⟩,fun c0 us hd hM _ hr=>?_⟩;obtain⟨u1,rfl,h1⟩:=al hr;refine(N5 u1 b c0.w c0.M (IF h1)).mono ?_;rintro e w' ⟨rfl,rfl⟩;exact⟨_,_,rfl,rfl,Below.refl _ _,Np _⟩
theorem F4 {b:List UInt8} {n k:Nat} (hn:n=k) (hk:k<=b.length) (c:Ctx) (u:Value) (h:Rd (.sl 1 n fun i=> [.v (.int .u8 (b.getD (i+0) 0).toNat)]) c u):Rd (bA (b.take k)) c u:=
 zC (by rw [Ar];omega) (fun i hi=>by rw [Ab,Ab,BE (by omega),Da]) h
theorem JK (e:Int) (c:Ctx) (v:Value) (h:Rd (.tp [.ag [iv 0,iv 0, .v (.slice none 0 0)],iv e]) c v):Rd (.tp [.ag (OF ⟨0,0, []⟩),iv e]) c v:=by
 have e1:SubL [.ag [iv 0,iv 0, .v (.slice none 0 0)],iv e] [.ag (OF ⟨0,0, []⟩),iv e]:=⟨Be ⟨ri,ri,fun c u h=>Bt 1 _ c u h,tv⟩,ri,tv⟩;simp only [Rd] at h |-
 obtain⟨xs,rfl,h⟩:=h;exact⟨_,rfl,e1.rdl (c:=c) (xs:=xs) (by simpa only [RdL,Rd] using h)⟩
theorem V8 (b:List UInt8) (hl:b.length<=100000):Fn Tryz.prog 253 [bA b] fun r=>r = .tp [.ag (if Di b=0 then OF ⟨CZ b,Cv b,C9 b⟩ else OF ⟨0,0, []⟩),iv (Di b)]:=by
 have e4:IntKind.i64.wrap ((b.length:Int) - 4)=(b.length:Int) - 4:=IntWalk.i64_in _ (by omega);have e11:IntKind.i64.wrap ((b.length:Int) - 11)=(b.length:Int) - 11:=IntWalk.i64_in _ (by omega);have em:((b.length:Int) - 4).toNat=b.length - 4:=by omega
 by_cases hB:b.length<11\/107<b.length
 ·have hE:Di b=4:=by rw [Di,if_pos hB]
  rw [hE,if_neg (by decide)];refine zS Tryz.func253 rfl ?_;conv=>whnf
  refine A8 (fun h=>?_) (fun h=>?_) <;> conv=>whnf
  ·exact⟨_,JK 4,rfl⟩
  refine A8 (fun h2=>?_) (fun h2=>?_) <;> conv=>whnf
  ·exact⟨_,JK 4,rfl⟩
  ·exfalso;omega
 have hg:=Pg (b.drop (b.length - 4)) 4 (.inr (.inr rfl)) (by rw [Ak];omega) (by rw [Ak];omega);rw [show (b.drop (b.length - 4)).take (4:Int).toNat=b.drop (b.length - 4) from A3 (by rw [Ak];show _<=4;omega)] at hg;have hs:=LV (b.take (b.length - 4));by_cases hS:leN (b.drop (b.length - 4))=CR (b.take (b.length - 4))
 ·cases hp:FG b with
  | false=>
   have hE:Di b=4:=by rw [Di,if_neg hB,if_neg (fun h=>h hS),hp];rfl
   rw [hE,if_neg (by decide)];refine zS Tryz.func253 rfl ?_;conv=>whnf
   refine A8 (fun h=>?_) (fun h=>?_) <;> conv=>whnf
   ·exfalso;omega
   refine A8 (fun h=>?_) (fun h=>?_) <;> conv=>whnf
   ·exfalso;omega
   rw [e4];refine⟨by omega,?_⟩;conv=>whnf
   rw [em];refine zX [bA (b.drop (b.length - 4)),iv 4] ⟨AX (by omega),ri,tv⟩ ?_;refine z_ hg ?_;refine⟨by omega,?_⟩;conv=>whnf
   rw [em];refine zX [bA (b.take (b.length - 4))] ⟨F4 (by omega) (by omega),tv⟩ ?_;refine z_ hs ?_;conv=>whnf
   refine A8 (fun h=>?_) (fun h=>?_) <;> conv=>whnf
   ·exfalso;omega
   refine z_ (Tt b hp) ?_;exact⟨_,JK 4,rfl⟩
  | true=>
   have hpp:=hp;simp only [FG,decide_eq_true_eq] at hpp;have hlen:((b.drop 1).take (Ct b)).length=Ct b:=by rw [Ar,Ak];omega
   by_cases hn:Ct b=b.length - 11
   ·have hE:Di b=0:=by rw [Di,if_neg hB,if_neg (fun h=>h hS),if_pos ⟨hp,hn⟩]
    have hu:=K0 (b.drop (1+Ct b)) [2,4] (fun s h=>by simp at h;rcases h with rfl | rfl;exact .inr (.inl rfl);exact .inr (.inr rfl)) (by rw [Ak];omega) (by show 2<=1000;decide) (by rw [Ak];show 6<=_;omega);have hnum:nums [2,4] (b.drop (1+Ct b))=[CZ b,Cv b]:=by
     rw [CZ,Cv,show b.length - 10=1+Ct b by omega,show b.length - 8=(1+Ct b)+2 by omega,show b.drop ((1+Ct b)+2)=(b.drop (1+Ct b)).drop 2 by rw [AS]];rfl
    rw [hnum] at hu;have hpay:C9 b=(b.drop 1).take (Ct b):=by rw [C9,hn]
    rw [hE,if_pos rfl,hpay];refine zS Tryz.func253 rfl ?_;conv=>whnf
    refine A8 (fun h=>?_) (fun h=>?_) <;> conv=>whnf
    ·exfalso;omega
    refine A8 (fun h=>?_) (fun h=>?_) <;> conv=>whnf
    ·exfalso;omega
    rw [e4];refine⟨by omega,?_⟩;conv=>whnf
    rw [em];refine zX [bA (b.drop (b.length - 4)),iv 4] ⟨AX (by omega),ri,tv⟩ ?_;refine z_ hg ?_;refine⟨by omega,?_⟩;conv=>whnf
    rw [em];refine zX [bA (b.take (b.length - 4))] ⟨F4 (by omega) (by omega),tv⟩ ?_;refine z_ hs ?_;conv=>whnf
    refine A8 (fun h=>?_) (fun h=>?_) <;> conv=>whnf
    ·exfalso;omega
    refine z_ (LP b (by omega) hp) ?_;conv=>whnf
    rw [e11];refine A8 (fun h=>?_) (fun h=>?_) <;> conv=>whnf
    ·exfalso;omega
    refine zO hu.go ?_;refine⟨rfl,?_⟩;conv=>whnf
    refine zX [bA (b.drop (1+Ct b)),iA [2,4]] ⟨ri,(BN (l:= [2,4]) rfl).1,tv⟩ ?_;refine zW (hu) rfl ?_;rintro _ _ ⟨rfl,rfl⟩;conv=>whnf
    refine z7 tys_ok mixed [0,1,2,3,4,5,6,7,8,9] (by kernel_rfl) ?_;refine⟨⟨by decide,by decide⟩,?_⟩;refine⟨⟨rfl,rfl,by decide⟩,?_⟩;refine⟨⟨by decide,by decide⟩,?_⟩;refine⟨⟨rfl,rfl,by decide⟩,?_⟩;exact⟨_,ri,rfl⟩
   ·have hE:Di b=4:=by rw [Di,if_neg hB,if_neg (fun h=>h hS),if_neg (fun h=>hn h.2)]
    rw [hE,if_neg (by decide)];refine zS Tryz.func253 rfl ?_;conv=>whnf
    refine A8 (fun h=>?_) (fun h=>?_) <;> conv=>whnf
    ·exfalso;omega
    refine A8 (fun h=>?_) (fun h=>?_) <;> conv=>whnf
    ·exfalso;omega
    rw [e4];refine⟨by omega,?_⟩;conv=>whnf
    rw [em];refine zX [bA (b.drop (b.length - 4)),iv 4] ⟨AX (by omega),ri,tv⟩ ?_;refine z_ hg ?_;refine⟨by omega,?_⟩;conv=>whnf
    rw [em];refine zX [bA (b.take (b.length - 4))] ⟨F4 (by omega) (by omega),tv⟩ ?_;refine z_ hs ?_;conv=>whnf
    refine A8 (fun h=>?_) (fun h=>?_) <;> conv=>whnf
    ·exfalso;omega
    refine z_ (LP b (by omega) hp) ?_;conv=>whnf
    rw [e11];refine A8 (fun h=>?_) (fun h=>?_) <;> conv=>whnf
    ·exact⟨_,JK 4,rfl⟩
    ·exfalso;omega
 ·have hE:Di b=5:=by rw [Di,if_neg hB,if_pos hS]
  rw [hE,if_neg (by decide)];refine zS Tryz.func253 rfl ?_;conv=>whnf
  refine A8 (fun h=>?_) (fun h=>?_) <;> conv=>whnf
  ·exfalso;omega
  refine A8 (fun h=>?_) (fun h=>?_) <;> conv=>whnf
  ·exfalso;omega
  rw [e4];refine⟨by omega,?_⟩;conv=>whnf
  rw [em];refine zX [bA (b.drop (b.length - 4)),iv 4] ⟨AX (by omega),ri,tv⟩ ?_;refine z_ hg ?_;refine⟨by omega,?_⟩;conv=>whnf
  rw [em];refine zX [bA (b.take (b.length - 4))] ⟨F4 (by omega) (by omega),tv⟩ ?_;refine z_ hs ?_;conv=>whnf
  refine A8 (fun h=>?_) (fun h=>?_) <;> conv=>whnf
  ·exact⟨_,JK 5,rfl⟩
  ·exfalso;omega
def Vk {α:Type} (p:α->Bool) (l:List α):Int:=if l.any p then ((l.findIdx p:Nat):Int) else -1
theorem IR {α:Type} {p:α->Bool} {l:List α} {k:Nat} {d:α} (hk:k<l.length) (h:(l.take k).any p=false) (hp:p (l.getD k d)=true):Vk p l=k:=by
 rw [Ab,Af hk] at hp;have hp:p l[k]=true:=hp;unfold Vk;rw [Dw.2 ⟨l[k],CF hk,hp⟩];simp only [if_true,Int.natCast_inj];refine(List.findIdx_eq hk).2 ⟨hp,fun j hj=>?_⟩;rw [List.any_eq_false] at h;have:=h l[j] (List.mem_take_iff_getElem.2 ⟨j,by omega,rfl⟩);simpa using this
theorem Hg {α:Type} {p:α->Bool} {l:List α} (h:l.any p=false):Vk p l = -1:=by
 unfold Vk;rw [h];rfl
theorem KP {α:Type} {p:α->Bool} {l:List α}:decide (0<=Vk p l)=l.any p:=by
 unfold Vk;cases h:l.any p with
 | true=>simp
 | false=>rfl
theorem Ev {α:Type} {p:α->Bool} {l:List α} {k:Nat} {d:α} (hk:k<l.length) (h:(l.take k).any p=false) (hp:p (l.getD k d)=false):(l.take (k+1)).any p=false:=by
 rw [AR hk,List.any_append,h];rw [Ab,Af hk] at hp;simpa using hp
def Co (x:Ent):List AV:= [iv x.stamp,iv x.sum, .v (.bool x.lost)]
def Bv (l:List Ent):AV:= .sl 3 l.length fun i=>Co (l.getD i ⟨0,0,false⟩)
theorem XR (n:Int):Fn Tryz.prog 269 [iv n] fun r=>r = .v (.bool (Ib n)):=by
 refine zS Tryz.func269 rfl ?_;conv=>whnf
 repeat' (first | (refine Ao (fun h=>?_) (fun h=>?_) <;> (try simp at h) <;> conv=>whnf) | (refine zF tys_ok mixed (by kernel_rfl) ?_;conv=>whnf) | (refine zY ?_;conv=>whnf) | (refine Ad (by omega) ?_;conv=>whnf))
 all_goals exact⟨_,ri,by simp [Ib,CK, *] <;> omega⟩
theorem Vn (x:Ent):Fn Tryz.prog 268 [.ag (Co x)] fun r=>r = .v (.bool (!DT x)):=by
 refine zS Tryz.func268 rfl ?_;conv=>whnf
 repeat' (first | (refine Ao (fun h=>?_) (fun h=>?_) <;> (try simp at h) <;> conv=>whnf) | (refine zF tys_ok mixed (by kernel_rfl) ?_;conv=>whnf) | (refine zY ?_;conv=>whnf) | (refine z_ (XR _) ?_;conv=>whnf) | (refine Ad (by omega) ?_;conv=>whnf))
 all_goals exact⟨_,ri,by simp [DT, *]⟩
theorem ae (l:List Ent)  (hl:l.length<=1000000):Fn Tryz.prog 292 [Bv l, .v (.func (.func 268) #[] #[])] fun r=>r = iv (Vk (fun x=>!DT x) l):=by
 refine zS Tryz.func292 rfl ?_;conv=>whnf
 refine zM Nat (fun k=>([(0,Bv l),(1, .v (.func (.func 268) #[] #[])),(7,iv l.length),(8,iv k)], [])) (fun k=>k<=l.length/\(l.take k).any (fun x=>!DT x)=false) (fun k=>l.length - k) 0 ⟨Aj _,by simp⟩ ⟨[],tv,tA,tv,rfl,rfl,rfl⟩ ?_;rintro k ⟨hk,hI⟩;conv=>whnf
 refine Ao (fun h2=>?_) (fun h2=>?_) <;> simp at h2 <;> conv=>whnf
 ·refine⟨by first | omega | (refine⟨rfl,?_,?_⟩ <;> first | omega | (simp only [Aa];done) | (simp only [Aa];omega)) | (simp only [Aa];omega),?_⟩;conv=>whnf
  refine z_ (Vn (l.getD k ⟨0,0,false⟩)) ?_;conv=>whnf
  refine Ao (fun h3=>?_) (fun h3=>?_) <;> conv=>whnf
  ·exact⟨_,ri,by rw [IR (d:=⟨0,0,false⟩) h2 hI (by first | exact h3 | (rw [Ac] at h3;exact h3) | simpa using h3)]⟩
  ·refine⟨k+1,⟨by omega,Ev (d:=⟨0,0,false⟩) h2 hI (by first | exact h3 | (rw [Ac] at h3;exact h3) | simpa using h3)⟩,by omega, [],tv,⟨rfl,rfl,rfl,AL (by omega),tv⟩,tv,rfl,rfl,rfl⟩
 ·exact⟨_,ri,by rw [A3 h2] at hI;rw [Hg hI]⟩
theorem af (l:List Ent)  (hl:l.length<=1000000):Fn Tryz.prog 270 [Bv l, .v (.func (.func 268) #[] #[])] fun r=>r = .v (.bool (l.any (fun x=>!DT x))):=by
 refine zS Tryz.func270 rfl ?_;conv=>whnf
 refine z_ (ae l  hl) ?_;exact⟨_,ri,by rw [KP]⟩

theorem N0 (g:Geo) (l:List Ent) (hl:l.length<=1000000):Fn Tryz.prog 237 [.ag (AT g), .ag [Bv l]] fun r=>r = .v (FM (GG g l)):=by
 have hG:Fn Tryz.prog 46 [.ag (AT g)] fun r=>r = .v (FM (Bq g)):=Ec g.z g.d g.sp g.sl g.an
 cases hg:Bq g with
 | false=>
  rw [hg] at hG;rw [show GG g l=false by simp [GG,hg]];refine zS Tryz.func237 rfl ?_;conv=>whnf
  refine z_ hG ?_;exact⟨_,ri,rfl⟩
 | true=>
  rw [hg] at hG;obtain⟨h1,h2,h3,h4,h5⟩:=Aq.1 hg;have hw:IntKind.i64.wrap (g.d+1)=g.d+1:=IntWalk.i64_in _ (by omega);by_cases hn:(l.length:Int)=g.d+1
  ·have hc:=af l hl;cases ha:l.any (fun x=>!DT x) with
   | true=>
    rw [ha] at hc;rw [show GG g l=false by rw [GG];simp only [Bool.and_eq_false_iff];refine .inl (.inr ?_);rw [Cn,ha];rfl];refine zS Tryz.func237 rfl ?_;conv=>whnf
    refine z_ hG ?_;conv=>whnf
    rw [hw,show ((l.length:Int) != g.d+1)=false by rw [hn];exact bne_self_eq_false _];conv=>whnf
    refine z_ hc ?_;exact⟨_,ri,rfl⟩
   | false=>
    rw [ha] at hc;have hal:l.all DT=true:=by rw [Cn,ha];rfl
    have hlo:HE l g.d.toNat=(l.getD g.d.toNat ⟨0,0,false⟩).lost:=by
     rw [HE,Ab,Af (by omega)];rfl
    rw [show GG g l = !(l.getD g.d.toNat ⟨0,0,false⟩).lost by rw [GG,hg,hal,decide_eq_true hn,hlo];rfl];refine zS Tryz.func237 rfl ?_;conv=>whnf
    refine z_ hG ?_;conv=>whnf
    rw [hw,show ((l.length:Int) != g.d+1)=false by rw [hn];exact bne_self_eq_false _];conv=>whnf
    refine z_ hc ?_;refine⟨by omega,?_⟩;conv=>whnf
    refine Ao (fun h=>?_) (fun h=>?_) <;> conv=>whnf
    ·exact⟨_,ri,by rw [h];rfl⟩
    ·exact⟨_,ri,by rw [h];rfl⟩
  ·rw [show GG g l=false by simp [GG,hn]];refine zS Tryz.func237 rfl ?_;conv=>whnf
   refine z_ hG ?_;conv=>whnf
   rw [hw,show ((l.length:Int) != g.d+1)=true from bne_iff_ne.2 hn];exact⟨_,ri,rfl⟩
theorem N1 (g:Geo) (l:List Ent) (hl:l.length<=1000):Fn Tryz.prog 227 [.ag (AT g), .ag [Bv l]] fun r=>r = .tp [bA (if GG g l then CY l else []), .v (FM (GG g l))]:=by
 have hc:=N0 g l (by omega);cases hok:GG g l with
 | false=>
  rw [hok] at hc;refine zS Tryz.func227 rfl ?_;conv=>whnf
  refine z_ hc ?_;exact⟨.tp [bA [],iv 1],fun c v h=>by
   simp only [Rd,RdL] at h |-
   obtain⟨xs,rfl,y,ys,rfl,rfl,h⟩:=h;exact⟨_,rfl,_,_,rfl,Bt 1 (fun i=> [.v (.int .u8 (([]:List UInt8).getD i 0).toNat)]) c (.slice none 0 0) (by simp [Rd]),h⟩,rfl⟩
 | true=>
  rw [hok] at hc;have hall:∀ x∈l,DT x=true:=by
   simp only [GG,Ae] at hok;exact fun x hx=>Av.1 hok.1.2 x hx
  refine zS Tryz.func227 rfl ?_;conv=>whnf
  refine z_ hc ?_;conv=>whnf
  refine zm Nat (fun k=>([(7, .ow 2 (CY (l.take k)).length),(20,Bv l),(21,iv l.length),(22,iv k)], [.dead, .dead, .row 5 1 ((CY (l.take k)).map Eo)])) (fun k=>k<=l.length) (fun k=>l.length - k) 0 (Aj _) (zE ⟨[(7,5,1)],tA,tA,tA,rfl,rfl,rfl⟩) ?_;rintro k hk;conv=>whnf
  refine A8 (fun h2=>?_) (fun h2=>?_) <;> (repeat rw [Ac] at h2) <;> conv=>whnf
  ·have hk':k<l.length:=by omega
   have hx:=hall _ (A7 (d:=⟨0,0,false⟩) hk');have hst:=N2 hk';have e9:l.getD k ⟨0,0,false⟩=l[k]:=by rw [Ab,Af hk'];rfl
   rw [<-e9] at hst;have hr:=JP [(l.getD k ⟨0,0,false⟩).stamp,(l.getD k ⟨0,0,false⟩).sum,Dj (l.getD k ⟨0,0,false⟩).lost] [4,4,1] rfl (by show 3<=1000;decide) (Xe hx);refine zY ?_;refine⟨by omega,?_⟩;conv=>whnf
   rw [Ac];refine zY ?_;conv=>whnf
   refine Ao (fun hx2=>?_) (fun hx2=>?_) <;> conv=>whnf
   ·rw [hx2] at hr;refine zO hr.go ?_;refine⟨rfl,?_⟩;refine⟨rfl,?_⟩;conv=>whnf
    refine zX [iA [(l.getD k ⟨0,0,false⟩).stamp,(l.getD k ⟨0,0,false⟩).sum,Dj true],iA [4,4,1]] ⟨(BN (l:= [(l.getD k ⟨0,0,false⟩).stamp,(l.getD k ⟨0,0,false⟩).sum,Dj true]) rfl).1,(BN (l:= [4,4,1]) rfl).1,tv⟩ ?_;refine zW hr rfl ?_;rintro _ _ ⟨rfl,rfl⟩;refine⟨by simp,?_⟩;conv=>whnf
    refine Ad ⟨by simp,by rw [Fk,tot_rowB [(l.getD k ⟨0,0,false⟩).stamp,(l.getD k ⟨0,0,false⟩).sum,Dj true] [4,4,1] rfl];simp [tot];omega⟩ ?_;conv=>whnf
    have he:J5 (l.getD k ⟨0,0,false⟩)=rowB [(l.getD k ⟨0,0,false⟩).stamp,(l.getD k ⟨0,0,false⟩).sum,Dj true] [4,4,1]:=by rw [J5,hx2]
    refine⟨k+1,by omega,by omega,zE ⟨[],tv,⟨?_,rfl,rfl,AL (by omega),tv⟩,⟨?_,tv⟩,rfl,rfl,rfl⟩⟩
    ·rw [hst,he,Ai];rfl
    ·rw [hst,he,A9]
   ·rw [hx2] at hr;refine zO hr.go ?_;refine⟨rfl,?_⟩;refine⟨rfl,?_⟩;conv=>whnf
    refine zX [iA [(l.getD k ⟨0,0,false⟩).stamp,(l.getD k ⟨0,0,false⟩).sum,Dj false],iA [4,4,1]] ⟨(BN (l:= [(l.getD k ⟨0,0,false⟩).stamp,(l.getD k ⟨0,0,false⟩).sum,Dj false]) rfl).1,(BN (l:= [4,4,1]) rfl).1,tv⟩ ?_;refine zW hr rfl ?_;rintro _ _ ⟨rfl,rfl⟩;refine⟨by simp,?_⟩;conv=>whnf
    refine Ad ⟨by simp,by rw [Fk,tot_rowB [(l.getD k ⟨0,0,false⟩).stamp,(l.getD k ⟨0,0,false⟩).sum,Dj false] [4,4,1] rfl];simp [tot];omega⟩ ?_;conv=>whnf
    have he:J5 (l.getD k ⟨0,0,false⟩)=rowB [(l.getD k ⟨0,0,false⟩).stamp,(l.getD k ⟨0,0,false⟩).sum,Dj false] [4,4,1]:=by rw [J5,hx2]
    refine⟨k+1,by omega,by omega,zE ⟨[],tv,⟨?_,rfl,rfl,AL (by omega),tv⟩,⟨?_,tv⟩,rfl,rfl,rfl⟩⟩
    ·rw [hst,he,Ai];rfl
    ·rw [hst,he,A9]
  ·have hk2:k=l.length:=by omega
   subst hk2;rw [As];refine⟨by simp,?_⟩;exact⟨.tp [bA (CY l),iv 0],fun c v h=>by
    simp only [Rd,RdL] at h |-
    obtain⟨xs,rfl,y,ys,rfl,h1,h⟩:=h;exact⟨_,rfl,y,ys,rfl,zC (u:=y) rfl (fun i hi=>Bg (f:=Eo) (l:=CY l) (d:=0) hi) (by simp only [Rd];exact h1),h⟩,rfl⟩
theorem ConvH.sealBox {H:List AB} (j k:Nat) {t t':TypeId} {sz':Nat} {cs cs2:List AV} {es':List (List AV)} (hj:H[j]? = some (.box t cs)) (hk:H[k]? = some (.row t' sz' es'))
  (he:cs.map (AV.slIn k es'.length (.sl sz' es'.length fun i=>es'.getD i []))=cs2):ConvH H ((H.set k .dead).set j (.box t cs2)):=by
 intro w0 M0 c hs;subst he;have hjk:j≠k:=by rintro rfl;rw [hj] at hk;cases hk
 obtain⟨c1,e1,s1,x1,r1⟩:=hs.freeze hk;have hj1:(H.set k .dead)[j]? = some (.box t cs):=by rw [AA (Ne.symm hjk)];exact hj
 refine⟨c1,e1,s1.recell hj1 rfl ?_,x1⟩;rintro⟨g,xs,h1,h2,_,h4⟩;obtain⟨g0,ys,q1,q2,q3,_⟩:=hs.blk j _ hj;have hg:=x1.box j _ (hs.klt hj) q1;rw [h1] at hg;injection hg with hg
 injection hg with hg
 injection hg with hg
 subst hg;rw [e1,q2] at h2;injection h2 with h2
 have hxy:ys.toArray=xs.toArray:=by injection h2
 have hxy:ys=xs:=by simpa using hxy
 subst hxy;refine⟨g,ys,h1,by rw [e1];exact q2,?_,h4⟩;have h8:∀ (l:List AV) (us:List Value),RdL l c us->RdL (l.map (AV.slIn k es'.length (.sl sz' es'.length fun i=>es'.getD i []))) c1 us:=by
  intro l;induction l with
  | nil=>intro us h;simp only [RdL] at h;subst h;simp [RdL]
  | cons x l ih=>
   intro us h;simp only [RdL] at h;obtain⟨u,vs,rfl,a1,a2⟩:=h;simp only [A0,RdL];refine⟨u,vs,rfl,?_,ih vs a2⟩;unfold AV.slIn;split
   ·rename_i i n;split
    ·rename_i hik;subst hik;split
     ·rename_i hn;subst hn;exact r1 u a1
     ·simp [Rd]
    ·exact Rd.ext _ x1 a1
   ·exact Rd.ext _ x1 a1
 exact h8 _ _ q3
def zw:=@ConvH.sealBox
def Eh (g:Geo) (b:List UInt8):Int:=if Bq g=false then 1 else if (C8 g b).isSome then 0 else 4
theorem LA (e:Int) (c:Ctx) (v:Value) (h:Rd (.tp [.ag [.v (.slice none 0 0)],iv e]) c v):Rd (.tp [.ag [Bv []],iv e]) c v:=by
 have e1:SubL [.ag [.v (.slice none 0 0)],iv e] [.ag [Bv []],iv e]:=⟨Be ⟨fun c u h=>Bt 3 _ c u h,tv⟩,ri,tv⟩;simp only [Rd] at h |-
 obtain⟨xs,rfl,h⟩:=h;exact⟨_,rfl,e1.rdl (c:=c) (xs:=xs) (by simpa only [RdL,Rd] using h)⟩
def bg (g:Geo) (b:List UInt8) (k:Nat):Bool->List AB
 | false=> [.box 23 (AT g), .box 141 [.v (.slice none 0 0)], .box 141 [.ow 3 k], .row 194 3 ((entsOf k b).map Co)]
 | true=> [.box 23 (AT g), .box 141 [.v (.slice none 0 0)], .box 141 [.sl 3 ((entsOf k b).map Co).length fun i=>((entsOf k b).map Co).getD i []], .dead]
theorem LR (g:Geo) (b:List UInt8) (hl:b.length<=100000):Fn Tryz.prog 175 [.ag (AT g),bA b] fun r=>r = .tp [.ag [Bv (if Bq g then (C8 g b).getD [] else [])],iv (Eh g b)]:=by
 have hG:Fn Tryz.prog 46 [.ag (AT g)] fun r=>r = .v (FM (Bq g)):=Ec g.z g.d g.sp g.sl g.an
 cases hg:Bq g with
 | false=>
  rw [hg] at hG;rw [show Eh g b=1 by rw [Eh,if_pos hg]];refine zS Tryz.func175 rfl ?_;conv=>whnf
  refine z_ hG ?_;exact⟨_,LA 1,rfl⟩
 | true=>
  rw [hg] at hG;obtain⟨h1,h2,h3,h4,h5⟩:=Aq.1 hg;obtain⟨n,hn⟩:∃ n:Nat,g.d+1=n:=⟨(g.d+1).toNat,by omega⟩;have hnn:(g.d+1).toNat=n:=by omega
  have hw:IntKind.i64.wrap (g.d+1)=(n:Int):=by rw [IntWalk.i64_in _ (by omega),hn]
  by_cases hs:9*n<=b.length
  ·refine zS Tryz.func175 rfl ?_;conv=>whnf
   refine z_ hG ?_;conv=>whnf
   refine zm (Nat × Bool) (fun s=>([(1,bA b),(2, .bp 0 0),(4, .bp 1 0),(5,iv 0),(6, .bp 2 0),(7,bA (b.drop (9*s.1))),(20,iv n),(21,iv s.1)],bg g b s.1 s.2)) (fun s=>s.1<=n/\(s.2=false->s.1<n)/\(s.2=true->s.1=n)) (fun s=>n - s.1) (0,false) ⟨Aj _,fun _=>by show 0<n;omega,fun h=>by cases h⟩ (zE ⟨[(1002000,194,3)],tA,⟨rfl,rfl,rfl,rfl,rfl,rfl,congrArg (fun x=>AV.v (.int .i64 x)) hw,rfl,tv⟩,tA,rfl,rfl,rfl⟩) ?_;rintro⟨k,sd⟩ ⟨hk,hf,ht⟩;simp only at hk hf ht;cases sd with
   | false=>
    have hk1:=hf rfl;obtain⟨x,y,z,hxy,hen⟩:=Wy (b.drop (9*k));have hu:=K0 (b.drop (9*k)) [4,4,1] (by decide) (by rw [Ak];omega) (by show 3<=1000;decide) (by rw [Ak];show 9<=_;omega);rw [hxy] at hu;have hst:=entsOf_step k b;have hel:=entsOf_len k b;conv=>whnf
    refine A8 (fun h6=>?_) (fun h6=>?_) <;> (repeat rw [Ac] at h6) <;> conv=>whnf
    ·refine zO hu.go ?_;refine⟨rfl,?_⟩;conv=>whnf
     refine zX [bA (b.drop (9*k)),iA [4,4,1]] ⟨ri,(BN (l:= [4,4,1]) rfl).1,tv⟩ ?_;refine zW (hu) rfl ?_;rintro _ _ ⟨rfl,rfl⟩;conv=>whnf
     apply zD (0) tys_ok mixed (.o [0,1,2,3,4,5,6,7,8,9,10,11,12,13,14,15,16] .fin) [33,34,35,36,37,38,39,40,41,42,43,44,45,46,47,48] (by kernel_rfl)
     ·conv=>whnf
      try (first | (refine Ad ⟨by decide,by decide⟩ ?_;(conv=>whnf);refine Ad ⟨rfl,rfl,by decide⟩ ?_;(conv=>whnf)) | skip;conv=>whnf)
      try (refine tI ?_;conv=>whnf)
      try (first | (refine Ad ⟨by decide,by decide⟩ ?_;(conv=>whnf);refine Ad ⟨rfl,rfl,by decide⟩ ?_;(conv=>whnf)) | skip;conv=>whnf)
      try (refine tI ?_;conv=>whnf)
      try (first | (refine Ad ⟨by decide,by decide⟩ ?_;(conv=>whnf);refine Ad ⟨rfl,rfl,by decide⟩ ?_;(conv=>whnf)) | skip;conv=>whnf)
      try (refine tI ?_;conv=>whnf)
      try (first | (refine Ad ⟨by decide,by decide⟩ ?_;(conv=>whnf);refine Ad ⟨rfl,rfl,by decide⟩ ?_;(conv=>whnf)) | skip;conv=>whnf)
      try (refine tJ ?_;conv=>whnf)
      try (refine tK ?_;conv=>whnf)
      try (refine tS ?_;conv=>whnf)
      (skip)
      exact tA
     conv=>whnf
     have hes:(entsOf k b).map Co ++ [[iv x,iv y, .v (.bool (z == 1))]]=(entsOf (k+1) b).map Co:=by rw [hst,A9,hen];rfl
     have hdr:bA ((b.drop (9*k)).drop 9)=bA (b.drop (9*(k+1))):=by rw [AS];rfl
     by_cases hlast:k+1<n
     ·exact⟨(k+1,false),⟨by show k+1<=n;omega,fun _=>hlast,fun h=>by cases h⟩,by show n - (k+1)<n - k;omega,zE ⟨[],tv,⟨rfl,rfl,rfl,rfl,rfl,hdr,rfl,AL (by omega),tv⟩,⟨rfl,rfl,rfl,congrArg (AB.row _ _) hes.symm,tv⟩,rfl,rfl,rfl⟩⟩
     ·refine⟨(k+1,true),⟨by show k+1<=n;omega,(fun h=>by cases h),fun _=>by show k+1=n;omega⟩,by show n - (k+1)<n - k;omega,_,zw 2 3 (es':=(entsOf (k+1) b).map Co) (cs2:= [.sl 3 ((entsOf (k+1) b).map Co).length fun i=>((entsOf (k+1) b).map Co).getD i []]) rfl (congrArg (fun e=>some (AB.row _ _ e)) hes) ?_, [],tv,⟨rfl,rfl,rfl,rfl,rfl,hdr,rfl,AL (by omega),tv⟩,tA,rfl,rfl,rfl⟩;have hel2:k+1=((entsOf (k+1) b).map Co).length:=by rw [Aa,entsOf_len]
      show [AV.slIn 3 _ _ (.ow 3 (k+1))]=_;rw [AV.slIn,if_pos rfl,if_pos hel2]
    ·exfalso;omega
   | true=>
    have hk1:=ht rfl;subst hk1;have hlen:=entsOf_len k b;have esub:∀ (c:Ctx) (u:Value),Rd (.sl 3 ((entsOf k b).map Co).length fun i=>((entsOf k b).map Co).getD i []) c u->Rd (Bv (entsOf k b)) c u:=fun c u h=>
     zC (by rw [Aa]) (fun i hi=>Bg (f:=Co) (d:=⟨0,0,false⟩) (by rw [Aa] at hi;exact hi)) h
    have hb:=N1 g (entsOf k b) (by omega);have hq:=Xd (CY (entsOf k b)) b;have hRR:C8 g b=if GG g (entsOf k b)=true/\CY (entsOf k b)=b then some (entsOf k b) else none:=by rw [C8,hnn]
    conv=>whnf
    refine A8 (fun h6=>?_) (fun h6=>?_) <;> (repeat rw [Ac] at h6) <;> conv=>whnf
    ·exfalso;omega
    ·refine zX [.ag (AT g), .ag [Bv (entsOf k b)]] ⟨ri,Be ⟨esub,tv⟩,tv⟩ ?_;cases hok:GG g (entsOf k b) with
     | false=>
      rw [hok] at hb;have hN:C8 g b=none:=by rw [hRR,if_neg (fun h=>by rw [hok] at h;cases h.1)]
      rw [show Eh g b=4 by rw [Eh,if_neg (by rw [hg];decide),hN];rfl,hN];refine z_ hb ?_;exact⟨_,LA 4,rfl⟩
     | true=>
      rw [hok] at hb;by_cases he:CY (entsOf k b)=b
      ·have hN:C8 g b=some (entsOf k b):=by rw [hRR,if_pos ⟨hok,he⟩]
       rw [show Eh g b=0 by rw [Eh,if_neg (by rw [hg];decide),hN];rfl,hN];rw [decide_eq_true he] at hq;refine z_ hb ?_;conv=>whnf
       refine z_ hq ?_;exact⟨.tp [.ag [Bv (entsOf k b)],iv 0],fun c v h=>by
        have e1:SubL [.ag [.sl 3 ((entsOf k b).map Co).length fun i=>((entsOf k b).map Co).getD i []],iv 0] [.ag [Bv (entsOf k b)],iv 0]:=⟨Be ⟨esub,tv⟩,ri,tv⟩;simp only [Rd] at h |-
        obtain⟨xs,rfl,h⟩:=h;exact⟨_,rfl,e1.rdl (c:=c) (xs:=xs) (by simpa only [RdL,Rd] using h)⟩,rfl⟩
      ·have hN:C8 g b=none:=by rw [hRR,if_neg (fun h=>he h.2)]
       rw [show Eh g b=4 by rw [Eh,if_neg (by rw [hg];decide),hN];rfl,hN];rw [decide_eq_false he] at hq;refine z_ hb ?_;conv=>whnf
       refine z_ hq ?_;exact⟨_,LA 4,rfl⟩
  ·have hN:C8 g b=none:=PW (by rw [hnn];omega);rw [show Eh g b=4 by rw [Eh,if_neg (by rw [hg];decide),hN];rfl,hN];refine zS Tryz.func175 rfl ?_;conv=>whnf
   refine z_ hG ?_;conv=>whnf
   refine zm Nat (fun k=>([(1,bA b),(2, .bp 0 0),(4, .bp 1 0),(5,iv 0),(6, .bp 2 0),(7,bA (b.drop (9*k))),(20,iv n),(21,iv k)],bg g b k false)) (fun k=>k<=n/\9*k<=b.length) (fun k=>n - k) 0 ⟨Aj _,Aj _⟩ (zE ⟨[(1002000,194,3)],tA,⟨rfl,rfl,rfl,rfl,rfl,rfl,congrArg (fun x=>AV.v (.int .i64 x)) hw,rfl,tv⟩,tA,rfl,rfl,rfl⟩) ?_;rintro k ⟨hk,hkb⟩;conv=>whnf
   refine A8 (fun h6=>?_) (fun h6=>?_) <;> (repeat rw [Ac] at h6) <;> conv=>whnf
   ·by_cases h9:9*(k+1)<=b.length
    ·obtain⟨x,y,z,hxy,hen⟩:=Wy (b.drop (9*k));have hu:=K0 (b.drop (9*k)) [4,4,1] (by decide) (by rw [Ak];omega) (by show 3<=1000;decide) (by rw [Ak];show 9<=_;omega);rw [hxy] at hu;have hst:=entsOf_step k b;have hel:=entsOf_len k b;refine zO hu.go ?_;refine⟨rfl,?_⟩;conv=>whnf
     refine zX [bA (b.drop (9*k)),iA [4,4,1]] ⟨ri,(BN (l:= [4,4,1]) rfl).1,tv⟩ ?_;refine zW (hu) rfl ?_;rintro _ _ ⟨rfl,rfl⟩;conv=>whnf
     apply zD (0) tys_ok mixed (.o [0,1,2,3,4,5,6,7,8,9,10,11,12,13,14,15,16] .fin) [33,34,35,36,37,38,39,40,41,42,43,44,45,46,47,48] (by kernel_rfl)
     ·conv=>whnf
      try (first | (refine Ad ⟨by decide,by decide⟩ ?_;(conv=>whnf);refine Ad ⟨rfl,rfl,by decide⟩ ?_;(conv=>whnf)) | skip;conv=>whnf)
      try (refine tI ?_;conv=>whnf)
      try (first | (refine Ad ⟨by decide,by decide⟩ ?_;(conv=>whnf);refine Ad ⟨rfl,rfl,by decide⟩ ?_;(conv=>whnf)) | skip;conv=>whnf)
      try (refine tI ?_;conv=>whnf)
      try (first | (refine Ad ⟨by decide,by decide⟩ ?_;(conv=>whnf);refine Ad ⟨rfl,rfl,by decide⟩ ?_;(conv=>whnf)) | skip;conv=>whnf)
      try (refine tI ?_;conv=>whnf)
      try (first | (refine Ad ⟨by decide,by decide⟩ ?_;(conv=>whnf);refine Ad ⟨rfl,rfl,by decide⟩ ?_;(conv=>whnf)) | skip;conv=>whnf)
      try (refine tJ ?_;conv=>whnf)
      try (refine tK ?_;conv=>whnf)
      try (refine tS ?_;conv=>whnf)
      (skip)
      exact tA
     conv=>whnf
     have hes:(entsOf k b).map Co ++ [[iv x,iv y, .v (.bool (z == 1))]]=(entsOf (k+1) b).map Co:=by rw [hst,A9,hen];rfl
     have hdr:bA ((b.drop (9*k)).drop 9)=bA (b.drop (9*(k+1))):=by rw [AS];rfl
     exact⟨k+1,⟨by omega,h9⟩,by omega,zE ⟨[],tv,⟨rfl,rfl,rfl,rfl,rfl,hdr,rfl,AL (by omega),tv⟩,⟨rfl,rfl,rfl,congrArg (AB.row _ _) hes.symm,tv⟩,rfl,rfl,rfl⟩⟩
    ·have hu:=Vv (b.drop (9*k)) [4,4,1] (by decide) (by rw [Ak];omega) (by show 3<=1000;decide) (by rw [Ak];show _<9;omega);refine zO hu.go ?_;refine⟨rfl,?_⟩;conv=>whnf
     refine zX [bA (b.drop (9*k)),iA [4,4,1]] ⟨ri,(BN (l:= [4,4,1]) rfl).1,tv⟩ ?_;refine z_ hu ?_;exact⟨_,LA 4,rfl⟩
   ·exfalso;have:k=n:=by omega
    subst this;omega
theorem KQ (g:Geo) (x:Img) (hl:x.bytes.length<=100000):Fn Tryz.prog 104 [.ag (AT g), .ag (D9 x)] fun r=>r = .v (FM (B4 g x)):=by
 have hG:Fn Tryz.prog 46 [.ag (AT g)] fun r=>r = .v (FM (Bq g)):=Ec g.z g.d g.sp g.sl g.an
 have ht:=LR g x.bytes hl;cases hg:Bq g with
 | false=>
  rw [hg] at hG;rw [show B4 g x=false by simp [B4,hg]];refine zS Tryz.func104 rfl ?_;conv=>whnf
  refine z_ hG ?_;exact⟨_,ri,rfl⟩
 | true=>
  rw [hg] at hG ht;obtain⟨h1,h2,h3,h4,h5⟩:=Aq.1 hg;have hwz:IntKind.i64.wrap (g.z - 1)=g.z - 1:=IntWalk.i64_in _ (by omega);have hwd:IntKind.i64.wrap (g.d - 1)=g.d - 1:=IntWalk.i64_in _ (by omega);have hi1:=Jm x.zone 0 (g.z - 1);have hi2:=Jm x.what (-1) (g.d - 1);have hE:B4 g x=(CK x.zone 0 (g.z - 1)&&(if x.what=255 then (C8 g x.bytes).isSome else CK x.what (-1) (g.d - 1)&&decide (x.bytes.length=8))):=by rw [B4,hg];rfl
  rw [hE];cases hz:CK x.zone 0 (g.z - 1) with
  | false=>
   rw [hz] at hi1;refine zS Tryz.func104 rfl ?_;conv=>whnf
   refine z_ hG ?_;conv=>whnf
   rw [hwz];refine z_ hi1 ?_;exact⟨_,ri,rfl⟩
  | true=>
   rw [hz] at hi1;by_cases hw:x.what=255
   ·rw [if_pos hw];cases hr:C8 g x.bytes with
    | none=>
     rw [show Eh g x.bytes=4 by rw [Eh,if_neg (by rw [hg];decide),hr];rfl] at ht;refine zS Tryz.func104 rfl ?_;conv=>whnf
     refine z_ hG ?_;conv=>whnf
     rw [hwz];refine z_ hi1 ?_;conv=>whnf
     refine A8 (fun h=>?_) (fun h=>?_) <;> conv=>whnf
     ·refine z_ ht ?_;exact⟨_,ri,rfl⟩
     ·exact absurd hw h
    | some l=>
     rw [show Eh g x.bytes=0 by rw [Eh,if_neg (by rw [hg];decide),hr];rfl] at ht;refine zS Tryz.func104 rfl ?_;conv=>whnf
     refine z_ hG ?_;conv=>whnf
     rw [hwz];refine z_ hi1 ?_;conv=>whnf
     refine A8 (fun h=>?_) (fun h=>?_) <;> conv=>whnf
     ·refine z_ ht ?_;exact⟨_,ri,rfl⟩
     ·exact absurd hw h
   ·rw [if_neg hw];cases hh:CK x.what (-1) (g.d - 1) with
    | false=>
     rw [hh] at hi2;refine zS Tryz.func104 rfl ?_;conv=>whnf
     refine z_ hG ?_;conv=>whnf
     rw [hwz];refine z_ hi1 ?_;conv=>whnf
     refine A8 (fun h=>?_) (fun h=>?_) <;> conv=>whnf
     ·exact absurd h hw
     rw [hwd];refine z_ hi2 ?_;exact⟨_,ri,rfl⟩
    | true=>
     rw [hh] at hi2;refine zS Tryz.func104 rfl ?_;conv=>whnf
     refine z_ hG ?_;conv=>whnf
     rw [hwz];refine z_ hi1 ?_;conv=>whnf
     refine A8 (fun h=>?_) (fun h=>?_) <;> conv=>whnf
     ·exact absurd h hw
     rw [hwd];refine z_ hi2 ?_;conv=>whnf
     refine A8 (fun h=>?_) (fun h=>?_) <;> conv=>whnf
     ·exact⟨_,ri,by rw [decide_eq_false (by omega)];rfl⟩
     ·exact⟨_,ri,by rw [decide_eq_true (by omega)];rfl⟩
theorem Yv (x:Img):Fn Tryz.prog 296 [.ag (D9 x)] fun r=>r = .v (.bool (G7 x)):=by
 refine zS Tryz.func296 rfl ?_;conv=>whnf
 repeat' (first | (refine Ao (fun h=>?_) (fun h=>?_) <;> (try simp at h) <;> conv=>whnf) | (refine zF tys_ok mixed (by kernel_rfl) ?_;conv=>whnf) | (refine zY ?_;conv=>whnf) | (refine Ad (by omega) ?_;conv=>whnf))
 all_goals exact⟨_,ri,by simp [G7, *]⟩
def Ii (r:Rc):AV:=if r.kind=0 then .v .nilIface else if r.kind=1 then .ic 370 [.ag (D9 r.img)] else if r.kind=2 then .ic 367 [.ag []] else .v .nilIface
theorem Va (g:Geo) (r:Rc) (hl:r.img.bytes.length<=100000):Fn Tryz.prog 279 [.ag (AT g), .ag (G4 r)] fun x=>x = .tp [Ii r, .v (.bool (EP g r))]:=by
 have hi:=KQ g r.img hl;have hn:=Yv r.img;have hw:CK r.of_ 2 30=true->IntKind.i64.wrap (r.of_ - 2)=r.of_ - 2/\IntKind.i64.wrap (r.of_ - 1)=r.of_ - 1:=fun h=>by
  have:=AI.1 h;rw [IntKind.wrap_i64,IntKind.wrap_i64];omega
 by_cases h0:r.kind=0
 ·rw [show Ii r = .v .nilIface by rw [Ii,if_pos h0],EP,if_pos h0];refine zS Tryz.func279 rfl ?_;conv=>whnf
  repeat' (first | (refine Ao (fun h=>?_) (fun h=>?_) <;> (try simp at h) <;> conv=>whnf) | (refine zF tys_ok mixed (by kernel_rfl) ?_;conv=>whnf) | (refine zY ?_;conv=>whnf) | (refine z_ hn ?_;conv=>whnf) | (refine Ad (by omega) ?_;conv=>whnf))
  all_goals first | (exfalso;simp_all;done) | (refine⟨_,fun _ _ h=>h,?_⟩;simp [*];done)
 by_cases h1:r.kind=1
 ·rw [show Ii r = .ic 370 [.ag (D9 r.img)] by rw [Ii,if_neg h0,if_pos h1],EP,if_neg h0,if_pos h1];cases hI:B4 g r.img <;> rw [hI] at hi;all_goals
   refine zS Tryz.func279 rfl ?_;conv=>whnf
   repeat' (first | (refine Ao (fun h=>?_) (fun h=>?_) <;> (try simp at h) <;> conv=>whnf) | (refine zF tys_ok mixed (by kernel_rfl) ?_;conv=>whnf) | (refine zY ?_;conv=>whnf) | (refine z_ (Jm _ _ _) ?_;conv=>whnf) | (refine z_ hi ?_;conv=>whnf) | (refine Ad (by omega) ?_;conv=>whnf))
   all_goals first | (exfalso;simp_all;done) | (refine⟨.tp [.ic 370 [.ag (D9 r.img)], .v (.bool _)],fun _ _ h=>h,?_⟩;simp_all [FA];done) | trace_state
 by_cases h2:r.kind=2
 ·rw [show Ii r = .ic 367 [.ag []] by rw [Ii,if_neg h0,if_neg h1,if_pos h2],EP,if_neg h0,if_neg h1,if_pos h2];refine zS Tryz.func279 rfl ?_;conv=>whnf
  repeat' (first | (refine Ao (fun h=>?_) (fun h=>?_) <;> (try simp at h) <;> conv=>whnf) | (refine zF tys_ok mixed (by kernel_rfl) ?_;conv=>whnf) | (refine zY ?_;conv=>whnf) | (refine z_ (Jm _ _ _) ?_;conv=>whnf) | (refine z_ hn ?_;conv=>whnf) | (refine Ad (by omega) ?_;conv=>whnf))
  all_goals first | (exfalso;simp_all;done) | (refine⟨.tp [.ic 367 [.ag []], .v (.bool _)],fun _ _ h=>h,?_⟩;simp_all [FA];done) | trace_state
 ·rw [show Ii r = .v .nilIface by rw [Ii,if_neg h0,if_neg h1,if_neg h2],EP,if_neg h0,if_neg h1,if_neg h2];refine zS Tryz.func279 rfl ?_;conv=>whnf
  repeat' (first | (refine Ao (fun h=>?_) (fun h=>?_) <;> (try simp at h) <;> conv=>whnf) | (refine zF tys_ok mixed (by kernel_rfl) ?_;conv=>whnf) | (refine zY ?_;conv=>whnf) | (refine z_ (Jm _ _ _) ?_;conv=>whnf) | (refine z_ hn ?_;conv=>whnf) | (refine Ad (by omega) ?_;conv=>whnf))
  all_goals first | (exfalso;simp_all;done) | (refine⟨_,fun _ _ h=>h,?_⟩;rfl)
theorem sizes_own:ACalls Tryz.prog false 280 [] [] fun r H=>r = .ow 0 5/\H=[.row 3 1 (szR.map Pw)]:=by
 refine zx tys_ok Tryz.func280 rfl rfl (Ag rfl) ?_;exact⟨.ow 0 5,_, [.row 3 1 (szR.map Pw)],fun _ _ h=>h,zE ⟨[],tv,tA,tA,rfl,rfl,rfl⟩,rfl,rfl⟩
theorem TR (g:Geo) (r:Rc) (hl:r.img.bytes.length<=100000):Fn Tryz.prog 252 [.ag (AT g), .ag (G4 r)] fun x=>x = .tp [bA (if EE g r then ES r else []), .v (FM (EE g r))]:=by
 have hb:=Va g r hl;have hG:Fn Tryz.prog 46 [.ag (AT g)] fun r=>r = .v (FM (Bq g)):=Ec g.z g.d g.sp g.sl g.an
 have no:∀ (c:Ctx) (v:Value),Rd (.tp [.v (.slice none 0 0),iv 1]) c v->Rd (.tp [bA [],iv 1]) c v:=fun c v h=>by
  simp only [Rd,RdL] at h |-
  obtain⟨xs,rfl,y,ys,rfl,rfl,h⟩:=h;exact⟨_,rfl,_,_,rfl,Bt 1 (fun i=> [.v (.int .u8 (([]:List UInt8).getD i 0).toNat)]) c (.slice none 0 0) (by simp [Rd]),h⟩
 have hk:Ii r = .v .nilIface\/Ii r = .ic 370 [.ag (D9 r.img)]\/Ii r = .ic 367 [.ag []]:=by
  unfold Ii;split
  ·exact .inl rfl
  ·split
   ·exact .inr (.inl rfl)
   ·split
    ·exact .inr (.inr rfl)
    ·exact .inl rfl
 cases hok:EE g r with
 | false=>
  cases hg:Bq g with
  | false=>
   rw [hg] at hG;rcases hk with hk | hk | hk <;> rw [hk] at hb
   all_goals
    refine zS Tryz.func252 rfl ?_;conv=>whnf
    refine z_ hb ?_;conv=>whnf
    refine z_ hG ?_;exact⟨_,no,rfl⟩
  | true=>
   rw [hg] at hG;have hbo:EP g r=false:=by simpa [EE,hg] using hok
   rw [hbo] at hb;rcases hk with hk | hk | hk <;> rw [hk] at hb
   all_goals
    refine zS Tryz.func252 rfl ?_;conv=>whnf
    refine z_ hb ?_;conv=>whnf
    refine z_ hG ?_;exact⟨_,no,rfl⟩
 | true=>
  have hg:Bq g=true:=by simp only [EE,Ae] at hok;exact hok.1
  have hbo:EP g r=true:=by simp only [EE,Ae] at hok;exact hok.2
  rw [hg] at hG;rw [hbo] at hb;have hrow:=JP (CB r) szR rfl (by show 5<=1000;decide) (PU hok);have fin0:∀ (L:List UInt8) (n:Nat) (es:List (List AV)),n=L.length->es=L.map Eo->∀ (c:Ctx) (v:Value),Rd (.tp [.sl 1 n fun i=>es.getD i [],iv 0]) c v->Rd (.tp [bA L,iv 0]) c v:=fun L n es hn he c v h=>by
   subst he;simp only [Rd,RdL] at h |-
   obtain⟨xs,rfl,y,ys,rfl,h1,h⟩:=h;exact⟨_,rfl,y,ys,rfl,zC (u:=y) hn (fun i hi=>Bg (f:=Eo) (l:=L) (d:=0) (hn ▸ hi)) (by simp only [Rd];exact h1),h⟩
  by_cases h1:r.kind=1
  ·have hI:B4 g r.img=true:=by
    rw [EP,if_neg (by omega),if_pos h1] at hbo;simp only [Ae] at hbo;exact hbo.2.2
   have hs:=IS hI;have e1:=JQ r;have e2:(rowB [r.img.zone,Ds r.img.what] [1,1]).length=2:=by rw [tot_rowB [r.img.zone,Ds r.img.what] [1,1] rfl];rfl
   have hhead:=JP [r.img.zone,Ds r.img.what] [1,1] rfl (by show 2<=1000;decide) (Qy hI);have hpart:=Wo r.img.bytes (by omega);rw [show Ii r = .ic 370 [.ag (D9 r.img)] by rw [Ii,if_neg (by omega),if_pos h1]] at hb;refine zS Tryz.func252 rfl ?_;conv=>whnf
   refine z_ hb ?_;conv=>whnf
   refine z_ hG ?_;conv=>whnf
   apply zV (0) tys_ok mixed (.o [0,1,2,3,4,5,6,7,8,9] (.two 10 (.o [11,12,13,14,15,16,17] .fin) 11 (.o [10,12,13,14,15,16,17] .fin))) (by kernel_rfl);refine Ad ?_ ?_;conv=>whnf
   (refine zW sizes_own rfl ?_;rintro _ _ ⟨rfl,rfl⟩)
   conv=>whnf
   (refine zO hrow.go ?_;(conv=>whnf);refine Ad rfl ?_;(conv=>whnf);refine Ad rfl ?_;(conv=>whnf);refine zX [iA (CB r),iA szR] ⟨(BN (l:=CB r) rfl).1,(BN (l:=szR) rfl).1,tv⟩ ?_;refine zW hrow rfl ?_;rintro _ _ ⟨rfl,rfl⟩)
   conv=>whnf
   rotate_left 1;conv=>whnf
   (refine zW sizes_own rfl ?_;rintro _ _ ⟨rfl,rfl⟩)
   conv=>whnf
   (refine zO hrow.go ?_;(conv=>whnf);refine Ad rfl ?_;(conv=>whnf);refine Ad rfl ?_;(conv=>whnf);refine zX [iA (CB r),iA szR] ⟨(BN (l:=CB r) rfl).1,(BN (l:=szR) rfl).1,tv⟩ ?_;refine zW hrow rfl ?_;rintro _ _ ⟨rfl,rfl⟩)
   conv=>whnf
   rotate_left 1;all_goals
    refine zY ?_;conv=>whnf
    refine A8 (fun h2=>?_) (fun h2=>?_) <;> conv=>whnf
    ·have hz:Ds r.img.what=254:=by rw [Ds,if_pos h2]
     refine zO hhead.go ?_;refine⟨rfl,?_⟩;refine⟨rfl,?_⟩;conv=>whnf
     refine zX [iA [r.img.zone,Ds r.img.what],iA [1,1]] ⟨(BN (l:= [r.img.zone,Ds r.img.what]) (by rw [hz];rfl)).1,(BN (l:= [1,1]) rfl).1,tv⟩ ?_;refine zW hhead rfl ?_;rintro _ _ ⟨rfl,rfl⟩;conv=>whnf
     refine zW (hpart) rfl ?_;rintro _ _ ⟨rfl,rfl⟩;refine⟨by simp,?_⟩;refine⟨⟨by simp,by omega⟩,?_⟩;refine⟨by simp,?_⟩;conv=>whnf
     refine Ad ⟨by simp,by simp only [Al];omega⟩ ?_;conv=>whnf
     refine Ad (by simp;omega) ?_;conv=>whnf
     exact⟨.tp [bA (ES r),iv 0],fin0 _ _ _ (by rw [ES,if_pos h1,I4];simp;omega) (by rw [ES,if_pos h1,I4];simp),rfl⟩
    ·have hz:Ds r.img.what=r.img.what:=by rw [Ds,if_neg h2]
     refine zO hhead.go ?_;refine⟨rfl,?_⟩;refine⟨rfl,?_⟩;conv=>whnf
     refine zX [iA [r.img.zone,Ds r.img.what],iA [1,1]] ⟨(BN (l:= [r.img.zone,Ds r.img.what]) (by rw [hz];rfl)).1,(BN (l:= [1,1]) rfl).1,tv⟩ ?_;refine zW hhead rfl ?_;rintro _ _ ⟨rfl,rfl⟩;conv=>whnf
     refine zW (hpart) rfl ?_;rintro _ _ ⟨rfl,rfl⟩;refine⟨by simp,?_⟩;refine⟨⟨by simp,by omega⟩,?_⟩;refine⟨by simp,?_⟩;conv=>whnf
     refine Ad ⟨by simp,by simp only [Al];omega⟩ ?_;conv=>whnf
     refine Ad (by simp;omega) ?_;conv=>whnf
     exact⟨.tp [bA (ES r),iv 0],fin0 _ _ _ (by rw [ES,if_pos h1,I4];simp;omega) (by rw [ES,if_pos h1,I4];simp),rfl⟩
  have hk2:Ii r = .v .nilIface\/Ii r = .ic 367 [.ag []]:=by
   rcases hk with h | h | h
   ·exact .inl h
   ·exfalso;unfold Ii at h;rw [if_neg h1] at h;split at h
    ·cases h
    ·split at h <;> simp at h
   ·exact .inr h
  rcases hk2 with hk | hk <;> rw [hk] at hb
  ·refine zS Tryz.func252 rfl ?_;conv=>whnf
   refine z_ hb ?_;conv=>whnf
   refine z_ hG ?_;conv=>whnf
   apply zV (0) tys_ok mixed (.o [0,1,2,3,4,5,6,7,8,9] (.two 10 (.o [11,12,13,14,15,16,17] .fin) 11 (.o [10,12,13,14,15,16,17] .fin))) (by kernel_rfl);refine Ad ?_ ?_;conv=>whnf
   (refine zW sizes_own rfl ?_;rintro _ _ ⟨rfl,rfl⟩)
   conv=>whnf
   (refine zO hrow.go ?_;(conv=>whnf);refine Ad rfl ?_;(conv=>whnf);refine Ad rfl ?_;(conv=>whnf);refine zX [iA (CB r),iA szR] ⟨(BN (l:=CB r) rfl).1,(BN (l:=szR) rfl).1,tv⟩ ?_;refine zW hrow rfl ?_;rintro _ _ ⟨rfl,rfl⟩)
   conv=>whnf
   rotate_left 1;conv=>whnf
   (refine zW sizes_own rfl ?_;rintro _ _ ⟨rfl,rfl⟩)
   conv=>whnf
   (refine zO hrow.go ?_;(conv=>whnf);refine Ad rfl ?_;(conv=>whnf);refine Ad rfl ?_;(conv=>whnf);refine zX [iA (CB r),iA szR] ⟨(BN (l:=CB r) rfl).1,(BN (l:=szR) rfl).1,tv⟩ ?_;refine zW hrow rfl ?_;rintro _ _ ⟨rfl,rfl⟩)
   conv=>whnf
   rotate_left 1;all_goals
    refine⟨by simp,?_⟩;conv=>whnf
    exact⟨.tp [bA (rowB (CB r) szR),iv 0],fin0 _ _ _ rfl rfl,by simp only [ES,if_neg h1,AK,if_true];rfl⟩
  ·refine zS Tryz.func252 rfl ?_;conv=>whnf
   refine z_ hb ?_;conv=>whnf
   refine z_ hG ?_;conv=>whnf
   apply zV (0) tys_ok mixed (.o [0,1,2,3,4,5,6,7,8,9] (.two 10 (.o [11,12,13,14,15,16,17] .fin) 11 (.o [10,12,13,14,15,16,17] .fin))) (by kernel_rfl);refine Ad ?_ ?_;conv=>whnf
   (refine zW sizes_own rfl ?_;rintro _ _ ⟨rfl,rfl⟩)
   conv=>whnf
   (refine zO hrow.go ?_;(conv=>whnf);refine Ad rfl ?_;(conv=>whnf);refine Ad rfl ?_;(conv=>whnf);refine zX [iA (CB r),iA szR] ⟨(BN (l:=CB r) rfl).1,(BN (l:=szR) rfl).1,tv⟩ ?_;refine zW hrow rfl ?_;rintro _ _ ⟨rfl,rfl⟩)
   conv=>whnf
   rotate_left 1;conv=>whnf
   (refine zW sizes_own rfl ?_;rintro _ _ ⟨rfl,rfl⟩)
   conv=>whnf
   (refine zO hrow.go ?_;(conv=>whnf);refine Ad rfl ?_;(conv=>whnf);refine Ad rfl ?_;(conv=>whnf);refine zX [iA (CB r),iA szR] ⟨(BN (l:=CB r) rfl).1,(BN (l:=szR) rfl).1,tv⟩ ?_;refine zW hrow rfl ?_;rintro _ _ ⟨rfl,rfl⟩)
   conv=>whnf
   rotate_left 1;all_goals
    refine⟨by simp,?_⟩;conv=>whnf
    exact⟨.tp [bA (rowB (CB r) szR),iv 0],fin0 _ _ _ rfl rfl,by simp only [ES,if_neg h1,AK,if_true];rfl⟩


theorem I6 (n lo hi:Int):Fn Tryz.prog 100 [iv n,iv lo,iv hi] fun r=>r = .v (.bool (CK n lo hi)):=by
 refine zS Tryz.func100 rfl ?_;conv=>whnf
 repeat' (first | (refine Ao (fun h=>?_) (fun h=>?_) <;> (try simp at h) <;> conv=>whnf) | (refine zF tys_ok mixed (by kernel_rfl) ?_;conv=>whnf) | (refine zY ?_;conv=>whnf) | (refine Ad (by omega) ?_;conv=>whnf))
 all_goals exact⟨_,ri,by simp [CK, *] <;> omega⟩
theorem IE (g:Geo) (n:Int) (b:Bool):Fn Tryz.prog 166 [.ag (AT g),iv n, .v (.bool b)] fun r=>r = .tp [iv (if Bq g&&b then n else 0),iv (if Bq g&&b then 0 else 1)]:=by
 have s1:Fn Tryz.prog 46 [.ag (AT g)] fun r=>r = .v (FM (Bq g)):=Ec g.z g.d g.sp g.sl g.an
 cases hg:Bq g <;> cases b;all_goals
  rw [hg] at s1;refine zS Tryz.func166 rfl ?_;conv=>whnf
  refine z_ s1 ?_;exact⟨_,ri,rfl⟩
theorem RU (g:Geo) (copy slot:Int):Fn Tryz.prog 197 [.ag (AT g),iv copy,iv slot] fun r=>r = .tp [iv (if Bq g&&Iu g copy slot then By g copy slot else 0),iv (if Bq g&&Iu g copy slot then 0 else 1)]:=by
 refine zS Tryz.func197 rfl ?_;conv=>whnf
 refine z7 tys_ok mixed [0,1,2,3,4,5,6,7,8,9,10,11,12,13,14,15,16,17,18,19,20,21,22,23] (by kernel_rfl) ?_;conv=>whnf
 refine z_ (I6 _ _ _) ?_;conv=>whnf
 refine Ao (fun t1=>?_) (fun t1=>?_) <;> conv=>whnf
 ·refine z_ (I6 _ _ _) ?_;conv=>whnf
  refine z_ (IE g _ _) ?_;refine⟨_,fun _ _ h=>h,?_⟩;cases hg:Bq g with
  | false=>rfl
  | true=>
   obtain⟨h1,h2,h3,h4,h5⟩:=Aq.1 hg;rw [wi (n:=g.sl - 1) (by omega)];have e:Iu g copy slot=CK slot 0 (g.sl - 1):=by rw [Iu,t1];rfl
   rw [e];cases hb:CK slot 0 (g.sl - 1) with
   | false=>rfl
   | true=>
    obtain⟨c1,c2⟩:=AI.1 t1;obtain⟨b1,b2⟩:=AI.1 hb;have hm:0<=copy*g.sl/\copy*g.sl<=30:=by
     rcases(show copy=0\/copy=1 by omega) with rfl | rfl
     ·omega
     ·omega
    rw [wi (n:=copy*g.sl) (by omega),wi (n:=g.an+copy*g.sl) (by omega),wi (n:=g.an+copy*g.sl+slot) (by omega)];rfl
 ·refine z_ (IE g _ _) ?_;refine⟨_,fun _ _ h=>h,?_⟩;have e:Iu g copy slot=false:=by rw [Iu,t1];rfl
  rw [e];cases Bq g <;> rfl
def Ep (g:Geo) (x:Gt) (copy slot:Int):Option Rc:=
 if Bq g&&Iu g copy slot&&decide (x.err=0)&&decide (Di x.bytes=0)&&decide (CZ x.bytes=By g copy slot) then
  match G3 g (C9 x.bytes) with
  | some r=>if r.seq=Cv x.bytes then some r else none
  | none=>none
 else none
theorem BX {l m:List AV} (h:SubL l m) (c:Ctx) (u:Value) (hr:Rd (.tp l) c u):Rd (.tp m) c u:=by
 simp only [Rd] at hr |-
 obtain⟨xs,rfl,h1⟩:=hr;exact⟨xs,rfl,h.rdl h1⟩
theorem LJ (c:Ctx) (u:Value) (b:Bool) (h:Rd (.tp [.ag [iv 0,iv 0,iv 0,iv 0,iv 0,iv 0,iv 0, .v (.slice none 0 0)], .v (.bool b)]) c u):Rd (.tp [.ag (G4 zeroC), .v (.bool b)]) c u:=by
 refine BX ?_ c u h;exact⟨Be ⟨ri,ri,ri,ri,ri,ri,ri,Bt _ _,tv⟩,ri,tv⟩

theorem Ml (b:List UInt8) (m:Nat) (hm:m<=b.length) (hm4:m<=4):Fn Tryz.prog 43 [bA b,iv m] fun r=>r = iv (leN (b.take m):Nat):=by
 refine zS Tryz.func43 rfl ?_;conv=>whnf
 rw [wi (show -9223372036854775808<=(m:Int) - 1/\(m:Int) - 1<=9223372036854775807 by omega)];have hl:(b.take m).length=m:=by rw [Ar];omega
 refine zU Nat (fun k=>([(0,bA b),(5,iv (leN ((b.take m).drop k):Nat)),(6,iv ((k:Int) - 1))], [])) (fun k=>k<=m) (fun k=>k) m (Ah _)
  (zR (s:= []) ⟨⟨rfl,by rw [AD (by omega)];rfl,rfl,tv⟩,tv,rfl,rfl,rfl,rfl,rfl⟩) ?_
 intro k hk;conv=>whnf
 refine A8 (fun h5=>?_) (fun h5=>?_) <;> (repeat rw [Ac] at h5) <;> conv=>whnf
 ·obtain⟨j,rfl⟩:∃ j,k=j+1:=⟨k - 1,by omega⟩;have e1:(((j+1:Nat):Int) - 1)=(j:Nat):=by omega
  have hj:j<(b.take m).length:=by omega
  have hb:b.getD j 0=(b.take m)[j]:=by rw [List.getElem_take,Ab,Af (by omega)];rfl
  have hd:leN ((b.take m).drop j)=(b.take m)[j].toNat+256*leN ((b.take m).drop (j+1)):=by rw [Bf hj];rfl
  have hlt:=leN_lt ((b.take m).drop (j+1));have hx:=(b.take m)[j].toNat_lt;have hp:256 ^ ((b.take m).drop (j+1)).length<=256 ^ 3:=Nat.pow_le_pow_right (by decide) (by rw [Ak];omega);rw [e1];refine⟨⟨by omega,by omega⟩,?_⟩;conv=>whnf
  have hv:IntKind.i64.wrap (IntKind.i64.wrap (256*((leN ((b.take m).drop (j+1)):Nat):Int))+IntKind.i64.wrap ((b.getD j 0).toNat:Nat))=((leN ((b.take m).drop j):Nat):Int):=by
   rw [hb,hd,wi (n:=(((b.take m)[j].toNat:Nat):Int)) (by omega),wi (n:=256*((leN ((b.take m).drop (j+1)):Nat):Int)) (by omega),wi (by omega)];omega
  exact⟨j,by omega,by omega,zR (s:= []) ⟨⟨rfl,congrArg (fun n=>AV.v (.int .i64 n)) hv,congrArg (fun n=>AV.v (.int .i64 n)) (wi (n:=(j:Int) - 1) (by omega)),tv⟩,tv,rfl,rfl,rfl,rfl,rfl⟩⟩
 ·have ek:k=0:=by omega
  subst ek;exact⟨_,ri,rfl⟩
theorem TP (N:Nat) (hr:N<4294967296):Fn Tryz.prog 218 [iv N] fun r=>r = iv (G0 N:Nat):=by
 refine zS Tryz.func218 rfl ?_;refine⟨by decide,?_⟩;conv=>whnf
 have ht:(N:Int).tmod 2=((N % 2:Nat):Int):=by rw [Bi (by omega)];omega
 have hd:IntKind.i64.wrap ((N:Int).tdiv 2)=((N / 2:Nat):Int):=by rw [Bb (by omega),wi (by omega)];omega
 by_cases h2:N % 2=1
 ·have hs:G0 N=N / 2 ^^^ 2197175160:=by unfold G0;rw [if_pos h2];rfl
  rw [ht,h2,show (((1:Nat):Int) == 1)=true from rfl];refine⟨by decide,?_⟩;conv=>whnf
  rw [hd];exact⟨_,ri,by rw [hs,<-SU (N / 2) 2197175160 (by omega) (by omega)];rfl⟩
 ·have h0:N % 2=0:=by omega
  have hs:G0 N=N / 2:=by unfold G0;rw [if_neg h2,Nat.xor_zero]
  rw [ht,h0,show (((0:Nat):Int) == 1)=false from rfl];refine⟨by decide,?_⟩;exact⟨_,ri,by rw [hs,hd]⟩
theorem RB (r:Nat) (hr:r<4294967296):Fn Tryz.prog 165 [iv r] fun q=>q = iv (FN r:Nat):=by
 refine zS Tryz.func165 rfl ?_;conv=>whnf
 refine zU Nat (fun k=>([(0,iv (stepsC k r:Nat)),(3,iv k)], [])) (fun k=>k<=8) (fun k=>8 - k) 0 (Aj _)
  (zR (s:= []) tA) ?_
 intro k hk;conv=>whnf
 refine A8 (fun h6=>?_) (fun h6=>?_) <;> (repeat rw [Ac] at h6) <;> conv=>whnf
 ·have hdn:=TP (stepsC k r) (stepsC_lt k hr);refine z_ hdn ?_;exact⟨k+1,by omega,by omega,zR (s:= []) ⟨⟨rfl,AL (by omega),tv⟩,tv,rfl,rfl,rfl,rfl,rfl⟩⟩
 ·have ek:k=8:=by omega
  subst ek;exact⟨_,ri,rfl⟩
theorem TF (b:List UInt8) (hb:b.length<=1000000000):Fn Tryz.prog 99 [iv 0,bA b] fun r=>r = iv (CR b:Nat):=by
 refine zS Tryz.func99 rfl ?_;conv=>whnf
 rw [show IntKind.i64.wrap (4294967295 - 0)=4294967295 by decide];refine zU Nat (fun k=>([(1,bA b),(5,iv (GC 4294967295 (b.take k):Nat)),(6,iv k)], [])) (fun k=>k<=b.length) (fun k=>b.length - k) 0 (Aj _)
  (zR (s:= []) tA) ?_
 intro k hk;conv=>whnf
 refine A8 (fun h6=>?_) (fun h6=>?_) <;> (repeat rw [Ac] at h6) <;> conv=>whnf
 ·have hk':k<b.length:=by omega
  have hst:=MI (r:=4294967295) hk';have hlt:=foldC_lt (b.take k) (r:=4294967295) (by omega);refine⟨⟨by omega,by omega⟩,?_⟩;conv=>whnf
  have hb':b.getD (k:Int).toNat 0=b[k]:=by rw [Ac,Ab,Af hk'];rfl
  have hy:=b[k].toNat_lt;have hx:IntKind.i64.wrap ((BitVec.ofInt IntKind.i64.bits ((GC 4294967295 (b.take k):Nat):Int) ^^^ BitVec.ofInt IntKind.i64.bits (IntKind.i64.wrap ((b.getD (k:Int).toNat 0).toNat:Int))).toNat:Int)=((GC 4294967295 (b.take k) ^^^ b[k].toNat:Nat):Int):=by
   rw [hb',wi (n:=((b[k].toNat:Nat):Int)) (by omega)];exact SU _ _ hlt (by omega)
  rw [hx];have h8:=RB _ (LK hlt (show b[k].toNat<4294967296 by omega));rw [<-hst] at h8;refine z_ h8 ?_;exact⟨k+1,hk',by omega,zR (s:= []) ⟨⟨rfl,rfl,AL (by omega),tv⟩,tv,rfl,rfl,rfl,rfl,rfl⟩⟩
 ·have ek:k=b.length:=by omega
  subst ek;have hlt:=foldC_lt b (r:=4294967295) (by omega);exact⟨_,ri,congrArg (fun n=>AV.v (.int .i64 n)) (by rw [As];unfold CR;rw [wi (by omega)];omega)⟩
theorem JO (b:List UInt8) (hb:b.length<=1000000000):Fn Tryz.prog 44 [bA b] fun r=>r = iv (CR b:Nat):=by
 have h:=TF b hb;refine zS Tryz.func44 rfl ?_;conv=>whnf
 refine z_ h ?_;exact⟨_,ri,rfl⟩
theorem SC (b:List UInt8) (hb:b.length<=1000000000):Fn Tryz.prog 44 [bA b] fun r=>r = iv (CR b:Nat):=JO b hb
theorem FW (b:List UInt8) (m:Nat) (hm:m<=b.length) (hm4:m<=4):Fn Tryz.prog 43 [bA b,iv m] fun r=>r = iv (leN (b.take m):Nat):=Ml b m hm hm4
theorem J9 (c:Ctx) (u:Value) (e:Int) (h:Rd (.tp [.ag [iv 0,iv 0, .v (.slice none 0 0)],iv e]) c u):Rd (.tp [.ag (OF ⟨0,0, []⟩),iv e]) c u:=by
 refine BX ?_ c u h;exact⟨Be ⟨ri,ri,Bt _ _,tv⟩,ri,tv⟩
theorem LW {b:List UInt8} {lo:Int} {p:Nat} (h:lo.toNat=p) (hp:p<=b.length) (c:Ctx) (u:Value) (hr:Rd (.sl 1 (((b.length:Nat):Int).toNat - lo.toNat) fun i=>(fun i=> [AV.v (.int .u8 (b.getD i 0).toNat)]) (i+lo.toNat)) c u):Rd (bA (b.drop p)) c u:=
 zC (n':=(b.drop p).length) (by rw [Ak,h];omega) (fun i hi=>by simp only [Ab,BJ,h,C7]) hr
theorem S4 {b:List UInt8} {lo hi:Int} {p q:Nat} (h:lo.toNat=p) (h2:hi.toNat=q) (hp:p<=q) (hq:q<=b.length) (c:Ctx) (u:Value) (hr:Rd (.sl 1 (hi.toNat - lo.toNat) fun i=>(fun i=> [AV.v (.int .u8 (b.getD i 0).toNat)]) (i+lo.toNat)) c u):Rd (bA ((b.drop p).take (q - p))) c u:=
 zC (n':=((b.drop p).take (q - p)).length) (by rw [Ar,Ak,h,h2];omega) (fun i hi=>by
  have hi':i<q - p:=by omega
  simp only [Ab,BE hi',BJ,h,C7]) hr
theorem VR (b:List UInt8) (hl:b.length<=100000):Fn Tryz.prog 15 [bA b] fun r=>r = .tp [.ag (if Di b=0 then OF ⟨CZ b,Cv b,C9 b⟩ else OF ⟨0,0, []⟩),iv (Di b)]:=by
 refine zS Tryz.func15 rfl ?_;conv=>whnf
 refine A8 (fun t1=>?_) (fun t1=>?_) <;> (repeat rw [Ac] at t1) <;> conv=>whnf
 ·have e:Di b=4:=by rw [Di,if_pos (by omega)]
  exact⟨_,fun c u h=>J9 c u 4 h,by rw [e];rfl⟩
 refine A8 (fun t2=>?_) (fun t2=>?_) <;> (repeat rw [Ac] at t2) <;> conv=>whnf
 ·have e:Di b=4:=by rw [Di,if_pos (by omega)]
  exact⟨_,fun c u h=>J9 c u 4 h,by rw [e];rfl⟩
 have w4:IntKind.i64.wrap ((b.length:Int) - 4)=b.length - 4:=wi (by omega);have w11:IntKind.i64.wrap ((b.length:Int) - 11)=b.length - 11:=wi (by omega);have w10:IntKind.i64.wrap ((b.length:Int) - 10)=b.length - 10:=wi (by omega);have w8:IntKind.i64.wrap ((b.length:Int) - 8)=b.length - 8:=wi (by omega);have e4:(b.drop (b.length - 4)).take 4=b.drop (b.length - 4):=A3 (by rw [Ak];omega);have s1:=FW (b.drop (b.length - 4)) 4 (by rw [Ak];omega) (by omega);rw [e4] at s1;have s2:=SC (b.take (b.length - 4)) (by rw [Ar];omega);have s3:=Ez (C9 b) (by simp [C9];omega);have s4:=FW (b.drop (b.length - 10)) 2 (by rw [Ak];omega) (by omega);have s5:=FW (b.drop (b.length - 8)) 4 (by rw [Ak];omega) (by omega);have x1:(IntKind.i64.wrap ((b.length:Int) - 4)).toNat=b.length - 4:=by rw [w4];omega
 have x2:(IntKind.i64.wrap ((b.length:Int) - 10)).toNat=b.length - 10:=by rw [w10];omega
 have x3:(IntKind.i64.wrap ((b.length:Int) - 8)).toNat=b.length - 8:=by rw [w8];omega
 refine z7 tys_ok mixed [0,1,2,3,5,6,7,8,4,9,10] (by kernel_rfl) ?_;refine⟨⟨by omega,by omega,by omega,by omega⟩,?_⟩;refine⟨⟨by omega,by omega,by omega,by omega⟩,?_⟩;conv=>whnf
 refine zX _ ?_ (zG (s1) rfl ?_)
 ·repeat' (first | exact trivial | exact fun _ _ h=>h | exact Bt _ _ | exact LW x1 (by omega) | refine Ad ?_ ?_ | refine Be ?_)
 rintro _ rfl;conv=>whnf
 refine zX _ ?_ (zG (s2) rfl ?_)
 ·repeat' (first | exact trivial | exact fun _ _ h=>h | exact Bt _ _ | exact S4 (p:=0) (q:=b.length - 4) (by simp) x1 (by omega) (by omega) | refine Ad ?_ ?_ | refine Be ?_)
 rintro _ rfl;conv=>whnf
 have hp0:Ct b=(b.getD 0 0).toNat:=by
  unfold Ct;cases b <;> rfl
 have hpl:=(b.getD 0 0).toNat_lt;refine A8 (fun t3=>?_) (fun t3=>?_) <;> (repeat rw [Ac] at t3) <;> conv=>whnf
 ·have e:Di b=5:=by rw [Di,if_neg (by omega),if_pos t3]
  exact⟨_,fun c u h=>J9 c u 5 h,by rw [e];rfl⟩
 refine⟨by first | omega | (refine⟨rfl,?_,?_⟩ <;> first | omega | (simp only [Aa];done) | (simp only [Aa];omega)) | (simp only [Aa];omega),?_⟩;conv=>whnf
 refine A8 (fun t4=>?_) (fun t4=>?_) <;> (repeat rw [Ac] at t4) <;> conv=>whnf
 ·have e:Di b=4:=by
   rw [Di,if_neg (by omega),if_neg (by rw [t3];simp),if_neg];rintro⟨h1,h2⟩;simp only [Int.toNat_zero] at t4;rw [w11,wi (by omega)] at t4;omega
  exact⟨_,fun c u h=>J9 c u 4 h,by rw [e];rfl⟩
 have e:Di b=0:=by
  rw [Di,if_neg (by omega),if_neg (by rw [t3];simp),if_pos];simp only [Int.toNat_zero] at t4;rw [w11,wi (by omega)] at t4;refine⟨?_,by omega⟩;simp only [FG,decide_eq_true_eq];omega
 rw [e,if_pos rfl];refine z7 tys_ok mixed [0,1,2,3,5,6,7,8,10,11,12,13,4,9,14,15,16,17] (by kernel_rfl) ?_;refine⟨⟨by omega,by omega,by omega,by omega⟩,?_⟩;refine⟨⟨by omega,by omega,by omega,by omega⟩,?_⟩;refine⟨⟨by omega,by omega,by omega,by omega⟩,?_⟩;conv=>whnf
 refine zX _ ?_ (zG (s3) rfl ?_)
 ·repeat' (first | exact trivial | exact fun _ _ h=>h | exact Bt _ _ | exact S4 (p:=1) (q:=b.length - 10) (by simp) x2 (by omega) (by omega) | refine Ad ?_ ?_ | refine Be ?_)
 rintro _ rfl;conv=>whnf
 refine zX _ ?_ (zG (s4) rfl ?_)
 ·repeat' (first | exact trivial | exact fun _ _ h=>h | exact Bt _ _ | exact LW x2 (by omega) | refine Ad ?_ ?_ | refine Be ?_)
 rintro _ rfl;conv=>whnf
 refine zX _ ?_ (zG (s5) rfl ?_)
 ·repeat' (first | exact trivial | exact fun _ _ h=>h | exact Bt _ _ | exact LW x3 (by omega) | refine Ad ?_ ?_ | refine Be ?_)
 rintro _ rfl;exact⟨_,ri,rfl⟩
theorem Ba {α:Type} {f:α->List AV} {d:α} {sz:Nat} {es:List (List AV)} {n:Nat} (l:List α) (hn:n=l.length) (he:es=l.map f) (c:Ctx) (u:Value) (h:Rd (.sl sz n fun i=>es.getD i []) c u):Rd (.sl sz l.length fun i=>f (l.getD i d)) c u:=
 zC hn (fun i hi=>by rw [he,Bg (d:=d) (by omega)]) h
theorem UY {n:Nat} {es:List (List AV)} (l:List UInt8) (hn:n=l.length) (he:es=l.map fun x=> [.v (.int .u8 x.toNat)]) (c:Ctx) (u:Value) (hr:Rd (.sl 1 n fun i=>es.getD i []) c u):Rd (bA l) c u:=
 Ba (f:=fun x:UInt8=> [.v (.int .u8 x.toNat)]) l hn he c u hr
theorem Mk (n lo hi:Int):Fn Tryz.prog 285 [iv n,iv lo,iv hi] fun r=>r = .v (.bool (CK n lo hi)):=by
 refine zS Tryz.func285 rfl ?_;conv=>whnf
 repeat' (first | (refine Ao (fun h=>?_) (fun h=>?_) <;> (try simp at h) <;> conv=>whnf) | (refine zF tys_ok mixed (by kernel_rfl) ?_;conv=>whnf) | (refine zY ?_;conv=>whnf) | (refine Ad (by omega) ?_;conv=>whnf))
 all_goals exact⟨_,ri,by simp [CK, *] <;> omega⟩
theorem T5 (g:Geo) (n:Int) (hg:Bq g=true):Fn Tryz.prog 310 [.ag (AT g),iv n] fun r=>r = .v (.bool (CK n (-1) (g.d - 1))):=by
 obtain⟨h1,h2,h3,h4,h5⟩:=Aq.1 hg;have hi:=Mk n (-1) (g.d - 1);refine zS Tryz.func310 rfl ?_;conv=>whnf
 rw [wi (show -9223372036854775808<=g.d - 1/\g.d - 1<=9223372036854775807 by omega)];refine z_ hi ?_;exact⟨_,ri,rfl⟩
theorem VJ (g:Geo) (l:List Ent) (hg:Bq g=true) (hl:l.length<=1000000):Fn Tryz.prog 256 [.ag (AT g), .ag [Bv l]] fun r=>r = .v (.bool (GG g l)):=by
 obtain⟨h1,h2,h3,h4,h5⟩:=Aq.1 hg;have hw:IntKind.i64.wrap (g.d+1)=g.d+1:=wi (by omega);by_cases hn:(l.length:Int)=g.d+1
 ·have hlo:HE l g.d.toNat=(l.getD g.d.toNat ⟨0,0,false⟩).lost:=by
   rw [HE,Ab,Af (by omega)];rfl
  have hO:GG g l=(l.all DT&&!(l.getD g.d.toNat ⟨0,0,false⟩).lost):=by rw [GG,hg,decide_eq_true hn,hlo];rfl
  rw [hO];refine zS Tryz.func256 rfl ?_;conv=>whnf
  rw [hw,show ((l.length:Int) != g.d+1)=false by rw [hn];exact bne_self_eq_false _];refine⟨⟨by omega,by omega⟩,?_⟩;conv=>whnf
  cases hL:(l.getD g.d.toNat ⟨0,0,false⟩).lost with
  | true=>
   exact⟨_,ri,by rw [Bool.not_true,Bool.and_false]⟩
  | false=>
   conv=>whnf
   rw [Bool.not_false,BA];refine zU Nat (fun k=>([(2, .bp 0 0),(3, .bp 1 0),(4, .v (.bool false)),(5,iv k)], [.box 23 (AT g), .box 141 [Bv l]])) (fun k=>k<=l.length/\(l.take k).all DT=true) (fun k=>l.length - k) 0 ⟨Aj _,rfl⟩
    (zR (s:= [0,1]) tA) ?_
   rintro k ⟨hk,hI⟩;conv=>whnf
   refine A8 (fun h6=>?_) (fun h6=>?_) <;> (repeat rw [Ac] at h6) <;> conv=>whnf
   ·have hk':k<l.length:=by omega
    have i1:=Mk (l.getD (k:Int).toNat ⟨0,0,false⟩).stamp 0 4294967295;have i2:=Mk (l.getD (k:Int).toNat ⟨0,0,false⟩).sum 0 4294967295;have hst:(l.take (k+1)).all DT=(CK (l.getD (k:Int).toNat ⟨0,0,false⟩).stamp 0 4294967295&&CK (l.getD (k:Int).toNat ⟨0,0,false⟩).sum 0 4294967295):=by
     rw [Ac,Ab,Af hk',A_,Af hk',Dn,hI];simp [DT,Ib]
    have hno:(l.take (k+1)).all DT=false->l.all DT=false:=fun h=>by
     rw [<-BK (k+1) l,Dn,h,D5]
    refine⟨⟨by omega,by omega⟩,?_⟩;conv=>whnf
    cases c1:CK (l.getD (k:Int).toNat ⟨0,0,false⟩).stamp 0 4294967295 with
    | false=>
     rw [c1] at i1;refine z_ i1 ?_;exact⟨_,ri,by rw [hno (by rw [hst,c1,D5])]⟩
    | true=>
     rw [c1] at i1;refine z_ i1 ?_;refine⟨⟨by omega,by omega⟩,?_⟩;conv=>whnf
     cases c2:CK (l.getD (k:Int).toNat ⟨0,0,false⟩).sum 0 4294967295 with
     | false=>
      rw [c2] at i2;refine z_ i2 ?_;exact⟨_,ri,by rw [hno (by rw [hst,c2,Bool.and_false])]⟩
     | true=>
      rw [c2] at i2;refine z_ i2 ?_;conv=>whnf
      exact⟨k+1,⟨hk',by rw [hst,c1,c2];rfl⟩,by omega,zR (s:= [0,1]) ⟨⟨rfl,rfl,rfl,AL (by omega),tv⟩,tA,rfl,rfl,rfl,rfl,rfl⟩⟩
   ·have ek:k=l.length:=by omega
    exact⟨_,ri,by rw [<-hI,ek,As]⟩
 ·have hO:GG g l=false:=by rw [GG,hg,decide_eq_false hn];rfl
  rw [hO];refine zS Tryz.func256 rfl ?_;conv=>whnf
  rw [hw,show ((l.length:Int) != g.d+1)=true from bne_iff_ne.2 hn];exact⟨_,ri,rfl⟩
theorem Fn.subA {P:Program} {f:FuncId} {args args':List AV} {K:AV->Prop} (h:Fn P f args' K) (hs:SubL args args'):Fn P f args K:=
 ⟨h.go,fun c us hd hM hg hr=>h.calls c us hd hM hg (hs.rdl hr)⟩
theorem UB {b:List UInt8} {n m p:Nat} (hn:n=b.length - m - p) (c:Ctx) (u:Value) (h:Rd (.sl 1 n fun i=> [.v (.int .u8 (b.getD (i+p+m) 0).toNat)]) c u):Rd (bA ((b.drop m).drop p)) c u:=
 zC (by rw [Ak,Ak];exact hn) (fun i _=>by rw [Ab,Ab,BJ,BJ,show i+p+m=m+(p+i) by omega]) h
theorem Xf {x:List UInt8} (h:9<=x.length):Jg x=⟨(leN (x.take 4):Nat),(leN ((x.drop 4).take 4):Nat),(x[8].toNat:Int) == 1⟩:=by
 have h8:=Qr h;unfold NT at h8;unfold Jg;rw [h8];rfl
theorem Jk (g:Geo) (b:List UInt8) (hg:Bq g=true):Fn Tryz.prog 205 [.ag (AT g),bA b] fun r=>r = .tp [.ag [Bv ((C8 g b).getD [])], .v (.bool (C8 g b).isSome)]:=by
 obtain⟨h1,h2,h3,h4,h5⟩:=Aq.1 hg;have hw:IntKind.i64.wrap (g.d+1)=g.d+1:=wi (by omega);have hw9:IntKind.i64.wrap (9*(g.d+1))=9*(g.d+1):=wi (by omega);have zs:∀ (c:Ctx) (v:Value),Rd (.tp [.ag [.v (.slice none 0 0)], .v (.bool false)]) c v->Rd (.tp [.ag [Bv []], .v (.bool false)]) c v:=BX (m:= [.ag [Bv []], .v (.bool false)]) ⟨Be ⟨Bt 3 _,tv⟩,ri,tv⟩;by_cases hn:b.length=9*(g.d+1).toNat
 ·refine zS Tryz.func205 rfl ?_;conv=>whnf
  rw [hw,hw9,show ((b.length:Int) != 9*(g.d+1))=false by simp only [bne_eq_false_iff_eq];omega];conv=>whnf
  refine zU Nat (fun k=>([(1,bA b),(2, .bp 0 0),(4, .bp 1 0),(5, .v (.bool false)),(6, .bp 2 0),(7,iv k)], [.box 23 (AT g), .box 141 [.v (.slice none 0 0)], .box 141 [.ow 3 k], .row 194 3 ((entsOf k b).map Co)])) (fun k=>(k:Int)<=g.d+1/\LE k b) (fun k=>(g.d+1 - k).toNat) 0 ⟨by omega,fun i hi=>absurd hi (Ap i)⟩
   ⟨_,_,zA _ _, [(1002000,194,3)],tA, [0,1,2,3],tA⟩ ?_
  rintro k ⟨hk,hA⟩;conv=>whnf
  refine A8 (fun h6=>?_) (fun h6=>?_) <;> (repeat rw [Ac] at h6) <;> conv=>whnf
  ·have wk9:IntKind.i64.wrap (9*(k:Int))=((9*k:Nat):Int):=by rw [wi (by omega)];omega
   have hlx:(b.drop (9*k)).length=b.length - 9*k:=Ak;have hx9:9<=(b.drop (9*k)).length:=by omega
   rw [wk9];refine⟨⟨by omega,by omega,by omega,by omega⟩,?_⟩;conv=>whnf
   rw [Ac];have hv:=Qr hx9;have he:=Xf hx9;have hes:=entsOf_step k b;refine⟨⟨by omega,by omega⟩,?_⟩;conv=>whnf
   have hg8:(b.getD (Int.toNat 8+((9*k:Nat):Int).toNat) 0).toNat=(b.drop (9*k))[8].toNat:=by
    rw [List.getElem_drop,Ab,Ac,show Int.toNat 8+9*k=9*k+8 by omega,Af (by omega)];rfl
   obtain⟨Y,hY⟩:∃ Y:Nat,Y=(b.drop (9*k))[8].toNat:=⟨_,rfl⟩;rw [hg8,<-hY];rw [<-hY] at hv he;by_cases h1Y:Y<=1
   ·rw [show decide ((Y:Int) > 1)=false from decide_eq_false (by omega)];conv=>whnf
    have q1:=Ml (b.drop (9*k)) 4 (by omega) (by decide);have q2:=Ml ((b.drop (9*k)).drop 4) 4 (by rw [Ak];omega) (by decide);have hml:k=((entsOf k b).map Co).length:=by rw [Aa,entsOf_len]
    apply zD (0) tys_ok mixed (.o [0,1,2,4,5,7,8,9,10,3,6,11,12,13,14,15] .fin) [32,33,34,35,36,37,38,39,40,41,42,43,44,45,46] (by kernel_rfl)
    ·conv=>whnf
     try (refine tI ?_;conv=>whnf)
     try (refine tI ?_;conv=>whnf)
     (refine zX [bA (b.drop (9*k)),iv 4] ⟨AX rfl,ri,tv⟩ ?_;refine z_ q1 ?_)
     conv=>whnf
     (refine zX [bA ((b.drop (9*k)).drop 4),iv 4] ⟨UB rfl,ri,tv⟩ ?_;refine z_ q2 ?_)
     conv=>whnf
     try (refine tJ ?_;conv=>whnf)
     try (refine tK ?_;conv=>whnf)
     try (refine tS ?_;conv=>whnf)
     exact tA
    refine⟨k+1,⟨by omega,fun i hi=>?_⟩,by omega,zR (s:= [0,1,2,3]) ⟨⟨rfl,rfl,rfl,rfl,rfl,AL (by omega),tv⟩,⟨rfl,rfl,rfl,?_,tv⟩,rfl,rfl,rfl,rfl,rfl⟩⟩
    ·by_cases hik:i=k
     ·rw [hik,hv];omega
     ·exact hA i (by omega)
    ·rw [hes,A9,he];show hget _ 3=_;rw [hg8,<-hY];rfl
   ·rw [show decide ((Y:Int) > 1)=true from decide_eq_true (by omega)];conv=>whnf
    rw [KB (.inr fun hall=>h1Y (by have:=hall k (by omega);omega))];exact⟨_,zs,rfl⟩
  ·have ek:k=(g.d+1).toNat:=by omega
   subst ek;have hT:=VJ g (entsOf (g.d+1).toNat b) hg (by rw [entsOf_len];omega);have hR:=TM hn hA;have hS:=hT.subA (args:= [.ag (AT g), .ag [.sl 3 (g.d+1).toNat fun i=>((entsOf (g.d+1).toNat b).map Co).getD i []]]) ⟨ri,Be ⟨Ba (f:=Co) (entsOf (g.d+1).toNat b) (by rw [entsOf_len]) rfl,tv⟩,tv⟩;refine zp hS ⟨by rw [Aa,entsOf_len],rfl⟩ ?_;rintro _ rfl;refine⟨rfl,?_⟩;conv=>whnf
   cases ho:GG g (entsOf (g.d+1).toNat b) with
   | false=>
    rw [hR,ho,if_neg (by decide)];exact⟨_,zs,rfl⟩
   | true=>
    rw [hR,ho,if_pos rfl];refine⟨(by rw [Aa,entsOf_len]),?_⟩;exact⟨.tp [.ag [Bv (entsOf (g.d+1).toNat b)], .v (.bool true)],BX ⟨Be ⟨Ba (f:=Co) (entsOf (g.d+1).toNat b) (by rw [entsOf_len]) rfl,tv⟩,ri,tv⟩,rfl⟩
 ·refine zS Tryz.func205 rfl ?_;conv=>whnf
  rw [hw,hw9,show ((b.length:Int) != 9*(g.d+1))=true by simp only [bne_iff_ne,ne_eq];omega];conv=>whnf
  rw [KB (.inl hn)];exact⟨_,zs,rfl⟩
theorem GY (n lo hi:Int):Fn Tryz.prog 138 [iv n,iv lo,iv hi] fun r=>r = .v (.bool (CK n lo hi)):=by
 refine zS Tryz.func138 rfl ?_;conv=>whnf
 repeat' (first | (refine Ao (fun h=>?_) (fun h=>?_) <;> (try simp at h) <;> conv=>whnf) | (refine zF tys_ok mixed (by kernel_rfl) ?_;conv=>whnf) | (refine zY ?_;conv=>whnf) | (refine Ad (by omega) ?_;conv=>whnf))
 all_goals exact⟨_,ri,by simp [CK, *] <;> omega⟩
theorem R6 (g:Geo) (x:Img) (hg:Bq g=true):Fn Tryz.prog 306 [.ag (AT g), .ag (D9 x)] fun r=>r = .v (.bool (B4 g x)):=by
 obtain⟨h1,h2,h3,h4,h5⟩:=Aq.1 hg;have i1:=GY x.zone 0 (g.z - 1);have i2:=Jk g x.bytes hg;have i3:=T5 g x.what hg;have hE:B4 g x=(CK x.zone 0 (g.z - 1)&&(if x.what=255 then (C8 g x.bytes).isSome else CK x.what (-1) (g.d - 1)&&decide (x.bytes.length=8))):=by simp [B4,hg]
 rw [hE];refine zS Tryz.func306 rfl ?_;conv=>whnf
 rw [wi (show -9223372036854775808<=g.z - 1/\g.z - 1<=9223372036854775807 by omega)];cases hz:CK x.zone 0 (g.z - 1) with
 | false=>
  rw [hz] at i1;refine z_ i1 ?_;exact⟨_,ri,rfl⟩
 | true=>
  rw [hz] at i1;refine z_ i1 ?_;conv=>whnf
  by_cases h255:x.what=255
  ·rw [show (x.what == 255)=true by simpa using h255,if_pos h255];conv=>whnf
   refine z_ i2 ?_;exact⟨_,ri,rfl⟩
  ·rw [show (x.what == 255)=false by simpa using h255,if_neg h255];conv=>whnf
   cases hw:CK x.what (-1) (g.d - 1) with
   | false=>
    rw [hw] at i3;refine z_ i3 ?_;exact⟨_,ri,rfl⟩
   | true=>
    rw [hw] at i3;refine z_ i3 ?_;conv=>whnf
    exact⟨_,ri,congrArg (fun b=>AV.v (.bool b)) (by rw [DF];simp;omega)⟩
theorem ap (x:Img):decide (x=⟨0,0, []⟩)=G7 x:=by
 obtain⟨zone,what,bytes⟩:=x;rw [DF];simp only [decide_eq_true_eq,G7,Img.mk.injEq,Ae,beq_iff_eq];refine⟨fun⟨h1,h2,h3⟩=>⟨h1,h2,by rw [h3];rfl⟩,fun⟨h1,h2,h3⟩=>⟨h1,h2,?_⟩⟩;exact AZ.1 (by omega)
theorem PN (g:Geo) (x:Rc) (hl:x.img.bytes.length<=100000) (hg:Bq g=true):Fn Tryz.prog 302 [.ag (AT g), .ag (G4 x)] fun r=>r = .v (.bool (EE g x)):=by
 have hE:EE g x=EP g x:=by simp [EE,hg]
 have hi:=WH x.img ⟨0,0, []⟩ (by omega);rw [ap] at hi;have hm:=R6 g x.img hg;rw [hE];refine zS Tryz.func302 rfl ?_;conv=>whnf
 refine zX [.ag (D9 x.img), .ag (D9 ⟨0,0, []⟩)] ⟨ri,Be ⟨ri,ri,Bt 1 _,tv⟩,tv⟩ ?_;refine z_ hi ?_;conv=>whnf
 by_cases k0:x.kind=0
 ·rw [show (x.kind == 0)=true by simpa using k0];have hB:EP g x=(x.seq == 0&&(x.epoch == 0&&(x.at_ == 0&&(x.of_ == 0&&G7 x.img)))):=by unfold EP;rw [if_pos k0]
  rw [hB];conv=>whnf
  cases h0:x.seq == 0 with
  | false=>
   exact⟨_,ri,rfl⟩
  | true=>
   conv=>whnf
   cases h1:x.epoch == 0 with
   | false=>
    exact⟨_,ri,rfl⟩
   | true=>
    conv=>whnf
    cases h2:x.at_ == 0 with
    | false=>
     exact⟨_,ri,rfl⟩
    | true=>
     conv=>whnf
     cases h3:x.of_ == 0 with
     | false=>
      exact⟨_,ri,rfl⟩
     | true=>
      exact⟨_,ri,rfl⟩
 ·rw [show (x.kind == 0)=false by simpa using k0];conv=>whnf
  have i1:=GY x.seq 0 4294967295;have i2:=GY x.epoch 0 4294967295;have i3:=GY x.of_ 2 30;have i4:=GY x.at_ 0 (x.of_ - 2);have hB:EP g x=if x.kind=1 then FA x&&(CK x.at_ 0 (x.of_ - 2)&&B4 g x.img) else if x.kind=2 then FA x&&(x.at_ == x.of_ - 1&&G7 x.img) else false:=by unfold EP;rw [if_neg k0]
  rw [hB];by_cases hN:FA x=true
  ·have hN':=hN;simp only [FA,Ae] at hN';obtain⟨n1,n2,n3⟩:=hN';have hof:=AI.1 n3;rw [n1] at i1;rw [n2] at i2;rw [n3] at i3;rw [hN,BF,BF];refine z_ i1 ?_;conv=>whnf
   refine z_ i2 ?_;conv=>whnf
   refine z_ i3 ?_;conv=>whnf
   by_cases k2:x.kind=2
   ·rw [show (x.kind == 2)=true by simpa using k2,if_neg (by omega),if_pos k2];conv=>whnf
    rw [wi (show -9223372036854775808<=x.of_ - 1/\x.of_ - 1<=9223372036854775807 by omega)];cases h1:x.at_ == x.of_ - 1 with
    | false=>
     exact⟨_,ri,rfl⟩
    | true=>
     exact⟨_,ri,rfl⟩
   ·rw [show (x.kind == 2)=false by simpa using k2,if_neg k2];conv=>whnf
    by_cases k1:x.kind=1
    ·rw [show (x.kind == 1)=true by simpa using k1,if_pos k1];conv=>whnf
     rw [wi (show -9223372036854775808<=x.of_ - 2/\x.of_ - 2<=9223372036854775807 by omega)];cases h1:CK x.at_ 0 (x.of_ - 2) with
     | false=>
      rw [h1] at i4;refine z_ i4 ?_;exact⟨_,ri,rfl⟩
     | true=>
      rw [h1] at i4;refine z_ i4 ?_;conv=>whnf
      refine z_ hm ?_;exact⟨_,ri,rfl⟩
    ·rw [show (x.kind == 1)=false by simpa using k1,if_neg k1];exact⟨_,ri,rfl⟩
  ·have hN:FA x=false:=by simpa using hN
   have hF:(if x.kind=1 then FA x&&(CK x.at_ 0 (x.of_ - 2)&&B4 g x.img) else if x.kind=2 then FA x&&(x.at_ == x.of_ - 1&&G7 x.img) else false)=false:=by rw [hN];simp
   rw [hF];cases n1:CK x.seq 0 4294967295 with
   | false=>
    rw [n1] at i1;refine z_ i1 ?_;exact⟨_,ri,rfl⟩
   | true=>
    rw [n1] at i1;refine z_ i1 ?_;conv=>whnf
    cases n2:CK x.epoch 0 4294967295 with
    | false=>
     rw [n2] at i2;refine z_ i2 ?_;exact⟨_,ri,rfl⟩
    | true=>
     rw [n2] at i2;have n3:CK x.of_ 2 30=false:=by simpa [FA,n1,n2] using hN
     rw [n3] at i3;refine z_ i2 ?_;conv=>whnf
     refine z_ i3 ?_;exact⟨_,ri,rfl⟩
theorem Qe {b:List UInt8} {i:Nat} (h:i<b.length):Ct (b.drop i)=b[i].toNat:=by
 rw [Bf h];show b[i].toNat+256*0=b[i].toNat;omega
theorem Z_ (x:UInt8):IntKind.i64.wrap (x.toNat:Int)=(x.toNat:Int):=wi (by have:=x.toNat_lt;omega)
theorem We (g:Geo) (b:List UInt8) (hl:b.length<=100000) (hg:Bq g=true):Fn Tryz.prog 295 [.ag (AT g),bA b] fun r=>r = .tp [.ag (G4 ((G3 g b).getD zeroC)), .v (.bool (G3 g b).isSome)]:=by
 have zs:∀ (e:Value) (c:Ctx) (v:Value),Rd (.tp [.ag [iv 0,iv 0,iv 0,iv 0,iv 0,iv 0,iv 0, .v (.slice none 0 0)], .v e]) c v->Rd (.tp [.ag (G4 zeroC), .v e]) c v:=fun e=>BX (m:= [.ag (G4 zeroC), .v e]) ⟨by repeat' (first | exact trivial | exact fun _ _ h=>h | exact Bt _ _ | refine Ad ?_ ?_ | refine Be ?_),ri,tv⟩
 by_cases h11:b.length<11
 ·rw [PX h11];refine zS Tryz.func295 rfl ?_;conv=>whnf
  refine A8 (fun _=>?_) (fun hq=>absurd h11 (by omega));exact⟨_,zs _,rfl⟩
 ·have h11':11<=b.length:=by omega
  have hp:=Qf h11';have q1:=FW (b.drop 1) 4 (by rw [Ak];omega) (by decide);have q2:=FW (b.drop 5) 4 (by rw [Ak];omega) (by decide);have hgd:∀ i (h:i<b.length),b.getD i 0=b[i]:=fun i h=>by rw [Ab,Af h];rfl
  refine zS Tryz.func295 rfl ?_;conv=>whnf
  refine A8 (fun hq=>absurd hq (by omega)) (fun hq=>?_);conv=>whnf
  apply zD (0) tys_ok mixed (.o [0,1,2,3,4,5,7,8,10,11,12,13,14,15,16,17] (.two 6 (.two 9 (.o [18,19,20] .fin) 19 (.o [9,18,20] .fin)) 19 (.o [6,9,18,20] .fin))) [6,11,12,13,14,15,16,17,18,19,20,21,22,23,24,25,26,27,28,29] (by kernel_rfl)
  ·conv=>whnf
   try (refine tI ?_;conv=>whnf)
   try (refine tI ?_;conv=>whnf)
   try (refine tI ?_;conv=>whnf)
   try (refine tI ?_;conv=>whnf)
   try (refine tI ?_;conv=>whnf)
   refine Ad ?_ ?_
   ·conv=>whnf
    (refine zX [bA (b.drop 1),iv 4] ⟨AX (by omega),ri,tv⟩ ?_;refine z_ q1 ?_)
    refine Ad ?_ ?_
    ·conv=>whnf
     (refine zX [bA (b.drop 5),iv 4] ⟨AX (by omega),ri,tv⟩ ?_;refine z_ q2 ?_)
     conv=>whnf
     try (refine tS ?_;conv=>whnf)
     exact tA
    ·conv=>whnf
     (refine zX [bA (b.drop 5),iv 4] ⟨AX (by omega),ri,tv⟩ ?_;refine z_ q2 ?_)
     conv=>whnf
     try (refine tS ?_;conv=>whnf)
     exact tA
   ·conv=>whnf
    (refine zX [bA (b.drop 1),iv 4] ⟨AX (by omega),ri,tv⟩ ?_;refine z_ q1 ?_)
    conv=>whnf
    (refine zX [bA (b.drop 5),iv 4] ⟨AX (by omega),ri,tv⟩ ?_;refine z_ q2 ?_)
    conv=>whnf
    try (refine tS ?_;conv=>whnf)
    exact tA
  conv=>whnf
  repeat' (refine zY ?_;conv=>whnf)
  rw [Z_,Z_,Z_,show b.getD (Int.toNat 0) 0=b[0] from hgd 0 (by omega),show b.getD (Int.toNat 9) 0=b[9] from hgd 9 (by omega),show b.getD (Int.toNat 10) 0=b[10] from hgd 10 (by omega)];by_cases hk:b[0].toNat=1
  ·rw [show (((b[0].toNat:Nat):Int) == 1)=true by rw [hk];rfl];conv=>whnf
   by_cases h14:b.length<14
   ·refine A8 (fun hq=>?_) (fun hq=>absurd h14 (by omega));conv=>whnf
    rw [KC h11' (by rw [hp,if_pos (by simp only;omega)];omega)];exact⟨_,zs _,rfl⟩
   ·refine A8 (fun hq=>absurd hq (by omega)) (fun hq=>?_);refine⟨⟨by omega,by omega⟩,?_⟩;conv=>whnf
    have h13:Ct (b.drop 13)=b[13].toNat:=Qe (by omega);have hx:=b[13].toNat_lt;obtain⟨n13,e13⟩:∃ n,n=b[13].toNat:=⟨_,rfl⟩;have g13:(b.getD (Int.toNat 13) 0).toNat=n13:=by rw [e13];exact congrArg UInt8.toNat (hgd 13 (by omega))
    rw [<-e13] at h13 hx;rw [Z_,g13,wi (by omega)];by_cases hn:b.length=14+n13
    ·rw [show ((b.length:Int) != (14:Int)+((n13:Nat):Int))=false by simp only [bne_eq_false_iff_eq];omega];conv=>whnf
     have htw:=Ez (b.drop 14) (by rw [Ak];omega);apply zD (0) tys_ok mixed (.o [0,1,2,3,4,5,6,7,8,9,10,11,12,13] .fin) [47,48,49,50,51,52,53,54,55,56,57,58,59] (by kernel_rfl)
     ·conv=>whnf
      try (refine tI ?_;conv=>whnf)
      try (refine tI ?_;conv=>whnf)
      try (refine tI ?_;conv=>whnf)
      (refine zX [bA (b.drop 14)] ⟨AX (by omega),tv⟩ ?_;refine z_ htw ?_)
      conv=>whnf
      try (refine tS ?_;conv=>whnf)
      exact tA
     conv=>whnf
     obtain⟨n12,e12⟩:∃ n:Nat,n=b[12].toNat:=⟨_,rfl⟩;have g12:(b.getD (Int.toNat 12) 0).toNat=n12:=by rw [e12];exact congrArg UInt8.toNat (hgd 12 (by omega))
     obtain⟨n11,e11⟩:∃ n:Nat,n=b[11].toNat:=⟨_,rfl⟩;have g11:(b.getD (Int.toNat 11) 0).toNat=n11:=by rw [e11];exact congrArg UInt8.toNat (hgd 11 (by omega))
     obtain⟨R,hR⟩:∃ R:Rc,R=⟨(b[0].toNat:Nat),(leN ((b.drop 1).take 4):Nat),(leN ((b.drop 5).take 4):Nat),(b[9].toNat:Nat),(b[10].toNat:Nat),⟨(n11:Nat),Ja (n12:Nat),b.drop 14⟩⟩:=⟨_,rfl⟩;have hP:Ea b=R:=by rw [hp,if_pos (by omega),Dl (by rw [h13];exact hn),hR,e11,e12]
     have hRR:=NJ (g:=g) h11' (by rw [hp,if_pos (by simp only;omega),h13];exact hn);rw [hP] at hRR;have hrec:=PN g R (by rw [hR];show (b.drop 14).length<=100000;rw [Ak];omega) hg;rw [Z_,Z_,g12,g11];repeat' (refine zY ?_;conv=>whnf)
     by_cases h254:n12=254
     ·have eW:Ja (n12:Nat) = -1:=by rw [h254];rfl
      rw [show (((n12:Nat):Int) == 254)=true by rw [h254];rfl];conv=>whnf
      refine zX [.ag (AT g), .ag (G4 R)] ⟨ri,Be (show SubL _ (G4 R) by rw [hR,eW];exact⟨ri,ri,ri,ri,ri,ri,ri,ri,tv⟩),tv⟩ ?_;cases hok:EE g R with
      | false=>
       rw [hok] at hrec;rw [hRR,if_neg (by rw [hok];simp)];refine z_ hrec ?_;exact⟨_,zs _,rfl⟩
      | true=>
       rw [hok] at hrec;rw [hRR,if_pos hok];refine z_ hrec ?_;conv=>whnf
       exact⟨_,BX (m:= [.ag (G4 R), .v (.bool true)]) ⟨Be (show SubL _ (G4 R) by rw [hR,eW];exact⟨ri,ri,ri,ri,ri,ri,ri,ri,tv⟩),ri,tv⟩,rfl⟩
     ·have eW:Ja (n12:Nat)=(n12:Nat):=if_neg (by omega);rw [show (((n12:Nat):Int) == 254)=false by rw [beq_eq_false_iff_ne];omega];conv=>whnf
      refine zX [.ag (AT g), .ag (G4 R)] ⟨ri,Be (show SubL _ (G4 R) by rw [hR,eW];exact⟨ri,ri,ri,ri,ri,ri,ri,ri,tv⟩),tv⟩ ?_;cases hok:EE g R with
      | false=>
       rw [hok] at hrec;rw [hRR,if_neg (by rw [hok];simp)];refine z_ hrec ?_;exact⟨_,zs _,rfl⟩
      | true=>
       rw [hok] at hrec;rw [hRR,if_pos hok];refine z_ hrec ?_;conv=>whnf
       exact⟨_,BX (m:= [.ag (G4 R), .v (.bool true)]) ⟨Be (show SubL _ (G4 R) by rw [hR,eW];exact⟨ri,ri,ri,ri,ri,ri,ri,ri,tv⟩),ri,tv⟩,rfl⟩
    ·rw [KC h11' (by rw [hp,if_pos (by simp only;omega),h13];exact hn)];rw [show ((b.length:Int) != (14:Int)+((n13:Nat):Int))=true by rw [bne_iff_ne];omega];exact⟨_,zs _,rfl⟩
  ·rw [show (((b[0].toNat:Nat):Int) == 1)=false by simpa using (by omega:¬((b[0].toNat:Nat):Int)=1)];conv=>whnf
   by_cases hn:b.length=11
   ·obtain⟨R,hR⟩:∃ R:Rc,R=⟨(b[0].toNat:Nat),(leN ((b.drop 1).take 4):Nat),(leN ((b.drop 5).take 4):Nat),(b[9].toNat:Nat),(b[10].toNat:Nat),noImg⟩:=⟨_,rfl⟩;have hP:Ea b=R:=by rw [hp,if_neg (by omega),hR]
    have hRR:=NJ (g:=g) h11' (by rw [hp,if_neg (by simp only;omega)];exact hn);rw [hP] at hRR;have hrec:=PN g R (by rw [hR];show 0<=100000;decide) hg;have hsb:SubL [iv (b[0].toNat:Nat),iv (leN ((b.drop 1).take 4):Nat),iv (leN ((b.drop 5).take 4):Nat),iv (b[9].toNat:Nat),iv (b[10].toNat:Nat),iv 0,iv 0, .v (.slice none 0 0)] (G4 R):=by
     rw [hR];exact⟨fun _ _ h=>h,fun _ _ h=>h,fun _ _ h=>h,fun _ _ h=>h,fun _ _ h=>h,fun _ _ h=>h,fun _ _ h=>h,Bt 1 _,tv⟩
    rw [show ((b.length:Int) != 11)=false by rw [hn];rfl];conv=>whnf
    refine zX [.ag (AT g), .ag (G4 R)] ⟨ri,Be hsb,tv⟩ ?_;cases hok:EE g R with
    | false=>
     rw [hok] at hrec;rw [hRR,if_neg (by rw [hok];simp)];refine z_ hrec ?_;exact⟨_,zs _,rfl⟩
    | true=>
     rw [hok] at hrec;rw [hRR,if_pos hok];refine z_ hrec ?_;exact⟨_,BX (m:= [.ag (G4 R), .v (.bool true)]) ⟨Be hsb,ri,tv⟩,rfl⟩
   ·rw [KC h11' (by rw [hp,if_neg (by simp only;omega)];exact hn)];rw [show ((b.length:Int) != 11)=true by simpa using (by omega:¬(b.length:Int)=11)];exact⟨_,zs _,rfl⟩
theorem Du (g:Geo) (copy slot:Int) (hg:Bq g=true) (hl:Iu g copy slot=true):Fn Tryz.prog 73 [.ag (AT g),iv copy,iv slot] fun r=>r = iv (By g copy slot):=by
 obtain⟨h1,h2,h3,h4,h5⟩:=Aq.1 hg;simp only [Iu,Ae,AI] at hl;refine zS Tryz.func73 rfl ?_;refine⟨_,fun _ _ h=>h,?_⟩;have hm:0<=copy*g.sl/\copy*g.sl<=30:=by
  rcases(show copy=0\/copy=1 by omega) with rfl | rfl <;> omega
 rw [wi (n:=copy*g.sl) (by omega),wi (n:=g.an+copy*g.sl) (by omega),wi (n:=g.an+copy*g.sl+slot) (by omega)];rfl
def BR (x:Gt) (addr:Int):Option Sec:=if x.err=0/\Di x.bytes=0/\CZ x.bytes=addr then some ⟨CZ x.bytes,Cv x.bytes,C9 x.bytes⟩ else none
def zeroS:Sec:=⟨0,0, []⟩
theorem Ky (c:Ctx) (u:Value) (b:Bool) (h:Rd (.tp [.ag [iv 0,iv 0, .v (.slice none 0 0)], .v (.bool b)]) c u):Rd (.tp [.ag (OF zeroS), .v (.bool b)]) c u:=by
 refine BX ?_ c u h;exact⟨Be ⟨ri,ri,Bt _ _,tv⟩,ri,tv⟩
theorem II (x:Gt) (addr:Int) (hl:x.bytes.length<=100000):Fn Tryz.prog 257 [.ag (Dz x),iv addr] fun r=>r = .tp [.ag (OF ((BR x addr).getD zeroS)), .v (.bool (BR x addr).isSome)]:=by
 have s1:=VR x.bytes hl;refine zS Tryz.func257 rfl ?_;conv=>whnf
 refine A8 (fun t1=>?_) (fun t1=>?_) <;> (repeat rw [Ac] at t1) <;> conv=>whnf
 ·have e:BR x addr=none:=by rw [BR,if_neg (fun h=>t1 h.1)]
  rw [e];exact⟨_,fun c v h=>Ky c v false h,rfl⟩
 by_cases hO:Di x.bytes=0
 ·rw [if_pos hO,hO] at s1;refine z_ s1 ?_;conv=>whnf
  refine A8 (fun t2=>?_) (fun t2=>?_) <;> (repeat rw [Ac] at t2) <;> conv=>whnf
  ·have e:BR x addr=none:=by rw [BR,if_neg (fun h=>t2 h.2.2)]
   rw [e];exact⟨_,fun c v h=>Ky c v false h,rfl⟩
  ·have e:BR x addr=some ⟨CZ x.bytes,Cv x.bytes,C9 x.bytes⟩:=by rw [BR,if_pos ⟨t1,hO,t2⟩]
   rw [e];exact⟨_,ri,rfl⟩
 ·rw [if_neg hO] at s1;refine z_ s1 ?_;conv=>whnf
  have e:BR x addr=none:=by rw [BR,if_neg (fun h=>hO h.2.1)]
  rw [e];refine A8 (fun t2=>?_) (fun t2=>?_) <;> (repeat rw [Ac] at t2) <;> conv=>whnf
  ·exact⟨_,fun c v h=>Ky c v false h,rfl⟩
  ·exact absurd t2 hO
theorem VC (g:Geo) (x:Gt) (copy slot:Int) (hg:Bq g=true) (hL:Iu g copy slot=true):Ep g x copy slot=match BR x (By g copy slot) with | none=>none | some s=>match G3 g s.pay with | some r=>if r.seq=s.stamp then some r else none | none=>none:=by
 unfold Ep BR;rw [hg,hL];by_cases h1:x.err=0 <;> by_cases h2:Di x.bytes=0 <;> by_cases h3:CZ x.bytes=By g copy slot <;> simp [h1,h2,h3] <;> rfl
theorem PD {x:Gt} {a:Int} {s:Sec} (h:BR x a=some s):s.pay.length<=x.bytes.length:=by
 unfold BR at h;split at h
 ·cases h;simp [C9];omega
 ·cases h
theorem Mp (g:Geo) (x:Gt) (copy slot:Int) (hl:x.bytes.length<=100000) (hg:Bq g=true) (hL:Iu g copy slot=true):Fn Tryz.prog 275 [.ag (AT g), .ag (Dz x),iv copy,iv slot] fun r=>r = .tp [.ag (G4 ((Ep g x copy slot).getD zeroC)), .v (.bool (Ep g x copy slot).isSome)]:=by
 have s1:=II x (By g copy slot) hl;rw [VC g x copy slot hg hL];cases hS:BR x (By g copy slot) with
 | none=>
  rw [hS] at s1;refine zS Tryz.func275 rfl ?_;conv=>whnf
  apply zP tys_ok mixed (.o [0,1,2,3] (.two 4 (.two 5 (.o [6,7,8,9,10,11] .fin) 9 (.o [5,6,7,8,10,11] .fin)) 9 (.o [4,5,6,7,8,10,11] .fin))) [10,11,13,14,15,16,17,18,19,20,21] (by kernel_rfl)
  ·refine Ad ?_ ?_
   ·conv=>whnf
    refine z_ (Du g copy slot hg hL) ?_;refine Ad ?_ ?_
    ·conv=>whnf
     refine z_ s1 ?_;conv=>whnf
     try (refine tS ?_;conv=>whnf)
     exact tA
    ·conv=>whnf
     refine z_ s1 ?_;conv=>whnf
     try (refine tS ?_;conv=>whnf)
     exact tA
   ·conv=>whnf
    refine z_ (Du g copy slot hg hL) ?_;conv=>whnf
    refine z_ s1 ?_;conv=>whnf
    try (refine tS ?_;conv=>whnf)
    exact tA
  exact⟨_,fun c v h=>LJ c v false h,rfl⟩
 | some s=>
  rw [hS] at s1;have hp:=PD hS;have s2:=We g s.pay (by omega) hg;cases hR:G3 g s.pay with
  | none=>
   rw [hR] at s2;refine zS Tryz.func275 rfl ?_;conv=>whnf
   apply zP tys_ok mixed (.o [0,1,2,3] (.two 4 (.two 5 (.o [6,7,8,9,10,11] .fin) 9 (.o [5,6,7,8,10,11] .fin)) 9 (.o [4,5,6,7,8,10,11] .fin))) [10,11,13,14,15,16,17,18,19,20,21] (by kernel_rfl)
   ·refine Ad ?_ ?_
    ·conv=>whnf
     refine z_ (Du g copy slot hg hL) ?_;refine Ad ?_ ?_
     ·conv=>whnf
      refine z_ s1 ?_;conv=>whnf
      try (refine tS ?_;conv=>whnf)
      exact tA
     ·conv=>whnf
      refine z_ s1 ?_;conv=>whnf
      try (refine tS ?_;conv=>whnf)
      exact tA
    ·conv=>whnf
     refine z_ (Du g copy slot hg hL) ?_;conv=>whnf
     refine z_ s1 ?_;conv=>whnf
     try (refine tS ?_;conv=>whnf)
     exact tA
   conv=>whnf
   refine z_ s2 ?_;conv=>whnf
   exact⟨_,fun c v h=>LJ c v false h,by simp only [hR];rfl⟩
  | some r=>
   rw [hR] at s2;refine zS Tryz.func275 rfl ?_;conv=>whnf
   apply zP tys_ok mixed (.o [0,1,2,3] (.two 4 (.two 5 (.o [6,7,8,9,10,11] .fin) 9 (.o [5,6,7,8,10,11] .fin)) 9 (.o [4,5,6,7,8,10,11] .fin))) [10,11,13,14,15,16,17,18,19,20,21] (by kernel_rfl)
   ·refine Ad ?_ ?_
    ·conv=>whnf
     refine z_ (Du g copy slot hg hL) ?_;refine Ad ?_ ?_
     ·conv=>whnf
      refine z_ s1 ?_;conv=>whnf
      try (refine tS ?_;conv=>whnf)
      exact tA
     ·conv=>whnf
      refine z_ s1 ?_;conv=>whnf
      try (refine tS ?_;conv=>whnf)
      exact tA
    ·conv=>whnf
     refine z_ (Du g copy slot hg hL) ?_;conv=>whnf
     refine z_ s1 ?_;conv=>whnf
     try (refine tS ?_;conv=>whnf)
     exact tA
   conv=>whnf
   refine z_ s2 ?_;conv=>whnf
   refine A8 (fun t=>?_) (fun t=>?_) <;> (repeat rw [Ac] at t) <;> (try simp only [B9] at t) <;> conv=>whnf
   ·exact⟨_,fun c v h=>LJ c v false h,by simp only [hR,if_neg t];rfl⟩
   ·exact⟨_,ri,by simp only [hR,if_pos t];rfl⟩
def ED (o:Option Rc) (a:An) (seq at_ of_ left:Int):Bool:=match o with | some r=>DA r a seq at_ of_ left | none=>false
def CH (p q:Option Rc) (b1 b2:Bool):Rc × List Int × Int:=
 if b1&&b2 then (p.getD zeroC, [],1) else if b1 then (p.getD zeroC, [1],1) else if b2 then (q.getD zeroC, [0],1) else if p.isSome || q.isSome then (zeroC, [],2) else (zeroC, [],3)
def Fe (g:Geo) (a:An) (x y:Gt) (slot seq at_ of_ left:Int):Rc × List Int × Int:=
 CH (Ep g x 0 slot) (Ep g y 1 slot) (ED (Ep g x 0 slot) a seq at_ of_ left) (ED (Ep g y 1 slot) a seq at_ of_ left)
def CD (g:Geo):Int:=g.d+1+g.sp
def Aw (g:Geo):Int:=g.an+2*g.sl+2*g.z+g.z*CD g
def AG (g:Geo) (z k:Int):Int:=g.an+2*g.sl+2*z+k
def Cj (g:Geo) (z s:Int):Int:=g.an+2*g.sl+2*g.z+z*CD g+s
theorem GU {g:Geo} (hg:Bq g=true):2<=CD g/\CD g<=7:=by
 obtain⟨h1,h2,h3,h4,h5⟩:=Aq.1 hg;unfold CD;omega
theorem Hs {g:Geo} (hg:Bq g=true) {z:Int} (hz:0<=z/\z<=4):0<=z*CD g/\z*CD g<=28:=by
 obtain⟨p1,p2⟩:=GU hg;rcases(show z=0\/z=1\/z=2\/z=3\/z=4 by omega) with rfl | rfl | rfl | rfl | rfl <;> omega
theorem EI {g:Geo} (hg:Bq g=true):32<=Aw g/\Aw g<=99:=by
 obtain⟨h1,h2,h3,h4,h5⟩:=Aq.1 hg;obtain⟨p1,p2⟩:=GU hg;have:=Hs hg (z:=g.z) (by omega);unfold Aw;rcases(show g.z=1\/g.z=2\/g.z=3\/g.z=4 by omega) with h | h | h | h <;> rw [h] at this |- <;> omega
theorem MD (g:Geo) (hg:Bq g=true):Fn Tryz.prog 229 [.ag (AT g)] fun r=>r = iv (g.an+2*g.sl):=by
 obtain⟨h1,h2,h3,h4,h5⟩:=Aq.1 hg;refine zS Tryz.func229 rfl ?_;exact⟨_,ri,by rw [wi (n:=2*g.sl) (by omega),wi (by omega)]⟩
theorem KU (g:Geo) (hg:Bq g=true):Fn Tryz.prog 220 [.ag (AT g)] fun r=>r = iv (CD g):=by
 obtain⟨h1,h2,h3,h4,h5⟩:=Aq.1 hg;refine zS Tryz.func220 rfl ?_;conv=>whnf
 exact⟨_,ri,by rw [wi (n:=g.d+1) (by omega),wi (by omega)];rfl⟩
theorem ME (g:Geo) (hg:Bq g=true):Fn Tryz.prog 219 [.ag (AT g)] fun r=>r = iv (g.an+2*g.sl+2*g.z):=by
 obtain⟨h1,h2,h3,h4,h5⟩:=Aq.1 hg;refine zS Tryz.func219 rfl ?_;conv=>whnf
 apply zP tys_ok mixed (.o [0,2,3,4,1,5,6] .fin) [2,3,4,5,6,7,8] (by kernel_rfl)
 ·conv=>whnf
  refine z_ (MD g hg) ?_;exact tA
 exact⟨_,ri,by rw [wi (n:=2*g.z) (by omega),wi (by omega)]⟩
theorem R_ (g:Geo) (hg:Bq g=true):Fn Tryz.prog 167 [.ag (AT g)] fun r=>r = iv (Aw g):=by
 obtain⟨h1,h2,h3,h4,h5⟩:=Aq.1 hg;have hz:=Hs hg (z:=g.z) (by omega);have hc:=EI hg;refine zS Tryz.func167 rfl ?_;conv=>whnf
 apply zP tys_ok mixed (.o [0,2,3,4,1,5,6,7,8] .fin) [2,3,4,5,6,7,8,9,10] (by kernel_rfl)
 ·conv=>whnf
  refine z_ (ME g hg) ?_;conv=>whnf
  refine z_ (KU g hg) ?_;exact tA
 conv=>whnf
 exact⟨_,ri,by rw [wi (n:=g.z*CD g) (by omega),wi (by omega)];rfl⟩
theorem Uz (g:Geo) (hg:Bq g=true):Fn Tryz.prog 101 [.ag (AT g)] fun r=>r = .tp [iv (Aw g),iv 0]:=by
 have ht:=IE g (Aw g) true;rw [hg] at ht;refine zS Tryz.func101 rfl ?_;conv=>whnf
 apply zP tys_ok mixed (.o [0,1,2,3,4,5,6,7] .fin) [2,3,4,5,6,7,8,9] (by kernel_rfl)
 ·conv=>whnf
  refine z_ (R_ g hg) ?_;conv=>whnf
  refine z_ ht ?_;exact tA
 exact⟨_,ri,rfl⟩
theorem MH (g:Geo) (i:Int) (hg:Bq g=true) (hi:0<=i/\i<g.an):Fn Tryz.prog 158 [.ag (AT g),iv i] fun r=>r = .tp [iv i,iv 0]:=by
 obtain⟨h1,h2,h3,h4,h5⟩:=Aq.1 hg;have ht:=IE g i true;rw [hg] at ht;have hw:IntKind.i64.wrap (g.an - 1)=g.an - 1:=wi (by omega);have hn:=I6 i 0 (IntKind.i64.wrap (g.an - 1));rw [show CK i 0 (IntKind.i64.wrap (g.an - 1))=true from AI.2 (by rw [hw];omega)] at hn;refine zS Tryz.func158 rfl ?_;conv=>whnf
 apply zP tys_ok mixed (.o [0,1,2,3,4,5,6,7,8,9,10,11] .fin) [4,5,6,7,8,9,10,11,12,13,14,15] (by kernel_rfl)
 ·conv=>whnf
  refine z_ hn ?_;conv=>whnf
  refine z_ ht ?_;exact tA
 exact⟨_,ri,rfl⟩
theorem KS (g:Geo) (z k:Int) (hg:Bq g=true) (hz:0<=z/\z<g.z) (hk:0<=k/\k<=1):Fn Tryz.prog 179 [.ag (AT g),iv z,iv k] fun r=>r = .tp [iv (AG g z k),iv 0]:=by
 obtain⟨h1,h2,h3,h4,h5⟩:=Aq.1 hg;have e:IntKind.i64.wrap (IntKind.i64.wrap (g.an+2*g.sl+IntKind.i64.wrap (2*z))+k)=AG g z k:=by
  rw [wi (n:=2*z) (by omega),wi (n:=g.an+2*g.sl+2*z) (by omega),wi (by omega)];rfl
 have ht:=IE g (IntKind.i64.wrap (IntKind.i64.wrap (g.an+2*g.sl+IntKind.i64.wrap (2*z))+k)) true;rw [hg] at ht;have hw:IntKind.i64.wrap (g.z - 1)=g.z - 1:=wi (by omega);have hn:=I6 z 0 (IntKind.i64.wrap (g.z - 1));rw [show CK z 0 (IntKind.i64.wrap (g.z - 1))=true from AI.2 (by rw [hw];omega)] at hn;have hn2:=I6 k 0 1;rw [show CK k 0 1=true from AI.2 hk] at hn2;refine zS Tryz.func179 rfl ?_;conv=>whnf
 apply zP tys_ok mixed (.o [0,1,3,4,6,8,9,10,11,2,5,7,12,13,14,15,16,17,18,19,20,21] .fin) [6,7,8,9,10,11,12,13,14,15,16,17,18,19,20,21,22,23,24,25,26,27] (by kernel_rfl)
 ·conv=>whnf
  refine z_ (MD g hg) ?_;conv=>whnf
  refine z_ hn ?_;conv=>whnf
  refine z_ hn2 ?_;conv=>whnf
  refine z_ ht ?_;exact tA
 conv=>whnf
 exact⟨_,ri,by simp only [Bool.and_self,if_true];rw [e]⟩
theorem WL (g:Geo) (z s:Int) (hg:Bq g=true) (hz:0<=z/\z<g.z) (hs:0<=s/\s<CD g):Fn Tryz.prog 235 [.ag (AT g),iv z,iv s] fun r=>r = .tp [iv (Cj g z s),iv 0]:=by
 obtain⟨h1,h2,h3,h4,h5⟩:=Aq.1 hg;have hzp:=Hs hg (z:=z) (by omega);have hp:=GU hg;have e:IntKind.i64.wrap (IntKind.i64.wrap (g.an+2*g.sl+2*g.z+IntKind.i64.wrap (z*CD g))+s)=Cj g z s:=by
  rw [wi (n:=z*CD g) (by omega),wi (n:=g.an+2*g.sl+2*g.z+z*CD g) (by omega),wi (by omega)];rfl
 have ht:=IE g (IntKind.i64.wrap (IntKind.i64.wrap (g.an+2*g.sl+2*g.z+IntKind.i64.wrap (z*CD g))+s)) true;rw [hg] at ht;have hw:IntKind.i64.wrap (g.z - 1)=g.z - 1:=wi (by omega);have hn:=I6 z 0 (IntKind.i64.wrap (g.z - 1));rw [show CK z 0 (IntKind.i64.wrap (g.z - 1))=true from AI.2 (by rw [hw];omega)] at hn;have hw2:IntKind.i64.wrap (CD g - 1)=CD g - 1:=wi (by omega);have hn2:=I6 s 0 (IntKind.i64.wrap (CD g - 1));rw [show CK s 0 (IntKind.i64.wrap (CD g - 1))=true from AI.2 (by rw [hw2];omega)] at hn2;refine zS Tryz.func235 rfl ?_;conv=>whnf
 apply zP tys_ok mixed (.o [0,1,3,4,8,10,11,12,13,2,5,6,7,9,14,15,16,17,18,19,20,21,22,23,24,25,26] .fin) [6,7,8,9,10,11,12,13,14,15,16,17,18,19,20,21,22,23,24,25,26,27,28,29,30,31,32] (by kernel_rfl)
 ·conv=>whnf
  refine z_ (ME g hg) ?_;conv=>whnf
  refine z_ (KU g hg) ?_;conv=>whnf
  refine z_ hn ?_;conv=>whnf
  refine z_ (KU g hg) ?_;conv=>whnf
  refine z_ hn2 ?_;conv=>whnf
  refine z_ ht ?_;exact tA
 conv=>whnf
 exact⟨_,ri,by simp only [Bool.and_self,if_true];rw [e]⟩
theorem OL (g:Geo) (hg:Bq g=true):Fn Tryz.prog 28 [.ag (AT g)] fun r=>r = iv (CD g):=by
 obtain⟨h1,h2,h3,h4,h5⟩:=Aq.1 hg;refine zS Tryz.func28 rfl ?_;conv=>whnf
 exact⟨_,ri,by rw [wi (n:=g.d+1) (by omega),wi (by omega)];rfl⟩
theorem RJ (g:Geo) (hg:Bq g=true):Fn Tryz.prog 116 [.ag (AT g)] fun r=>r = iv (Aw g):=by
 obtain⟨h1,h2,h3,h4,h5⟩:=Aq.1 hg;have hz:=Hs hg (z:=g.z) (by omega);have hc:=EI hg;refine zS Tryz.func116 rfl ?_;conv=>whnf
 apply zP tys_ok mixed (.o [0,1,2,3,4,5,6,7,8,9,10,11,12,13,14,15,16] .fin) [2,3,4,5,6,7,8,9,10,11,12,13,14,15,16,17,18] (by kernel_rfl)
 ·conv=>whnf
  refine z_ (OL g hg) ?_;exact tA
 conv=>whnf
 exact⟨_,ri,by rw [wi (n:=g.z*CD g) (by omega),wi (n:=2*g.sl) (by omega),wi (n:=2*g.z) (by omega),wi (n:=g.an+2*g.sl) (by omega),wi (n:=g.an+2*g.sl+2*g.z) (by omega),wi (by omega)];rfl⟩
theorem IJ (g:Geo) (z k:Int) (hg:Bq g=true) (hz:0<=z/\z<g.z) (hk:0<=k/\k<=1):Fn Tryz.prog 14 [.ag (AT g),iv z,iv k] fun r=>r = iv (AG g z k):=by
 obtain⟨h1,h2,h3,h4,h5⟩:=Aq.1 hg;refine zS Tryz.func14 rfl ?_;conv=>whnf
 exact⟨_,ri,by rw [wi (n:=2*g.sl) (by omega),wi (n:=2*z) (by omega),wi (n:=g.an+2*g.sl) (by omega),wi (n:=g.an+2*g.sl+2*z) (by omega),wi (by omega)];rfl⟩
theorem PM (g:Geo) (z s:Int) (hg:Bq g=true) (hz:0<=z/\z<g.z) (hs:0<=s/\s<CD g):Fn Tryz.prog 25 [.ag (AT g),iv z,iv s] fun r=>r = iv (Cj g z s):=by
 obtain⟨h1,h2,h3,h4,h5⟩:=Aq.1 hg;have hzp:=Hs hg (z:=z) (by omega);have hp:=GU hg;refine zS Tryz.func25 rfl ?_;conv=>whnf
 apply zP tys_ok mixed (.o [0,1,2,3,4,5,6,7,8,9,10,11,15,12,13,14,16,17] .fin) [6,7,8,9,10,11,12,13,14,15,16,17,18,19,20,21,22,23] (by kernel_rfl)
 ·conv=>whnf
  refine z_ (OL g hg) ?_;exact tA
 conv=>whnf
 exact⟨_,ri,by rw [wi (n:=z*CD g) (by omega),wi (n:=2*g.sl) (by omega),wi (n:=2*g.z) (by omega),wi (n:=g.an+2*g.sl) (by omega),wi (n:=g.an+2*g.sl+2*g.z) (by omega),wi (n:=g.an+2*g.sl+2*g.z+z*CD g) (by omega),wi (by omega)];rfl⟩
theorem SD (L:List UInt8):((List.range L.length).map fun i=> [AV.v (Value.int IntKind.u8 ((L.getD i 0).toNat:Int))])=L.map Eo:=by
 apply List.ext_getElem
 ·simp
 ·intro i h1 h2;simp only [Aa,CM] at h1;simp [Eo,Ab,Af h1]
theorem Fp {L:List UInt8} {n:Nat} {es:List (List AV)} (hn:n=L.length) (he:es=L.map Eo) (c:Ctx) (v:Value) (h:Rd (.sl 1 n fun i=>es.getD i []) c v):Rd (bA L) c v:=Ba (f:=Eo) L hn he c v h
theorem Ny (b:List UInt8) (hb:b.length<=1000000000):ACalls Tryz.prog false 45 [bA b] [] fun r H=>r = .ow 0 b.length/\H=[.row 5 1 (b.map Eo)]:=by
 refine zx tys_ok Tryz.func45 rfl rfl (Ag rfl) ?_;refine⟨hb,?_⟩;exact⟨.ow 0 b.length, .ow 0 b.length, [.row 5 1 (b.map Eo)],fun _ _ h=>h,zE ⟨[],tv,tA,⟨congrArg (AB.row 5 1) (SD b).symm,tv⟩,rfl,rfl,rfl⟩,rfl,rfl⟩
theorem Is (l:List UInt8) (n:Int) (m:Nat) (hl:l.length<=1000000) (hn:0<=n/\n<=4294967295) (hm:m<=4):ACalls Tryz.prog false 192 [bA l,iv n,iv m] [] fun r H=>r = .ow 0 (l ++ leB m n.toNat).length/\H=[.row 5 1 ((l ++ leB m n.toNat).map Eo)]:=by
 have htw:=Ny l (by omega);obtain⟨q,rfl⟩:∃ q:Nat,n=q:=⟨n.toNat,by omega⟩;rw [Ac];refine zx tys_ok Tryz.func192 rfl rfl (Ag rfl) ?_;conv=>whnf
 refine zW (htw) rfl ?_;rintro _ _ ⟨rfl,rfl⟩;conv=>whnf
 refine zU Nat (fun k=>([(1,iv (q / 256 ^ k:Nat)),(2,iv m),(7, .ow 0 (l ++ leB k q).length),(8,iv k)], [.row 5 1 ((l ++ leB k q).map Eo)])) (fun k=>k<=m) (fun k=>m - k) 0 (Aj _)
  (zR (s:= [0]) ⟨⟨congrArg (fun n:Nat=>AV.v (.int .i64 n)) (show q=q / 256 ^ 0 by simp),rfl,congrArg (fun n:Nat=>AV.ow 0 n) (show l.length=(l ++ leB 0 q).length by simp [leB]),rfl,tv⟩,⟨show some (AB.row 5 1 (l.map Eo))=some (AB.row 5 1 ((l ++ leB 0 q).map Eo)) by simp [leB],tv⟩,rfl,rfl,rfl,rfl,rfl⟩) ?_
 intro k hk;have hstep:=leB_step k q;have hq:q / 256 ^ k<=4294967295:=Bl (Nat.div_le_self _ _) (by omega);have hdiv:q / 256 ^ k / 256=q / 256 ^ (k+1):=by rw [Nat.div_div_eq_div_mul,Nat.pow_succ]
 have hlen:(l ++ leB k q).length<=1000004:=by rw [Ai,leB_len];omega
 generalize q / 256 ^ k=Q at hstep hq hdiv;conv=>whnf
 refine A8 (fun h6=>?_) (fun h6=>?_) <;> (repeat rw [Ac] at h6) <;> conv=>whnf
 ·refine⟨rfl,?_⟩;refine⟨⟨by rw [Aa],by omega⟩,?_⟩;refine⟨by decide,?_⟩;conv=>whnf
  have htd:IntKind.i64.wrap ((Q:Int).tdiv 256)=((Q / 256:Nat):Int):=by rw [Bb (by omega),wi (by omega)];omega
  have hU : [[AV.v (Value.int IntKind.u8 (IntKind.u8.wrap (Q:Int)))]]=[UInt8.ofNat (Q % 256)].map Eo:=by
   show _=[[AV.v (.int .u8 ((UInt8.ofNat (Q % 256)).toNat:Nat))]];rw [BD (show Q % 256<256 by omega),IntKind.wrap_u8];rfl
  refine⟨k+1,by omega,by omega,zR (s:= [0]) ⟨⟨congrArg (fun n:Int=>AV.v (.int .i64 n)) (by rw [htd,hdiv]),rfl,congrArg (fun n:Nat=>AV.ow 0 n) (show (l ++ leB k q).length+1=(l ++ leB (k+1) q).length by rw [hstep];simp;omega),AL (by omega),tv⟩,⟨?_,tv⟩,rfl,rfl,rfl,rfl,rfl⟩⟩;rw [hstep,<-A6,A9,<-hU];rfl
 ·have ek:k=m:=by omega
  subst ek;exact⟨.ow 0 (l ++ leB k q).length, .ow 0 (l ++ leB k q).length, [.row 5 1 ((l ++ leB k q).map Eo)],fun _ _ h=>h,zE ⟨[],tv,tA,tA,rfl,rfl,rfl⟩,rfl,rfl⟩
theorem OK (l:List UInt8) (n m:Nat) (hl:l.length<=1000000) (hn:n<=4294967295) (hm:m<=4):Fn Tryz.prog 192 [bA l,iv n,iv m] fun r=>r=bA (l ++ leB m n):=by
 refine ACalls.fn (Is l n m hl (by omega) hm) ?_;rintro _ _ ⟨rfl,rfl⟩;refine⟨_,zz _,?_⟩;refine Ad (Aa _).symm ?_;exact⟨bA (l ++ leB m n),Fp rfl rfl,rfl⟩
theorem ER (l:List UInt8) (n:Int) (m:Nat) (hl:l.length<=1000000) (hn:0<=n/\n<=4294967295) (hm:m<=4):Fn Tryz.prog 192 [bA l,iv n,iv m] fun r=>r=bA (l ++ leB m n.toNat):=by
 have:=OK l n.toNat m hl (by omega) hm;rwa [CN hn.1] at this
theorem Mj (l:List UInt8) (hl:l.length<=255):ACalls Tryz.prog false 210 [bA l] [] fun r H=>r = .ow 0 (UInt8.ofNat l.length::l).length/\H=[.row 5 1 ((UInt8.ofNat l.length::l).map Eo)]:=by
 refine zx tys_ok Tryz.func210 rfl rfl (Ag rfl) ?_;refine⟨⟨rfl,by omega⟩,?_⟩;conv=>whnf
 have e : [[AV.v (Value.int IntKind.u8 (IntKind.u8.wrap (l.length:Int)))]] ++ (List.range l.length).map (fun i=> [AV.v (Value.int IntKind.u8 ((l.getD i 0).toNat:Int))])=(UInt8.ofNat l.length::l).map Eo:=by
  rw [SD,A0,List.singleton_append,Eo,BD (show l.length<256 by omega),IntKind.wrap_u8];congr 4;omega
 exact⟨.ow 0 (1+l.length), .ow 0 (1+l.length), [.row 5 1 ((UInt8.ofNat l.length::l).map Eo)],fun _ _ h=>h,zE ⟨[],tv,tA,⟨congrArg (AB.row 5 1) e.symm,tv⟩,rfl,rfl,rfl⟩,congrArg (AV.ow 0) (by rw [Al];omega),rfl⟩
theorem T8 (addr stamp:Int) (p:List UInt8) (hok:Vj addr stamp p):Fn Tryz.prog 151 [.ag [iv addr,iv stamp,bA p]] fun r=>r=bA (Bp addr stamp p):=by
 obtain⟨q1,q2,q3,q4,q5⟩:=hok;have hp:=Mj p (by omega);have a1:=ER (UInt8.ofNat p.length::p) addr 2 (by simp;omega) (by omega) (by decide);have a2:=ER ((UInt8.ofNat p.length::p) ++ leB 2 addr.toNat) stamp 4 (by simp [leB_len];omega) (by omega) (by decide);have a3:=JO ((UInt8.ofNat p.length::p) ++ leB 2 addr.toNat ++ leB 4 stamp.toNat) (by simp [leB_len];omega);have a4:=OK ((UInt8.ofNat p.length::p) ++ leB 2 addr.toNat ++ leB 4 stamp.toNat) (CR ((UInt8.ofNat p.length::p) ++ leB 2 addr.toNat ++ leB 4 stamp.toNat)) 4 (by simp [leB_len];omega) (by unfold CR;omega) (by decide);have e:Bp addr stamp p=(((UInt8.ofNat p.length::p) ++ leB 2 addr.toNat) ++ leB 4 stamp.toNat) ++ leB 4 (CR (((UInt8.ofNat p.length::p) ++ leB 2 addr.toNat) ++ leB 4 stamp.toNat)):=rfl;rw [e];refine zS Tryz.func151 rfl ?_;conv=>whnf
 apply zD (0) tys_ok mixed (.o [0,1,3,4,6,7,2,5,8,9] .fin) [3,4,5,6,7,8,9,10,11,12] (by kernel_rfl)
 ·conv=>whnf
  (refine zW hp rfl ?_;rintro _ _ ⟨rfl,rfl⟩)
  conv=>whnf
  (refine zO a1.go ?_;(conv=>whnf);refine Ad (Aa _).symm ?_;(conv=>whnf);refine zX [bA (UInt8.ofNat p.length::p),iv addr,iv 2] ⟨Fp rfl rfl,ri,ri,tv⟩ ?_;refine z_ a1 ?_)
  conv=>whnf
  refine z_ a2 ?_;exact tA
 conv=>whnf
 conv=>whnf
 refine zX [bA (UInt8.ofNat p.length::p ++ leB 2 addr.toNat ++ leB 4 stamp.toNat)] ⟨ri,tv⟩ ?_;refine z_ a3 ?_;conv=>whnf
 refine z_ a4 ?_;exact⟨_,ri,rfl⟩
theorem FF (addr stamp:Int) (p:List UInt8) (hok:Vj addr stamp p):Fn Tryz.prog 79 [iv addr,iv stamp,bA p] fun r=>r=bA (Bp addr stamp p):=by
 have h:=T8 addr stamp p hok;refine zS Tryz.func79 rfl ?_;conv=>whnf
 refine z_ h ?_;exact⟨_,ri,rfl⟩
def zero8:List UInt8:= [0,0,0,0,0,0,0,0]
def ent0:Ent:=⟨0,(CR zero8:Nat),false⟩
def Fm (g:Geo):List Ent:=List.replicate (g.d+1).toNat ent0
theorem MX (stamp:Int) (b:List UInt8) (hb:b.length<=1000000000):Fn Tryz.prog 143 [iv stamp,bA b] fun r=>r = .ag (Co ⟨stamp,(CR b:Nat),false⟩):=by
 refine zS Tryz.func143 rfl ?_;conv=>whnf
 repeat' (first | (refine zY ?_;conv=>whnf) | (refine A8 (fun _=>?_) (fun _=>?_) <;> conv=>whnf) | (refine z_ (SC b hb) ?_;conv=>whnf) | (refine Ad (by first | omega | exact of_decide_eq_true rfl) ?_;conv=>whnf) | fail)
 exact⟨_,ri,rfl⟩
def bv (l:List Ent):Nat->AV
 | 0=> .v (.slice none 0 0)
 | k+1=>bA (CY (l.take (k+1)))
theorem S3 (l:List Ent) (hl:l.length<=1000) (hb:∀ e∈l,(0<=e.stamp/\e.stamp<=4294967295)/\0<=e.sum/\e.sum<=4294967295):Fn Tryz.prog 119 [.ag [Bv l]] fun r=>r=bA (CY l):=by
 refine zS Tryz.func119 rfl ?_;conv=>whnf
 refine zM Nat (fun k=>([(1, .bp 0 0),(3,bv l k),(4,iv k)], [.box 141 [Bv l]])) (fun k=>k<=l.length) (fun k=>l.length - k) 0 (Aj _) ⟨[],tv,tA,tA,rfl,rfl,rfl⟩ ?_;intro k hk;conv=>whnf
 refine A8 (fun c1=>?_) (fun c1=>?_) <;> (repeat rw [Ac] at c1) <;> conv=>whnf
 ·have he:=hb _ (A7 (d:=⟨0,0,false⟩) c1);refine zY ?_;conv=>whnf
  refine⟨by first | omega | (refine⟨rfl,?_,?_⟩ <;> first | omega | (simp only [Aa];done) | (simp only [Aa];omega)) | (simp only [Aa];omega),?_⟩;conv=>whnf
  have hlt:(CY (l.take k)).length<=9000:=by rw [Fk,Ar];omega
  have p1:=ER (CY (l.take k)) (l.getD k ⟨0,0,false⟩).stamp 4 (by omega) he.1 (by decide);have p2:=ER (CY (l.take k) ++ leB 4 (l.getD k ⟨0,0,false⟩).stamp.toNat) (l.getD k ⟨0,0,false⟩).sum 4 (by rw [Ai,leB_len];omega) he.2 (by decide);have p3:=ER (CY (l.take k) ++ leB 4 (l.getD k ⟨0,0,false⟩).stamp.toNat ++ leB 4 (l.getD k ⟨0,0,false⟩).sum.toNat) (Dj (l.getD k ⟨0,0,false⟩).lost) 1 (by rw [Ai,Ai,leB_len,leB_len];omega) (by unfold Dj;split <;> omega) (by decide);have hst:bv l (k+1)=bA (CY (l.take k) ++ leB 4 (l.getD k ⟨0,0,false⟩).stamp.toNat ++ leB 4 (l.getD k ⟨0,0,false⟩).sum.toNat ++ leB 1 (Dj (l.getD k ⟨0,0,false⟩).lost).toNat):=by
   rw [bv,N2 c1,J5];rw [Ab,Af c1];simp [rowB,A6]
  obtain⟨L,hLe⟩:∃ L,(l.getD k ⟨0,0,false⟩).lost=L:=⟨_,rfl⟩;rw [hLe] at p3 hst;rcases k with _ | k
  all_goals
   refine z7 tys_ok mixed [0,1,2,4,5,3,6,7] (by kernel_rfl) ?_;conv=>whnf
   refine zX _ ?_ (zG (p1) rfl ?_)
   ·repeat' (first | exact trivial | exact fun _ _ h=>h | exact Bt _ _ | refine Ad ?_ ?_ | refine Be ?_)
   rintro _ rfl;conv=>whnf
   refine zX _ ?_ (zG (p2) rfl ?_)
   ·repeat' (first | exact trivial | exact fun _ _ h=>h | exact Bt _ _ | refine Ad ?_ ?_ | refine Be ?_)
   rintro _ rfl;conv=>whnf
   refine zY ?_;conv=>whnf
   rw [Ac,hLe];cases L
  all_goals
   conv=>whnf
   refine z_ p3 ?_;refine⟨_,by omega,by omega, [],tv,⟨rfl,hst.symm,AL (by omega),tv⟩,tA,rfl,rfl,rfl⟩
 ·have ek:k=l.length:=by omega
  rcases k with _ | k
  ·have e:l=[]:=AZ.1 ek.symm;subst e;exact⟨bA (CY []),Bt 1 _,rfl⟩
  ·conv=>whnf
   exact⟨_,ri,by rw [ek,As];rfl⟩
theorem XT (g:Geo) (hg:Bq g=true):Fn Tryz.prog 120 [.ag (AT g)] fun r=>r = .ag [Bv (Fm g)]:=by
 obtain⟨h1,h2,h3,h4,h5⟩:=Aq.1 hg;refine zS Tryz.func120 rfl ?_;conv=>whnf
 have w1:IntKind.i64.wrap (g.d+1)=g.d+1:=by rw [IntKind.wrap_i64];omega
 refine zM Nat (fun k=>([(1, .bp 0 0),(2, .bp 1 0),(3, .bp 2 0),(4,iv k)], [.box 23 (AT g), .box 141 [.v (.slice none 0 0)], .box 141 [.ow 3 k], .row 194 3 ((List.replicate k ent0).map Co)])) (fun k=>(k:Int)<=g.d+1) (fun k=>(g.d+1 - k).toNat) 0 (show (0:Int)<=g.d+1 by omega) ⟨[(1002000,194,3)],tA,tA,tA,rfl,rfl,rfl⟩ ?_;intro k hk;conv=>whnf
 refine A8 (fun c1=>?_) (fun c1=>?_) <;> (repeat rw [Ac] at c1) <;> conv=>whnf
 ·refine z7 tys_ok mixed [0,1,2,3,4,5,6,7] (by kernel_rfl) ?_;conv=>whnf
  repeat' (refine Ad (by first | omega | exact of_decide_eq_true rfl) ?_;conv=>whnf)
  have e0:=MX 0 zero8 (by decide);refine zO (e0).go ?_;conv=>whnf
  repeat' (refine Ad (by first | rfl | omega | (simp;done) | (simp only [Aa];omega)) ?_;conv=>whnf)
  refine zX _ ?_ (zG (e0) rfl ?_)
  ·repeat' (first | exact trivial | exact fun _ _ h=>h | exact Bt _ _ | exact UY zero8 rfl rfl | refine Ad ?_ ?_ | refine Be ?_)
  rintro _ rfl;conv=>whnf
  repeat' (first | (refine Ad (by first | rfl | omega) ?_;conv=>whnf) | fail)
  refine⟨⟨by rw [Aa,Bk],by omega⟩,?_⟩;conv=>whnf
  exact⟨k+1,by omega,by omega, [],tv,⟨rfl,rfl,rfl,AL (by omega),tv⟩,⟨rfl,rfl,rfl,by rw [DJ,A9];rfl,tv⟩,rfl,rfl,rfl⟩
 ·refine⟨(by rw [Aa,Bk]),?_⟩;conv=>whnf
  have ek:k=(g.d+1).toNat:=by omega
  refine⟨.ag [Bv (Fm g)],Be ⟨Ba (Fm g) ?_ ?_,tv⟩,rfl⟩
  ·rw [Fm,Bk,ek]
  ·rw [Fm,ek]
theorem LZ (addr stamp:Int) (p:List UInt8) (hok:Vj addr stamp p):Fn Tryz.prog 216 [.ag [iv addr,iv stamp,bA p]] fun r=>r = .tp [bA (Bp addr stamp p),iv 0]:=by
 refine⟨⟨_,Tryz.func216,rfl,by decide⟩,fun c0 us hd hM _ hr=>?_⟩;obtain⟨u,rfl,h⟩:=al hr;simp only [Rd,RdL] at h;obtain⟨xs,rfl,a,_,rfl,rfl,b,_,rfl,rfl,d,_,rfl,h3,rfl⟩:=h;refine(W6 addr stamp d p c0.w c0.M (IF (by simpa only [Rd,bA] using h3)) hok).mono ?_;rintro e w' ⟨q,rfl,ho,hB⟩;exact⟨_,_,rfl,rfl,hB,Pb (Ww ho hM) (Np _)⟩
theorem PY (g:Geo) (x:Rc) (copy slot:Int) (hl:x.img.bytes.length<=100000):Fn Tryz.prog 198 [.ag (AT g), .ag (G4 x),iv copy,iv slot] fun r=>r = .tp [bA (if EE g x&&Iu g copy slot then Ca g x copy slot else []), .v (FM (EE g x&&Iu g copy slot))]:=by
 have hb:=TR g x hl;have hL:=RU g copy slot;have no:∀ (c:Ctx) (v:Value),Rd (.tp [.v (.slice none 0 0),iv 1]) c v->Rd (.tp [bA [],iv 1]) c v:=fun c v h=>by
  simp only [Rd,RdL] at h |-
  obtain⟨xs,rfl,y,ys,rfl,rfl,h⟩:=h;exact⟨_,rfl,_,_,rfl,Bt 1 (fun i=> [.v (.int .u8 (([]:List UInt8).getD i 0).toNat)]) c (.slice none 0 0) (by simp [Rd]),h⟩
 cases hok:EE g x with
 | false=>
  rw [hok] at hb;refine zS Tryz.func198 rfl ?_;conv=>whnf
  refine z_ hb ?_;exact⟨_,no,rfl⟩
 | true=>
  have hg:Bq g=true:=by simp only [EE,Ae] at hok;exact hok.1
  rw [hok] at hb;rw [hg] at hL;cases hl2:Iu g copy slot with
  | false=>
   rw [hl2] at hL;refine zS Tryz.func198 rfl ?_;conv=>whnf
   refine z_ hb ?_;conv=>whnf
   refine z_ hL ?_;exact⟨_,no,rfl⟩
  | true=>
   rw [hl2] at hL;have h1:=HH hg hl2;have h2:=OZ hok;have h3:=EZ hok;have hm:=LZ (By g copy slot) x.seq (ES x) ⟨h1.1,h1.2,h2.1,h2.2,by omega⟩;refine zS Tryz.func198 rfl ?_;conv=>whnf
   refine z_ hb ?_;conv=>whnf
   refine z_ hL ?_;conv=>whnf
   refine z_ hm ?_;exact⟨_,ri,rfl⟩
theorem IK (x:Rc):rowB (CB x) szR=leB 1 x.kind.toNat ++ (leB 4 x.seq.toNat ++ (leB 4 x.epoch.toNat ++ (leB 1 x.at_.toNat ++ leB 1 x.of_.toNat))):=by
 simp [rowB,CB,szR]
theorem Pq {L:List UInt8} {n:Nat} {es:List (List AV)} (hn:n=L.length) (he:es=L.map Eo) (c:Ctx) (v:Value) (h:Rd (.sl 1 n fun i=>es.getD i []) c v):Rd (bA L) c v:=by
 subst he;exact zC hn (fun i hi=>Bg (f:=Eo) (l:=L) (d:=0) (hn ▸ hi)) h
theorem T9 (g:Geo) (x:Rc) (hok:EE g x=true):Fn Tryz.prog 146 [.ag (G4 x)] fun r=>r=bA (ES x):=by
 obtain⟨K,S,E,A,O,k1,k2,k3,k4,k5,hS,hE⟩:=Yr hok;have p1:=OK (leB 1 K) S 4 (by rw [leB_len];decide) hS (by decide);have p2:=Is (leB 1 K ++ leB 4 S) (E:Nat) 4 (by simp [leB_len]) (by omega) (by decide);have eK : [[AV.v (.int .u8 (IntKind.u8.wrap x.kind))]]=(leB 1 K).map Eo:=by
  rw [k1];show _=[[AV.v (.int .u8 ((UInt8.ofNat (K % 256)).toNat:Nat))]];rw [BD (show K % 256<256 by omega),IntKind.wrap_u8];rfl
 refine zS Tryz.func146 rfl ?_;conv=>whnf
 apply zV (0) tys_ok mixed (.o [0,1,2,4,5,7,8,3,6,9,10] .fin) (by kernel_rfl);conv=>whnf
 (refine zO p1.go ?_;(conv=>whnf);refine Ad rfl ?_;(conv=>whnf);refine zX [bA (leB 1 K),iv S,iv 4] ⟨Pq rfl eK,by rw [k2];exact fun _ _ h=>h,ri,tv⟩ ?_;refine z_ p1 ?_)
 conv=>whnf
 (rw [k3];refine zW p2 rfl ?_;rintro _ _ ⟨rfl,rfl⟩)
 refine⟨rfl,?_⟩;refine⟨⟨by simp,by simp [leB_len]⟩,?_⟩;have eR:List.map Eo (leB 1 K ++ leB 4 S ++ leB 4 ((E:Nat):Int).toNat) ++ [[AV.v (.int .u8 (IntKind.u8.wrap x.at_))], [AV.v (.int .u8 (IntKind.u8.wrap x.of_))]]=(rowB (CB x) szR).map Eo:=by
  rw [IK,k1,k2,k3,k4,k5];have e8:∀ n:Nat, [[AV.v (.int .u8 (IntKind.u8.wrap (n:Int)))]]=(leB 1 n).map Eo:=fun n=>by
   show _=[[AV.v (.int .u8 ((UInt8.ofNat (n % 256)).toNat:Nat))]];rw [BD (show n % 256<256 by omega),IntKind.wrap_u8];rfl
  simp only [A9,<-e8,Ac,A6];rfl
 rw [eR];conv=>whnf
 by_cases hk:x.kind=1
 ·rw [show (x.kind != 1)=false by simpa using hk];conv=>whnf
  repeat' (refine zY ?_;conv=>whnf)
  obtain⟨Z,W,z1,z2,z3,z4⟩:=Ys hok hk;have hpt:=Mj x.img.bytes z4;have hR11:(rowB (CB x) szR).length=11:=by rw [IK];simp [leB_len]
  have hA:(leB 1 K ++ leB 4 S ++ leB 4 ((E:Nat):Int).toNat).length+2=(List.map Eo (rowB (CB x) szR)).length:=by rw [Aa,hR11];simp [leB_len]
  have hA2:(leB 1 K ++ leB 4 S ++ leB 4 ((E:Nat):Int).toNat).length+2+2<=1000000000:=by simp [leB_len]
  have e8:∀ n:Nat, [[AV.v (.int .u8 (IntKind.u8.wrap (n:Int)))]]=(leB 1 n).map Eo:=fun n=>by
   show _=[[AV.v (.int .u8 ((UInt8.ofNat (n % 256)).toNat:Nat))]];rw [BD (show n % 256<256 by omega),IntKind.wrap_u8];rfl
  obtain⟨Q,hQ⟩:∃ Q,Q=rowB (CB x) szR ++ (leB 1 Z ++ leB 1 W):=⟨_,rfl⟩;have hB:ES x=Q ++ (UInt8.ofNat x.img.bytes.length::x.img.bytes):=by
   unfold ES;rw [if_pos hk,hQ,A6];unfold I4;rw [z1,z2];simp [rowB]
  have eQ:List.map Eo (rowB (CB x) szR) ++ [[AV.v (.int .u8 (IntKind.u8.wrap (Z:Int)))], [AV.v (.int .u8 (IntKind.u8.wrap (W:Int)))]]=Q.map Eo:=by
   rw [hQ,A9,A9,<-e8,<-e8];rfl
  have hQl:Q.length=13:=by rw [hQ];simp [leB_len,hR11]
  have hP:(UInt8.ofNat x.img.bytes.length::x.img.bytes).length=(List.map Eo (UInt8.ofNat x.img.bytes.length::x.img.bytes)).length:=(Aa _).symm;have hP2:(UInt8.ofNat x.img.bytes.length::x.img.bytes).length<=256:=by rw [Al];omega
  have hQ1:(leB 1 K ++ leB 4 S ++ leB 4 ((E:Nat):Int).toNat).length+2+2=(List.map Eo Q).length:=by rw [Aa,hQl];simp [leB_len]
  have hQ2:(leB 1 K ++ leB 4 S ++ leB 4 ((E:Nat):Int).toNat).length=9:=by simp [leB_len]
  have hF1:(leB 1 K ++ leB 4 S ++ leB 4 ((E:Nat):Int).toNat).length+2+2+(UInt8.ofNat x.img.bytes.length::x.img.bytes).length=(List.map Eo Q ++ List.map Eo (UInt8.ofNat x.img.bytes.length::x.img.bytes)).length:=by rw [hQ1,hP];exact List.length_append.symm
  have hF2:(leB 1 K ++ leB 4 S ++ leB 4 ((E:Nat):Int).toNat).length+2+2+(UInt8.ofNat x.img.bytes.length::x.img.bytes).length=(Q ++ (UInt8.ofNat x.img.bytes.length::x.img.bytes)).length:=by rw [hQ1,Aa];exact List.length_append.symm
  by_cases hw:x.img.what = -1;rw [show (x.img.what == -1)=true by simpa using hw];conv=>whnf
  have hW:(254:Int)=(W:Int):=by rw [<-z2,hw];rfl
  rotate_left 1;rw [show (x.img.what == -1)=false by simpa using hw];conv=>whnf
  have hW:x.img.what=(W:Int):=by rw [<-z2];unfold Ds;rw [if_neg hw]
  all_goals
   apply zV (2048) tys_ok mixed (.o [0,1,2,3,4,5,6,9,10] (.two 7 (.two 8 (.o [11,12,13,14] .fin) 11 (.o [8,12,13,14] .fin)) 11 (.o [7,8,12,13,14] .fin))) (by kernel_rfl);refine Ad ?_ ?_;refine Ad ?_ ?_;conv=>whnf
   try (refine tJ ?_;conv=>whnf)
   try (refine tK ?_;conv=>whnf)
   (rw [z1,hW,eQ];refine zW hpt rfl ?_;rintro _ _ ⟨rfl,rfl⟩)
   conv=>whnf
   try (refine tJ ?_;conv=>whnf)
   try (refine tK ?_;conv=>whnf)
   rotate_left 1;conv=>whnf
   try (refine tJ ?_;conv=>whnf)
   try (refine tK ?_;conv=>whnf)
   (rw [z1,hW,eQ];refine zW hpt rfl ?_;rintro _ _ ⟨rfl,rfl⟩)
   conv=>whnf
   try (refine tJ ?_;conv=>whnf)
   try (refine tK ?_;conv=>whnf)
   rotate_left 1;conv=>whnf
   try (refine tJ ?_;conv=>whnf)
   try (refine tK ?_;conv=>whnf)
   (rw [z1,hW,eQ];refine zW hpt rfl ?_;rintro _ _ ⟨rfl,rfl⟩)
   conv=>whnf
   try (refine tJ ?_;conv=>whnf)
   try (refine tK ?_;conv=>whnf)
   rotate_left 1;all_goals
    refine⟨hF1,?_⟩;conv=>whnf
    rw [hB];exact⟨bA _,Pq hF2 List.map_append.symm,rfl⟩
 ·rw [show (x.kind != 1)=true by simpa using hk];conv=>whnf
  have hB:ES x=rowB (CB x) szR:=by unfold ES;rw [if_neg hk,AK]
  rw [hB];refine Ad (by rw [Aa,IK];simp [leB_len]) ?_;conv=>whnf
  exact⟨bA _,Pq (by rw [IK];simp [leB_len]) rfl,rfl⟩
theorem Gq (g:Geo) (x:Rc) (copy slot:Int) (hok:EE g x=true) (hl:Iu g copy slot=true):Fn Tryz.prog 74 [.ag (AT g), .ag (G4 x),iv copy,iv slot] fun r=>r=bA (Ca g x copy slot):=by
 have hg:Bq g=true:=by unfold EE at hok;simp only [Ae] at hok;exact hok.1
 have hb:=HH hg hl;have hs:=OZ hok;have hn:=EZ hok;have h1:=Du g copy slot hg hl;have h2:=T9 g x hok;have h3:=FF (By g copy slot) x.seq (ES x) ⟨hb.1,by omega,hs.1,hs.2,by omega⟩;refine zS Tryz.func74 rfl ?_;conv=>whnf
 apply zD (0) tys_ok mixed (.o [0,1,2,4,5,6,3,7,8,9] .fin) [8,9,10,11,12,13,14,15,16,17] (by kernel_rfl)
 ·conv=>whnf
  refine z_ h1 ?_;conv=>whnf
  refine z_ h2 ?_;conv=>whnf
  refine z_ h3 ?_;exact tA
 exact⟨_,ri,rfl⟩
theorem Yq {x:Int} (c:Ctx) (u:Value) (h:Rd (.sl 1 1 fun i=> [[AV.v (.int .i64 x)]].getD i []) c u):Rd (iA [x]) c u:=
 zC (n:=1) (n':= [x].length) rfl (fun i hi=>by
  have:i=0:=by simp at hi;omega
  subst this;rfl) h
theorem VX (how:Int) (c:Ctx) (u:Value) (h:Rd (.tp [.ag [iv 0,iv 0,iv 0,iv 0,iv 0,iv 0,iv 0, .v (.slice none 0 0)], .v (.slice none 0 0),iv how]) c u):Rd (.tp [.ag (G4 zeroC),iA [],iv how]) c u:=by
 refine BX ?_ c u h;exact⟨Be ⟨ri,ri,ri,ri,ri,ri,ri,Bt _ _,tv⟩,Bt _ _,ri,tv⟩
theorem Ye (r:Rc) (c:Ctx) (u:Value) (h:Rd (.tp [.ag (G4 r), .v (.slice none 0 0),iv 1]) c u):Rd (.tp [.ag (G4 r),iA [],iv 1]) c u:=by
 refine BX ?_ c u h;exact⟨fun _ _ h=>h,Bt _ _,fun _ _ h=>h,tv⟩
theorem Yd (r:Rc) (x:Int) (c:Ctx) (u:Value) (h:Rd (.tp [.ag (G4 r), .sl 1 1 fun i=> [[AV.v (.int .i64 x)]].getD i [],iv 1]) c u):Rd (.tp [.ag (G4 r),iA [x],iv 1]) c u:=by
 refine BX ?_ c u h;exact⟨fun _ _ h=>h,Yq,fun _ _ h=>h,tv⟩
theorem VW (g:Geo) (a:An) (x y:Gt) (slot seq at_ of_ left:Int) (hg:Bq g=true) (hs:CK slot 0 (g.sl - 1)=true) (hx:x.bytes.length<=100000) (hy:y.bytes.length<=100000) :
  Fn Tryz.prog 245 [.ag (AT g), .ag (Ew a), .ag (Dz x), .ag (Dz y),iv slot,iv seq,iv at_,iv of_,iv left]
   fun r=>r = .tp [.ag (G4 (Fe g a x y slot seq at_ of_ left).1),iA (Fe g a x y slot seq at_ of_ left).2.1, .v (.int .i64 (Fe g a x y slot seq at_ of_ left).2.2)]:=by
 have s2:=Mp g x 0 slot hx hg (by rw [Iu,hs];rfl);have s3:=Mp g y 1 slot hy hg (by rw [Iu,hs];rfl);unfold Fe;generalize Ep g x 0 slot=p at s2 |-
 generalize Ep g y 1 slot=q at s3 |-
 have i1:∀ r,p=some r->Fn Tryz.prog 276 [.ag (G4 r), .ag (Ew a),iv seq,iv at_,iv of_,iv left] fun x=>x = .v (.bool (ED p a seq at_ of_ left)):=by
  rintro r rfl;exact SE r a seq at_ of_ left
 have i2:∀ r,q=some r->Fn Tryz.prog 276 [.ag (G4 r), .ag (Ew a),iv seq,iv at_,iv of_,iv left] fun x=>x = .v (.bool (ED q a seq at_ of_ left)):=by
  rintro r rfl;exact SE r a seq at_ of_ left
 have n1:p=none->ED p a seq at_ of_ left=false:=by rintro rfl;rfl
 have n2:q=none->ED q a seq at_ of_ left=false:=by rintro rfl;rfl
 generalize ED p a seq at_ of_ left=b1 at i1 n1 |-
 generalize ED q a seq at_ of_ left=b2 at i2 n2 |-
 rcases p with _ | p <;> rcases q with _ | q <;> cases b1 <;> cases b2
 all_goals first
  | exact absurd (n1 rfl) (by decide)
  | exact absurd (n2 rfl) (by decide)
  | skip
 all_goals
  refine zS Tryz.func245 rfl ?_;conv=>whnf
  repeat' (first | (refine zY ?_;conv=>whnf) | (refine A8 (fun _=>?_) (fun _=>?_) <;> conv=>whnf) | (refine z_ s2 ?_;conv=>whnf) | (refine z_ s3 ?_;conv=>whnf) | (refine z_ (i1 _ rfl) ?_;conv=>whnf) | (refine z_ (i2 _ rfl) ?_;conv=>whnf) | (refine Ad (by first | omega | exact of_decide_eq_true rfl) ?_;conv=>whnf) | fail)
  first
   | exact⟨_,fun c u h=>VX 2 c u h,rfl⟩
   | exact⟨_,fun c u h=>VX 3 c u h,rfl⟩
   | exact⟨_,fun c u h=>Ye _ c u h,rfl⟩
   | exact⟨_,fun c u h=>Yd _ _ c u h,rfl⟩
end
end Go.Proofs.YtkolckdakddggaaGreatDoor.A
namespace Go.Proofs.YtkolckdakddggaaGreatDoor
section

theorem LT {l m:List UInt8} {n:Nat} (h:l.length=n):(l ++ m).take n=l:=by subst h;simp
theorem M_ {l m:List UInt8} {n:Nat} (h:l.length=n):(l ++ m).drop n=m:=by subst h;simp
theorem Hx (a s:Int) (p:List UInt8):(EQ a s p).length=p.length+7:=by
 simp only [EQ,Ai,Al,leB_len]
theorem Et (a s:Int) (p:List UInt8):(Bp a s p).length=p.length+11:=by
 simp only [Bp,Ai,Hx,leB_len]
theorem K6 {a s:Int} {p:List UInt8} (h:Vj a s p):Di (Bp a s p)=0/\CZ (Bp a s p)=a/\Cv (Bp a s p)=s/\C9 (Bp a s p)=p:=by
 obtain⟨h1,h2,h3,h4,h5⟩:=h;have hl:=Et a s p;have hs:=IG (EQ a s p);have e1:Bp a s p=EQ a s p ++ leB 4 (CR (EQ a s p)):=rfl;have e2:Bp a s p=(UInt8.ofNat p.length::p) ++ (leB 2 a.toNat ++ (leB 4 s.toNat ++ leB 4 (CR (EQ a s p)))):=by rw [e1];simp only [EQ,A6]
 have e3:Bp a s p=((UInt8.ofNat p.length::p) ++ leB 2 a.toNat) ++ (leB 4 s.toNat ++ leB 4 (CR (EQ a s p))):=by rw [e2,A6]
 have hpn:Ct (Bp a s p)=p.length:=by
  rw [e2];show (UInt8.ofNat p.length).toNat=p.length;rw [BD];exact Nat.lt_of_le_of_lt h5 (by decide)
 refine⟨?_,?_,?_,?_⟩
 ·unfold Di;rw [if_neg (by omega),if_neg,if_pos]
  ·refine⟨?_,by omega⟩;simp only [FG,decide_eq_true_eq];omega
  ·rw [hl,show p.length+11 - 4=p.length+7 by omega,e1,M_ (Hx a s p),LT (Hx a s p),leN_leB _ _ (by have:(256:Nat) ^ 4=4294967296:=rfl;omega)];simp
 ·unfold CZ;rw [hl,show p.length+11 - 10=p.length+1 by omega,e2,M_ (by simp),LT (leB_len 2 _),leN_leB _ _ (by have:(256:Nat) ^ 2=65536:=rfl;omega)];omega
 ·unfold Cv;rw [hl,show p.length+11 - 8=p.length+3 by omega,e3,M_ (by simp [leB_len]),LT (leB_len 4 _),leN_leB _ _ (by have:(256:Nat) ^ 4=4294967296:=rfl;omega)];omega
 ·unfold C9;rw [hl,show p.length+11 - 11=p.length by omega,e2];simp
end
end Go.Proofs.YtkolckdakddggaaGreatDoor
namespace Go.Proofs.YtkolckdakddggaaGreatDoor.A
section
open Go.RowKit
def KH (x:Int) (n:Int):Int:=IntKind.i64.wrap ((IntKind.u64.wrap x).tmod n)
theorem Fz {x n:Int} (h:0<n) (h2:n<=4611686018427387904):0<=KH x n/\KH x n<n:=by
 have h0:0<=IntKind.u64.wrap x:=by rw [IntKind.wrap_u64];omega
 have h1:=Bw n h0;have h3:=Bh (IntKind.u64.wrap x) h;unfold KH;rw [wi (by omega)];exact⟨h1,h3⟩
def Li (z d sp sl an:Int):Geo:=⟨1+KH z 4,1+KH d 4,KH sp 3,14+KH sl 17,1+KH an 3⟩
theorem PA (z d sp sl an:Int):Bq (Li z d sp sl an)=true:=by
 have h1:=Fz (x:=z) (n:=4) (by decide) (by decide);have h2:=Fz (x:=d) (n:=4) (by decide) (by decide);have h3:=Fz (x:=sp) (n:=3) (by decide) (by decide);have h4:=Fz (x:=sl) (n:=17) (by decide) (by decide);have h5:=Fz (x:=an) (n:=3) (by decide) (by decide);refine Aq.2 ?_;simp only [Li];omega
theorem S5 (z d sp sl an:Int):Fn Tryz.prog 21 [iv z,iv d,iv sp,iv sl,iv an] fun r=>r = .ag (AT (Li z d sp sl an)):=by
 have h1:=Fz (x:=z) (n:=4) (by decide) (by decide);have h2:=Fz (x:=d) (n:=4) (by decide) (by decide);have h4:=Fz (x:=sl) (n:=17) (by decide) (by decide);have h5:=Fz (x:=an) (n:=3) (by decide) (by decide);refine zS Tryz.func21 rfl ?_;conv=>whnf
 repeat' (refine Ad (by decide) ?_;conv=>whnf)
 refine⟨_,fun _ _ h=>h,?_⟩;simp only [AT,Li];rw [<-wi (n:=1+KH z 4) (by omega),<-wi (n:=1+KH d 4) (by omega),<-wi (n:=14+KH sl 17) (by omega),<-wi (n:=1+KH an 3) (by omega)];rfl
def Cc (g:Geo) (s:ByteArray):An:=⟨1,0,0,1,0,s,List.replicate g.z.toNat ⟨(List.range (g.d+1).toNat).map Int.ofNat,g.d+1,0⟩⟩
def H5 (n:Nat):List (List AV):=(List.range n).map fun i=> [iv (i:Nat)]
theorem Lo (n:Nat):H5 (n+1)=H5 n ++ [[iv (n:Nat)]]:=by simp [H5,Bm]
theorem RK {n i:Nat} (h:i<n):(H5 n).getD i []=[iv (i:Nat)]:=Fa h
def N_ (g:Geo):List AV:= [.sl 1 (g.d+1).toNat fun i=>(H5 (g.d+1).toNat).getD i [],iv (g.d+1),iv 0]
theorem Ur (g:Geo):SubL (N_ g) (DU ⟨(List.range (g.d+1).toNat).map Int.ofNat,g.d+1,0⟩):=
 ⟨fun _ _ h=>zC (by simp) (fun i hi=>by rw [RK hi,Fa hi];rfl) h,fun _ _ h=>h,fun _ _ h=>h,tv⟩
theorem Xb (g:Geo) (s:ByteArray) (hg:Bq g=true):Fn Tryz.prog 117 [.ag (AT g), .v (.string s)] fun r=>r = .ag (Ew (Cc g s)):=by
 obtain⟨h1,h2,h3,h4,h5⟩:=Aq.1 hg;have w1:IntKind.i64.wrap (g.d+1)=g.d+1:=wi (by omega);refine zS Tryz.func117 rfl ?_;conv=>whnf
 refine zM Nat (fun k=>([(2, .bp 0 0),(4, .bp 1 0),(5, .bp 2 0),(6,iv k)], [.box 23 (AT g), .box 28 [iv 0,iv 0,iv 0,iv 0,iv 0, .v (.string ⟨#[]⟩), .v (.slice none 0 0)], .box 28 [iv 1,iv 0,iv 0,iv 1,iv 0, .v (.string s), .ow 3 k], .row 53 3 (List.replicate k (N_ g))])) (fun k=>k<=g.z.toNat) (fun k=>g.z.toNat - k) 0 (Aj _) ⟨[(1002006,53,3)],tA,tA,tA,rfl,rfl,rfl⟩ ?_;intro k hk;conv=>whnf
 refine A8 (fun t1=>?_) (fun t1=>?_) <;> (repeat rw [Ac] at t1) <;> conv=>whnf
 ·refine zM Nat (fun j=>([(2, .bp 0 0),(4, .bp 1 0),(5, .bp 2 0),(6,iv k),(7, .bp 4 0),(8,iv j)], [.box 23 (AT g), .box 28 [iv 0,iv 0,iv 0,iv 0,iv 0, .v (.string ⟨#[]⟩), .v (.slice none 0 0)], .box 28 [iv 1,iv 0,iv 0,iv 1,iv 0, .v (.string s), .ow 3 k], .row 53 3 (List.replicate k (N_ g)), .box 53 [.ow 5 j,iv (g.d+1),iv 0], .row 3 1 (H5 j)])) (fun j=>j<=(g.d+1).toNat) (fun j=>(g.d+1).toNat - j) 0 (Aj _) ⟨[(1004000,3,1)],tA,tA,⟨rfl,rfl,rfl,rfl,by rw [w1];rfl,rfl,tv⟩,rfl,rfl,rfl⟩ ?_;intro j hj;conv=>whnf
  refine A8 (fun t2=>?_) (fun t2=>?_) <;> (repeat rw [Ac] at t2) <;> conv=>whnf
  ·refine⟨rfl,?_⟩;refine⟨⟨by simp [H5],by omega⟩,?_⟩;exact⟨j+1,by omega,by omega,(Wk.plain (by repeat' first | exact trivial | exact rfl | refine Ad ?_ ?_ | exact AL (by omega) | exact congrArg (AB.row _ _) (Lo j)) (by repeat' first | exact trivial | exact rfl | refine Ad ?_ ?_ | exact AL (by omega) | exact congrArg (AB.row _ _) (Lo j)) rfl rfl rfl)⟩
  ·have ej:j=(g.d+1).toNat:=by omega
   refine⟨(by simp [H5]),?_⟩;refine⟨rfl,?_⟩;refine⟨⟨by simp,by omega⟩,?_⟩;conv=>whnf
   have er:AB.row 53 3 (List.replicate (k+1) (N_ g)) = .row 53 3 (List.replicate k (N_ g) ++ [[AV.sl 1 j fun i=>(H5 j).getD i [],iv (g.d+1),iv 0]]):=by
    rw [DJ,N_,<-ej]
   exact⟨k+1,by omega,by omega,(Wk.plain (by repeat' first | exact trivial | exact rfl | refine Ad ?_ ?_ | exact AL (by omega) | exact er) (by repeat' first | exact trivial | exact rfl | refine Ad ?_ ?_ | exact AL (by omega) | exact er) rfl rfl rfl)⟩
 ·refine⟨by simp,?_⟩;conv=>whnf
  have ek:k=g.z.toNat:=by omega
  refine⟨.ag (Ew (Cc g s)),fun c u h=>?_,rfl⟩;refine Be ?_ c u h;refine⟨fun _ _ h=>h,fun _ _ h=>h,fun _ _ h=>h,fun _ _ h=>h,fun _ _ h=>h,fun _ _ h=>h,fun c u h=>Rd.sub (by simp [Cc,ek]) (fun i hi=>?_) h,tv⟩;rw [Cc,Ab,Ab,Dd hi,Dd (by omega)];exact Ur g
theorem NA {g:Geo} {r:Rc} {copy slot:Int} (hg:Bq g=true) (hok:EE g r=true) (hl:Iu g copy slot=true):Ep g ⟨0,Ca g r copy slot⟩ copy slot=some r:=by
 have hb:=HH hg hl;have hs:=OZ hok;have hn:=EZ hok;obtain⟨h1,h2,h3,h4⟩:=K6 (a:=By g copy slot) (s:=r.seq) (p:=ES r) ⟨hb.1,hb.2,hs.1,hs.2,by omega⟩;unfold Ep;rw [hg,hl];simp only [Ca,h1,h2,h3,h4,RF hok];rfl
theorem lab_nil:Fi []=0:=by rw [<-NW,Jz];simp
theorem Oj {g:Geo} {s:ByteArray} (hg:Bq g=true) (hs:Fi s.data.toList=0):Bj g (Cc g s)=true:=by
 obtain⟨h1,h2,h3,h4,h5⟩:=Aq.1 hg;have hp:OU ((List.range (g.d+1).toNat).map Int.ofNat) (g.d+1)=true:=by
  rcases(show g.d=1\/g.d=2\/g.d=3\/g.d=4 by omega) with h | h | h | h <;> rw [h] <;> decide
 have hh:Ee g ⟨(List.range (g.d+1).toNat).map Int.ofNat,g.d+1,0⟩=true:=by
  simp [Ee,hp,CK];omega
 simp [Bj,Cc,hs,CK];exact⟨by omega,by omega, .inr hh⟩



end
end Go.Proofs.YtkolckdakddggaaGreatDoor.A
namespace Go.Proofs.YtkolckdakddggaaGreatDoor
section
open Go.ChangeShapes Go.WideShapes Go.ChangeAt Go.RowKit Go.Deep
variable {H:Type} {enc:TypeId × Value->H}

instance:Rp Geo where
 sz:=5
 agg:=true
 pos:=by omega
 E:=fun _ _ cs g=>cs=[.int .i64 g.z, .int .i64 g.d, .int .i64 g.sp, .int .i64 g.sl, .int .i64 g.an]
 len:=fun h=>by rw [h];rfl
 one:=fun h u hu=>by rw [h] at hu;simp at hu;rcases hu with rfl | rfl | rfl | rfl | rfl <;> rfl
 mono:=fun _ h=>h
end
end Go.Proofs.YtkolckdakddggaaGreatDoor
namespace Go.Proofs.YtkolckdakddggaaGreatDoor.A
section
open Go.RowKit
def Po (w:World):Ctx:={ w:=w,M:=noM,base:=w.heap.size,dom:=0,len:=fun _=>0,rho:=fun _=>undef }
theorem Fn.any {P:Program} {f:FuncId} {args:List AV} {a:AV} (h:Fn P f args fun r=>r=a) (w:World) (hg:globOk w) (us:List Value) (hr:RdL args (Po w) us) :
  Calls P f us.toArray w fun e w'=>∃ v,e = .returned v/\Below w.heap.size w w'/\Rd a { Po w with w:=w' } v:=by
 refine(h.calls (Po w) us rfl (fun _ h=>h.elim) hg hr).mono ?_;rintro e w' ⟨v,r,rfl,rfl,h1,h2⟩;exact⟨v,rfl,h1,h2⟩
theorem Fn.anyV {P:Program} {f:FuncId} {args:List AV} {a:Value} (h:Fn P f args fun r=>r = .v a) (w:World) (hg:globOk w) (us:List Value) (hr:RdL args (Po w) us) :
  Calls P f us.toArray w fun e w'=>e = .returned a/\Below w.heap.size w w':=by
 refine(h.any w hg us hr).mono ?_;rintro e w' ⟨v,rfl,h1,h2⟩;simp only [Rd] at h2;exact⟨by rw [h2],h1⟩
end
section
open Go.RowKit Go.ChangeShapes Go.WideShapes Go.ChangeAt Go.Deep
open Go.ChangeMaps (open_string)

section
variable {H:Type} {enc:TypeId × Value->H} {w:World}
def OpenE (enc:TypeId × Value->H) (w:World) (t:TypeId) (sz:Nat) (G:List AV->Prop):Prop:=
 Tryz.prog.cellsOf t=sz/\∀ n cs x,DataW.trod enc Tryz.prog w 0 (fun _=>true) true n t cs=some x->∃ L,G L/\RdL L (Po w) cs/\(∀ u∈cs,u.oneCell'=true)/\L.length=sz
theorem OpenE.mono {t sz:Nat} {G G':List AV->Prop} (h:OpenE enc w t sz G) (hg:∀ L,G L->G' L):OpenE enc w t sz G':=
 ⟨h.1,fun n cs x hx=>let ⟨L,h1,h2⟩:=h.2 n cs x hx;⟨L,hg L h1,h2⟩⟩
structure FieldE (enc:TypeId × Value->H) (w:World) where
 t:TypeId
 sz:Nat
 G:List AV->Prop
 ok:OpenE enc w t sz G
end
section
variable {H:Type} {enc:TypeId × Value->H} {w:World}
end
end
section
open Go.RowKit
theorem Rw {g:Geo} {x:Gt} {copy slot:Int} (h:(Bq g&&Iu g copy slot)=false):Ep g x copy slot=none:=by
 unfold Ep;rw [h];rfl
theorem Mh {g:Geo} {x:Gt} {copy slot:Int} {r:Rc} (h:Ep g x copy slot=some r):EE g r=true/\Iu g copy slot=true/\r.img.bytes.length<=59:=by
 unfold Ep at h;split at h
 ·rename_i hc;simp only [Ae] at hc;split at h
  ·rename_i r' hr;split at h
   ·injection h with h
    subst h;obtain⟨h1,h2⟩:=RE hr;have h3:=EZ h1;have h4:=JS h1;refine⟨h1,hc.1.1.1.2,?_⟩;by_cases hk:r'.kind=1
    ·rw [if_pos hk] at h4;omega
    ·have:r'.img.bytes.length=0:=by
      unfold EE EP at h1;simp only [Ae] at h1;have h5:=h1.2;split at h5
      ·simp only [G7,Ae,beq_iff_eq] at h5;omega
      ·split at h5
       ·simp only [G7,Ae,beq_iff_eq] at h5;omega
       ·cases h5
     omega
   ·cases h
  ·cases h
 ·cases h
theorem Qs {p q:Option Rc} {b1 b2:Bool} {Q:Rc->Prop} (h1:b1=true->∃ r,p=some r/\Q r) (h2:b2=true->∃ r,q=some r/\Q r) :
  ((CH p q b1 b2).2.2=1/\Q (CH p q b1 b2).1/\(CH p q b1 b2).2.1.length<=1/\∀ c∈(CH p q b1 b2).2.1,c=0\/c=1)\/(((CH p q b1 b2).2.2=2\/(CH p q b1 b2).2.2=3)/\(CH p q b1 b2).2.1=[]/\(CH p q b1 b2).1=zeroC):=by
 unfold CH;cases b1 <;> cases b2
 ·by_cases h:(p.isSome || q.isSome)=true
  ·simp [h]
  ·simp [h]
 ·obtain⟨r,rfl,hr⟩:=h2 rfl;exact .inl ⟨rfl,hr,by simp,by simp⟩
 ·obtain⟨r,rfl,hr⟩:=h1 rfl;exact .inl ⟨rfl,hr,by simp,by simp⟩
 ·obtain⟨r,rfl,hr⟩:=h1 rfl;exact .inl ⟨rfl,hr,by simp,by simp⟩
theorem Qj {g:Geo} {a:An} {x:Gt} {c slot seq at_ of_ left:Int} (h:ED (Ep g x c slot) a seq at_ of_ left=true):∃ r,Ep g x c slot=some r/\EE g r=true/\r.img.bytes.length<=59/\DA r a seq at_ of_ left=true:=by
 cases hp:Ep g x c slot with
 | none=>rw [hp] at h;cases h
 | some r=>
  rw [hp] at h;obtain⟨e1, -,e3⟩:=Mh hp;exact⟨r,rfl,e1,e3,h⟩
theorem Ls {g:Geo} {a:An} {x y:Gt} {slot seq at_ of_ left:Int} (hs:0<=slot/\slot<g.sl) :
  ((Fe g a x y slot seq at_ of_ left).2.2=1/\(EE g (Fe g a x y slot seq at_ of_ left).1=true/\(Fe g a x y slot seq at_ of_ left).1.img.bytes.length<=59/\DA (Fe g a x y slot seq at_ of_ left).1 a seq at_ of_ left=true)/\(Fe g a x y slot seq at_ of_ left).2.1.length<=1/\∀ c∈(Fe g a x y slot seq at_ of_ left).2.1,Iu g c slot=true)\/
  (((Fe g a x y slot seq at_ of_ left).2.2=2\/(Fe g a x y slot seq at_ of_ left).2.2=3)/\(Fe g a x y slot seq at_ of_ left).2.1=[]/\(Fe g a x y slot seq at_ of_ left).1=zeroC):=by
 have hi:CK slot 0 (g.sl - 1)=true:=AI.2 (by omega);have o0:Iu g 0 slot=true:=by rw [Iu,hi];rfl
 have o1:Iu g 1 slot=true:=by rw [Iu,hi];rfl
 refine(Qs (Q:=fun r=>EE g r=true/\r.img.bytes.length<=59/\DA r a seq at_ of_ left=true) Qj Qj).imp (fun h=>⟨h.1,h.2.1,h.2.2.1,fun c hc=>?_⟩) id;rcases h.2.2.2 c hc with rfl | rfl
 ·exact o0
 ·exact o1
def gz:Gt:=⟨0, []⟩
def DZ (g:Geo) (pos at_:Int):Int:=(IntKind.i64.wrap (pos+at_)).tmod g.sl
def D_ (g:Geo) (a:An) (x y:List Gt) (pos seq left at_ of_:Int):Rc × Int × List Wr:=
 let s:=DZ g pos at_;let q:=Fe g a (x.getD s.toNat gz) (y.getD s.toNat gz) s seq at_ of_ left
 (q.1,q.2.2,q.2.1.map fun c=>⟨By g c s,Ca g q.1 c s⟩)
def BI (look:Int->Rc × Int × List Wr):Nat->Int->Rc->List Img->List Wr->Int × List Img × List Wr
 | 0,_,r,im,w=>(1,if r.kind=1 then im ++ [r.img] else im,w)
 | f+1,at_,r,im,w=>
  let q:=look at_
  if q.2.1≠1 then (q.2.1, [], []) else BI look f (at_+1) q.1 (if r.kind=1 then im ++ [r.img] else im) (w ++ q.2.2)
def GF (g:Geo) (a:An) (x y:List Gt) (pos seq left:Int):Int × Int × List Img × List Wr:=
 let q:=D_ g a x y pos seq left 0 0
 if q.2.1≠1 then (q.2.1,0, [], []) else
  let t:=BI (fun k=>D_ g a x y pos seq left k q.1.of_) (q.1.of_ - 1).toNat 1 q.1 [] q.2.2
  if t.1≠1 then (t.1,0, [], []) else (1,q.1.of_,t.2.1,t.2.2)
def Fv (g:Geo) (a:An) (x y:List Gt):Nat->Int->Int->Int->List Tx->List Wr->Option (List Tx × List Wr × Int)
 | 0,_,seq,_,l,w=>some (l,w,seq)
 | f+1,pos,seq,left,l,w=>
  if 0<left/\seq<=4294967295 then
   let t:=GF g a x y pos seq left
   if t.1=3 then none else if t.1≠1 then some (l,w,seq)
   else Fv g a x y f ((pos+t.2.1).tmod g.sl) (seq+1) (left - t.2.1) (l ++ [⟨seq,pos,t.2.1,t.2.2.1⟩]) (w ++ t.2.2.2)
  else some (l,w,seq)
def damaged:Int:=12
def U4 (a:An):Option (List Tx × List Wr × Int)->List Tx × List Wr × Int
 | none=>([], [],damaged)
 | some (l,w,seq)=>if seq - 1<a.last then ([], [],damaged) else (l,w,0)
theorem I8 {a:An} {l:List Tx} {w:List Wr} {seq:Int} (h:seq - 1<a.last):U4 a (some (l,w,seq))=([], [],damaged):=if_pos h
theorem Gi {a:An} {l:List Tx} {w:List Wr} {seq:Int} (h:¬seq - 1<a.last):U4 a (some (l,w,seq))=(l,w,0):=if_neg h
def E9 (g:Geo) (a:An) (x y:List Gt):List Tx × List Wr × Int:=U4 a (Fv g a x y g.sl.toNat a.pos a.seq g.sl [] [])
theorem JI {g:Geo} {pos at_:Int} (hg:Bq g=true) (hp:0<=pos/\pos<g.sl) (hat:0<=at_/\at_<=1000):0<=DZ g pos at_/\DZ g pos at_<g.sl:=by
 obtain⟨h1,h2,h3,h4,h5⟩:=Aq.1 hg;have hw:IntKind.i64.wrap (pos+at_)=pos+at_:=by rw [IntKind.wrap_i64];omega
 exact⟨Bw _ (by rw [hw];omega),Bh _ (by omega)⟩
theorem H4 {g:Geo} {a:An} {x y:List Gt} {pos seq left at_ of_:Int} (hg:Bq g=true) (hp:0<=pos/\pos<g.sl) (hat:0<=at_/\at_<=1000) :
  ((D_ g a x y pos seq left at_ of_).2.1=1/\(EE g (D_ g a x y pos seq left at_ of_).1=true/\(D_ g a x y pos seq left at_ of_).1.img.bytes.length<=59/\DA (D_ g a x y pos seq left at_ of_).1 a seq at_ of_ left=true)/\(D_ g a x y pos seq left at_ of_).2.2.length<=1)\/
  (((D_ g a x y pos seq left at_ of_).2.1=2\/(D_ g a x y pos seq left at_ of_).2.1=3)/\(D_ g a x y pos seq left at_ of_).2.2=[]/\(D_ g a x y pos seq left at_ of_).1=zeroC):=by
 refine(Ls (a:=a) (x:=x.getD (DZ g pos at_).toNat gz) (y:=y.getD (DZ g pos at_).toNat gz) (seq:=seq) (at_:=at_) (of_:=of_) (left:=left) (JI hg hp hat)).imp (fun h=>⟨h.1,h.2.1,?_⟩) (fun h=>⟨h.1,?_,h.2.2⟩)
 ·simp only [D_,Aa];exact h.2.2.1
 ·simp only [D_,h.2.1,Bn]
theorem KF {r:Rc} {g:Geo} {a:An} {seq at_ of_ left:Int} (hk:EE g r=true) (h:DA r a seq at_ of_ left=true):2<=r.of_/\r.of_<=30/\r.at_=at_/\r.at_<=r.of_ - 1/\(of_=0->r.of_<=left)/\(of_≠0->r.of_=of_):=by
 have h:=of_decide_eq_true h;unfold EE EP at hk;simp only [Ae] at hk;have h2:=hk.2;rw [if_neg h.1] at h2;split at h2
 ·simp only [FA,Ae,AI] at h2;refine⟨by omega,by omega,h.2.2.1,by omega,h.2.2.2.1,h.2.2.2.2.1⟩
 ·split at h2
  ·simp only [FA,Ae,AI,beq_iff_eq] at h2;refine⟨by omega,by omega,h.2.2.1,by omega,h.2.2.2.1,h.2.2.2.2.1⟩
  ·cases h2
@[reducible] def bC (g:Geo) (a:An) (x y:List Gt) (pos seq left:Int) (w:AV):List AV:=
 [iv g.z,iv g.d,iv g.sp,iv g.sl,iv g.an,iv a.gen,iv a.epoch,iv a.pos,iv a.seq,iv a.last, .v (.string a.label),Ig a.homes,GB x,GB y,iv pos,iv seq,iv left,w]
theorem MA (seq epoch of_:Int) {k:Nat} {l:List Img} (hk:k<l.length):(I_ seq epoch of_ (k+1) l).map G4=(I_ seq epoch of_ k l).map G4 ++ [G4 ⟨1,seq,epoch,(k:Nat),of_,l.getD k ⟨0,0, []⟩⟩]:=by
 rw [Up seq epoch of_ hk,A9,Ab,Af hk];rfl

def WB (seq epoch n:Int):List AV:= [iv 2,iv seq,iv epoch,iv n,iv (n+1),iv 0,iv 0, .v (.slice none 0 0)]
theorem PT (seq epoch:Int) (l:List Img) (i:Nat) (hi:i<l.length+1) :
  SubL ((List.map G4 (I_ seq epoch (l.length+1) l.length l) ++ [WB seq epoch l.length]).getD i [])
   (G4 ((EY seq epoch l).getD i ⟨0,0,0,0,0,⟨0,0, []⟩⟩)):=by
 have hlk:(I_ seq epoch (l.length+1) l.length l).length=l.length:=by rw [I3];omega
 rcases B_ i l.length with h | h
 ·have e1:(List.map G4 (I_ seq epoch (l.length+1) l.length l) ++ [WB seq epoch l.length]).getD i []=G4 ((EY seq epoch l).getD i ⟨0,0,0,0,0,⟨0,0, []⟩⟩):=by
   unfold EY;rw [Ki (by rw [Aa,hlk];exact h),Ki (by rw [hlk];exact h)];exact Bg (by rw [hlk];exact h)
  rw [e1];exact SubL.refl _
 ·obtain rfl:i=l.length:=by omega
  unfold EY;rw [IT (by rw [Aa,hlk];omega),IT (by rw [hlk];omega),Aa,hlk,C_];simp only [List.getD_cons_zero,G4,noImg,WB];exact⟨fun _ _ h=>h,fun _ _ h=>h,fun _ _ h=>h,fun _ _ h=>h,fun _ _ h=>h,fun _ _ h=>h,fun _ _ h=>h,Bt _ _,tv⟩
theorem H0 (seq epoch:Int) (l:List Img):(EY seq epoch l).length=l.length+1:=by
 unfold EY;rw [Ai,I3];simp
theorem RC (seq epoch:Int) (l:List Img) (hl:l.length<=1000000) (hb:∀ x∈l,x.bytes.length<=1000000000):Fn Tryz.prog 71 [iv seq,iv epoch,DH l] fun r=>r=Mo (EY seq epoch l):=by
 refine zS Tryz.func71 rfl ?_;conv=>whnf
 refine zM Nat (fun k=>([(0,iv seq),(1,iv epoch),(2,DH l),(7, .ow 0 k),(8,iv k)], [.row 152 8 ((I_ seq epoch (l.length+1) k l).map G4)])) (fun k=>k<=l.length) (fun k=>l.length - k) 0 (Aj _) ⟨[(7,152,8)],tA,tA,tA,rfl,rfl,rfl⟩ ?_;rintro k hk;have hlk:=I3 seq epoch (l.length+1) k l;conv=>whnf
 refine Ao (fun h2=>?_) (fun h2=>?_) <;> simp at h2 <;> conv=>whnf
 ·refine zF tys_ok mixed (by kernel_rfl) ?_;conv=>whnf
  refine⟨by first | omega | (refine⟨rfl,?_,?_⟩ <;> first | omega | (simp only [Aa];done) | (simp only [Aa];omega)) | (simp only [Aa];omega),?_⟩;conv=>whnf
  refine⟨by first | omega | (refine⟨rfl,?_,?_⟩ <;> first | omega | (simp only [Aa];done) | (simp only [Aa];omega)) | (simp only [Aa];omega),?_⟩;conv=>whnf
  refine⟨by first | omega | (refine⟨rfl,?_,?_⟩ <;> first | omega | (simp only [Aa];done) | (simp only [Aa];omega)) | (simp only [Aa];omega),?_⟩;conv=>whnf
  refine zG (Ez (l.getD k ⟨0,0, []⟩).bytes (hb _ (A7 h2))) rfl ?_;rintro _ rfl;refine⟨rfl,?_⟩;conv=>whnf
  refine⟨⟨by rw [Aa,hlk];omega,by omega⟩,?_⟩;refine⟨k+1,by omega,by omega, [],tv,⟨rfl,rfl,rfl,rfl,AL (by omega),tv⟩,⟨YX ?_,tv⟩,rfl,rfl,rfl⟩;rw [MA _ _ _ h2,wi (by omega)];rfl
 ·obtain rfl:k=l.length:=by omega
  rw [wi (by omega)];refine⟨rfl,?_⟩;conv=>whnf
  refine⟨⟨by rw [Aa,hlk];omega,by omega⟩,?_⟩;conv=>whnf
  refine⟨by rw [Ai,Aa,hlk];simp,?_⟩;exact⟨Mo (EY seq epoch l),fun c v h=>Rd.sub (H0 seq epoch l).symm (PT seq epoch l) h,rfl⟩

def JL (g:Geo) (a:An) (x y:List Gt):List Tx × List Wr × Int:=
 if Bq g&&Bj g a then (if (x.length:Int)=g.sl/\(y.length:Int)=g.sl then E9 g a x y else ([], [],2)) else ([], [],1)
theorem K7 (k:Int) (c:Ctx) (u:Value) (h:Rd (.tp [.v (.slice none 0 0), .v (.slice none 0 0),iv k]) c u):Rd (.tp [Dh [],LL [],iv k]) c u:=by
 refine BX ?_ c u h;exact⟨Bt _ _,Bt _ _,fun _ _ h=>h,tv⟩
theorem Ku {g:Geo} {a:An} (h:Bj g a=true):(0<=a.seq/\a.seq<=4294967296)/\0<=a.pos/\a.pos<g.sl:=by
 simp only [Bj,Bc,Ae,AI] at h;omega
theorem Lx {look:Int->Rc × Int × List Wr}:∀ (f:Nat) (k:Int) (r:Rc) (im:List Img) (w:List Wr),(∀ i,k<=i->i<k+f->(look i).2.2.length<=1)->(BI look f k r im w).2.2.length<=w.length+f
 | 0,_,_,_,_,_=>by simp [BI]
 | f+1,k,r,im,w,h=>by
  have h1:=h k (by omega) (by omega);unfold BI;simp only;split
  ·simp
  ·have:=Lx f (k+1) (look k).1 (if r.kind=1 then im ++ [r.img] else im) (w ++ (look k).2.2) fun i h2 h3=>h i (by omega) (by omega)
   rw [Ai] at this;omega
theorem Ly {look:Int->Rc × Int × List Wr}:∀ (f:Nat) (k:Int) (r:Rc) (im:List Img) (w:List Wr),(∀ i,k<=i->i<k+f->(look i).2.1=1\/(look i).2.1=2\/(look i).2.1=3)->(BI look f k r im w).1=1\/(BI look f k r im w).1=2\/(BI look f k r im w).1=3
 | 0,_,_,_,_,_=> .inl rfl
 | f+1,k,r,im,w,h=>by
  have h1:=h k (by omega) (by omega);unfold BI;simp only;split
  ·exact h1
  ·exact Ly f (k+1) (look k).1 (if r.kind=1 then im ++ [r.img] else im) (w ++ (look k).2.2) fun i h2 h3=>h i (by omega) (by omega)
theorem Ji {g:Geo} {a:An} {x y:List Gt} {pos seq left:Int} (hg:Bq g=true) (hp:0<=pos/\pos<g.sl) :
  ((GF g a x y pos seq left).1=1/\(2<=(GF g a x y pos seq left).2.1/\(GF g a x y pos seq left).2.1<=left/\(GF g a x y pos seq left).2.1<=30)/\(GF g a x y pos seq left).2.2.2.length<=30)\/((GF g a x y pos seq left).1=2\/(GF g a x y pos seq left).1=3):=by
 have r0:=H4 (a:=a) (x:=x) (y:=y) (seq:=seq) (left:=left) (of_:=0) (at_:=0) hg hp (by omega);unfold GF;simp only;rcases r0 with ⟨e1,⟨e2, -,e3⟩,e4⟩ | ⟨e1, -, -⟩
 ·rw [if_neg (by omega)];have hN:=KF e2 e3;have hA:=fun(i:Int) (h1:1<=i) (h2:i<1+((D_ g a x y pos seq left 0 0).1.of_ - 1).toNat)=>H4 (a:=a) (x:=x) (y:=y) (seq:=seq) (left:=left) (of_:=(D_ g a x y pos seq left 0 0).1.of_) (at_:=i) hg hp (by omega)
  have hH:=Ly (look:=fun k=>D_ g a x y pos seq left k (D_ g a x y pos seq left 0 0).1.of_) ((D_ g a x y pos seq left 0 0).1.of_ - 1).toNat 1 (D_ g a x y pos seq left 0 0).1 [] (D_ g a x y pos seq left 0 0).2.2 fun i h1 h2=>(hA i h1 h2).imp (fun h=>h.1) fun h=>h.1
  split
  ·exact .inr (hH.resolve_left ‹_›)
  ·refine .inl ⟨rfl,⟨hN.1,hN.2.2.2.2.1 rfl,hN.2.1⟩,?_⟩;have:=Lx (look:=fun k=>D_ g a x y pos seq left k (D_ g a x y pos seq left 0 0).1.of_) ((D_ g a x y pos seq left 0 0).1.of_ - 1).toNat 1 (D_ g a x y pos seq left 0 0).1 [] (D_ g a x y pos seq left 0 0).2.2 fun i h1 h2=>by
    rcases hA i h1 h2 with ⟨_,_,h⟩ | ⟨_,h,_⟩
    ·exact h
    ·rw [h];simp
   exact Bl this (by omega)
 ·rw [if_pos (by omega)];exact .inr e1
def aj (g:Geo) (t:Tx) (s:Int):Int:=(IntKind.i64.wrap (IntKind.i64.wrap (s - t.pos)+g.sl)).tmod g.sl
def ai (g:Geo) (t:Tx) (s:Int):Bool:=CK t.pos 0 (g.sl - 1)&&CK t.n 0 g.sl&&decide (aj g t s<t.n)
def Zp (g:Geo) (s:Int):List Tx->Nat->Option (Nat × Int)
 | [],_=>none
 | t::r,i=>if ai g t s then some (i,aj g t s) else Zp g s r (i+1)
end
end Go.Proofs.YtkolckdakddggaaGreatDoor.A
namespace Go.Proofs.YtkolckdakddggaaGreatDoor
section

def rc0:Rc:=⟨0,0,0,0,0,⟨0,0, []⟩⟩
theorem NI (seq epoch:Int) (l:List Img) {k:Nat} (hk:k<l.length+1):(EY seq epoch l).getD k rc0=if k<l.length then ⟨1,seq,epoch,(k:Nat),l.length+1,l.getD k ⟨0,0, []⟩⟩ else ⟨2,seq,epoch,(k:Nat),l.length+1,noImg⟩:=by
 have hlen:(I_ seq epoch (l.length+1) l.length l).length=l.length:=by rw [I3];omega
 unfold EY;rw [Ab];by_cases h:k<l.length
 ·rw [if_pos h,AF (by omega)];have h2:(I_ seq epoch (l.length+1) l.length l)[k]? = some ⟨1,seq,epoch,(k:Nat),l.length+1,l[k]⟩:=by
   unfold I_;rw [As,Bo,List.getElem?_zipIdx,Af h];simp
  rw [h2,Ab,Af h];rfl
 ·have e:k=l.length:=by omega
  subst e;rw [if_neg h,AH (by omega),hlen];simp
structure RecAt (g:Geo) (seq epoch:Int) (l:List Img) (k:Nat) (r:Rc):Prop where
 ok:EE g r=true
 seq:r.seq=seq
 epoch:r.epoch=epoch
 at_:r.at_=(k:Nat)
 of_:r.of_=l.length+1
 kind:r.kind≠0
 img:(r.kind=1↔k<l.length)/\(k<l.length->r.img=l.getD k ⟨0,0, []⟩)
end
end Go.Proofs.YtkolckdakddggaaGreatDoor
namespace Go.Proofs.YtkolckdakddggaaGreatDoor.A
section
open Go.RowKit
def tz:Tx:=⟨0,0,0, []⟩
def Wg (g:Geo) (l:List Tx) (epoch s:Int):Rc:=match Zp g s l 0 with
 | none=>zeroC
 | some (i,k)=>(EY (l.getD i tz).seq epoch (l.getD i tz).images).getD k.toNat zeroC
def GV (g:Geo) (l:List Tx) (epoch copy:Int) (n:Nat):List Gt:=(List.range n).map fun s=>⟨0,Ca g (Wg g l epoch (s:Nat)) copy (s:Nat)⟩
structure LogOk (g:Geo) (l:List Tx) (epoch:Int):Prop where
 len:l.length<=1000
 img:∀ t∈l,t.images.length<=1000/\∀ x∈t.images,x.bytes.length<=1000000
 who:∀ s i k,0<=s/\s<g.sl->Zp g s l 0=some (i,k)->i<l.length/\0<=k/\k.toNat<(l.getD i tz).images.length+1
 ok:∀ s,0<=s/\s<g.sl->EE g (Wg g l epoch s)=true
def iz:Img:=⟨0,0, []⟩
def Cy (l:List Img) (z w:Int):Nat->Option Img
 | 0=>none
 | k+1=>if (l.getD k iz).zone=z/\(l.getD k iz).what=w then some (l.getD k iz) else Cy l z w k
def EO (l:List Tx) (z w:Int):Nat->Option (Img × Int)
 | 0=>none
 | k+1=>match Cy (l.getD k tz).images z w (l.getD k tz).images.length with
  | some x=>some (x,(l.getD k tz).seq)
  | none=>EO l z w k
def CO (l:List Tx) (z w:Int):Option (Img × Int):=EO l z w l.length
theorem IW {l:List Img} {z w:Int}:∀ {k:Nat} {x:Img},k<=l.length->Cy l z w k=some x->x∈l/\x.zone=z/\x.what=w
 | k+1,x,hk,h=>by
  rw [Cy] at h;split at h
  ·rename_i hc;obtain rfl:=Option.some.inj h;exact⟨A7 (by omega),hc⟩
  ·exact IW (by omega) h
theorem Ok {l:List Tx} {z w:Int}:∀ {k:Nat} {x:Img} {s:Int},k<=l.length->EO l z w k=some (x,s)->∃ t∈l,t.seq=s/\x∈t.images/\x.zone=z/\x.what=w
 | k+1,x,s,hk,h=>by
  rw [EO] at h;split at h
  ·rename_i y hy;obtain⟨rfl,rfl⟩:=Prod.mk.inj (Option.some.inj h);exact⟨l.getD k tz,A7 (by omega),rfl,IW (Ah _) hy⟩
  ·exact Ok (by omega) h
def Cs (a:An) (l:List Tx) (z:Int):Int:=match CO l z 255 with
 | some p=>p.2
 | none=>(a.homes.getD z.toNat ⟨[],0,0⟩).root
def GI (n:Int):Int:=if 0<=n/\n<=30 then n else 0
def Gy (l:List Tx):Nat->Int
 | 0=>0
 | k+1=>Gy l k+GI (l.getD k tz).n
def Cp (l:List Tx):Int:=Gy l l.length
theorem LO (n:Int):0<=GI n/\GI n<=30:=by
 unfold GI;split <;> omega
theorem Ga (l:List Tx):∀ k:Nat,0<=Gy l k/\Gy l k<=30*k
 | 0=>by simp [Gy]
 | k+1=>by
  have:=Ga l k;have:=LO (l.getD k tz).n;rw [Gy];omega
def E7 (g:Geo) (w:Int):Int:=if w = -1 then g.d else w
def B5 (g:Geo) (a:An) (z w:Int):Int:=Cj g z ((a.homes.getD z.toNat ⟨[],0,0⟩).places.getD (E7 g w).toNat 0)
def BV (g:Geo) (x:Gt) (addr root:Int):Option (List Ent):=match BR x addr with
 | some s=>if s.stamp=root then C8 g s.pay else none
 | none=>none
def En (x:Gt) (addr:Int) (e:Ent):Option (List UInt8):=match BR x addr with
 | some s=>if s.stamp=e.stamp/\s.pay.length=8/\((CR s.pay:Nat):Int)=e.sum then some s.pay else none
 | none=>none
def Fj (a b:List UInt8):List UInt8:=List.zipWith (fun x y=>x ^^^ y) a b
def ez:Ent:=⟨0,0,false⟩
def E5 (t:List Ent) (had:List (List UInt8)) (at_:Nat):Nat->Option (List UInt8)
 | 0=>some zero8
 | k+1=>match E5 t had at_ k with
  | none=>none
  | some b=>if k=at_\/(t.getD k ez).lost=true then some b else if (had.getD k []).length=0 then none else some (Fj b (had.getD k []))
def FL (g:Geo) (t:List Ent) (had:List (List UInt8)) (at_:Nat):List UInt8:=
 if (t.getD at_ ez).lost then []
 else if 0<(had.getD at_ []).length then had.getD at_ []
 else match E5 t had at_ (g.d.toNat+1) with
  | none=> []
  | some b=>if ((CR b:Nat):Int)=(t.getD at_ ez).sum then b else []
def flatX:AV->Bool
 | .v _=>true
 | _=>false
def flatO:AV->Bool
 | .v _=>true
 | .ow _ _=>true
 | .tp l=>l.all fun x=>match x with | .v _=>true | .ow _ _=>true | _=>false
 | _=>false
def flatR:List AB->Bool
 | []=>true
 | .row _ _ es::r=>es.flatten.all flatX&&flatR r
 | _::_=>false
theorem QD {c c':Ctx}:∀ {l:List AV} {us:List Value},l.all flatX=true->RdL l c us->RdL l c' us
 | [],us,_,h=>by simpa only [RdL] using h
 | x::l,us,hf,h=>by
  rw [Bc,Ae] at hf;simp only [RdL] at h |-
  obtain⟨u,vs,rfl,h1,h2⟩:=h;refine⟨u,vs,rfl,?_,QD hf.2 h2⟩;cases x <;> simp [flatX] at hf;simpa only [Rd] using h1
theorem Pm {c c':Ctx} (hr:c'.rho=c.rho) (hl:c'.len=c.len) (hd:c'.dom=c.dom) {x:AV} (hx:(match x with | .v _=>true | .ow _ _=>true | _=>false)=true) {u:Value} (h:Rd x c u):Rd x c' u:=by
 cases x <;> simp at hx
 ·simpa only [Rd] using h
 ·simp only [Rd] at h |-
  rw [hr,hl,hd];exact h
theorem Xa {c c':Ctx} (hr:c'.rho=c.rho) (hl:c'.len=c.len) (hd:c'.dom=c.dom) {x:AV} (hx:flatO x=true) {u:Value} (h:Rd x c u):Rd x c' u:=by
 cases x with
 | v y=>exact Pm hr hl hd rfl h
 | ow k n=>exact Pm hr hl hd rfl h
 | tp l=>
  simp only [Rd] at h |-
  obtain⟨xs,rfl,hxs⟩:=h;refine⟨xs,rfl,?_⟩;simp only [flatO] at hx;induction l generalizing xs with
  | nil=>simpa only [RdL] using hxs
  | cons y l ih=>
   rw [Bc,Ae] at hx;simp only [RdL] at hxs |-
   obtain⟨u,us,rfl,h1,h2⟩:=hxs;exact⟨u,us,rfl,Pm hr hl hd hx.1 h1,ih hx.2 us h2⟩
 | _=>simp [flatO] at hx
theorem flatR_mem:∀ {R:List AB} {y:AB},flatR R=true->y∈R->∃ t sz es,y = .row t sz es/\es.flatten.all flatX=true
 | .row t sz es::r,y,h,hy=>by
  rw [flatR,Ae] at h;rcases AU.1 hy with rfl | hy
  ·exact⟨t,sz,es,rfl,h.1⟩
  ·exact flatR_mem h.2 hy
theorem FnO.lend {P:Program} {f:FuncId} {args args':List AV} {H:List AB} {K:AV->List AB->Prop} {q:Bool} {k:AV->List AB->Prop} (h:FnO P f args' K) (hs:sealA args H fun a _=>a=args') (hk:∀ r R,K r R->(flatO r=true/\flatR R=true)/\appK H R 0 fun d H=>DC (r.shift d) fun r=>k r H):ACalls P q f args H k:=by
 refine⟨h.go,fun w0 M0 c us hs0 hr=>?_⟩;obtain⟨l',H',c',rfl,h2,h3,h4,h5,_⟩:=sealA_sound hs0 hr hs;have hglob:globOk c'.closed.w:=h3.glob;have hc:=h.calls c'.closed us hglob rfl h3.lt h5;have ew:c'.closed.w=c.w:=h2
 suffices hh:Calls P f us.toArray c'.closed.w fun e w'=>∃ v c1 r H1,e = .returned v/\c1.w=w'/\k r H1/\HS w0 M0 c1 H1/\Ext c c1/\Rd r c1 v/\(q=true->Old c.w w') by
  rw [ew] at hh;exact hh
 refine hc.mono ?_;rintro e w' ⟨v,r,c2,R,rfl,q1,rfl,q2,q3,q4⟩;obtain⟨⟨f1,f2⟩,hkk⟩:=hk r R q1
 -- the same memory;what the caller holds is not read
 obtain⟨c3,e3⟩:∃ c3:Ctx,c3={ c2 with M:=fun b=>c2.M b\/c.M b }:=⟨_,rfl⟩;have hsub:∀ b,b<c.w.heap.size->c'.M b->c.M b:=fun b hb hm=>by
  by_cases hx:c.M b
  ·exact hx
  ·exact absurd hm (h4.keep b hb hx).1
 have hlow:=q2.low;have q2':HS (Fl.all c.w hs0.glob) c.M c3 R:=by
  subst e3;refine⟨⟨?_,?_,?_,?_,?_⟩,q2.base,q2.dom,fun b hb=>?_,fun b hb=>?_,fun i y hi=>?_,fun i y g hi hl ho=>?_,q2.dis⟩
  ·have:=hlow.os;rw [show (Fl.all c'.closed.w hglob).w=c.w from ew] at this;exact this
  ·have:=hlow.tape;rw [show (Fl.all c'.closed.w hglob).w=c.w from ew] at this;exact this
  ·have:=hlow.output;rw [show (Fl.all c'.closed.w hglob).w=c.w from ew] at this;exact this
  ·have:=hlow.size;rw [show (Fl.all c'.closed.w hglob).w=c.w from ew] at this;exact this
  ·intro b hb;have:=hlow.block b (by show b<c'.closed.w.heap.size;rw [ew];exact hb);rw [show (Fl.all c'.closed.w hglob).w=c.w from ew] at this;exact this
  ·have hb':b<c.w.heap.size:=hb;have:=q2.foreign b (by show b<c'.closed.w.heap.size;rw [ew];exact hb');exact⟨fun hx=>hx.elim (fun hx=>hsub b hb' (this.1 hx)) (fun hx=>hx),fun hx=> .inr hx⟩
  ·have hsz:c.w.heap.size<=c2.w.heap.size:=by
    have:=hlow.size;rw [show (Fl.all c'.closed.w hglob).w=c.w from ew] at this;exact this
   rcases hb with hb | hb
   ·exact q2.lt b hb
   ·exact At (hs0.lt b hb) hsz
  ·obtain⟨t,sz,es,rfl,hfl⟩:=flatR_mem f2 (DM hi);obtain⟨a1,a2,a3,xs,a4,a5,a6⟩:=q2.blk i _ hi;exact⟨a1,a2,a3,xs,a4,QD hfl a5,a6⟩
  ·have:=q2.own i y g hi hl ho;refine⟨.inl this.1,fun hx=>this.2 ?_⟩;show g<c'.closed.w.heap.size;rw [ew];exact hx
 have q3':Rd r c3 v:=Xa (by rw [e3]) (by rw [e3]) (by rw [e3]) f1 q3;have q5:c3.w=c2.w:=by rw [e3]
 obtain⟨p1,p2⟩:=hs0.beside (c':=c3) q2' q4;have h1:=BW (appK_iff hkk);rw [A4,<-hs0.dom] at h1;exact⟨v,c.beside c3,_,_,rfl,by show c3.w=_;exact q5,h1,p1,p2,Rd.shift r q3',fun _=>by have:=q2'.low.below.old;rw [q5] at this;exact this⟩
theorem PJ (l:List Tx) (hl:l.length<=1000000):Fn Tryz.prog 66 [Dh l] fun r=>r = iv (Cp l):=by
 refine zS Tryz.func66 rfl ?_;conv=>whnf
 refine zU Nat (fun k=>([(0,Dh l),(3,iv (Gy l k)),(4,iv k)], [])) (fun k=>k<=l.length) (fun k=>l.length - k) 0 (Aj _)
  (zR (s:= []) tA) ?_
 intro k hk;conv=>whnf
 refine A8 (fun h6=>?_) (fun h6=>?_) <;> (repeat rw [Ac] at h6) <;> conv=>whnf
 ·have hk':k<l.length:=by omega
  have hb:=Ga l k;have hi:=GY (l.getD (k:Int).toNat ⟨0,0,0, []⟩).n 0 30;have hs:Gy l (k+1)=Gy l k+GI (l.getD (k:Int).toNat ⟨0,0,0, []⟩).n:=rfl;have hn:=LO (l.getD (k:Int).toNat ⟨0,0,0, []⟩).n;repeat' (refine zY ?_;conv=>whnf)
  refine⟨⟨by omega,by omega⟩,?_⟩;conv=>whnf
  cases hc:CK (l.getD (k:Int).toNat ⟨0,0,0, []⟩).n 0 30 with
  | false=>
   rw [hc] at hi;have h0:GI (l.getD (k:Int).toNat ⟨0,0,0, []⟩).n=0:=by
    unfold GI;rw [if_neg];intro h;rw [AI.2 h] at hc;cases hc
   refine z_ hi ?_;exact⟨k+1,hk',by omega,zR (s:= []) ⟨⟨rfl,congrArg (fun n:Int=>AV.v (.int .i64 n)) (by rw [hs,h0,Int.add_zero]),AL (by omega),tv⟩,tv,rfl,rfl,rfl,rfl,rfl⟩⟩
  | true=>
   rw [hc] at hi;have h0:GI (l.getD (k:Int).toNat ⟨0,0,0, []⟩).n=(l.getD (k:Int).toNat ⟨0,0,0, []⟩).n:=by
    unfold GI;rw [if_pos (AI.1 hc)]
   refine z_ hi ?_;refine⟨⟨by omega,by omega⟩,?_⟩;conv=>whnf
   exact⟨k+1,hk',by omega,zR (s:= []) ⟨⟨rfl,congrArg (fun n:Int=>AV.v (.int .i64 n)) (by rw [hs,h0,wi (by rw [<-h0];omega)]),AL (by omega),tv⟩,tv,rfl,rfl,rfl,rfl,rfl⟩⟩
 ·have ek:k=l.length:=by omega
  subst ek;exact⟨_,ri,rfl⟩
theorem VT (g:Geo) (a:An) (l:List Tx) (hg:Bq g=true) (ha:Bj g a=true) (hl:l.length<=1000000):Fn Tryz.prog 67 [.ag (AT g), .ag (Ew a),Dh l] fun r=>r = .tp [iv ((a.pos+Cp l).tmod g.sl),iv (a.seq+l.length)]:=by
 obtain⟨g1,g2,g3,g4,g5⟩:=Aq.1 hg;have hu:=PJ l hl;have hb:=Ga l l.length;have hp:(1<=a.seq/\a.seq<=4294967295)/\(0<=a.pos/\a.pos<g.sl):=by
  simp only [Bj,Bc,BL,BA,Ae,decide_eq_true_eq,AI] at ha;omega
 refine zS Tryz.func67 rfl ?_;conv=>whnf
 apply zP tys_ok mixed (.o [0,1,2,5,6,8,9,10,11,12,3,4,7,13,14] .fin) [6,7,8,9,10,11,12,13,14,15,16,17,18,19,20] (by kernel_rfl)
 ·conv=>whnf
  refine z_ hu ?_;conv=>whnf
  try (refine Ad (by first | omega | exact ixA | exact ixB | (simp;done)) ?_;conv=>whnf)
  exact tA
 conv=>whnf
 exact⟨_,ri,by rw [wi (n:=a.pos+Cp l) (by unfold Cp;omega),wi (by omega)]⟩
def az (o:Option (Img × Int)) (r:AV) (R:List AB):Prop:=match o with
 | some p=>r = .tp [.ow 0 p.1.bytes.length,iv p.2, .v (.bool true)]/\R=[.row 5 1 (p.1.bytes.map Eo)]
 | none=>r = .tp [.v (.slice none 0 0),iv 0, .v (.bool false)]/\R=[]
theorem KA (l:List Tx) (z w:Int) (hl:l.length<=1000000) (hi:∀ t∈l,t.images.length<=1000000/\∀ x∈t.images,x.bytes.length<=1000000000):FnO Tryz.prog 204 [Dh l,iv z,iv w] (az (CO l z w)):=by
 refine FnO.of tys_ok Tryz.func204 rfl rfl (Ag rfl) ?_;conv=>whnf
 rw [wi (n:=(l.length:Int) - 1) (by omega)];refine zU Nat (fun k=>([(0,Dh l),(1,iv z),(2,iv w),(9,iv ((k:Int) - 1))], [])) (fun k=>k<=l.length/\CO l z w=EO l z w k) (fun k=>k) l.length ⟨Ah _,rfl⟩
  (zR (s:= []) tA) ?_
 rintro k ⟨hk,hI⟩;conv=>whnf
 refine A8 (fun h6=>?_) (fun h6=>?_) <;> (repeat rw [Ac] at h6) <;> conv=>whnf
 ·obtain⟨j,rfl⟩:∃ j,k=j+1:=⟨k - 1,by omega⟩;have e1:((j+1:Nat):Int) - 1=(j:Nat):=by omega
  have hm:=hi _ (A7 (d:=(⟨0,0,0, []⟩:Tx)) (show j<l.length by omega));rw [e1];refine⟨⟨by omega,by omega⟩,?_⟩;conv=>whnf
  rw [Ac,wi (n:=((l.getD j ⟨0,0,0, []⟩).images.length:Int) - 1) (by omega)];have hF:EO l z w (j+1)=match Cy (l.getD j ⟨0,0,0, []⟩).images z w (l.getD j ⟨0,0,0, []⟩).images.length with | some x=>some (x,(l.getD j ⟨0,0,0, []⟩).seq) | none=>EO l z w j:=rfl
  generalize hT:l.getD j ⟨0,0,0, []⟩=T at hm hF;refine zU Nat (fun m=>([(0,Dh l),(1,iv z),(2,iv w),(9,iv (j:Nat)),(10,iv ((m:Int) - 1))], [])) (fun m=>m<=T.images.length/\EO l z w (j+1)=match Cy T.images z w m with | some x=>some (x,T.seq) | none=>EO l z w j) (fun m=>m) T.images.length ⟨Ah _,hF⟩
   (zR (s:= []) tA) ?_
  rintro m ⟨hmn,hJ⟩;conv=>whnf
  refine A8 (fun h7=>?_) (fun h7=>?_) <;> (repeat rw [Ac] at h7) <;> conv=>whnf
  ·obtain⟨i,rfl⟩:∃ i,m=i+1:=⟨m - 1,by omega⟩;have e2:((i+1:Nat):Int) - 1=(i:Nat):=by omega
   rw [e2];refine⟨⟨by omega,by omega⟩,?_⟩;conv=>whnf
   rw [Ac,hT];refine⟨⟨by omega,by omega⟩,?_⟩;conv=>whnf
   rw [Ac];have hK:Cy T.images z w (i+1)=if (T.images.getD i ⟨0,0, []⟩).zone=z/\(T.images.getD i ⟨0,0, []⟩).what=w then some (T.images.getD i ⟨0,0, []⟩) else Cy T.images z w i:=rfl
   have hbl:=hm.2 _ (A7 (d:=(⟨0,0, []⟩:Img)) (show i<T.images.length by omega));generalize T.images.getD i ⟨0,0, []⟩=y at hK hbl;have hgo:¬(y.zone=z/\y.what=w)->EO l z w (j+1)=match Cy T.images z w i with | some x=>some (x,T.seq) | none=>EO l z w j:=fun h=>by rw [hJ,hK,if_neg h]
   by_cases hz:y.zone=z
   ·rw [show (y.zone == z)=true by simpa using hz];conv=>whnf
    by_cases hw:y.what=w
    ·rw [show (y.what == w)=true by simpa using hw];conv=>whnf
     have htw:=Ny y.bytes (by omega);apply zD (0) tys_ok mixed (.o [0,1,3,4,5,6,7,2,8,9,10] .fin) [6,7,8,48,49,50,51,52,53,54,55] (by kernel_rfl)
     ·conv=>whnf
      try (refine tI ?_;conv=>whnf)
      (refine zW htw rfl ?_;rintro _ _ ⟨rfl,rfl⟩)
      exact tA
     conv=>whnf
     rw [hI,hJ,hK,if_pos ⟨hz,hw⟩,Ac,hT];exact tA
    ·rw [show (y.what == w)=false by simpa using hw];exact⟨i,⟨by omega,hgo fun h=>hw h.2⟩,by omega,zR (s:= []) ⟨⟨rfl,rfl,rfl,rfl,congrArg (fun n:Int=>AV.v (.int .i64 n)) (wi (by omega)),tv⟩,tv,rfl,rfl,rfl,rfl,rfl⟩⟩
   ·rw [show (y.zone == z)=false by simpa using hz];exact⟨i,⟨by omega,hgo fun h=>hz h.1⟩,by omega,zR (s:= []) ⟨⟨rfl,rfl,rfl,rfl,congrArg (fun n:Int=>AV.v (.int .i64 n)) (wi (by omega)),tv⟩,tv,rfl,rfl,rfl,rfl,rfl⟩⟩
  ·have em:m=0:=by omega
   subst em;exact⟨j,⟨by omega,by rw [hI,hJ];rfl⟩,by omega,zR (s:= []) ⟨⟨rfl,rfl,rfl,congrArg (fun n:Int=>AV.v (.int .i64 n)) (wi (by omega)),tv⟩,tv,rfl,rfl,rfl,rfl,rfl⟩⟩
 ·have ek:k=0:=by omega
  subst ek;rw [hI];exact tA
theorem FnO.subA {P:Program} {f:FuncId} {args args':List AV} {K:AV->List AB->Prop} (h:FnO P f args' K) (hs:SubL args args'):FnO P f args K:=
 ⟨h.go,fun c0 us hg h1 h2 h3=>h.calls c0 us hg h1 h2 (hs.rdl h3)⟩
theorem VN (g:Geo) (a:An) (l:List Tx) (z:Int) (ha:(a.homes.length:Int)=g.z) (hz:0<=z/\z<g.z) (hl:l.length<=1000000) (hi:∀ t∈l,t.images.length<=1000000/\∀ x∈t.images,x.bytes.length<=1000000000):Fn Tryz.prog 206 [.ag (Ew a),Dh l,iv z] fun r=>r = iv (Cs a l z):=by
 have hf:=KA l z 255 hl hi;unfold Cs;cases hL:CO l z 255 with
 | some p=>
  obtain⟨x,q⟩:=p;rw [hL] at hf;refine zS Tryz.func206 rfl ?_;conv=>whnf
  refine FnO.call hf rfl ?_;rintro _ _ ⟨rfl,rfl⟩;exact⟨_,ri,rfl⟩
 | none=>
  rw [hL] at hf;refine zS Tryz.func206 rfl ?_;conv=>whnf
  refine FnO.call hf rfl ?_;rintro _ _ ⟨rfl,rfl⟩;refine⟨⟨by omega,by omega⟩,?_⟩;exact⟨_,ri,rfl⟩
theorem OH (n:Int):Fn Tryz.prog 76 [iA [],iv n] fun r=>r=iA []:=by
 refine zS Tryz.func76 rfl ?_;conv=>whnf
 refine zU Nat (fun k=>([(0,iA []),(5, .v (.slice none 0 0)),(6,iv k)], [])) (fun k=>k=0) (fun k=>k) 0 rfl
  (zR (s:= []) tA) ?_
 rintro k rfl;exact⟨iA [],Bt 1 _,rfl⟩
theorem VV (g:Geo) (lba:Int) (hg:Bq g=true) (h:0<=lba/\lba<g.z*g.d):Fn Tryz.prog 65 [.ag (AT g),iA [lba]] fun r=>r = iv 4:=by
 obtain⟨g1,g2,g3,g4,g5⟩:=Aq.1 hg;have hq:lba.tdiv g.d=lba / g.d:=Bb h.1;have hq0:0<=lba / g.d:=CP h.1 (by omega);have hq1:lba / g.d<g.z:=Cd (by omega) h.2;refine zS Tryz.func65 rfl ?_;refine⟨⟨rfl,by omega,by omega⟩,?_⟩;conv=>whnf
 refine zU Nat (fun k=>([(1,iA [lba]),(2, .bp 0 0),(5, .ow 1 g.z.toNat),(6,iv (3*(k:Int))),(7,iv k)], [.box 23 (AT g), .row 4 1 (if k=0 then List.replicate g.z.toNat [AV.v (.bool false)] else (List.replicate g.z.toNat [AV.v (.bool false)]).set (lba / g.d).toNat [AV.v (.bool true)])])) (fun k=>k<=1) (fun k=>1 - k) 0 (by decide)
  (zR (s:= [0,1]) tA) ?_
 intro k hk;conv=>whnf
 refine A8 (fun h6=>?_) (fun h6=>?_)
 ·have ek:k=0:=by simp only [Al,AY] at h6;omega
  subst ek;rw [if_pos rfl];conv=>whnf
  repeat' (refine zY ?_;conv=>whnf)
  refine z7 tys_ok mixed [0,1,2,3,4,5,6,7] (by kernel_rfl) ?_;conv=>whnf
  refine Ad ⟨by decide,by show ((0:Nat):Int)<((1:Nat):Int);decide⟩ ?_;refine⟨by omega,?_⟩;conv=>whnf
  rw [show IntKind.i64.wrap (([lba].getD (Int.toNat ((0:Nat):Int)) 0).tdiv g.d)=lba / g.d by rw [show [lba].getD (Int.toNat ((0:Nat):Int)) 0=lba from rfl,hq,wi (by omega)]];refine⟨⟨hq0,by omega⟩,?_⟩;refine⟨⟨rfl,by simp,by omega⟩,?_⟩;rw [show (List.replicate g.z.toNat [AV.v (.bool false)]).getD (lba / g.d).toNat []=[AV.v (.bool false)] by rw [Ab,Cm,if_pos (by omega)];rfl];refine⟨⟨hq0,by omega⟩,?_⟩;refine⟨⟨rfl,by simp,by omega⟩,?_⟩;rw [show (List.replicate g.z.toNat [AV.v (.bool false)]).getD (lba / g.d).toNat []=[AV.v (.bool false)] by rw [Ab,Cm,if_pos (by omega)];rfl];exact⟨1,by omega,by omega,zR (s:= [0,1]) tA⟩
 ·have ek:k=1:=by simp only [Al,AY] at h6;omega
  subst ek;conv=>whnf
  repeat' (refine zY ?_;conv=>whnf)
  exact⟨_,ri,rfl⟩
end
section
open Go.RowKit Go.Lib
def Hf (s:ByteArray):List UInt8:=UInt8.ofNat s.size::s.data.toList
theorem GA (s:ByteArray):(Hf s).length=1+s.size:=by simp [Hf,C7]
theorem QL (l:List UInt8):(decodeL l).2<=4:=by
 rw [decodeL_N];rcases decodeN_shape l.length (l.getD 0 0).toNat (l.getD 1 0).toNat (l.getD 2 0).toNat (l.getD 3 0).toNat with ⟨_,e⟩ | ⟨_,_,_,_,e⟩ | ⟨_,_,_,_,_,_,e⟩ | ⟨_,_,_,_,_,_,_,e⟩ | e <;> rw [e] <;> simp
theorem T6 (n:Nat):∀ l:List UInt8,l.length=n->l.length<=4*Fw l:=by
 induction n using Nat.strongRecOn with
 | ind n ih=>
  intro l hl;by_cases h:l=[]
  ·subst h;simp
  ·have h1:=HR h;have h2:=ih _ (by rw [<-hl];exact h1) _ rfl;have h3:=QL l;rw [Ip l h];rw [Ak] at h2;omega
theorem I1 {l:List UInt8} (h:Fi l=0):l.length<=24:=by
 have h1:=T6 _ l rfl;unfold Fi at h;split at h
 ·cases h
 ·split at h
  ·cases h
  ·omega
def If (b:List UInt8):Option (ByteArray × Nat):=
 if b.length<1+(b.getD 0 0).toNat then none
 else if Fi ((b.drop 1).take (b.getD 0 0).toNat)=0 then some (⟨((b.drop 1).take (b.getD 0 0).toNat).toArray⟩,1+(b.getD 0 0).toNat) else none
theorem NX {b:List UInt8} {s:ByteArray} {n:Nat} (h:If b=some (s,n)):n<=b.length/\Hf s=b.take n/\n=1+s.size/\Fi s.data.toList=0:=by
 unfold If at h;split at h
 ·cases h
 ·rename_i h1;split at h
  ·rename_i h2;simp only [Option.some.injEq,Prod.mk.injEq] at h;obtain⟨rfl,rfl⟩:=h;have hl:((b.drop 1).take (b.getD 0 0).toNat).length=(b.getD 0 0).toNat:=by rw [Ar,Ak];omega
   have hb:b=b.getD 0 0::b.drop 1:=by
    cases b with
    | nil=>simp at h1
    | cons x r=>rfl
   refine⟨by omega,?_,by show _=1+(List.toArray _).size;simp only [BT,hl],h2⟩;have e:(⟨((b.drop 1).take (b.getD 0 0).toNat).toArray⟩:ByteArray).size=(b.getD 0 0).toNat:=by show (List.toArray _).size=_;simp only [BT,hl]
   unfold Hf;rw [e];simp only;rw [C7,hb];simp
  ·cases h
theorem Uj {s:ByteArray} (h:Fi s.data.toList=0) (r:List UInt8):If (Hf s ++ r)=some (s,1+s.size):=by
 have h24:=I1 h;have hs:s.size=s.data.toList.length:=rfl;have e0:((Hf s ++ r).getD 0 0).toNat=s.size:=by
  show (UInt8.ofNat s.size).toNat=s.size;simp;omega
 have e1:((Hf s ++ r).drop 1).take s.size=s.data.toList:=by
  show (s.data.toList ++ r).take s.size=_;rw [List.take_append_of_le_length (by omega),A3 (by omega)]
 unfold If;rw [e0,e1,if_neg (by rw [Ai,GA];omega),if_pos h]

def Gk (n:Nat):List Int:=List.replicate n 1
def szA:List Int:= [4,4,4,4,1]
def KY (a:An):List Int:= [a.gen,a.epoch,a.seq,a.last,a.pos]
def OV (l:List Int):List UInt8:=rowB l (Gk l.length)
def Nk (h:Hm):List UInt8:=OV h.places ++ rowB [h.next,h.root] [1,4]
def L1 (a:An):List UInt8:=rowB (KY a) szA ++ Hf a.label ++ (a.homes.map Nk).flatten
def Rj (n:Nat):List Int:=Gk (n+1) ++ [4]
def KR (n:Nat) (c:List UInt8):Hm:=⟨(nums (Rj n) c).take n,(nums (Rj n) c).getD n 0,(nums (Rj n) c).getD (n+1) 0⟩
def ET (n k:Nat) (c:List UInt8):List Hm:=(List.range k).map fun i=>KR n (c.drop ((n+5)*i))
def Ni (n k:Nat) (b:List UInt8) (s:ByteArray) (u:Nat):An:=⟨(nums szA b).getD 0 0,(nums szA b).getD 1 0,(nums szA b).getD 4 0,(nums szA b).getD 2 0,(nums szA b).getD 3 0,s,ET n k (b.drop (17+u))⟩
def F8 (g:Geo) (b:List UInt8):Option An:=
 if b.length<17 then none else
 match If (b.drop 17) with
 | none=>none
 | some (s,u)=>if b.length≠17+u+g.z.toNat*(g.d.toNat+6) then none
  else if Bj g (Ni (g.d.toNat+1) g.z.toNat b s u) then some (Ni (g.d.toNat+1) g.z.toNat b s u) else none

theorem tot_ones:∀ n,tot (Gk n)=n
 | 0=>rfl
 | n+1=>by show 1+tot (Gk n)=n+1;rw [tot_ones n];omega
theorem tot_app:∀ (a b:List Int),tot (a ++ b)=tot a+tot b
 | [],b=>by simp [tot]
 | x::a,b=>by simp only [Bu,tot,tot_app a b];omega
theorem JE (n:Nat):tot (Rj n)=n+5:=by rw [Rj,tot_app,tot_ones];rfl
theorem JG (n:Nat):(Rj n).length=n+2:=by simp [Rj,Gk]
theorem JZ (n:Nat):(Gk n).length=n:=by simp [Gk]
theorem rowB_app:∀ (a s b t:List Int),a.length=s.length->rowB (a ++ b) (s ++ t)=rowB a s ++ rowB b t
 | [], [],b,t,_=>rfl
 | x::a,y::s,b,t,h=>by simp only [Bu,rowB,rowB_app a s b t (by simpa using h),A6]
theorem NN (n:Nat):Gk (n+1)=Gk n ++ [1]:=by simp [Gk,DJ]
theorem Kg (h:Hm):Nk h=rowB (h.places ++ [h.next,h.root]) (Rj h.places.length):=by
 rw [Rj,NN,A6,rowB_app _ _ _ _ (JZ _).symm];rfl
theorem Qu {l:List Int} {n:Nat} (h:l.length=n+2):l=l.take n ++ [l.getD n 0,l.getD (n+1) 0]:=by
 have h1:n<l.length:=by omega
 have h2:n+1<l.length:=by omega
 conv=>lhs;rw [<-BK n l]
 congr 1;rw [Bf h1,Bf h2,AD (by omega)];simp [Ab,Af h1,Af h2]
theorem WK (n:Nat) (c:List UInt8) (hc:n+5<=c.length):Nk (KR n c)=c.take (n+5):=by
 have hl:(nums (Rj n) c).length=n+2:=by rw [nums_len,JG]
 have hp:(KR n c).places.length=n:=by show ((nums (Rj n) c).take n).length=n;rw [Ar];omega
 rw [Kg,hp,show (KR n c).places ++ [(KR n c).next,(KR n c).root]=nums (Rj n) c from (Qu hl).symm,rowB_nums _ _ (by rw [JE];exact hc),JE]
theorem SV (n:Nat):∀ (k:Nat) (c:List UInt8),(n+5)*k<=c.length->((ET n k c).map Nk).flatten=c.take ((n+5)*k)
 | 0,c,_=>by simp [ET]
 | k+1,c,h=>by
  have h':(n+5)*k+(n+5)<=c.length:=by rw [Nat.mul_succ] at h;exact h
  have ih:=SV n k c (by omega);rw [ET,Bm,A9,A9,Cb,show ((List.map (fun i=>KR n (List.drop ((n+5)*i) c)) (List.range k)).map Nk).flatten=_ from ih];simp only [A0,Bn,AM,List.flatten_nil,AK];rw [WK n _ (by rw [Ak];omega),Nat.mul_succ,<-List.take_add]
theorem XC (n k:Nat) (b:List UInt8) (s:ByteArray) (u:Nat) (h17:17<=b.length) (hl:If (b.drop 17)=some (s,u)) (hk:17+u+(n+5)*k<=b.length):L1 (Ni n k b s u)=b.take (17+u+(n+5)*k):=by
 obtain⟨h1,h2,h3,h4⟩:=NX hl;have e1:KY (Ni n k b s u)=nums szA b:=rfl;have e2:rowB (nums szA b) szA=b.take 17:=rowB_nums szA b h17;have e3:=SV n k (b.drop (17+u)) (by rw [Ak];omega);rw [L1,e1,e2,show (Ni n k b s u).homes=ET n k (b.drop (17+u)) from rfl,e3,show Hf (Ni n k b s u).label=Hf s from rfl,h2,<-List.take_add,<-List.take_add]

theorem Pf {g:Geo} {h:Hm} (hg:Bq g=true) (hh:Ee g h=true):h.places.length=g.d.toNat+1/\(∀ p∈h.places,0<=p/\p<256)/\(0<=h.next/\h.next<256)/\0<=h.root/\h.root<4294967296:=by
 obtain⟨h1,h2,h3,h4,h5⟩:=Aq.1 hg;simp only [Ee,Ae,decide_eq_true_eq,AI,OU,Av,AO] at hh;obtain⟨q1,q2,q3,q4⟩:=hh;refine⟨by omega,fun p hp=>?_,by omega,by omega⟩;obtain⟨i,hi,rfl⟩:=DW hp;have:=(q4 i hi).1;rw [Ab,Af hi] at this;simp only [B9] at this;omega
theorem Wt {l:List Int} (h:∀ p∈l,0<=p/\p<256):∀ k (a:k<l.length) (b:k<(Gk l.length).length),Fo (Gk l.length)[k]/\0<=l[k]/\l[k]<Dv (Gk l.length)[k]:=fun k a b=>by
 have e:(Gk l.length)[k]=1:=by simp [Gk]
 rw [e];exact⟨.inl rfl,h _ (CF a)⟩
theorem YC {a s b t:List Int} (ha:a.length=s.length) (h1:∀ k (p:k<a.length) (q:k<s.length),Fo s[k]/\0<=a[k]/\a[k]<Dv s[k]) (h2:∀ k (p:k<b.length) (q:k<t.length),Fo t[k]/\0<=b[k]/\b[k]<Dv t[k]) :
  ∀ k (p:k<(a ++ b).length) (q:k<(s ++ t).length),Fo (s ++ t)[k]/\0<=(a ++ b)[k]/\(a ++ b)[k]<Dv (s ++ t)[k]:=fun k p q=>by
 by_cases hk:k<a.length
 ·rw [List.getElem_append_left hk,List.getElem_append_left (by omega)];exact h1 k hk (by omega)
 ·rw [List.getElem_append_right (by omega),List.getElem_append_right (by omega)];have:=h2 (k - a.length) (by rw [Ai] at p;omega) (by rw [Ai] at q;omega);simpa only [ha] using this
theorem S0 {x y:Int} (h1:0<=x/\x<256) (h2:0<=y/\y<4294967296):∀ k (_:k < [x,y].length) (_:k<([1,4]:List Int).length),Fo ([1,4]:List Int)[k]/\0<= [x,y][k]/\ [x,y][k]<Dv ([1,4]:List Int)[k]:=fun k p _=>by
 have hk:k=0\/k=1:=by simp at p;omega
 rcases hk with rfl | rfl
 ·exact⟨.inl rfl,h1⟩
 ·exact⟨.inr (.inr rfl),h2⟩
theorem Y7 {g:Geo} {h:Hm} (hg:Bq g=true) (hh:Ee g h=true):(Nk h).length=g.d.toNat+6:=by
 obtain⟨h1,_⟩:=Pf hg hh;rw [Kg,tot_rowB _ _ (by rw [Ai,JG];rfl),JE,h1]
theorem WJ {g:Geo} {h:Hm} (hg:Bq g=true) (hh:Ee g h=true) (r:List UInt8):KR (g.d.toNat+1) (Nk h ++ r)=h:=by
 obtain⟨h1,h2,h3,h4⟩:=Pf hg hh;have e:nums (Rj (g.d.toNat+1)) (Nk h ++ r)=h.places ++ [h.next,h.root]:=by
  rw [<-h1,Kg];refine nums_rowB _ _ _ (by rw [Ai,JG];rfl) ?_;rw [Rj,NN,A6];exact YC (JZ _).symm (Wt h2) (S0 h3 h4)
 unfold KR;rw [e,<-h1];obtain⟨p,n,ro⟩:=h;simp [Ab]
theorem LF {g:Geo} (hg:Bq g=true):∀ (l:List Hm),(∀ h∈l,Ee g h=true)->ET (g.d.toNat+1) l.length (l.map Nk).flatten=l/\(l.map Nk).flatten.length=l.length*(g.d.toNat+6)
 | [],_=>⟨rfl,by simp⟩
 | h::l,hh=>by
  obtain⟨ih,ih2⟩:=LF hg l fun x hx=>hh x (by simp [hx])
  have hB:=Y7 hg (hh h (by simp));refine⟨?_,by simp only [A0,AM,Ai,ih2,hB,Al,B6];omega⟩;simp only [ET,A0,AM,Al,List.range_succ_eq_map,List.map_map];rw [Nat.mul_zero,List.drop_zero,WJ hg (hh h (by simp))];congr 1;refine Eq.trans (C0 fun i _=>?_) ih;simp only [Function.comp,Nat.succ_eq_add_one];rw [show (g.d.toNat+1+5)*(i+1)=(Nk h).length+(g.d.toNat+1+5)*i by rw [hB,Nat.mul_succ];omega,Cu];rw [AD (by omega),B3,Nat.add_sub_cancel_left]
theorem TO {g:Geo} {a:An} (hg:Bq g=true) (ha:Bj g a=true):F8 g (L1 a)=some a:=by
 obtain⟨g1,g2,g3,g4,g5⟩:=Aq.1 hg;have ha0:=ha;simp only [Bj,Ae,decide_eq_true_eq,Bc,BL,BA,AI,Av] at ha;obtain⟨⟨q1,q2,q3,q4⟩,_,_,q5,q6,q7,q8⟩:=ha;have hz:a.homes.length=g.z.toNat:=by omega
 obtain⟨e1,e2⟩:=LF hg a.homes q8;have hf:∀ k (p:k<(KY a).length) (q:k<szA.length),Fo szA[k]/\0<=(KY a)[k]/\(KY a)[k]<Dv szA[k]:=fun k p q=>by
  have hk:k=0\/k=1\/k=2\/k=3\/k=4:=by simp [KY] at p;omega
  have l4:Dv 4=4294967296:=rfl;have l1:Dv 1=256:=rfl;rcases hk with rfl | rfl | rfl | rfl | rfl
  ·exact⟨.inr (.inr rfl),q1.1,by show a.gen<Dv 4;omega⟩
  ·exact⟨.inr (.inr rfl),q2.1,by show a.epoch<Dv 4;omega⟩
  ·exact⟨.inr (.inr rfl),q3.1,by show a.seq<Dv 4;omega⟩
  ·exact⟨.inr (.inr rfl),q4.1,by show a.last<Dv 4;omega⟩
  ·exact⟨.inl rfl,q5.1,by show a.pos<Dv 1;omega⟩
 have hn:nums szA (L1 a)=KY a:=by
  rw [L1,A6];exact nums_rowB _ _ _ rfl hf
 have h17:(rowB (KY a) szA).length=17:=tot_rowB _ _ rfl;have hd:(L1 a).drop 17=Hf a.label ++ (a.homes.map Nk).flatten:=by
  rw [L1,A6,<-h17,Cu,AD (Ah _),C_];simp
 have hlen:(L1 a).length=17+(1+a.label.size)+g.z.toNat*(g.d.toNat+6):=by
  rw [L1,Ai,Ai,h17,GA,e2,hz]
 have hdu:(L1 a).drop (17+(1+a.label.size))=(a.homes.map Nk).flatten:=by
  rw [<-AS,hd,<-GA,Cu,AD (Ah _),C_];simp
 have ho:Ni (g.d.toNat+1) g.z.toNat (L1 a) a.label (1+a.label.size)=a:=by
  unfold Ni;rw [hn,hdu,<-hz,e1];rfl
 unfold F8;rw [if_neg (by omega),hd,Uj q6];simp only;rw [if_neg (by omega),ho,if_pos ha0]
theorem RG {g:Geo} {b:List UInt8} {a:An} (hg:Bq g=true) (h:F8 g b=some a):Bj g a=true/\L1 a=b:=by
 obtain⟨g1,g2,g3,g4,g5⟩:=Aq.1 hg;unfold F8 at h;split at h
 ·cases h
 ·rename_i h17;split at h
  ·cases h
  ·rename_i s u hl;split at h
   ·cases h
   ·rename_i hlen;split at h
    ·rename_i hok;cases h;refine⟨hok,?_⟩;have hm:(g.d.toNat+1+5)*g.z.toNat=g.z.toNat*(g.d.toNat+6):=Nat.mul_comm _ _;rw [XC _ _ _ _ _ (by omega) hl (by omega),A3 (by omega)]
    ·cases h
end
section
open Go.Lib
theorem Gs (n:Nat) (z:Int) (h:z=n):UInt8.ofNat n=z.toNat.toUInt8:=by subst h;rfl
theorem ZL (r:Nat) (h:r<=1114111) (hv:r<55296\/57344<=r):(Utf8.encode (r:Int)).data.toList=encodeRune (r:Int):=by
 have v:Utf8.valid (r:Int)=true:=by simp [Utf8.valid];omega
 unfold encodeRune;by_cases c1:r<128
 ·rw [encodeRuneZ_one (by omega) (by omega)];simp [Utf8.encode,v,c1]
 by_cases c2:r<2048
 ·rw [encodeRuneZ_two (by omega) (by omega),show (Utf8.encode (r:Int)).data.toList=[UInt8.ofNat (192+r / 64),UInt8.ofNat (128+r % 64)] by simp [Utf8.encode,v,c1,c2]];exact congr (congrArg List.cons (Gs _ _ (by omega))) (congr (congrArg List.cons (Gs _ _ (by omega))) rfl)
 by_cases c3:r<65536
 ·rw [encodeRuneZ_three (by omega),show (Utf8.encode (r:Int)).data.toList=[UInt8.ofNat (224+r / 4096),UInt8.ofNat (128+r / 64 % 64),UInt8.ofNat (128+r % 64)] by simp [Utf8.encode,v,c1,c2,c3]];exact congr (congrArg List.cons (Gs _ _ (by omega))) (congr (congrArg List.cons (Gs _ _ (by omega))) (congr (congrArg List.cons (Gs _ _ (by omega))) rfl))
 ·rw [encodeRuneZ_four (by omega) (by omega),show (Utf8.encode (r:Int)).data.toList=[UInt8.ofNat (240+r / 262144),UInt8.ofNat (128+r / 4096 % 64),UInt8.ofNat (128+r / 64 % 64),UInt8.ofNat (128+r % 64)] by simp [Utf8.encode,v,c1,c2,c3]];exact congr (congrArg List.cons (Gs _ _ (by omega))) (congr (congrArg List.cons (Gs _ _ (by omega))) (congr (congrArg List.cons (Gs _ _ (by omega))) (congr (congrArg List.cons (Gs _ _ (by omega))) rfl)))
def Ek (l:List UInt8):List Int:=if _h:l=[] then [] else ((decodeL l).1:Int)::Ek (l.drop (decodeL l).2)
termination_by l.length
decreasing_by exact HR _h
theorem runesL_nil:Ek []=[]:=by rw [Ek];simp
theorem Iq (l:List UInt8) (h:¬l=[]):Ek l=((decodeL l).1:Int)::Ek (l.drop (decodeL l).2):=by rw [Ek,dif_neg h]
theorem Si {l:List UInt8}:(decodeL l).1<55296\/57344<=(decodeL l).1:=by
 rw [decodeL_N];have k0:=(l.getD 0 0).toNat_lt;have k1:=(l.getD 1 0).toNat_lt;have k2:=(l.getD 2 0).toNat_lt;rcases decodeN_shape l.length (l.getD 0 0).toNat (l.getD 1 0).toNat (l.getD 2 0).toNat (l.getD 3 0).toNat with ⟨_,e⟩ | ⟨_,_,_,_,e⟩ | ⟨_,_,_,_,_,_,e⟩ | ⟨_,_,_,_,_,_,_,e⟩ | e <;> rw [e] <;> simp only <;> omega
theorem Ry (n:Nat):∀ l:List UInt8,l.length=n->(Ek l).length<=l.length:=by
 induction n using Nat.strongRecOn with
 | ind n ih=>
  intro l hl;by_cases h:l=[]
  ·subst h;rw [runesL_nil];simp
  ·have h1:=HR h;have h2:=ih _ (by rw [<-hl];exact h1) _ rfl;rw [Iq l h,Al];omega
theorem U7 (n:Nat):∀ (l:List UInt8) (b:ByteArray),l.length=n->validD l=true->((Ek l).foldl (fun r n=>r ++ Utf8.encode n) b).data.toList=b.data.toList ++ l:=by
 induction n using Nat.strongRecOn with
 | ind n ih=>
  intro l b hl hv;by_cases h:l=[]
  ·subst h;rw [runesL_nil];simp
  ·have h1:=HR h;rw [validD_step l h] at hv;split at hv
   ·cases hv
   ·rename_i hn;rw [Iq l h,List.foldl_cons,ih _ (by rw [<-hl];exact h1) _ _ rfl hv];have e:(b ++ Utf8.encode ((decodeL l).1:Int)).data.toList=b.data.toList ++ (Utf8.encode ((decodeL l).1:Int)).data.toList:=by simp [ByteArray.data_append]
    rw [e,ZL _ (decodeL_rune l) Si,encode_decode l h hn,A6,BK]
theorem K9 {s:ByteArray} (h:validD s.data.toList=true):runesBytes (Ek s.data.toList)=s:=by
 have:=U7 _ s.data.toList ByteArray.empty rfl h;apply ByteArray.ext;apply Array.ext';rw [runesBytes,this];rfl
theorem JN (s:ByteArray):∀ (bound i:Nat) (acc:Array Value),s.size<=i+bound->Conv.runesFrom s bound i acc=acc ++ ((Ek (s.data.toList.drop i)).map (Value.int .i32)).toArray
 | 0,i,acc,h=>by
  have:s.data.toList.drop i=[]:=AD (by rw [Ej];omega);rw [this,runesL_nil];simp [Conv.runesFrom]
 | bound+1,i,acc,h=>by
  unfold Conv.runesFrom;split
  ·rename_i hi;have hne:¬s.data.toList.drop i=[]:=by
    intro e;have:=congrArg List.length e;rw [Ak,Ej] at this;simp at this;omega
   have hd:=I9 s i;have hw:1<=(Utf8.decode s i).2:=by rw [hd];exact decodeL_width _
   show Conv.runesFrom s bound (i+(Utf8.decode s i).2) (acc.push (Value.int IntKind.i32 (Int.ofNat (Utf8.decode s i).1)))=_;rw [JN s bound _ _ (by omega),Iq _ hne,<-hd,AS];simp
  ·have:s.data.toList.drop i=[]:=AD (by rw [Ej];omega);rw [this,runesL_nil];simp
end
end Go.Proofs.YtkolckdakddggaaGreatDoor.A
namespace Go.Proofs.YtkolckdakddggaaGreatDoor
section
open Go.RowKit
attribute [local go_sem ↓] Go.wp_at_zero Go.wp_at_succ

theorem Gx {P:Program} {w:World} {ops:Array Oper} {rest:List Oper} {o:Oper} {a:Act} {Q:Exit->Act->World->Prop} (hgd:o.guard=none) (d s:Operand) (t t':TypeId)
  (ho:o.op = .call { callee:= .builtin .append,args:= #[d,s],argTypes:= #[t,t'] }) {v u:Value} (hd:a.eval d=v) (hs:a.eval s=u) {v':Value} {w':World}
  (hr:(Builtin.append_ #[t,t'] o.type #[v,u]).run P w = .ok v' w') (h:wpList P ops Q rest (a.put o.dst v') w'):wpList P ops Q (o::rest) a w:=by
 refine wpList_plain hgd fun _ hK=>?_
 unfold Oper.wp execOp;simp only [ho,resolve,invoke,builtin,Sem.run_bind,Sem.run_pure,Result.andThen_ok,List.map_toArray,A0,Bn,hd,hs,hr];exact hK _ _ h
theorem MY (w:World) (M:Ms) (n:Int) (x:UInt8) (hx:n=(x.toNat:Int)) (s:ByteArray):Elems (Rp.sz UInt8) (Rp.E w M) ([Value.int .u8 n] ++ Lib.strCells s) (x::s.data.toList):=by
 subst hx;refine⟨[.int .u8 x.toNat],_,rfl,rfl,rfl,?_⟩;unfold Lib.strCells;induction s.data.toList with
 | nil=>rfl
 | cons y l ih=>exact⟨[.int .u8 y.toNat],_,rfl,rfl,rfl,ih⟩

theorem TG (s:ByteArray) (w:World) (M:Ms) (hs:s.size<=255) :
  Calls Tryz.prog 246 #[.string s] w fun e w'=>∃ r,e = .returned r/\OwR w' M w.heap.size 5 r (UInt8.ofNat s.size::s.data.toList)/\Below w.heap.size w w':=by
 obtain⟨i,h1,h2,h3,h4⟩:=info_parts (show (Tryz.prog.info? 5).map (fun i=>(i.zero,i.size,i.bytes))=some (some (.int .u8 0),1,1) by kernel_rfl);have hw8:IntKind.u8.wrap (s.size:Int)=s.size:=by rw [IntKind.wrap_u8];omega
 have hN:(s.size:Int)=((UInt8.ofNat s.size).toNat:Int):=by simp;omega
 have hB:=(Below.refl w.heap.size w).alloc (Ah _) (.cells #[Value.int .u8 (s.size:Int)] 5);have ho:(w.alloc (.cells #[Value.int .u8 (s.size:Int)] 5)).ownsRow w.heap.size 5 1 (.slice (some ⟨w.heap.size,0,none⟩) 1 1) 1 [.int .u8 (s.size:Int)]:=
  ⟨rfl, .inr ⟨w.heap.size,1,_,rfl,Ah _,heap_alloc_new w _,Ah _,by decide,rfl,rfl⟩⟩
 obtain⟨v',w',hr,hr2,hr3,_⟩:=Lib.run_append_own_string (P:=Tryz.prog) (w.alloc (.cells #[Value.int .u8 (s.size:Int)] 5)) w.heap.size 49 9 49 5 i Tryz.underlying49 Tryz.underlying9 h1 h2 h3 h4 _ 1 _ ho s (by unfold maxLen;omega) (by omega) hB.size;have HO:=Lib.hid (Ad (⟨_,by simp only [Al,DX];rw [C7];exact hr2,MY _ _ _ _ hN s⟩:OwR w' M w.heap.size 5 v' (UInt8.ofNat s.size::s.data.toList)) (hB.grown hr3 hB.size (fun b e=>by cases e;exact Ah _)));clear hr2 hr3 ho hB hN h1 h2 h3 h4
 go_enter Tryz.func246,Tryz.ntmps246
 go_wp2_with (at_builtin;refine Gx rfl _ _ _ _ rfl (by rfl) (by rfl) hr ?_)
 go_ret
 exact⟨_,rfl,HO.out⟩
theorem Y2 (s:ByteArray) (w:World) (e0:Int) (he:(e0 != 0)=true) (hc:Calls Tryz.prog 170 #[.string s] w fun e w'=>e = .returned (.int .i64 e0)/\Below w.heap.size w w') :
  Calls Tryz.prog 260 #[.string s] w fun e w'=>e = .returned (.tuple #[.slice none 0 0, .int .i64 e0])/\Below w.heap.size w w':=by
 have HC:=Lib.hid hc;clear hc
 go_enter Tryz.func260,Tryz.ntmps260
 go_wp2_with (go_at_call 170;go_must (with_reducible refine HC.out.mono ?_);rintro e w1 ⟨rfl,hB1⟩)
 have HB:=Lib.hid hB1;clear hB1
 go_wp2
 go_ret2
 exact⟨rfl,HB.out⟩
theorem W9 (s:ByteArray) (w:World) (M:Ms) (hs:s.size<=255) (hv:Lib.validD s.data.toList=true) (hc:Calls Tryz.prog 170 #[.string s] w fun e w'=>e = .returned (.int .i64 0)/\Below w.heap.size w w') :
  Calls Tryz.prog 260 #[.string s] w fun e w'=>∃ r,e = .returned (.tuple #[r, .int .i64 0])/\OwR w' M w.heap.size 5 r (UInt8.ofNat s.size::s.data.toList)/\Below w.heap.size w w':=by
 obtain⟨i,h1,h2,h3,h4⟩:=info_parts (show (Tryz.prog.info? 5).map (fun i=>(i.zero,i.size,i.bytes))=some (some (.int .u8 0),1,1) by kernel_rfl);have HI:=Lib.hid (Ad h1 (Ad h2 (Ad h3 h4)));have hw8:IntKind.u8.wrap (s.size:Int)=s.size:=by rw [IntKind.wrap_u8];omega
 have HC:=Lib.hid hc;have HV:=Lib.hid hv;have HS:=Lib.hid hs;clear hc h1 h2 h3 h4 hv hs
 go_enter Tryz.func260,Tryz.ntmps260
 go_wp2_with (go_at_call 170;go_must (with_reducible refine HC.out.mono ?_);rintro e w1 ⟨rfl,hB1⟩)
 have hrf:=A.JN s s.size 0 #[] (by omega);rw [List.drop_zero,Array.empty_append] at hrf;have hrl:=A.Ry _ s.data.toList rfl;have hsz:s.data.toList.length=s.size:=rfl;have hrs:(Conv.runesFrom s s.size 0 #[]).size=(A.Ek s.data.toList).length:=by rw [hrf];simp
 have hconv:=run_runes_of_string (P:=Tryz.prog) w1 9 379 21 s Tryz.underlying9 Tryz.underlying379 Tryz.underlying21 (by rw [hrs];have:=HS.out;omega);rw [hconv];have hB2:=hB1.trans (((Ng w1).trans ((Below.refl w1.drew.heap.size w1.drew).alloc (Ah _) (.cells (Conv.runesFrom s s.size 0 #[] ++ Array.replicate (grownCap w1 (Conv.runesFrom s s.size 0 #[]).size 0 21 - (Conv.runesFrom s s.size 0 #[]).size) (.int .i32 0)) 21))).mono hB1.size);have hcell:∀ j,j<(A.Ek s.data.toList).length->(w1.drew.alloc (.cells (Conv.runesFrom s s.size 0 #[] ++ Array.replicate (grownCap w1 (Conv.runesFrom s s.size 0 #[]).size 0 21 - (Conv.runesFrom s s.size 0 #[]).size) (.int .i32 0)) 21)).cell? ⟨w1.heap.size,j,none⟩=some (.int .i32 ((A.Ek s.data.toList).getD j 0)):=fun j hj=>by
  rw [cell_of_row _ w1.heap.size _ _ 21 (0,0) (heap_alloc_new w1.drew _),Array.getElem?_append_left (by rw [hrs];exact hj),hrf];simp [Ab,Af hj]
 generalize w1.drew.alloc (.cells (Conv.runesFrom s s.size 0 #[] ++ Array.replicate (grownCap w1 (Conv.runesFrom s s.size 0 #[]).size 0 21 - (Conv.runesFrom s s.size 0 #[]).size) (.int .i32 0)) 21)=w2 at hB2 hcell |-
 rw [hrs] at *
 generalize grownCap w1 (A.Ek s.data.toList).length 0 21=cap;have hgl:w1.heap.size<w2.heap.size\/(A.Ek s.data.toList).length=0:=by
  rcases D3 (A.Ek s.data.toList).length with h | h
  ·exact .inr h
  ·exact .inl (World.block_lt_of_cell? _ _ (hcell 0 h))
 generalize w1.heap.size=g at hcell hgl |-
 have hN:(s.size:Int)=((UInt8.ofNat s.size).toNat:Int):=by have:=HS.out;simp;omega
 have hB3:=hB2.trans (((Below.refl w2.heap.size w2).alloc (Ah _) (.cells #[Value.int .u8 (s.size:Int)] 5)).mono hB2.size);have hcv:(convert 379 9 (.slice (some ⟨g,0,none⟩) (A.Ek s.data.toList).length cap)).run Tryz.prog (w2.alloc (.cells #[Value.int .u8 (s.size:Int)] 5)) = .ok (.string s) (w2.alloc (.cells #[Value.int .u8 (s.size:Int)] 5)):=by
  rw [run_convert_runes (P:=Tryz.prog) _ 379 9 21 ⟨g,0,none⟩ (A.Ek s.data.toList).length cap (A.Ek s.data.toList) (Ah _) Tryz.underlying379 Tryz.underlying21 Tryz.underlying9 (fun j hj=>by
   rw [Addr.add_lit,A4];exact Sq ((Below.refl w2.heap.size w2).alloc (Ah _) _) (hcell j hj)),As,A.K9 HV.out]
 have ho:(w2.alloc (.cells #[Value.int .u8 (s.size:Int)] 5)).ownsRow w.heap.size 5 1 (.slice (some ⟨w2.heap.size,0,none⟩) 1 1) 1 [.int .u8 (s.size:Int)]:=
  ⟨rfl, .inr ⟨w2.heap.size,1,_,rfl,hB2.size,heap_alloc_new w2 _,Ah _,by decide,rfl,rfl⟩⟩
 obtain⟨v',w',hr,hr2,hr3,_⟩:=Lib.run_append_own_string (P:=Tryz.prog) (w2.alloc (.cells #[Value.int .u8 (s.size:Int)] 5)) w.heap.size 49 9 49 5 i Tryz.underlying49 Tryz.underlying9 HI.out.1 HI.out.2.1 HI.out.2.2.1 HI.out.2.2.2 _ 1 _ ho s (by have:=HS.out;unfold maxLen;omega) (by have:=HS.out;omega) hB3.size;have HO:=Lib.hid (Ad (⟨_,by simp only [Al,DX];rw [C7];exact hr2,MY _ _ _ _ hN s⟩:OwR w' M w.heap.size 5 v' (UInt8.ofNat s.size::s.data.toList)) (hB3.grown hr3 hB3.size (fun b e=>by cases e;exact hB2.size)));clear hr2 hr3 ho hB3 hB2 hB1 hN hcell hgl hconv hrf hrl hsz hrs
 go_wp2_with (at_builtin;refine Gx rfl _ _ _ _ rfl (by rfl) (by rfl) hr ?_)
 go_ret2
 exact⟨_,rfl,HO.out⟩
end
end Go.Proofs.YtkolckdakddggaaGreatDoor
namespace Go.Proofs.YtkolckdakddggaaGreatDoor.A
section
open Go.RowKit
def Qw (b:List UInt8):AV:=match If b with
 | some (s,n)=> .tp [.v (.string s),iv n,iv 0]
 | none=> .tp [.v (.string ⟨#[]⟩),iv 0,iv 4]
theorem aw (b:List UInt8) (hl:b.length<=100000):Fn Tryz.prog 282 [bA b] fun r=>r=Qw b:=by
 have hb0:=(b.getD 0 0).toNat_lt;have hw:IntKind.i64.wrap (1+IntKind.i64.wrap ((b.getD 0 0).toNat:Int))=((1+(b.getD 0 0).toNat:Nat):Int):=by rw [wi (n:=((b.getD 0 0).toNat:Int)) (by omega),wi (by omega)];omega
 by_cases hs:b.length<1+(b.getD 0 0).toNat
 ·have hr:Qw b = .tp [.v (.string ⟨#[]⟩),iv 0,iv 4]:=by rw [Qw,If,if_pos hs]
  rw [hr];refine zS Tryz.func282 rfl ?_;conv=>whnf
  refine A8 (fun h=>?_) (fun h=>?_) <;> (repeat rw [Ac] at h) <;> conv=>whnf
  ·exact⟨_,ri,rfl⟩
  ·refine⟨by first | omega | (refine⟨rfl,?_,?_⟩ <;> first | omega | (simp only [Aa];done) | (simp only [Aa];omega)) | (simp only [Aa];omega),?_⟩;conv=>whnf
   refine A8 (fun h2=>?_) (fun h2=>?_) <;> (repeat rw [Ac] at h2) <;> conv=>whnf
   ·exact⟨_,ri,rfl⟩
   ·exfalso;have h2:IntKind.i64.wrap (1+IntKind.i64.wrap ((b.getD 0 0).toNat:Int))<=(b.length:Int):=h2;rw [hw] at h2;omega
 ·have hlen:((b.drop 1).take (b.getD 0 0).toNat).length=(b.getD 0 0).toNat:=by rw [Ar,Ak];omega
  have hc:=Jw ⟨((b.drop 1).take (b.getD 0 0).toNat).toArray⟩ (by show (List.toArray _).size<=_;simp only [BT];omega);have e1:(IntKind.i64.wrap (1+IntKind.i64.wrap ((b.getD 0 0).toNat:Int)) - 1).toNat=(b.getD 0 0).toNat:=by rw [hw];omega
  refine zS Tryz.func282 rfl ?_;conv=>whnf
  refine A8 (fun h=>?_) (fun h=>?_) <;> (repeat rw [Ac] at h) <;> conv=>whnf
  ·exfalso;have h:(b.length:Int)=0:=h;omega
  ·refine⟨by first | omega | (refine⟨rfl,?_,?_⟩ <;> first | omega | (simp only [Aa];done) | (simp only [Aa];omega)) | (simp only [Aa];omega),?_⟩;conv=>whnf
   refine A8 (fun h2=>?_) (fun h2=>?_) <;> (repeat rw [Ac] at h2) <;> conv=>whnf
   ·exfalso;have h2:(b.length:Int)<IntKind.i64.wrap (1+IntKind.i64.wrap ((b.getD 0 0).toNat:Int)):=h2;rw [hw] at h2;omega
   ·refine⟨by first | omega | (refine⟨rfl,?_,?_⟩ <;> first | omega | (simp only [Aa];done) | (simp only [Aa];omega)) | (simp only [Aa];omega),?_⟩;conv=>whnf
    have hw':IntKind.i64.wrap (1+IntKind.i64.wrap ((b.getD (Int.toNat 0) 0).toNat:Int))=((1+(b.getD 0 0).toNat:Nat):Int):=hw;rw [hw'];refine⟨⟨by omega,by omega,by omega,by omega⟩,?_⟩;conv=>whnf
    refine⟨(b.drop 1).take (b.getD 0 0).toNat,⟨rfl,by rw [hlen];omega,fun i hi=>?_⟩,?_⟩
    ·have hi':i<(b.getD 0 0).toNat:=by omega
     show [AV.v (Value.int IntKind.u8 ((b.getD (i+1) 0).toNat:Int))]=_;rw [show ((b.drop 1).take (b.getD 0 0).toNat).getD i 0=b.getD (i+1) 0 by rw [Ab,BE hi',BJ,C7];rfl]
    conv=>whnf
    refine z_ hc ?_;conv=>whnf
    refine A8 (fun h3=>?_) (fun h3=>?_) <;> (repeat rw [Ac] at h3) <;> conv=>whnf
    ·have h3:Fi ((b.drop 1).take (b.getD 0 0).toNat)≠0:=h3;exact⟨_,ri,by rw [Qw,If,if_neg hs,if_neg h3]⟩
    ·have h3:Fi ((b.drop 1).take (b.getD 0 0).toNat)=0:=h3;exact⟨_,ri,by rw [Qw,If,if_neg hs,if_pos h3]⟩
theorem TA (b:List UInt8) (hl:b.length<=100000):Fn Tryz.prog 293 [bA b] fun r=>r=match If b with | some (s,n)=> .tp [.v (.string s),iv n] | none=> .tp [.v (.string ⟨#[]⟩),iv 0]:=by
 have hb0:=(b.getD 0 0).toNat_lt;have hw:IntKind.i64.wrap (1+IntKind.i64.wrap ((b.getD 0 0).toNat:Int))=((1+(b.getD 0 0).toNat:Nat):Int):=by rw [wi (n:=((b.getD 0 0).toNat:Int)) (by omega),wi (by omega)];omega
 by_cases hs:b.length<1+(b.getD 0 0).toNat
 ·rw [show If b=none by rw [If,if_pos hs]];refine zS Tryz.func293 rfl ?_;conv=>whnf
  refine A8 (fun h=>?_) (fun h=>?_) <;> (repeat rw [Ac] at h) <;> conv=>whnf
  ·exact⟨_,ri,rfl⟩
  ·refine⟨by first | omega | (refine⟨rfl,?_,?_⟩ <;> first | omega | (simp only [Aa];done) | (simp only [Aa];omega)) | (simp only [Aa];omega),?_⟩;conv=>whnf
   refine A8 (fun h2=>?_) (fun h2=>?_) <;> (repeat rw [Ac] at h2) <;> conv=>whnf
   ·exact⟨_,ri,rfl⟩
   ·exfalso;have h2:IntKind.i64.wrap (1+IntKind.i64.wrap ((b.getD 0 0).toNat:Int))<=(b.length:Int):=h2;rw [hw] at h2;omega
 ·have hlen:((b.drop 1).take (b.getD 0 0).toNat).length=(b.getD 0 0).toNat:=by rw [Ar,Ak];omega
  have hsz:(⟨((b.drop 1).take (b.getD 0 0).toNat).toArray⟩:ByteArray).size=(b.getD 0 0).toNat:=by show (List.toArray _).size=_;simp only [BT,hlen]
  have hc:=NF ⟨((b.drop 1).take (b.getD 0 0).toNat).toArray⟩ (by rw [hsz];omega);have hw2:IntKind.i64.wrap (1+((⟨((b.drop 1).take (b.getD 0 0).toNat).toArray⟩:ByteArray).size:Int))=((1+(b.getD 0 0).toNat:Nat):Int):=by rw [hsz,wi (by omega)];omega
  refine zS Tryz.func293 rfl ?_;conv=>whnf
  refine A8 (fun h=>?_) (fun h=>?_) <;> (repeat rw [Ac] at h) <;> conv=>whnf
  ·exfalso;have h:(b.length:Int)=0:=h;omega
  ·refine⟨by first | omega | (refine⟨rfl,?_,?_⟩ <;> first | omega | (simp only [Aa];done) | (simp only [Aa];omega)) | (simp only [Aa];omega),?_⟩;conv=>whnf
   refine A8 (fun h2=>?_) (fun h2=>?_) <;> (repeat rw [Ac] at h2) <;> conv=>whnf
   ·exfalso;have h2:(b.length:Int)<IntKind.i64.wrap (1+IntKind.i64.wrap ((b.getD 0 0).toNat:Int)):=h2;rw [hw] at h2;omega
   ·refine⟨by first | omega | (refine⟨rfl,?_,?_⟩ <;> first | omega | (simp only [Aa];done) | (simp only [Aa];omega)) | (simp only [Aa];omega),?_⟩;conv=>whnf
    have hw':IntKind.i64.wrap (1+IntKind.i64.wrap ((b.getD (Int.toNat 0) 0).toNat:Int))=((1+(b.getD 0 0).toNat:Nat):Int):=hw;rw [hw'];refine⟨⟨by omega,by omega,by omega,by omega⟩,?_⟩;conv=>whnf
    refine⟨(b.drop 1).take (b.getD 0 0).toNat,⟨rfl,by rw [hlen];omega,fun i hi=>?_⟩,?_⟩
    ·have hi':i<(b.getD 0 0).toNat:=by omega
     show [AV.v (Value.int IntKind.u8 ((b.getD (i+1) 0).toNat:Int))]=_;rw [show ((b.drop 1).take (b.getD 0 0).toNat).getD i 0=b.getD (i+1) 0 by rw [Ab,BE hi',BJ,C7];rfl]
    conv=>whnf
    refine z_ hc ?_;conv=>whnf
    refine A8 (fun h3=>?_) (fun h3=>?_) <;> (repeat rw [Ac] at h3) <;> conv=>whnf
    ·have h3:Fi ((b.drop 1).take (b.getD 0 0).toNat)≠0:=h3;exact⟨_,ri,by rw [If,if_neg hs,if_neg h3]⟩
    ·have h3:Fi ((b.drop 1).take (b.getD 0 0).toNat)=0:=h3;exact⟨_,ri,by rw [If,if_neg hs,if_pos h3];simp only;rw [hw2]⟩
theorem VY (s:ByteArray) (hs:s.size<=255):Fn Tryz.prog 246 [.v (.string s)] fun r=>r=bA (Hf s):=by
 refine⟨⟨_,Tryz.func246,rfl,by decide⟩,fun c0 us hd hM _ hr=>?_⟩;obtain⟨u1,rfl,h1⟩:=al hr;simp only [Rd] at h1;subst h1;refine(TG s c0.w noM hs).mono ?_;rintro e w' ⟨r,rfl,ho,hB⟩;exact⟨_,_,rfl,rfl,hB,Ww ho hM⟩
theorem Uh (s:ByteArray) (hs:s.size<=1000000):Fn Tryz.prog 260 [.v (.string s)] fun r=>r = .tp [bA (if Fi s.data.toList=0 then Hf s else []),iv (Fi s.data.toList)]:=by
 have hc:=Jw s hs;refine⟨⟨_,Tryz.func260,rfl,by decide⟩,fun c0 us hd hM hg hr=>?_⟩;have hr0:=hr;obtain⟨u1,rfl,h1⟩:=al hr;simp only [Rd] at h1;subst h1;have hC:=hc.calls c0 _ hd hM hg hr0;by_cases h0:Fi s.data.toList=0
 ·have h24:=I1 h0;have hv:Lib.validD s.data.toList=true:=by
   unfold Fi at h0;split at h0
   ·cases h0
   ·rename_i h;simp at h;exact h.2
  rw [if_pos h0];rw [h0] at hC |-
  refine(W9 s c0.w noM (by have:s.size=s.data.toList.length:=rfl;omega) hv (hC.mono ?_)).mono ?_
  ·rintro e w' ⟨v,r,rfl,rfl,q1,q2⟩;simp only [Rd] at q2;exact⟨by rw [q2],q1⟩
  ·rintro e w' ⟨r,rfl,ho,hB⟩;exact⟨_,_,rfl,rfl,hB,Pb (Ww ho hM) (Np _)⟩
 ·rw [if_neg h0];refine(Y2 s c0.w (Fi s.data.toList) (by simpa using h0) (hC.mono ?_)).mono ?_
  ·rintro e w' ⟨v,r,rfl,rfl,q1,q2⟩;simp only [Rd] at q2;exact⟨by rw [q2],q1⟩
  ·rintro e w' ⟨rfl,hB⟩;refine⟨_,_,rfl,rfl,hB,Pb ?_ (Np _)⟩;exact Bt 1 (fun i=> [.v (.int .u8 (([]:List UInt8).getD i 0).toNat)]) _ (.slice none 0 0) (by simp [Rd])
theorem Qa (l:List Int) (j:Nat) (h:j<l.length):OV (l.take (j+1))=OV (l.take j) ++ leB 1 (l.getD j 0).toNat:=by
 have e:∀ n,n<=l.length->OV (l.take n)=rowB (l.take n) ((Gk l.length).take n):=fun n hn=>by
  rw [OV,Ar,Nat.min_eq_left hn,Gk,Gk,List.take_replicate,Nat.min_eq_left hn]
 rw [e _ (by omega),e _ (by omega),rowB_step l (Gk l.length) j h (by rw [JZ];exact h)];simp [Gk,Ab,Af h]
theorem LD (l:List Int):(OV l).length=l.length:=by rw [OV,tot_rowB _ _ (JZ _).symm,tot_ones]
def GH (a:An) (k:Nat):List UInt8:=rowB (KY a) szA ++ Hf a.label ++ ((a.homes.take k).map Nk).flatten
theorem O4 (a:An) (k:Nat) (h:k<a.homes.length):GH a (k+1)=GH a k ++ Nk (a.homes.getD k ⟨[],0,0⟩):=by
 rw [GH,GH,AR h,A9,Cb,A6];simp only [A0,Bn,AM,List.flatten_nil,AK,Ab,Af h,B9,A6]
theorem QY (a:An):GH a a.homes.length=L1 a:=by rw [GH,As,L1]
theorem YR {g:Geo} {a:An} (hg:Bq g=true) (ha:Bj g a=true):∀ k (_:k<(KY a).length) (_:k<szA.length),Fo szA[k]/\0<=(KY a)[k]/\(KY a)[k]<Dv szA[k]:=by
 obtain⟨g1,g2,g3,g4,g5⟩:=Aq.1 hg;simp only [Bj,Ae,decide_eq_true_eq,Bc,BL,BA,AI,Av] at ha;obtain⟨⟨q1,q2,q3,q4⟩,_,_,q5,q6,q7,q8⟩:=ha;intro k p _;have hk:k=0\/k=1\/k=2\/k=3\/k=4:=by simp [KY] at p;omega
 have l4:Dv 4=4294967296:=rfl;have l1:Dv 1=256:=rfl;rcases hk with rfl | rfl | rfl | rfl | rfl
 ·exact⟨.inr (.inr rfl),q1.1,by show a.gen<Dv 4;omega⟩
 ·exact⟨.inr (.inr rfl),q2.1,by show a.epoch<Dv 4;omega⟩
 ·exact⟨.inr (.inr rfl),q3.1,by show a.seq<Dv 4;omega⟩
 ·exact⟨.inr (.inr rfl),q4.1,by show a.last<Dv 4;omega⟩
 ·exact⟨.inl rfl,q5.1,by show a.pos<Dv 1;omega⟩
theorem EV {g:Geo} {a:An} (hg:Bq g=true) (ha:Bj g a=true) (k:Nat) (hk:k<=a.homes.length):(GH a k).length<=200/\a.homes.length<=4/\Fi a.label.data.toList=0/\a.label.size<=24/\(∀ h∈a.homes,Ee g h=true):=by
 obtain⟨g1,g2,g3,g4,g5⟩:=Aq.1 hg;simp only [Bj,Ae,decide_eq_true_eq,Bc,BL,BA,AI,Av] at ha;obtain⟨_,_,_,q5,q6,q7,q8⟩:=ha;have h24:=I1 q6;have hs:a.label.size=a.label.data.toList.length:=rfl;have hr:(rowB (KY a) szA).length=17:=tot_rowB _ _ rfl;have hm:((a.homes.take k).map Nk).flatten.length=(a.homes.take k).length*(g.d.toNat+6):=(LF hg (a.homes.take k) fun h hh=>q8 h (Cq hh)).2;have hk4:(a.homes.take k).length<=4:=by rw [Ar];omega
 have hmul:(a.homes.take k).length*(g.d.toNat+6)<=4*10:=D0 hk4 (by omega);refine⟨?_,by omega,q6,by omega,q8⟩;rw [GH,Ai,Ai,hr,GA,hm];omega
theorem Nf {L:List UInt8} {n:Nat} {es:List (List AV)} (hn:n=L.length) (he:es=L.map Eo) (c:Ctx) (v:Value) (h:Rd (.sl 1 n fun i=>es.getD i []) c v):Rd (bA L) c v:=by
 subst he;exact zC hn (fun i hi=>Bg (f:=Eo) (l:=L) (d:=0) (hn ▸ hi)) h
theorem H6 {α:Type} {d:α} {β:Type} (f:α->β) (l:List α):(List.range l.length).map (fun i=>f (l.getD i d))=l.map f:=by
 refine List.ext_getElem (by simp) fun i h1 h2=>?_
 simp only [Aa,CM] at h1;simp [Ab,Af h1]
theorem QS (L:List UInt8):((List.range L.length).map fun i=> [AV.v (Value.int IntKind.u8 ((L.getD i 0).toNat:Int))])=L.map Eo:=H6 (d:=0) Eo L
theorem Vg (g:Geo) (a:An) (hl:a.label.size<=1000000) (hh:a.homes.length<=1000000):Fn Tryz.prog 215 [.ag (AT g), .ag (Ew a)] fun r=>r = .tp [bA (if Bq g&&Bj g a then L1 a else []), .v (FM (Bq g&&Bj g a))]:=by
 have hc:=La g a hl hh;have no:∀ (c:Ctx) (v:Value),Rd (.tp [.v (.slice none 0 0),iv 1]) c v->Rd (.tp [bA [],iv 1]) c v:=fun c v h=>by
  simp only [Rd,RdL] at h |-
  obtain⟨xs,rfl,y,ys,rfl,rfl,h⟩:=h;exact⟨_,rfl,_,_,rfl,Bt 1 (fun i=> [.v (.int .u8 (([]:List UInt8).getD i 0).toNat)]) c (.slice none 0 0) (by simp [Rd]),h⟩
 cases hok:(Bq g&&Bj g a) with
 | false=>
  rw [hok] at hc;refine zS Tryz.func215 rfl ?_;conv=>whnf
  refine z_ hc ?_;exact⟨_,no,rfl⟩
 | true=>
  rw [hok] at hc;have hg:Bq g=true:=by simp only [Ae] at hok;exact hok.1
  have ha:Bj g a=true:=by simp only [Ae] at hok;exact hok.2
  obtain⟨q1,q2,q3,q4,q5⟩:=EV hg ha 0 (Aj _);have hrow:=JP (KY a) szA rfl (by show 5<=1000;decide) (YR hg ha);have hlb:=Uh a.label hl;rw [if_pos q3,q3] at hlb;refine zS Tryz.func215 rfl ?_;conv=>whnf
  refine z_ hc ?_;conv=>whnf
  refine zO (hrow).go ?_;refine⟨rfl,?_⟩;refine⟨rfl,?_⟩;conv=>whnf
  refine zX [iA (KY a),iA szA] ⟨(BN (l:=(KY a)) rfl).1,(BN (l:=szA) rfl).1,tv⟩ ?_;refine zW (hrow) rfl ?_;rintro _ _ ⟨rfl,rfl⟩;conv=>whnf
  refine z_ hlb ?_;conv=>whnf
  have hr17:(rowB (KY a) szA).length=17:=tot_rowB _ _ rfl;refine Ad ⟨by simp,by rw [hr17,GA];omega⟩ ?_;conv=>whnf
  have e0:(rowB (KY a) szA).map Eo ++ ((List.range (Hf a.label).length).map fun i=> [AV.v (Value.int IntKind.u8 (((Hf a.label).getD i 0).toNat:Int))])=(GH a 0).map Eo:=by
   rw [QS,<-A9];simp [GH]
  have e1:(rowB (KY a) szA).length+(Hf a.label).length=(GH a 0).length:=by simp [GH]
  refine zj Nat (fun k=>([(2, .bp 0 0),(3, .bp 1 0),(7, .ow 4 (GH a k).length),(49,Ig a.homes),(50,iv a.homes.length),(51,iv k)], [.box 23 (AT g), .box 28 (Ew a), .dead, .dead, .row 5 1 ((GH a k).map Eo)])) (fun k=>k<=a.homes.length) (fun k=>a.homes.length - k) 0 (Aj _)
   (zE ⟨[],tv,⟨rfl,rfl,congrArg (AV.ow 4) e1,rfl,rfl,rfl,tv⟩,⟨rfl,rfl,congrArg (AB.row _ _) e0.symm,tv⟩,rfl,rfl,rfl⟩) ?_
  intro k hk;conv=>whnf
  refine A8 (fun h6=>?_) (fun h6=>?_) <;> (repeat rw [Ac] at h6) <;> conv=>whnf
  ·refine⟨by first | omega | (refine⟨rfl,?_,?_⟩ <;> first | omega | (simp only [Aa];done) | (simp only [Aa];omega)) | (simp only [Aa];omega),?_⟩;conv=>whnf
   have hk':k<a.homes.length:=by omega
   have hh4:=q5 _ (A7 (d:=(⟨[],0,0⟩:Hm)) hk');obtain⟨f1,f2,f3,f4,f5⟩:=Pf hg hh4;have hst:=O4 a k hk';have hB:=(EV hg ha k hk).1;have hB2:=(EV hg ha (k+1) hk').1;generalize hX:GH a k=X at hst hB |-
   rw [show a.homes.getD (k:Int).toNat ⟨[],0,0⟩=a.homes.getD k ⟨[],0,0⟩ by rw [Ac]];generalize a.homes.getD k ⟨[],0,0⟩=h at hh4 f1 f2 f3 f4 f5 hst |-
   rw [hst] at hB2;have hlm:(Nk h).length=h.places.length+5:=by rw [Kg,tot_rowB _ _ (by rw [Ai,JG];rfl),JE]
   rw [Ai,hlm] at hB2;refine zj Nat (fun j=>([(2, .bp 0 0),(3, .bp 1 0),(7, .ow 4 (X ++ OV (h.places.take j)).length),(12, .bp 5 0),(49,Ig a.homes),(50,iv a.homes.length),(51,iv k),(56,iA h.places),(57,iv h.places.length),(58,iv j)], [.box 23 (AT g), .box 28 (Ew a), .dead, .dead, .row 5 1 ((X ++ OV (h.places.take j)).map Eo), .box 53 (DU h)])) (fun j=>j<=h.places.length) (fun j=>h.places.length - j) 0 (Aj _)
    (zE ⟨[],tv,⟨rfl,rfl,congrArg (fun l=>AV.ow 4 (List.length l)) (AK X).symm,rfl,rfl,rfl,rfl,rfl,rfl,rfl,tv⟩,⟨rfl,rfl,congrArg (fun l=>AB.row _ _ (List.map Eo l)) (AK X),rfl,tv⟩,rfl,rfl,rfl⟩) ?_
   intro j hj;conv=>whnf
   refine A8 (fun h7=>?_) (fun h7=>?_) <;> (repeat rw [Ac] at h7) <;> conv=>whnf
   ·refine⟨by first | omega | (refine⟨rfl,?_,?_⟩ <;> first | omega | (simp only [Aa];done) | (simp only [Aa];omega)) | (simp only [Aa];omega),?_⟩;conv=>whnf
    rw [Ac];have hj':j<h.places.length:=by omega
    have hp:=f2 _ (A7 (d:=(0:Int)) hj');have hpl:=LD (h.places.take j);have hps:=Qa h.places j hj';have hput:=Ym (X ++ OV (h.places.take j)) (h.places.getD j 0) 1 (.inl rfl) (by rw [Ai,hpl,Ar];omega) hp.1 hp.2;rw [show (1:Int).toNat=1 from rfl,A6,<-hps] at hput;refine zO (hput).go ?_;conv=>whnf
    repeat' (refine Ad (by first | rfl | omega | (simp;done) | (simp only [Aa];omega) | (simp;omega)) ?_;conv=>whnf)
    refine zX [bA (X ++ OV (h.places.take j)),iv (h.places.getD j 0),iv 1] ⟨Nf rfl rfl,ri,ri,tv⟩ ?_;refine zW (hput) rfl ?_;rintro _ _ ⟨rfl,rfl⟩;refine⟨j+1,by omega,by omega,zR (s:= [0,1,2,3,6,5]) ⟨⟨rfl,rfl,rfl,rfl,rfl,rfl,rfl,rfl,rfl,AL (by omega),tv⟩,tA,rfl,rfl,rfl,rfl,rfl⟩⟩
   ·have ej:j=h.places.length:=by omega
    subst ej;have hr2:=JP [h.next,h.root] [1,4] rfl (by show 2<=1000;decide) (S0 f3 ⟨f4,f5⟩);have l5:(rowB [h.next,h.root] [1,4]).length=5:=tot_rowB _ _ rfl;have hpl:=LD (h.places.take h.places.length);rw [As] at hpl |-
    refine zO (hr2).go ?_;refine⟨rfl,?_⟩;refine⟨rfl,?_⟩;conv=>whnf
    refine zX [iA [h.next,h.root],iA [1,4]] ⟨(BN (l:= [h.next,h.root]) rfl).1,(BN (l:= [1,4]) rfl).1,tv⟩ ?_;refine zW (hr2) rfl ?_;rintro _ _ ⟨rfl,rfl⟩;refine⟨by simp,?_⟩;conv=>whnf
    refine Ad ⟨by simp,by rw [l5,Ai,hpl];omega⟩ ?_;conv=>whnf
    refine⟨k+1,hk',by omega,zR (s:= [0,1,2,3,4]) ⟨⟨rfl,rfl,congrArg (AV.ow 4) (by rw [hst];simp [Nk,DS]),rfl,rfl,AL (by omega),tv⟩,⟨rfl,rfl,tv,tv,congrArg (fun l=>some (AB.row _ _ l)) (by rw [hst];simp [Nk]),tv⟩,rfl,rfl,rfl,rfl,rfl⟩⟩
  ·have ek:k=a.homes.length:=by omega
   subst ek;rw [QY];refine⟨by simp,?_⟩;exact⟨.tp [bA (L1 a),iv 0],fun c v h=>by
    simp only [Rd,RdL] at h |-
    obtain⟨xs,rfl,y,ys,rfl,h1,h⟩:=h;exact⟨_,rfl,y,ys,rfl,Nf rfl rfl c y (by simp only [Rd];exact h1),h⟩,rfl⟩
end
end Go.Proofs.YtkolckdakddggaaGreatDoor.A
