/-
Several texts in one.
-/
import Derived.Test.YtkolckdakddggaaGreatDoorPPC2P1
import Derived.ProofKit
import Derived.Deep.Slices
import Derived.OpenShut
import Derived.Lib.MapLaws
import Derived.Laws.Cover4
import Derived.Lib.AppendStr
import Derived.Laws.IdiomStrings
import Derived.RangeFuncNested
import Derived.RangeFuncBound
import Derived.RangeFuncCalls
import Derived.RangeFuncLeaves
import Derived.RangeFuncBox
import Derived.TacticsIn
set_option linter.defProp false
set_option maxRecDepth 100000
set_option maxHeartbeats 8000000
set_option linter.unusedSimpArgs false
set_option linter.unusedVariables false
set_option linter.deprecated false
namespace Go.Proofs.YtkolckdakddggaaGreatDoor.A
section
open Go.RowKit
theorem OT (n lo hi:Int):Fn Tryz.prog 169 [.v (.int .i64 n), .v (.int .i64 lo), .v (.int .i64 hi)] fun r=>r = .v (.bool (CJ n lo hi)):=by
 refine zT Tryz.func169 rfl ?_
 conv=>whnf
 repeat' (first | (refine Ao (fun h=>?_) (fun h=>?_) <;> (try simp at h) <;> conv=>whnf) | (refine zN tys_ok mixed (by kernel_rfl) ?_;conv=>whnf) | (refine zX ?_;conv=>whnf) | (refine Ae (by omega) ?_;conv=>whnf))
 all_goals exact⟨_,ri,by simp [CJ, *] <;> omega⟩
theorem XJ (n:Int):Fn Tryz.prog 222 [.v (.int .i64 n)] fun r=>r = .v (.bool (!CJ n 0 4294967295)):=by
 refine zT Tryz.func222 rfl ?_
 conv=>whnf
 refine z_ (OT n 0 4294967295) ?_
 exact⟨_,ri,rfl⟩
theorem VV (l:List Int) (hl:l.length<=1000000):Fn Tryz.prog 199 [iA l, .v (.func (.func 222) #[] #[])] fun r=>∃ n:Int,r = .v (.int .i64 n)/\decide (0<=n)=l.any (fun x=>!CJ x 0 4294967295):=by
 refine zT Tryz.func199 rfl ?_
 conv=>whnf
 refine zP Nat (fun k=>([(0,iA l),(1, .v (.func (.func 222) #[] #[])),(7, .v (.int .i64 l.length)),(8, .v (.int .i64 k))], [])) (fun k=>k<=l.length/\(l.take k).any (fun x=>!CJ x 0 4294967295)=false) (fun k=>l.length - k) 0 ⟨Aj _,by simp⟩ ⟨[],tv,⟨rfl,rfl,rfl,rfl,tv⟩,tv,rfl,rfl,rfl⟩ ?_
 rintro k ⟨hk,hI⟩
 conv=>whnf
 refine Ao (fun h2=>?_) (fun h2=>?_) <;> simp at h2 <;> conv=>whnf
 ·refine⟨by first | omega | (refine⟨rfl,?_,?_⟩ <;> first | omega | (simp only [Ab];done) | (simp only [Ab];omega)) | (simp only [Ab];omega),?_⟩
  conv=>whnf
  refine z_ (XJ (l.getD k 0)) ?_
  conv=>whnf
  refine Ao (fun h3=>?_) (fun h3=>?_) <;> conv=>whnf
  ·exact⟨_,ri,_,rfl,by
    rw [Dp.2 ⟨l.getD k 0,A9 h2,h3⟩,decide_eq_true];omega⟩
  ·refine⟨k+1,⟨by omega,?_⟩,by omega, [],tv,⟨rfl,rfl,rfl,AS (by omega),tv⟩,tv,rfl,rfl,rfl⟩
   rw [AI h2,List.any_append,hI]
   rw [Aa,Af h2] at h3
   simpa using h3
 ·exact⟨_,ri,_,rfl,by rw [A4 h2] at hI;rw [hI];rfl⟩
theorem OA (l:List Int) (hl:l.length<=1000000):Fn Tryz.prog 168 [iA l] fun r=>r = .v (.bool (l.all fun x=>CJ x 0 4294967295)):=by
 have hc:Fn Tryz.prog 221 [iA l, .v (.func (.func 222) #[] #[])] fun r=>r = .v (.bool (l.any fun x=>!CJ x 0 4294967295)):=by
  refine zT Tryz.func221 rfl ?_
  conv=>whnf
  refine zI (VV l hl) rfl ?_
  rintro _ ⟨n,rfl,hn⟩
  exact⟨_,ri,by rw [<-hn]⟩
 refine zT Tryz.func168 rfl ?_
 conv=>whnf
 refine z_ hc ?_
 exact⟨_,ri,by rw [Cc]⟩
theorem TN (g:Geo) (hg:Bt g=true):Fn Tryz.prog 220 [.ag (AY g)] fun r=>r = .v (.int .i64 (g.d+1+g.sp)):=by
 obtain⟨h1,h2,h3,h4,h5⟩:=As.1 hg
 refine zT Tryz.func220 rfl ?_
 exact⟨_,ri,by rw [wi (n:=g.d+1) (by omega),wi (by omega)]⟩
theorem VW (l:List Int) (p:Int) (hl:l.length<=1000000):Fn Tryz.prog 128 [iA l, .v (.int .i64 p)] fun r=>r = .v (.bool (l.any fun x=>p == x)):=by
 have hx:Fn Tryz.prog 200 [iA l, .v (.int .i64 p)] fun r=>∃ n:Int,r = .v (.int .i64 n)/\decide (0<=n)=l.any (fun x=>p == x):=by
  refine zT Tryz.func200 rfl ?_
  conv=>whnf
  refine zP Nat (fun k=>([(0,iA l),(1, .v (.int .i64 p)),(7, .v (.int .i64 l.length)),(8, .v (.int .i64 k))], [])) (fun k=>k<=l.length/\(l.take k).any (fun x=>p == x)=false) (fun k=>l.length - k) 0 ⟨Aj _,by simp⟩ ⟨[],tv,⟨rfl,rfl,rfl,rfl,tv⟩,tv,rfl,rfl,rfl⟩ ?_
  rintro k ⟨hk,hI⟩
  conv=>whnf
  refine Ao (fun h2=>?_) (fun h2=>?_) <;> simp at h2 <;> conv=>whnf
  ·refine⟨by first | omega | (refine⟨rfl,?_,?_⟩ <;> first | omega | (simp only [Ab];done) | (simp only [Ab];omega)) | (simp only [Ab];omega),?_⟩
   conv=>whnf
   refine Ao (fun h3=>?_) (fun h3=>?_) <;> conv=>whnf
   ·exact⟨_,ri,_,rfl,by
     rw [Dp.2 ⟨l.getD k 0,A9 h2,h3⟩,decide_eq_true];omega⟩
   ·refine⟨k+1,⟨by omega,?_⟩,by omega, [],tv,⟨rfl,rfl,rfl,AS (by omega),tv⟩,tv,rfl,rfl,rfl⟩
    rw [AI h2,List.any_append,hI]
    have h3:(p == l.getD k 0)=false:=h3
    rw [Aa,Af h2] at h3
    simpa using h3
  ·exact⟨_,ri,_,rfl,by rw [A4 h2] at hI;rw [hI];rfl⟩
 refine zT Tryz.func128 rfl ?_
 conv=>whnf
 refine zI hx rfl ?_
 rintro _ ⟨n,rfl,hn⟩
 exact⟨_,ri,by rw [<-hn]⟩
def O1 (l:List Int) (n:Int):Bool:=(List.range l.length).all fun i=>CJ (l.getD i 0) 0 (n - 1)&&!(l.take i).any fun x=>l.getD i 0 == x
def DN (g:Geo) (h:Hm):Bool:=decide ((h.places.length:Int)=g.d+1)&&(CJ h.next (g.d+1) (g.d+1+g.sp)&&(CJ h.root 0 4294967295&&O1 h.places h.next))
theorem Ll {l:List Int} {n:Int} {k:Nat} (hk:k<l.length) (h:(CJ (l.getD k 0) 0 (n - 1)&&!(l.take k).any fun x=>l.getD k 0 == x)=false):O1 l n=false:=by
 unfold O1
 rw [List.all_eq_false]
 exact⟨k,by simpa using hk,by rw [h];simp⟩
theorem XW (g:Geo) (h:Hm) (hg:Bt g=true):Fn Tryz.prog 173 [.ag (AY g), .ag (DG h)] fun r=>r = .v (.bool (DN g h)):=by
 obtain⟨h1,h2,h3,h4,h5⟩:=As.1 hg
 refine zT Tryz.func173 rfl ?_
 conv=>whnf
 refine zA tys_ok mixed [0,1,2,3,4,5,6,7,8,9,10,11,12,13,14,15,16,17,18,19,20,21,22,23,24] (by kernel_rfl) ?_
 conv=>whnf
 have w1:IntKind.i64.wrap (g.d+1)=g.d+1:=wi (by omega)
 refine Ao (fun t1=>?_) (fun t1=>?_) <;> simp only [w1,bne_iff_ne,ne_eq,bne_eq_false_iff_eq] at t1 <;> conv=>whnf
 ·exact⟨_,ri,by simp [DN,t1]⟩
 refine z_ (TN g hg) ?_
 conv=>whnf
 refine z_ (OT _ _ _) ?_
 conv=>whnf
 refine Ao (fun t2=>?_) (fun t2=>?_) <;> simp only [w1,Bm,B6] at t2 <;> conv=>whnf
 ·exact⟨_,ri,by simp [DN,t2]⟩
 refine zM (OA [h.root] (by simp)).go ?_
 refine⟨rfl,?_⟩
 conv=>whnf
 refine zY [iA [h.root]] (D5 (l:= [h.root]) (es:= [[.v (.int .i64 h.root)]]) rfl) ?_
 refine z_ (OA [h.root] (by simp)) ?_
 conv=>whnf
 refine Ao (fun t3=>?_) (fun t3=>?_) <;> simp only [Bd,BR,BH,Bm,B6] at t3 <;> conv=>whnf
 ·exact⟨_,ri,by simp [DN,t3]⟩
 refine zP Nat (fun k=>([(2, .bp 0 0),(3, .bp 1 0),(33,iA h.places),(34, .v (.int .i64 h.places.length)),(35, .v (.int .i64 k))], [.box 23 (AY g), .box 53 (DG h)])) (fun k=>k<=h.places.length/\(List.range k).all (fun i=>CJ (h.places.getD i 0) 0 (h.next - 1)&&!(h.places.take i).any fun x=>h.places.getD i 0 == x)=true) (fun k=>h.places.length - k) 0 ⟨Aj _,by simp⟩ ⟨[],tv,⟨rfl,rfl,rfl,rfl,rfl,tv⟩,⟨rfl,rfl,tv⟩,rfl,rfl,rfl⟩ ?_
 rintro k ⟨hk,hI⟩
 conv=>whnf
 refine Ao (fun h6=>?_) (fun h6=>?_) <;> simp at h6 <;> conv=>whnf
 ·refine⟨by first | omega | (refine⟨rfl,?_,?_⟩ <;> first | omega | (simp only [Ab];done) | (simp only [Ab];omega)) | (simp only [Ab];omega),?_⟩
  conv=>whnf
  refine z_ (OT _ _ _) ?_
  conv=>whnf
  have hnx:0<=h.next/\h.next<=100:=by
   have:=AL.1 t2
   omega
  have w2:IntKind.i64.wrap (h.next - 1)=h.next - 1:=wi (by omega)
  refine Ao (fun t4=>?_) (fun t4=>?_) <;> simp only [w2,Ac,Bm,B6] at t4 <;> conv=>whnf
  ·exact⟨_,ri,by rw [DN,Ll h6 (by rw [t4];rfl)];simp⟩
  refine⟨⟨by omega,by omega,by omega,by omega⟩,?_⟩
  conv=>whnf
  refine zY [iA (h.places.take k), .v (.int .i64 (h.places.getD k 0))] ⟨fun c u hr=>zE (by simp;omega) (fun i hi=>by simp at hi;simp [BC hi]) hr,fun _ _ hr=>hr,tv⟩ ?_
  refine z_ (VW (h.places.take k) (h.places.getD k 0) (by simp;omega)) ?_
  conv=>whnf
  refine Ao (fun t5=>?_) (fun t5=>?_) <;> conv=>whnf
  ·exact⟨_,ri,by rw [DN,Ll h6 (by rw [t5];simp)];simp⟩
  ·refine⟨k+1,⟨by omega,?_⟩,by omega, [],tv,⟨rfl,rfl,rfl,rfl,AS (by omega),tv⟩,⟨rfl,rfl,tv⟩,rfl,rfl,rfl⟩
   rw [B5,Df,hI]
   have t5:((h.places.take k).any fun x=>h.places.getD k 0 == x)=false:=t5
   simp only [Bd,BR,t4,t5];rfl
 ·have e:k=h.places.length:=by omega
  rw [e] at hI
  exact⟨_,ri,by rw [DN,t2,t3,decide_eq_true t1,O1,hI];rfl⟩
theorem Uu (g:Geo) (h:Hm) (hg:Bt g=true):Fn Tryz.prog 172 [.ag (DG h), .rp (AY g)] fun r=>r = .v (.bool (!DN g h)):=by
 refine zT Tryz.func172 rfl ?_
 conv=>whnf
 refine z_ (XW g h hg) ?_
 exact⟨_,ri,rfl⟩
theorem Uv (g:Geo) (l:List Hm) (hg:Bt g=true) (hl:l.length<=1000000):Fn Tryz.prog 171 [I8 l, .fn 172 [.rp (AY g)]] fun r=>r = .v (.bool (l.any fun h=>!DN g h)):=by
 have hx:Fn Tryz.prog 225 [I8 l, .fn 172 [.rp (AY g)]] fun r=>∃ n:Int,r = .v (.int .i64 n)/\decide (0<=n)=l.any (fun h=>!DN g h):=by
  refine zT Tryz.func225 rfl ?_
  conv=>whnf
  refine zP Nat (fun k=>([(0,I8 l),(1, .fn 172 [.rp (AY g)]),(7, .v (.int .i64 l.length)),(8, .v (.int .i64 k))], [])) (fun k=>k<=l.length/\(l.take k).any (fun h=>!DN g h)=false) (fun k=>l.length - k) 0 ⟨Aj _,by simp⟩ ⟨[],tv,⟨rfl,rfl,rfl,rfl,tv⟩,tv,rfl,rfl,rfl⟩ ?_
  rintro k ⟨hk,hI⟩
  conv=>whnf
  refine Ao (fun h2=>?_) (fun h2=>?_) <;> simp at h2 <;> conv=>whnf
  ·refine⟨by first | omega | (refine⟨rfl,?_,?_⟩ <;> first | omega | (simp only [Ab];done) | (simp only [Ab];omega)) | (simp only [Ab];omega),?_⟩
   conv=>whnf
   refine z_ (Uu g (l.getD k ⟨[],0,0⟩) hg) ?_
   conv=>whnf
   refine Ao (fun h3=>?_) (fun h3=>?_) <;> conv=>whnf
   ·exact⟨_,ri,_,rfl,by
     rw [Dp.2 ⟨l.getD k ⟨[],0,0⟩,A9 h2,h3⟩,decide_eq_true];omega⟩
   ·refine⟨k+1,⟨by omega,?_⟩,by omega, [],tv,⟨rfl,rfl,rfl,AS (by omega),tv⟩,tv,rfl,rfl,rfl⟩
    rw [AI h2,List.any_append,hI]
    rw [Aa,Af h2] at h3
    simpa using h3
  ·exact⟨_,ri,_,rfl,by rw [A4 h2] at hI;rw [hI];rfl⟩
 refine zT Tryz.func171 rfl ?_
 conv=>whnf
 refine zI hx rfl ?_
 rintro _ ⟨n,rfl,hn⟩
 exact⟨_,ri,by rw [<-hn]⟩
def Bg (g:Geo) (a:An):Bool:=([a.gen,a.epoch,a.seq,a.last].all fun x=>CJ x 0 4294967295)&&(decide (1<=a.seq)&&(decide (a.seq - 1<=a.last)&&(CJ a.pos 0 (g.sl - 1)&&(decide (ET a.label.data.toList=0)&&(decide ((a.homes.length:Int)=g.z)&&a.homes.all (DN g))))))
theorem K7 (g:Geo) (a:An) (hl:a.label.size<=1000000) (hh:a.homes.length<=1000000):Fn Tryz.prog 102 [.ag (AY g), .ag (Ed a)] fun r=>r = .v (Gp (Bt g&&Bg g a)):=by
 have s1:Fn Tryz.prog 46 [.ag (AY g)] fun r=>r = .v (Gp (Bt g)):=ER g.z g.d g.sp g.sl g.an
 cases hg:Bt g with
 | false=>
  rw [hg] at s1
  refine zT Tryz.func102 rfl ?_
  conv=>whnf
  refine zX ?_
  conv=>whnf
  refine zX ?_
  conv=>whnf
  refine z_ s1 ?_
  exact⟨_,ri,rfl⟩
 | true=>
  rw [hg] at s1
  obtain⟨h1,h2,h3,h4,h5⟩:=As.1 hg
  have w1:IntKind.i64.wrap (g.sl - 1)=g.sl - 1:=wi (by omega)
  refine zT Tryz.func102 rfl ?_
  conv=>whnf
  refine zX ?_
  conv=>whnf
  refine zX ?_
  conv=>whnf
  refine z_ s1 ?_
  conv=>whnf
  refine zM (OA [a.gen,a.epoch,a.seq,a.last] (by simp)).go ?_
  refine⟨rfl,?_⟩
  conv=>whnf
  refine zY [iA [a.gen,a.epoch,a.seq,a.last]] (D5 (l:= [a.gen,a.epoch,a.seq,a.last]) (es:= [[.v (.int .i64 a.gen)], [.v (.int .i64 a.epoch)], [.v (.int .i64 a.seq)], [.v (.int .i64 a.last)]]) rfl) ?_
  refine z_ (OA [a.gen,a.epoch,a.seq,a.last] (by simp)) ?_
  conv=>whnf
  refine Ao (fun t1=>?_) (fun t1=>?_) <;> simp only [Bm,B6] at t1 <;> conv=>whnf
  ·exact⟨_,ri,by rw [Bg,t1];rfl⟩
  have hseq:0<=a.seq/\a.seq<=4294967295:=AL.1 (Aw.1 t1 a.seq (by simp))
  have w2:IntKind.i64.wrap (a.seq - 1)=a.seq - 1:=wi (by omega)
  refine Ao (fun t2=>?_) (fun t2=>?_) <;> simp only [decide_eq_true_eq,decide_eq_false_iff_not] at t2 <;> conv=>whnf
  ·exact⟨_,ri,by rw [Bg,decide_eq_false (show ¬1<=a.seq by omega)];simp [Gp]⟩
  refine Ao (fun t3=>?_) (fun t3=>?_) <;> simp only [w2,decide_eq_true_eq,decide_eq_false_iff_not] at t3 <;> conv=>whnf
  ·exact⟨_,ri,by rw [Bg,decide_eq_false (show ¬a.seq - 1<=a.last by omega)];simp [Gp]⟩
  refine z_ (OT _ _ _) ?_
  conv=>whnf
  refine Ao (fun t4=>?_) (fun t4=>?_) <;> simp only [w1,Bm,B6] at t4 <;> conv=>whnf
  ·exact⟨_,ri,by rw [Bg,t4];simp [Gp]⟩
  refine z_ (IY a.label hl) ?_
  conv=>whnf
  refine Ao (fun t5=>?_) (fun t5=>?_) <;> simp only [bne_iff_ne,ne_eq,bne_eq_false_iff_eq] at t5 <;> conv=>whnf
  ·exact⟨_,ri,by rw [Bg,decide_eq_false t5];simp [Gp]⟩
  refine Ao (fun t6=>?_) (fun t6=>?_) <;> simp only [bne_iff_ne,ne_eq,bne_eq_false_iff_eq] at t6 <;> conv=>whnf
  ·exact⟨_,ri,by rw [Bg,decide_eq_false t6];simp [Gp]⟩
  refine z_ (Uv g a.homes hg hh) ?_
  conv=>whnf
  have hA:Bg g a=a.homes.all (DN g):=by
   rw [Bg,t1,t4,decide_eq_true (show 1<=a.seq by omega),decide_eq_true (show a.seq - 1<=a.last by omega),decide_eq_true t5,decide_eq_true t6]
   simp
  rw [Cc] at hA
  refine Ao (fun t7=>?_) (fun t7=>?_) <;> conv=>whnf
  ·exact⟨_,ri,by rw [hA,t7];rfl⟩
  ·exact⟨_,ri,by rw [hA,t7];rfl⟩
theorem Ij (n lo hi:Int):Fn Tryz.prog 285 [.v (.int .i64 n), .v (.int .i64 lo), .v (.int .i64 hi)] fun r=>r = .v (.bool (CJ n lo hi)):=by
 refine zT Tryz.func285 rfl ?_
 conv=>whnf
 repeat' (first | (refine Ao (fun h=>?_) (fun h=>?_) <;> (try simp at h) <;> conv=>whnf) | (refine zN tys_ok mixed (by kernel_rfl) ?_;conv=>whnf) | (refine zX ?_;conv=>whnf) | (refine Ae (by omega) ?_;conv=>whnf))
 all_goals exact⟨_,ri,by simp [CJ, *] <;> omega⟩
theorem WO {l:List Int} {p:Int} {k:Nat} (hk:k<l.length) (h:((l.take k).any fun x=>p == x)=false) (e:(l.getD k 0 == p)=false):((l.take (k+1)).any fun x=>p == x)=false:=by
 rw [AI hk,List.any_append,h]
 rw [Aa,Af hk] at e
 simp at e |-
 exact fun h=>e h.symm
theorem Zz {l:List Int} {p:Int} {k i:Nat} (hk:k<l.length) (hki:k<i) (e:(l.getD k 0 == p)=true):((l.take i).any fun x=>p == x)=true:=by
 refine Dp.2 ⟨l.getD k 0,?_,by simpa using (beq_iff_eq.1 e).symm⟩
 rw [Aa,Af hk]
 have:(l.take i)[k]? = some l[k]:=by rw [BC hki,Af hk]
 exact DA this
theorem Rf (g:Geo) (a:An) (hg:Bt g=true) (hl:a.label.size<=1000000):Fn Tryz.prog 294 [.ag (AY g), .ag (Ed a)] fun r=>r = .v (.bool (Bg g a)):=by
 obtain⟨h1,h2,h3,h4,h5⟩:=As.1 hg
 have w1:IntKind.i64.wrap (g.sl - 1)=g.sl - 1:=wi (by omega)
 have w3:IntKind.i64.wrap (g.d+1)=g.d+1:=wi (by omega)
 have w4:IntKind.i64.wrap (g.d+1+g.sp)=g.d+1+g.sp:=wi (by omega)
 refine zT Tryz.func294 rfl ?_
 conv=>whnf
 refine z_ (Ij _ _ _) ?_
 conv=>whnf
 refine Ao (fun t1=>?_) (fun t1=>?_) <;> simp only [Bm,B6] at t1 <;> conv=>whnf
 ·exact⟨_,ri,by simp [Bg,t1]⟩
 refine z_ (Ij _ _ _) ?_
 conv=>whnf
 refine Ao (fun t2=>?_) (fun t2=>?_) <;> simp only [Bm,B6] at t2 <;> conv=>whnf
 ·exact⟨_,ri,by simp [Bg,t2]⟩
 refine z_ (Ij _ _ _) ?_
 conv=>whnf
 refine Ao (fun t3=>?_) (fun t3=>?_) <;> simp only [Bm,B6] at t3 <;> conv=>whnf
 ·refine⟨_,fun _ _ h=>h,?_⟩
  have:(CJ a.seq 0 4294967295&&decide (1<=a.seq))=false:=by
   cases h:CJ a.seq 0 4294967295&&decide (1<=a.seq) with
   | false=>rfl
   | true=>
    simp only [Ad,AL,decide_eq_true_eq] at h
    have:CJ a.seq 1 4294967295=true:=AL.2 ⟨h.2,h.1.2⟩
    rw [this] at t3;cases t3
  simp only [Bool.and_eq_false_iff] at this
  rcases this with h | h <;> simp [Bg,h]
 have hseq:=AL.1 t3
 have t3':CJ a.seq 0 4294967295=true:=AL.2 ⟨by omega,hseq.2⟩
 have w2:IntKind.i64.wrap (a.seq - 1)=a.seq - 1:=wi (by omega)
 refine z_ (Ij _ _ _) ?_
 conv=>whnf
 refine Ao (fun t4=>?_) (fun t4=>?_) <;> simp only [Bm,B6] at t4 <;> conv=>whnf
 ·exact⟨_,ri,by simp [Bg,t4]⟩
 refine Ao (fun t5=>?_) (fun t5=>?_) <;> simp only [w2,decide_eq_true_eq,decide_eq_false_iff_not] at t5 <;> conv=>whnf
 ·exact⟨_,ri,by rw [Bg,decide_eq_false (show ¬a.seq - 1<=a.last by omega)];simp⟩
 refine z_ (Ij _ _ _) ?_
 conv=>whnf
 refine Ao (fun t6=>?_) (fun t6=>?_) <;> simp only [w1,Bm,B6] at t6 <;> conv=>whnf
 ·exact⟨_,ri,by rw [Bg,t6];simp⟩
 refine z_ (Nt a.label (by omega)) ?_
 conv=>whnf
 refine Ao (fun t7=>?_) (fun t7=>?_) <;> simp only [bne_iff_ne,ne_eq,bne_eq_false_iff_eq] at t7 <;> conv=>whnf
 ·exact⟨_,ri,by rw [Bg,decide_eq_false t7];simp⟩
 refine Ao (fun t8=>?_) (fun t8=>?_) <;> simp only [bne_iff_ne,ne_eq,bne_eq_false_iff_eq] at t8 <;> conv=>whnf
 ·exact⟨_,ri,by rw [Bg,decide_eq_false t8];simp⟩
 have hA:Bg g a=a.homes.all (DN g):=by
  rw [Bg,t6,decide_eq_true (show 1<=a.seq by omega),decide_eq_true (show a.seq - 1<=a.last by omega),decide_eq_true t7,decide_eq_true t8]
  simp [t1,t2,t3',t4]
 rw [hA]
 refine zP Nat (fun z=>([(2, .bp 0 0),(3, .bp 1 0),(5, .v (.int .i64 z))], [.box 23 (AY g), .box 28 (Ed a)])) (fun z=>z<=a.homes.length/\(a.homes.take z).all (DN g)=true) (fun z=>a.homes.length - z) 0 ⟨Aj _,by simp⟩ ⟨[],tv,⟨rfl,rfl,rfl,tv⟩,⟨rfl,rfl,tv⟩,rfl,rfl,rfl⟩ ?_
 rintro z ⟨hz,hZ⟩
 conv=>whnf
 refine Ao (fun hz2=>?_) (fun hz2=>?_) <;> simp at hz2 <;> conv=>whnf
 ·have hno:DN g (a.homes.getD z ⟨[],0,0⟩)=false->a.homes.all (DN g)=false:=fun h=>List.all_eq_false.2 ⟨_,A9 hz2,by rw [h];simp⟩
  refine⟨by first | omega | (refine⟨rfl,?_,?_⟩ <;> first | omega | (simp only [Ab];done) | (simp only [Ab];omega)) | (simp only [Ab];omega),?_⟩
  conv=>whnf
  have ez:((z:Nat):Int).toNat=z:=Ac z
  refine Ao (fun u1=>?_) (fun u1=>?_) <;> simp only [ez,w3,bne_iff_ne,ne_eq,bne_eq_false_iff_eq] at u1 <;> conv=>whnf
  ·exact⟨_,ri,by rw [hno (by rw [DN,decide_eq_false u1];rfl)]⟩
  refine z_ (Ij _ _ _) ?_
  conv=>whnf
  refine Ao (fun u2=>?_) (fun u2=>?_) <;> simp only [ez,w3,w4,Bm,B6] at u2 <;> conv=>whnf
  ·exact⟨_,ri,by rw [hno (by rw [DN,u2];simp only [Dv,Bool.and_false])]⟩
  refine z_ (Ij _ _ _) ?_
  conv=>whnf
  refine Ao (fun u3=>?_) (fun u3=>?_) <;> simp only [ez,Bm,B6] at u3 <;> conv=>whnf
  ·exact⟨_,ri,by rw [hno (by rw [DN,u3];simp only [Dv,Bool.and_false])]⟩
  have hnx:0<=(a.homes.getD z ⟨[],0,0⟩).next/\(a.homes.getD z ⟨[],0,0⟩).next<=100:=by
   have:=AL.1 u2
   omega
  have w5:IntKind.i64.wrap ((a.homes.getD z ⟨[],0,0⟩).next - 1)=(a.homes.getD z ⟨[],0,0⟩).next - 1:=wi (by omega)
  have hno2:O1 (a.homes.getD z ⟨[],0,0⟩).places (a.homes.getD z ⟨[],0,0⟩).next=false->a.homes.all (DN g)=false:=fun h=>hno (by rw [DN,h];simp)
  refine zP Nat (fun i=>([(2, .bp 0 0),(3, .bp 1 0),(5, .v (.int .i64 z)),(6, .bp 2 0),(7, .v (.int .i64 i))], [.box 23 (AY g), .box 28 (Ed a), .box 53 (DG (a.homes.getD z ⟨[],0,0⟩))])) (fun i=>i<=(a.homes.getD z ⟨[],0,0⟩).places.length/\(List.range i).all (fun i=>CJ ((a.homes.getD z ⟨[],0,0⟩).places.getD i 0) 0 ((a.homes.getD z ⟨[],0,0⟩).next - 1)&&!((a.homes.getD z ⟨[],0,0⟩).places.take i).any fun x=>(a.homes.getD z ⟨[],0,0⟩).places.getD i 0 == x)=true) (fun i=>(a.homes.getD z ⟨[],0,0⟩).places.length - i) 0 ⟨Aj _,by simp⟩ ⟨[],tv,⟨rfl,rfl,rfl,rfl,rfl,tv⟩,⟨rfl,rfl,rfl,tv⟩,rfl,rfl,rfl⟩ ?_
  rintro i ⟨hi,hI⟩
  conv=>whnf
  refine Ao (fun hi2=>?_) (fun hi2=>?_) <;> simp only [decide_eq_true_eq,decide_eq_false_iff_not,Int.ofNat_lt] at hi2 <;> conv=>whnf
  ·refine zA tys_ok mixed [0,1,2,3,4,5,6,7,8,9] (by kernel_rfl) ?_
   refine⟨⟨by omega,by omega⟩,?_⟩
   conv=>whnf
   have ei:((i:Nat):Int).toNat=i:=Ac i
   refine z_ (Ij _ _ _) ?_
   conv=>whnf
   refine Ao (fun u4=>?_) (fun u4=>?_) <;> simp only [ei,w5,Bm,B6] at u4 <;> conv=>whnf
   ·exact⟨_,ri,by rw [hno2 (Ll hi2 (by rw [u4];rfl))]⟩
   refine zP Nat (fun k=>([(2, .bp 0 0),(3, .bp 1 0),(5, .v (.int .i64 z)),(6, .bp 2 0),(7, .v (.int .i64 i)),(8, .v (.int .i64 k))], [.box 23 (AY g), .box 28 (Ed a), .box 53 (DG (a.homes.getD z ⟨[],0,0⟩))])) (fun k=>k<=i/\(((a.homes.getD z ⟨[],0,0⟩).places.take k).any fun x=>(a.homes.getD z ⟨[],0,0⟩).places.getD i 0 == x)=false) (fun k=>i - k) 0 ⟨Aj _,by simp⟩ ⟨[],tv,⟨rfl,rfl,rfl,rfl,rfl,rfl,tv⟩,⟨rfl,rfl,rfl,tv⟩,rfl,rfl,rfl⟩ ?_
   rintro k ⟨hk,hK⟩
   conv=>whnf
   refine Ao (fun hk2=>?_) (fun hk2=>?_) <;> simp only [decide_eq_true_eq,decide_eq_false_iff_not,Int.ofNat_lt] at hk2 <;> conv=>whnf
   ·refine zA tys_ok mixed [0,1,2,3,4,5,6,7,8,9,10] (by kernel_rfl) ?_
    refine⟨⟨by omega,by omega⟩,?_⟩
    refine⟨⟨by omega,by omega⟩,?_⟩
    conv=>whnf
    have ek:((k:Nat):Int).toNat=k:=Ac k
    refine Ao (fun u5=>?_) (fun u5=>?_) <;> simp only [ei,ek] at u5 <;> conv=>whnf
    ·exact⟨_,ri,by rw [hno2 (Ll hi2 (by rw [Zz (show k<(a.homes.getD z ⟨[],0,0⟩).places.length by omega) hk2 u5];simp))]⟩
    ·exact⟨k+1,⟨by omega,WO (by omega) hK u5⟩,by omega, [],tv,⟨rfl,rfl,rfl,rfl,rfl,AS (by omega),tv⟩,⟨rfl,rfl,rfl,tv⟩,rfl,rfl,rfl⟩
   ·have e:k=i:=by omega
    subst e
    refine⟨k+1,⟨by omega,?_⟩,by omega, [],tv,⟨rfl,rfl,rfl,rfl,AS (by omega),tv⟩,⟨rfl,rfl,rfl,tv⟩,rfl,rfl,rfl⟩
    rw [B5,Df,hI]
    simp only [Bd,BR,u4,hK];rfl
  ·have e:i=(a.homes.getD z ⟨[],0,0⟩).places.length:=by omega
   rw [e] at hI
   refine⟨z+1,⟨by omega,?_⟩,by omega, [],tv,⟨rfl,rfl,AS (by omega),tv⟩,⟨rfl,rfl,tv⟩,rfl,rfl,rfl⟩
   rw [AI hz2,Df,hZ]
   have hok:DN g (a.homes.getD z ⟨[],0,0⟩)=true:=by rw [DN,u2,u3,decide_eq_true u1,O1,hI];rfl
   rw [Aa,Af hz2] at hok
   simpa using hok
 ·have e:z=a.homes.length:=by omega
  rw [e,Ar] at hZ
  exact⟨_,ri,by rw [hZ]⟩
end
end Go.Proofs.YtkolckdakddggaaGreatDoor.A
namespace Go.Proofs.YtkolckdakddggaaGreatDoor
section
open Go.RowKit
def C_ (b:List UInt8):Int:=
 if b.length<11\/107<b.length then 4
 else if leN (b.drop (b.length - 4))≠De (b.take (b.length - 4)) then 5
 else if Fx b=true/\Cf b=b.length - 11 then 0 else 4
def CR (b:List UInt8):Int:=(leN ((b.drop (b.length - 10)).take 2):Nat)
def Ci (b:List UInt8):Int:=(leN ((b.drop (b.length - 8)).take 4):Nat)
def Cv (b:List UInt8):List UInt8:=(b.drop 1).take (b.length - 11)
end
end Go.Proofs.YtkolckdakddggaaGreatDoor
namespace Go.Proofs.YtkolckdakddggaaGreatDoor.A
section
open Go.RowKit
def Dx (r:Rc) (a:An) (seq at_ of_ left:Int):Bool:=decide (r.kind≠0/\r.seq=seq/\r.at_=at_/\(of_=0->r.of_<=left)/\(of_≠0->r.of_=of_)/\(r.epoch=a.epoch\/seq<=a.last/\r.epoch<=a.epoch))
theorem aD (r:Rc) (a:An) (seq at_ of_ left:Int):Fn Tryz.prog 299 [.ag (GJ r), .ag (Ed a), .v (.int .i64 seq), .v (.int .i64 at_), .v (.int .i64 of_), .v (.int .i64 left)] fun x=>x = .v (.bool (Dx r a seq at_ of_ left)):=by
 by_cases h1:(r.kind≠0/\r.seq=seq/\r.at_=at_/\(of_=0->r.of_<=left)/\(of_≠0->r.of_=of_)/\(r.epoch=a.epoch\/seq<=a.last/\r.epoch<=a.epoch))
 ·have e:Dx r a seq at_ of_ left=true:=decide_eq_true h1
  rw [e]
  refine zT Tryz.func299 rfl ?_
  conv=>whnf
  repeat' (refine Ao (fun h=>?_) (fun h=>?_) <;> simp at h <;> conv=>whnf)
  all_goals first | (exfalso;omega) | exact⟨_,ri,rfl⟩ | exact⟨_,ri,by simp;omega⟩
 ·have e:Dx r a seq at_ of_ left=false:=decide_eq_false h1
  rw [e]
  refine zT Tryz.func299 rfl ?_
  conv=>whnf
  repeat' (refine Ao (fun h=>?_) (fun h=>?_) <;> simp at h <;> conv=>whnf)
  all_goals first | (exfalso;omega) | exact⟨_,ri,rfl⟩ | exact⟨_,ri,by simp;omega⟩
theorem Sc (r:Rc) (a:An) (seq at_ of_ left:Int):Fn Tryz.prog 276 [.ag (GJ r), .ag (Ed a), .v (.int .i64 seq), .v (.int .i64 at_), .v (.int .i64 of_), .v (.int .i64 left)] fun x=>x = .v (.bool (Dx r a seq at_ of_ left)):=by
 by_cases h1:(r.kind≠0/\r.seq=seq/\r.at_=at_/\(of_=0->r.of_<=left)/\(of_≠0->r.of_=of_)/\(r.epoch=a.epoch\/seq<=a.last/\r.epoch<=a.epoch))
 ·have e:Dx r a seq at_ of_ left=true:=decide_eq_true h1
  rw [e]
  refine zT Tryz.func276 rfl ?_
  conv=>whnf
  repeat' (refine Ao (fun h=>?_) (fun h=>?_) <;> simp at h <;> conv=>whnf)
  all_goals first | (exfalso;omega) | exact⟨_,ri,rfl⟩ | exact⟨_,ri,by simp;omega⟩
 ·have e:Dx r a seq at_ of_ left=false:=decide_eq_false h1
  rw [e]
  refine zT Tryz.func276 rfl ?_
  conv=>whnf
  repeat' (refine Ao (fun h=>?_) (fun h=>?_) <;> simp at h <;> conv=>whnf)
  all_goals first | (exfalso;omega) | exact⟨_,ri,rfl⟩ | exact⟨_,ri,by simp;omega⟩
theorem Pf (b:List UInt8):Fn Tryz.prog 236 [bA b] fun r=>r = .v (.int .i64 (De b:Nat)):=by
 refine⟨⟨_,Tryz.func236,rfl,by decide⟩,fun c0 us hd hM _ hr=>?_⟩
 obtain⟨u1,rfl,h1⟩:=ZZ hr
 refine(Ni u1 b c0.w c0.M (Jq h1)).mono ?_
 rintro e w' ⟨rfl,rfl⟩
 exact⟨_,_,rfl,rfl,Below.refl _ _,Tj _⟩
theorem Fg {b:List UInt8} {n k:Nat} (hn:n=k) (hk:k<=b.length) (c:Ctx) (u:Value) (h:Rd (.sl 1 n fun i=> [.v (.int .u8 (b.getD (i+0) 0).toNat)]) c u):Rd (bA (b.take k)) c u:=
 zE (by rw [Au];omega) (fun i hi=>by rw [Aa,Aa,BC (by omega),CS]) h
theorem Jy (e:Int) (c:Ctx) (v:Value) (h:Rd (.tp [.ag [.v (.int .i64 0), .v (.int .i64 0), .v (.slice none 0 0)], .v (.int .i64 e)]) c v):Rd (.tp [.ag (Oi ⟨0,0, []⟩), .v (.int .i64 e)]) c v:=by
 have e1:SubL [.ag [.v (.int .i64 0), .v (.int .i64 0), .v (.slice none 0 0)], .v (.int .i64 e)] [.ag (Oi ⟨0,0, []⟩), .v (.int .i64 e)]:=⟨Ba ⟨ri,ri,fun c u h=>Br 1 _ c u h,tv⟩,ri,tv⟩
 simp only [Rd] at h |-
 obtain⟨xs,rfl,h⟩:=h
 exact⟨_,rfl,e1.rdl (c:=c) (xs:=xs) (by simpa only [RdL,Rd] using h)⟩
theorem UP (b:List UInt8) (hl:b.length<=100000):Fn Tryz.prog 253 [bA b] fun r=>r = .tp [.ag (if C_ b=0 then Oi ⟨CR b,Ci b,Cv b⟩ else Oi ⟨0,0, []⟩), .v (.int .i64 (C_ b))]:=by
 have e4:IntKind.i64.wrap ((b.length:Int) - 4)=(b.length:Int) - 4:=IntWalk.i64_in _ (by omega)
 have e11:IntKind.i64.wrap ((b.length:Int) - 11)=(b.length:Int) - 11:=IntWalk.i64_in _ (by omega)
 have em:((b.length:Int) - 4).toNat=b.length - 4:=by omega
 by_cases hB:b.length<11\/107<b.length
 ·have hE:C_ b=4:=by rw [C_,if_pos hB]
  rw [hE,if_neg (by decide)]
  refine zT Tryz.func253 rfl ?_
  conv=>whnf
  refine A3 (fun h=>?_) (fun h=>?_) <;> conv=>whnf
  ·exact⟨_,Jy 4,rfl⟩
  refine A3 (fun h2=>?_) (fun h2=>?_) <;> conv=>whnf
  ·exact⟨_,Jy 4,rfl⟩
  ·exfalso;omega
 have hg:=OF (b.drop (b.length - 4)) 4 (.inr (.inr rfl)) (by rw [Ak];omega) (by rw [Ak];omega)
 rw [show (b.drop (b.length - 4)).take (4:Int).toNat=b.drop (b.length - 4) from A4 (by rw [Ak];show _<=4;omega)] at hg
 have hs:=Pf (b.take (b.length - 4))
 by_cases hS:leN (b.drop (b.length - 4))=De (b.take (b.length - 4))
 ·cases hp:Fx b with
  | false=>
   have hE:C_ b=4:=by rw [C_,if_neg hB,if_neg (fun h=>h hS),hp];rfl
   rw [hE,if_neg (by decide)]
   refine zT Tryz.func253 rfl ?_
   conv=>whnf
   refine A3 (fun h=>?_) (fun h=>?_) <;> conv=>whnf
   ·exfalso;omega
   refine A3 (fun h=>?_) (fun h=>?_) <;> conv=>whnf
   ·exfalso;omega
   rw [e4]
   refine⟨by omega,?_⟩
   conv=>whnf
   rw [em]
   refine zY [bA (b.drop (b.length - 4)), .v (.int .i64 4)] ⟨AT (by omega),ri,tv⟩ ?_
   refine z_ hg ?_
   refine⟨by omega,?_⟩
   conv=>whnf
   rw [em]
   refine zY [bA (b.take (b.length - 4))] ⟨Fg (by omega) (by omega),tv⟩ ?_
   refine z_ hs ?_
   conv=>whnf
   refine A3 (fun h=>?_) (fun h=>?_) <;> conv=>whnf
   ·exfalso;omega
   refine z_ (SE b hp) ?_
   exact⟨_,Jy 4,rfl⟩
  | true=>
   have hpp:=hp
   simp only [Fx,decide_eq_true_eq] at hpp
   have hlen:((b.drop 1).take (Cf b)).length=Cf b:=by rw [Au,Ak];omega
   by_cases hn:Cf b=b.length - 11
   ·have hE:C_ b=0:=by rw [C_,if_neg hB,if_neg (fun h=>h hS),if_pos ⟨hp,hn⟩]
    have hu:=JY (b.drop (1+Cf b)) [2,4] (fun s h=>by simp at h;rcases h with rfl | rfl;exact .inr (.inl rfl);exact .inr (.inr rfl)) (by rw [Ak];omega) (by show 2<=1000;decide) (by rw [Ak];show 6<=_;omega)
    have hnum:nums [2,4] (b.drop (1+Cf b))=[CR b,Ci b]:=by
     rw [CR,Ci,show b.length - 10=1+Cf b by omega,show b.length - 8=(1+Cf b)+2 by omega,show b.drop ((1+Cf b)+2)=(b.drop (1+Cf b)).drop 2 by rw [AP]]
     rfl
    rw [hnum] at hu
    have hpay:Cv b=(b.drop 1).take (Cf b):=by rw [Cv,hn]
    rw [hE,if_pos rfl,hpay]
    refine zT Tryz.func253 rfl ?_
    conv=>whnf
    refine A3 (fun h=>?_) (fun h=>?_) <;> conv=>whnf
    ·exfalso;omega
    refine A3 (fun h=>?_) (fun h=>?_) <;> conv=>whnf
    ·exfalso;omega
    rw [e4]
    refine⟨by omega,?_⟩
    conv=>whnf
    rw [em]
    refine zY [bA (b.drop (b.length - 4)), .v (.int .i64 4)] ⟨AT (by omega),ri,tv⟩ ?_
    refine z_ hg ?_
    refine⟨by omega,?_⟩
    conv=>whnf
    rw [em]
    refine zY [bA (b.take (b.length - 4))] ⟨Fg (by omega) (by omega),tv⟩ ?_
    refine z_ hs ?_
    conv=>whnf
    refine A3 (fun h=>?_) (fun h=>?_) <;> conv=>whnf
    ·exfalso;omega
    refine z_ (Lz b (by omega) hp) ?_
    conv=>whnf
    rw [e11]
    refine A3 (fun h=>?_) (fun h=>?_) <;> conv=>whnf
    ·exfalso;omega
    refine zM hu.go ?_
    refine⟨rfl,?_⟩
    conv=>whnf
    refine zY [bA (b.drop (1+Cf b)),iA [2,4]] ⟨ri,(D5 (l:= [2,4]) rfl).1,tv⟩ ?_
    refine zU (hu) rfl ?_
    rintro _ _ ⟨rfl,rfl⟩
    conv=>whnf
    refine zA tys_ok mixed [0,1,2,3,4,5,6,7,8,9] (by kernel_rfl) ?_
    refine⟨⟨by decide,by decide⟩,?_⟩
    refine⟨⟨rfl,rfl,by decide⟩,?_⟩
    refine⟨⟨by decide,by decide⟩,?_⟩
    refine⟨⟨rfl,rfl,by decide⟩,?_⟩
    exact⟨_,ri,rfl⟩
   ·have hE:C_ b=4:=by rw [C_,if_neg hB,if_neg (fun h=>h hS),if_neg (fun h=>hn h.2)]
    rw [hE,if_neg (by decide)]
    refine zT Tryz.func253 rfl ?_
    conv=>whnf
    refine A3 (fun h=>?_) (fun h=>?_) <;> conv=>whnf
    ·exfalso;omega
    refine A3 (fun h=>?_) (fun h=>?_) <;> conv=>whnf
    ·exfalso;omega
    rw [e4]
    refine⟨by omega,?_⟩
    conv=>whnf
    rw [em]
    refine zY [bA (b.drop (b.length - 4)), .v (.int .i64 4)] ⟨AT (by omega),ri,tv⟩ ?_
    refine z_ hg ?_
    refine⟨by omega,?_⟩
    conv=>whnf
    rw [em]
    refine zY [bA (b.take (b.length - 4))] ⟨Fg (by omega) (by omega),tv⟩ ?_
    refine z_ hs ?_
    conv=>whnf
    refine A3 (fun h=>?_) (fun h=>?_) <;> conv=>whnf
    ·exfalso;omega
    refine z_ (Lz b (by omega) hp) ?_
    conv=>whnf
    rw [e11]
    refine A3 (fun h=>?_) (fun h=>?_) <;> conv=>whnf
    ·exact⟨_,Jy 4,rfl⟩
    ·exfalso;omega
 ·have hE:C_ b=5:=by rw [C_,if_neg hB,if_pos hS]
  rw [hE,if_neg (by decide)]
  refine zT Tryz.func253 rfl ?_
  conv=>whnf
  refine A3 (fun h=>?_) (fun h=>?_) <;> conv=>whnf
  ·exfalso;omega
  refine A3 (fun h=>?_) (fun h=>?_) <;> conv=>whnf
  ·exfalso;omega
  rw [e4]
  refine⟨by omega,?_⟩
  conv=>whnf
  rw [em]
  refine zY [bA (b.drop (b.length - 4)), .v (.int .i64 4)] ⟨AT (by omega),ri,tv⟩ ?_
  refine z_ hg ?_
  refine⟨by omega,?_⟩
  conv=>whnf
  rw [em]
  refine zY [bA (b.take (b.length - 4))] ⟨Fg (by omega) (by omega),tv⟩ ?_
  refine z_ hs ?_
  conv=>whnf
  refine A3 (fun h=>?_) (fun h=>?_) <;> conv=>whnf
  ·exact⟨_,Jy 5,rfl⟩
  ·exfalso;omega
def Xa {α:Type} (p:α->Bool) (l:List α):Int:=if l.any p then ((l.findIdx p:Nat):Int) else -1
theorem Lo {α:Type} {p:α->Bool} {l:List α} {k:Nat} {d:α} (hk:k<l.length) (h:(l.take k).any p=false) (hp:p (l.getD k d)=true):Xa p l=k:=by
 rw [Aa,Af hk] at hp
 have hp:p l[k]=true:=hp
 unfold Xa
 rw [Dp.2 ⟨l[k],C2 hk,hp⟩]
 simp only [if_true,Int.natCast_inj]
 refine(List.findIdx_eq hk).2 ⟨hp,fun j hj=>?_⟩
 rw [List.any_eq_false] at h
 have:=h l[j] (List.mem_take_iff_getElem.2 ⟨j,by omega,rfl⟩)
 simpa using this
theorem JD {α:Type} {p:α->Bool} {l:List α} (h:l.any p=false):Xa p l = -1:=by
 unfold Xa;rw [h];rfl
theorem OD {α:Type} {p:α->Bool} {l:List α}:decide (0<=Xa p l)=l.any p:=by
 unfold Xa
 cases h:l.any p with
 | true=>simp
 | false=>rfl
theorem FC {α:Type} {p:α->Bool} {l:List α} {k:Nat} {d:α} (hk:k<l.length) (h:(l.take k).any p=false) (hp:p (l.getD k d)=false):(l.take (k+1)).any p=false:=by
 rw [AI hk,List.any_append,h]
 rw [Aa,Af hk] at hp
 simpa using hp
def CZ (x:Ent):List AV:= [.v (.int .i64 x.stamp), .v (.int .i64 x.sum), .v (.bool x.lost)]
def BA (l:List Ent):AV:= .sl 3 l.length fun i=>CZ (l.getD i ⟨0,0,false⟩)
theorem Xh (n:Int):Fn Tryz.prog 269 [.v (.int .i64 n)] fun r=>r = .v (.bool (H7 n)):=by
 refine zT Tryz.func269 rfl ?_
 conv=>whnf
 repeat' (first | (refine Ao (fun h=>?_) (fun h=>?_) <;> (try simp at h) <;> conv=>whnf) | (refine zN tys_ok mixed (by kernel_rfl) ?_;conv=>whnf) | (refine zX ?_;conv=>whnf) | (refine Ae (by omega) ?_;conv=>whnf))
 all_goals exact⟨_,ri,by simp [H7,CJ, *] <;> omega⟩
theorem U8 (x:Ent):Fn Tryz.prog 268 [.ag (CZ x)] fun r=>r = .v (.bool (!DF x)):=by
 refine zT Tryz.func268 rfl ?_
 conv=>whnf
 repeat' (first | (refine Ao (fun h=>?_) (fun h=>?_) <;> (try simp at h) <;> conv=>whnf) | (refine zN tys_ok mixed (by kernel_rfl) ?_;conv=>whnf) | (refine zX ?_;conv=>whnf) | (refine z_ (Xh _) ?_;conv=>whnf) | (refine Ae (by omega) ?_;conv=>whnf))
 all_goals exact⟨_,ri,by simp [DF, *]⟩
theorem Z6 (l:List Ent)  (hl:l.length<=1000000):Fn Tryz.prog 292 [BA l, .v (.func (.func 268) #[] #[])] fun r=>r = .v (.int .i64 (Xa (fun x=>!DF x) l)):=by
 refine zT Tryz.func292 rfl ?_
 conv=>whnf
 refine zP Nat (fun k=>([(0,BA l),(1, .v (.func (.func 268) #[] #[])),(7, .v (.int .i64 l.length)),(8, .v (.int .i64 k))], [])) (fun k=>k<=l.length/\(l.take k).any (fun x=>!DF x)=false) (fun k=>l.length - k) 0 ⟨Aj _,by simp⟩ ⟨[],tv,⟨rfl,rfl,rfl,rfl,tv⟩,tv,rfl,rfl,rfl⟩ ?_
 rintro k ⟨hk,hI⟩
 conv=>whnf
 refine Ao (fun h2=>?_) (fun h2=>?_) <;> simp at h2 <;> conv=>whnf
 ·refine⟨by first | omega | (refine⟨rfl,?_,?_⟩ <;> first | omega | (simp only [Ab];done) | (simp only [Ab];omega)) | (simp only [Ab];omega),?_⟩
  conv=>whnf
  refine z_ (U8 (l.getD k ⟨0,0,false⟩)) ?_
  conv=>whnf
  refine Ao (fun h3=>?_) (fun h3=>?_) <;> conv=>whnf
  ·exact⟨_,ri,by rw [Lo (d:=⟨0,0,false⟩) h2 hI (by first | exact h3 | (rw [Ac] at h3;exact h3) | simpa using h3)]⟩
  ·refine⟨k+1,⟨by omega,FC (d:=⟨0,0,false⟩) h2 hI (by first | exact h3 | (rw [Ac] at h3;exact h3) | simpa using h3)⟩,by omega, [],tv,⟨rfl,rfl,rfl,AS (by omega),tv⟩,tv,rfl,rfl,rfl⟩
 ·exact⟨_,ri,by rw [A4 h2] at hI;rw [JD hI]⟩
theorem Z7 (l:List Ent)  (hl:l.length<=1000000):Fn Tryz.prog 270 [BA l, .v (.func (.func 268) #[] #[])] fun r=>r = .v (.bool (l.any (fun x=>!DF x))):=by
 refine zT Tryz.func270 rfl ?_
 conv=>whnf
 refine z_ (Z6 l  hl) ?_
 exact⟨_,ri,by rw [OD]⟩

theorem SJ (g:Geo) (l:List Ent) (hl:l.length<=1000000):Fn Tryz.prog 237 [.ag (AY g), .ag [BA l]] fun r=>r = .v (Gp (GO g l)):=by
 have hG:Fn Tryz.prog 46 [.ag (AY g)] fun r=>r = .v (Gp (Bt g)):=ER g.z g.d g.sp g.sl g.an
 cases hg:Bt g with
 | false=>
  rw [hg] at hG
  rw [show GO g l=false by simp [GO,hg]]
  refine zT Tryz.func237 rfl ?_
  conv=>whnf
  refine z_ hG ?_
  exact⟨_,ri,rfl⟩
 | true=>
  rw [hg] at hG
  obtain⟨h1,h2,h3,h4,h5⟩:=As.1 hg
  have hw:IntKind.i64.wrap (g.d+1)=g.d+1:=IntWalk.i64_in _ (by omega)
  by_cases hn:(l.length:Int)=g.d+1
  ·have hc:=Z7 l hl
   cases ha:l.any (fun x=>!DF x) with
   | true=>
    rw [ha] at hc
    rw [show GO g l=false by rw [GO];simp only [Bool.and_eq_false_iff];refine .inl (.inr ?_);rw [Cc,ha];rfl]
    refine zT Tryz.func237 rfl ?_
    conv=>whnf
    refine z_ hG ?_
    conv=>whnf
    rw [hw,show ((l.length:Int) != g.d+1)=false by rw [hn];exact bne_self_eq_false _]
    conv=>whnf
    refine z_ hc ?_
    exact⟨_,ri,rfl⟩
   | false=>
    rw [ha] at hc
    have hal:l.all DF=true:=by rw [Cc,ha];rfl
    have hlo:Ho l g.d.toNat=(l.getD g.d.toNat ⟨0,0,false⟩).lost:=by
     rw [Ho,Aa,Af (by omega)];rfl
    rw [show GO g l = !(l.getD g.d.toNat ⟨0,0,false⟩).lost by rw [GO,hg,hal,decide_eq_true hn,hlo];rfl]
    refine zT Tryz.func237 rfl ?_
    conv=>whnf
    refine z_ hG ?_
    conv=>whnf
    rw [hw,show ((l.length:Int) != g.d+1)=false by rw [hn];exact bne_self_eq_false _]
    conv=>whnf
    refine z_ hc ?_
    refine⟨by omega,?_⟩
    conv=>whnf
    refine Ao (fun h=>?_) (fun h=>?_) <;> conv=>whnf
    ·exact⟨_,ri,by rw [h];rfl⟩
    ·exact⟨_,ri,by rw [h];rfl⟩
  ·rw [show GO g l=false by simp [GO,hn]]
   refine zT Tryz.func237 rfl ?_
   conv=>whnf
   refine z_ hG ?_
   conv=>whnf
   rw [hw,show ((l.length:Int) != g.d+1)=true from bne_iff_ne.2 hn]
   exact⟨_,ri,rfl⟩
theorem SK (g:Geo) (l:List Ent) (hl:l.length<=1000):Fn Tryz.prog 227 [.ag (AY g), .ag [BA l]] fun r=>r = .tp [bA (if GO g l then CU l else []), .v (Gp (GO g l))]:=by
 have hc:=SJ g l (by omega)
 cases hok:GO g l with
 | false=>
  rw [hok] at hc
  refine zT Tryz.func227 rfl ?_
  conv=>whnf
  refine z_ hc ?_
  exact⟨.tp [bA [], .v (.int .i64 1)],fun c v h=>by
   simp only [Rd,RdL] at h |-
   obtain⟨xs,rfl,y,ys,rfl,rfl,h⟩:=h
   exact⟨_,rfl,_,_,rfl,Br 1 (fun i=> [.v (.int .u8 (([]:List UInt8).getD i 0).toNat)]) c (.slice none 0 0) (by simp [Rd]),h⟩,rfl⟩
 | true=>
  rw [hok] at hc
  have hall:∀ x∈l,DF x=true:=by
   simp only [GO,Ad] at hok
   exact fun x hx=>Aw.1 hok.1.2 x hx
  refine zT Tryz.func227 rfl ?_
  conv=>whnf
  refine z_ hc ?_
  conv=>whnf
  refine zn Nat (fun k=>([(7, .ow 2 (CU (l.take k)).length),(20,BA l),(21, .v (.int .i64 l.length)),(22, .v (.int .i64 k))], [.dead, .dead, .row 5 1 ((CU (l.take k)).map EK)])) (fun k=>k<=l.length) (fun k=>l.length - k) 0 (Aj _) (zG ⟨[(7,5,1)],⟨rfl,rfl,tv⟩,⟨rfl,rfl,rfl,rfl,tv⟩,⟨rfl,tv⟩,rfl,rfl,rfl⟩) ?_
  rintro k hk
  conv=>whnf
  refine A3 (fun h2=>?_) (fun h2=>?_) <;> (repeat rw [Ac] at h2) <;> conv=>whnf
  ·have hk':k<l.length:=by omega
   have hx:=hall _ (A9 (d:=⟨0,0,false⟩) hk')
   have hst:=Nf hk'
   have e9:l.getD k ⟨0,0,false⟩=l[k]:=by rw [Aa,Af hk'];rfl
   rw [<-e9] at hst
   have hr:=Ou [(l.getD k ⟨0,0,false⟩).stamp,(l.getD k ⟨0,0,false⟩).sum,Da (l.getD k ⟨0,0,false⟩).lost] [4,4,1] rfl (by show 3<=1000;decide) (Wy hx)
   refine zX ?_
   refine⟨by omega,?_⟩
   conv=>whnf
   rw [Ac]
   refine zX ?_
   conv=>whnf
   refine Ao (fun hx2=>?_) (fun hx2=>?_) <;> conv=>whnf
   ·rw [hx2] at hr
    refine zM hr.go ?_
    refine⟨rfl,?_⟩
    refine⟨rfl,?_⟩
    conv=>whnf
    refine zY [iA [(l.getD k ⟨0,0,false⟩).stamp,(l.getD k ⟨0,0,false⟩).sum,Da true],iA [4,4,1]] ⟨(D5 (l:= [(l.getD k ⟨0,0,false⟩).stamp,(l.getD k ⟨0,0,false⟩).sum,Da true]) rfl).1,(D5 (l:= [4,4,1]) rfl).1,tv⟩ ?_
    refine zU hr rfl ?_
    rintro _ _ ⟨rfl,rfl⟩
    refine⟨by simp,?_⟩
    conv=>whnf
    refine Ae ⟨by simp,by rw [EU,tot_rowB [(l.getD k ⟨0,0,false⟩).stamp,(l.getD k ⟨0,0,false⟩).sum,Da true] [4,4,1] rfl];simp [tot];omega⟩ ?_
    conv=>whnf
    have he:Jf (l.getD k ⟨0,0,false⟩)=rowB [(l.getD k ⟨0,0,false⟩).stamp,(l.getD k ⟨0,0,false⟩).sum,Da true] [4,4,1]:=by rw [Jf,hx2]
    refine⟨k+1,by omega,by omega,zG ⟨[],tv,⟨?_,rfl,rfl,AS (by omega),tv⟩,⟨?_,tv⟩,rfl,rfl,rfl⟩⟩
    ·rw [hst,he,Ai];rfl
    ·rw [hst,he,AF]
   ·rw [hx2] at hr
    refine zM hr.go ?_
    refine⟨rfl,?_⟩
    refine⟨rfl,?_⟩
    conv=>whnf
    refine zY [iA [(l.getD k ⟨0,0,false⟩).stamp,(l.getD k ⟨0,0,false⟩).sum,Da false],iA [4,4,1]] ⟨(D5 (l:= [(l.getD k ⟨0,0,false⟩).stamp,(l.getD k ⟨0,0,false⟩).sum,Da false]) rfl).1,(D5 (l:= [4,4,1]) rfl).1,tv⟩ ?_
    refine zU hr rfl ?_
    rintro _ _ ⟨rfl,rfl⟩
    refine⟨by simp,?_⟩
    conv=>whnf
    refine Ae ⟨by simp,by rw [EU,tot_rowB [(l.getD k ⟨0,0,false⟩).stamp,(l.getD k ⟨0,0,false⟩).sum,Da false] [4,4,1] rfl];simp [tot];omega⟩ ?_
    conv=>whnf
    have he:Jf (l.getD k ⟨0,0,false⟩)=rowB [(l.getD k ⟨0,0,false⟩).stamp,(l.getD k ⟨0,0,false⟩).sum,Da false] [4,4,1]:=by rw [Jf,hx2]
    refine⟨k+1,by omega,by omega,zG ⟨[],tv,⟨?_,rfl,rfl,AS (by omega),tv⟩,⟨?_,tv⟩,rfl,rfl,rfl⟩⟩
    ·rw [hst,he,Ai];rfl
    ·rw [hst,he,AF]
  ·have hk2:k=l.length:=by omega
   subst hk2
   rw [Ar]
   refine⟨by simp,?_⟩
   exact⟨.tp [bA (CU l), .v (.int .i64 0)],fun c v h=>by
    simp only [Rd,RdL] at h |-
    obtain⟨xs,rfl,y,ys,rfl,h1,h⟩:=h
    exact⟨_,rfl,y,ys,rfl,zE (u:=y) rfl (fun i hi=>Bn (f:=EK) (l:=CU l) (d:=0) hi) (by simp only [Rd];exact h1),h⟩,rfl⟩
theorem ConvH.sealBox {H:List AB} (j k:Nat) {t t':TypeId} {sz':Nat} {cs cs2:List AV} {es':List (List AV)} (hj:H[j]? = some (.box t cs)) (hk:H[k]? = some (.row t' sz' es'))
  (he:cs.map (AV.slIn k es'.length (.sl sz' es'.length fun i=>es'.getD i []))=cs2):ConvH H ((H.set k .dead).set j (.box t cs2)):=by
 intro w0 M0 c hs
 subst he
 have hjk:j≠k:=by rintro rfl;rw [hj] at hk;cases hk
 obtain⟨c1,e1,s1,x1,r1⟩:=hs.freeze hk
 have hj1:(H.set k .dead)[j]? = some (.box t cs):=by rw [A7 (Ne.symm hjk)];exact hj
 refine⟨c1,e1,s1.recell hj1 rfl ?_,x1⟩
 rintro⟨g,xs,h1,h2,_,h4⟩
 obtain⟨g0,ys,q1,q2,q3,_⟩:=hs.blk j _ hj
 have hg:=x1.box j _ (hs.klt hj) q1
 rw [h1] at hg
 injection hg with hg
 injection hg with hg
 injection hg with hg
 subst hg
 rw [e1,q2] at h2
 injection h2 with h2
 have hxy:ys.toArray=xs.toArray:=by injection h2
 have hxy:ys=xs:=by simpa using hxy
 subst hxy
 refine⟨g,ys,h1,by rw [e1];exact q2,?_,h4⟩
 have h8:∀ (l:List AV) (us:List Value),RdL l c us->RdL (l.map (AV.slIn k es'.length (.sl sz' es'.length fun i=>es'.getD i []))) c1 us:=by
  intro l
  induction l with
  | nil=>intro us h;simp only [RdL] at h;subst h;simp [RdL]
  | cons x l ih=>
   intro us h
   simp only [RdL] at h
   obtain⟨u,vs,rfl,a1,a2⟩:=h
   simp only [A0,RdL]
   refine⟨u,vs,rfl,?_,ih vs a2⟩
   unfold AV.slIn
   split
   ·rename_i i n
    split
    ·rename_i hik
     subst hik
     split
     ·rename_i hn
      subst hn
      exact r1 u a1
     ·simp [Rd]
    ·exact Rd.ext _ x1 a1
   ·exact Rd.ext _ x1 a1
 exact h8 _ _ q3
def zt:=@ConvH.sealBox
def DQ (g:Geo) (b:List UInt8):Int:=if Bt g=false then 1 else if (Cu g b).isSome then 0 else 4
theorem Lj (e:Int) (c:Ctx) (v:Value) (h:Rd (.tp [.ag [.v (.slice none 0 0)], .v (.int .i64 e)]) c v):Rd (.tp [.ag [BA []], .v (.int .i64 e)]) c v:=by
 have e1:SubL [.ag [.v (.slice none 0 0)], .v (.int .i64 e)] [.ag [BA []], .v (.int .i64 e)]:=⟨Ba ⟨fun c u h=>Br 3 _ c u h,tv⟩,ri,tv⟩
 simp only [Rd] at h |-
 obtain⟨xs,rfl,h⟩:=h
 exact⟨_,rfl,e1.rdl (c:=c) (xs:=xs) (by simpa only [RdL,Rd] using h)⟩
def ay (g:Geo) (b:List UInt8) (k:Nat):Bool->List AB
 | false=> [.box 23 (AY g), .box 141 [.v (.slice none 0 0)], .box 141 [.ow 3 k], .row 194 3 ((entsOf k b).map CZ)]
 | true=> [.box 23 (AY g), .box 141 [.v (.slice none 0 0)], .box 141 [.sl 3 ((entsOf k b).map CZ).length fun i=>((entsOf k b).map CZ).getD i []], .dead]
theorem L1 (g:Geo) (b:List UInt8) (hl:b.length<=100000):Fn Tryz.prog 175 [.ag (AY g),bA b] fun r=>r = .tp [.ag [BA (if Bt g then (Cu g b).getD [] else [])], .v (.int .i64 (DQ g b))]:=by
 have hG:Fn Tryz.prog 46 [.ag (AY g)] fun r=>r = .v (Gp (Bt g)):=ER g.z g.d g.sp g.sl g.an
 cases hg:Bt g with
 | false=>
  rw [hg] at hG
  rw [show DQ g b=1 by rw [DQ,if_pos hg]]
  refine zT Tryz.func175 rfl ?_
  conv=>whnf
  refine z_ hG ?_
  exact⟨_,Lj 1,rfl⟩
 | true=>
  rw [hg] at hG
  obtain⟨h1,h2,h3,h4,h5⟩:=As.1 hg
  obtain⟨n,hn⟩:∃ n:Nat,g.d+1=n:=⟨(g.d+1).toNat,by omega⟩
  have hnn:(g.d+1).toNat=n:=by omega
  have hw:IntKind.i64.wrap (g.d+1)=(n:Int):=by rw [IntWalk.i64_in _ (by omega),hn]
  by_cases hs:9*n<=b.length
  ·refine zT Tryz.func175 rfl ?_
   conv=>whnf
   refine z_ hG ?_
   conv=>whnf
   refine zn (Nat × Bool) (fun s=>([(1,bA b),(2, .bp 0 0),(4, .bp 1 0),(5, .v (.int .i64 0)),(6, .bp 2 0),(7,bA (b.drop (9*s.1))),(20, .v (.int .i64 n)),(21, .v (.int .i64 s.1))],ay g b s.1 s.2)) (fun s=>s.1<=n/\(s.2=false->s.1<n)/\(s.2=true->s.1=n)) (fun s=>n - s.1) (0,false) ⟨Aj _,fun _=>by show 0<n;omega,fun h=>by cases h⟩ (zG ⟨[(1002000,194,3)],⟨rfl,rfl,tv⟩,⟨rfl,rfl,rfl,rfl,rfl,rfl,congrArg (fun x=>AV.v (.int .i64 x)) hw,rfl,tv⟩,⟨rfl,rfl,rfl,rfl,tv⟩,rfl,rfl,rfl⟩) ?_
   rintro⟨k,sd⟩ ⟨hk,hf,ht⟩
   simp only at hk hf ht
   cases sd with
   | false=>
    have hk1:=hf rfl
    obtain⟨x,y,z,hxy,hen⟩:=VG (b.drop (9*k))
    have hu:=JY (b.drop (9*k)) [4,4,1] (by decide) (by rw [Ak];omega) (by show 3<=1000;decide) (by rw [Ak];show 9<=_;omega)
    rw [hxy] at hu
    have hst:=entsOf_step k b
    have hel:=entsOf_len k b
    conv=>whnf
    refine A3 (fun h6=>?_) (fun h6=>?_) <;> (repeat rw [Ac] at h6) <;> conv=>whnf
    ·refine zM hu.go ?_
     refine⟨rfl,?_⟩
     conv=>whnf
     refine zY [bA (b.drop (9*k)),iA [4,4,1]] ⟨ri,(D5 (l:= [4,4,1]) rfl).1,tv⟩ ?_
     refine zU (hu) rfl ?_
     rintro _ _ ⟨rfl,rfl⟩
     conv=>whnf
     apply zH (0) tys_ok mixed (.one 0 (.one 1 (.one 2 (.one 3 (.one 4 (.one 5 (.one 6 (.one 7 (.one 8 (.one 9 (.one 10 (.one 11 (.one 12 (.one 13 (.one 14 (.one 15 (.one 16 .fin))))))))))))))))) [33,34,35,36,37,38,39,40,41,42,43,44,45,46,47,48] (by kernel_rfl)
     ·conv=>whnf
      try (first | (refine Ae ⟨by decide,by decide⟩ ?_;(conv=>whnf);refine Ae ⟨rfl,rfl,by decide⟩ ?_;(conv=>whnf)) | skip;conv=>whnf)
      try (refine tI ?_;conv=>whnf)
      try (first | (refine Ae ⟨by decide,by decide⟩ ?_;(conv=>whnf);refine Ae ⟨rfl,rfl,by decide⟩ ?_;(conv=>whnf)) | skip;conv=>whnf)
      try (refine tI ?_;conv=>whnf)
      try (first | (refine Ae ⟨by decide,by decide⟩ ?_;(conv=>whnf);refine Ae ⟨rfl,rfl,by decide⟩ ?_;(conv=>whnf)) | skip;conv=>whnf)
      try (refine tI ?_;conv=>whnf)
      try (first | (refine Ae ⟨by decide,by decide⟩ ?_;(conv=>whnf);refine Ae ⟨rfl,rfl,by decide⟩ ?_;(conv=>whnf)) | skip;conv=>whnf)
      try (refine tJ ?_;conv=>whnf)
      try (refine tK ?_;conv=>whnf)
      try (refine tS ?_;conv=>whnf)
      (skip)
      exact⟨rfl,rfl⟩
     conv=>whnf
     have hes:(entsOf k b).map CZ ++ [[.v (.int .i64 x), .v (.int .i64 y), .v (.bool (z == 1))]]=(entsOf (k+1) b).map CZ:=by rw [hst,AF,hen];rfl
     have hdr:bA ((b.drop (9*k)).drop 9)=bA (b.drop (9*(k+1))):=by rw [AP];rfl
     by_cases hlast:k+1<n
     ·exact⟨(k+1,false),⟨by show k+1<=n;omega,fun _=>hlast,fun h=>by cases h⟩,by show n - (k+1)<n - k;omega,zG ⟨[],tv,⟨rfl,rfl,rfl,rfl,rfl,hdr,rfl,AS (by omega),tv⟩,⟨rfl,rfl,rfl,congrArg (AB.row _ _) hes.symm,tv⟩,rfl,rfl,rfl⟩⟩
     ·refine⟨(k+1,true),⟨by show k+1<=n;omega,(fun h=>by cases h),fun _=>by show k+1=n;omega⟩,by show n - (k+1)<n - k;omega,_,zt 2 3 (es':=(entsOf (k+1) b).map CZ) (cs2:= [.sl 3 ((entsOf (k+1) b).map CZ).length fun i=>((entsOf (k+1) b).map CZ).getD i []]) rfl (congrArg (fun e=>some (AB.row _ _ e)) hes) ?_, [],tv,⟨rfl,rfl,rfl,rfl,rfl,hdr,rfl,AS (by omega),tv⟩,⟨rfl,rfl,rfl,tv⟩,rfl,rfl,rfl⟩
      have hel2:k+1=((entsOf (k+1) b).map CZ).length:=by rw [Ab,entsOf_len]
      show [AV.slIn 3 _ _ (.ow 3 (k+1))]=_
      rw [AV.slIn,if_pos rfl,if_pos hel2]
    ·exfalso;omega
   | true=>
    have hk1:=ht rfl
    subst hk1
    have hlen:=entsOf_len k b
    have esub:∀ (c:Ctx) (u:Value),Rd (.sl 3 ((entsOf k b).map CZ).length fun i=>((entsOf k b).map CZ).getD i []) c u->Rd (BA (entsOf k b)) c u:=fun c u h=>
     zE (by rw [Ab]) (fun i hi=>Bn (f:=CZ) (d:=⟨0,0,false⟩) (by rw [Ab] at hi;exact hi)) h
    have hb:=SK g (entsOf k b) (by omega)
    have hq:=Wx (CU (entsOf k b)) b
    have hRR:Cu g b=if GO g (entsOf k b)=true/\CU (entsOf k b)=b then some (entsOf k b) else none:=by rw [Cu,hnn]
    conv=>whnf
    refine A3 (fun h6=>?_) (fun h6=>?_) <;> (repeat rw [Ac] at h6) <;> conv=>whnf
    ·exfalso;omega
    ·refine zY [.ag (AY g), .ag [BA (entsOf k b)]] ⟨ri,Ba ⟨esub,tv⟩,tv⟩ ?_
     cases hok:GO g (entsOf k b) with
     | false=>
      rw [hok] at hb
      have hN:Cu g b=none:=by rw [hRR,if_neg (fun h=>by rw [hok] at h;cases h.1)]
      rw [show DQ g b=4 by rw [DQ,if_neg (by rw [hg];decide),hN];rfl,hN]
      refine z_ hb ?_
      exact⟨_,Lj 4,rfl⟩
     | true=>
      rw [hok] at hb
      by_cases he:CU (entsOf k b)=b
      ·have hN:Cu g b=some (entsOf k b):=by rw [hRR,if_pos ⟨hok,he⟩]
       rw [show DQ g b=0 by rw [DQ,if_neg (by rw [hg];decide),hN];rfl,hN]
       rw [decide_eq_true he] at hq
       refine z_ hb ?_
       conv=>whnf
       refine z_ hq ?_
       exact⟨.tp [.ag [BA (entsOf k b)], .v (.int .i64 0)],fun c v h=>by
        have e1:SubL [.ag [.sl 3 ((entsOf k b).map CZ).length fun i=>((entsOf k b).map CZ).getD i []], .v (.int .i64 0)] [.ag [BA (entsOf k b)], .v (.int .i64 0)]:=⟨Ba ⟨esub,tv⟩,ri,tv⟩
        simp only [Rd] at h |-
        obtain⟨xs,rfl,h⟩:=h
        exact⟨_,rfl,e1.rdl (c:=c) (xs:=xs) (by simpa only [RdL,Rd] using h)⟩,rfl⟩
      ·have hN:Cu g b=none:=by rw [hRR,if_neg (fun h=>he h.2)]
       rw [show DQ g b=4 by rw [DQ,if_neg (by rw [hg];decide),hN];rfl,hN]
       rw [decide_eq_false he] at hq
       refine z_ hb ?_
       conv=>whnf
       refine z_ hq ?_
       exact⟨_,Lj 4,rfl⟩
  ·have hN:Cu g b=none:=P0 (by rw [hnn];omega)
   rw [show DQ g b=4 by rw [DQ,if_neg (by rw [hg];decide),hN];rfl,hN]
   refine zT Tryz.func175 rfl ?_
   conv=>whnf
   refine z_ hG ?_
   conv=>whnf
   refine zn Nat (fun k=>([(1,bA b),(2, .bp 0 0),(4, .bp 1 0),(5, .v (.int .i64 0)),(6, .bp 2 0),(7,bA (b.drop (9*k))),(20, .v (.int .i64 n)),(21, .v (.int .i64 k))],ay g b k false)) (fun k=>k<=n/\9*k<=b.length) (fun k=>n - k) 0 ⟨Aj _,Aj _⟩ (zG ⟨[(1002000,194,3)],⟨rfl,rfl,tv⟩,⟨rfl,rfl,rfl,rfl,rfl,rfl,congrArg (fun x=>AV.v (.int .i64 x)) hw,rfl,tv⟩,⟨rfl,rfl,rfl,rfl,tv⟩,rfl,rfl,rfl⟩) ?_
   rintro k ⟨hk,hkb⟩
   conv=>whnf
   refine A3 (fun h6=>?_) (fun h6=>?_) <;> (repeat rw [Ac] at h6) <;> conv=>whnf
   ·by_cases h9:9*(k+1)<=b.length
    ·obtain⟨x,y,z,hxy,hen⟩:=VG (b.drop (9*k))
     have hu:=JY (b.drop (9*k)) [4,4,1] (by decide) (by rw [Ak];omega) (by show 3<=1000;decide) (by rw [Ak];show 9<=_;omega)
     rw [hxy] at hu
     have hst:=entsOf_step k b
     have hel:=entsOf_len k b
     refine zM hu.go ?_
     refine⟨rfl,?_⟩
     conv=>whnf
     refine zY [bA (b.drop (9*k)),iA [4,4,1]] ⟨ri,(D5 (l:= [4,4,1]) rfl).1,tv⟩ ?_
     refine zU (hu) rfl ?_
     rintro _ _ ⟨rfl,rfl⟩
     conv=>whnf
     apply zH (0) tys_ok mixed (.one 0 (.one 1 (.one 2 (.one 3 (.one 4 (.one 5 (.one 6 (.one 7 (.one 8 (.one 9 (.one 10 (.one 11 (.one 12 (.one 13 (.one 14 (.one 15 (.one 16 .fin))))))))))))))))) [33,34,35,36,37,38,39,40,41,42,43,44,45,46,47,48] (by kernel_rfl)
     ·conv=>whnf
      try (first | (refine Ae ⟨by decide,by decide⟩ ?_;(conv=>whnf);refine Ae ⟨rfl,rfl,by decide⟩ ?_;(conv=>whnf)) | skip;conv=>whnf)
      try (refine tI ?_;conv=>whnf)
      try (first | (refine Ae ⟨by decide,by decide⟩ ?_;(conv=>whnf);refine Ae ⟨rfl,rfl,by decide⟩ ?_;(conv=>whnf)) | skip;conv=>whnf)
      try (refine tI ?_;conv=>whnf)
      try (first | (refine Ae ⟨by decide,by decide⟩ ?_;(conv=>whnf);refine Ae ⟨rfl,rfl,by decide⟩ ?_;(conv=>whnf)) | skip;conv=>whnf)
      try (refine tI ?_;conv=>whnf)
      try (first | (refine Ae ⟨by decide,by decide⟩ ?_;(conv=>whnf);refine Ae ⟨rfl,rfl,by decide⟩ ?_;(conv=>whnf)) | skip;conv=>whnf)
      try (refine tJ ?_;conv=>whnf)
      try (refine tK ?_;conv=>whnf)
      try (refine tS ?_;conv=>whnf)
      (skip)
      exact⟨rfl,rfl⟩
     conv=>whnf
     have hes:(entsOf k b).map CZ ++ [[.v (.int .i64 x), .v (.int .i64 y), .v (.bool (z == 1))]]=(entsOf (k+1) b).map CZ:=by rw [hst,AF,hen];rfl
     have hdr:bA ((b.drop (9*k)).drop 9)=bA (b.drop (9*(k+1))):=by rw [AP];rfl
     exact⟨k+1,⟨by omega,h9⟩,by omega,zG ⟨[],tv,⟨rfl,rfl,rfl,rfl,rfl,hdr,rfl,AS (by omega),tv⟩,⟨rfl,rfl,rfl,congrArg (AB.row _ _) hes.symm,tv⟩,rfl,rfl,rfl⟩⟩
    ·have hu:=UF (b.drop (9*k)) [4,4,1] (by decide) (by rw [Ak];omega) (by show 3<=1000;decide) (by rw [Ak];show _<9;omega)
     refine zM hu.go ?_
     refine⟨rfl,?_⟩
     conv=>whnf
     refine zY [bA (b.drop (9*k)),iA [4,4,1]] ⟨ri,(D5 (l:= [4,4,1]) rfl).1,tv⟩ ?_
     refine z_ hu ?_
     exact⟨_,Lj 4,rfl⟩
   ·exfalso
    have:k=n:=by omega
    subst this
    omega
theorem TF (g:Geo) (x:Img) (hl:x.bytes.length<=100000):Fn Tryz.prog 104 [.ag (AY g), .ag (E8 x)] fun r=>r = .v (Gp (B9 g x)):=by
 have hG:Fn Tryz.prog 46 [.ag (AY g)] fun r=>r = .v (Gp (Bt g)):=ER g.z g.d g.sp g.sl g.an
 have ht:=L1 g x.bytes hl
 cases hg:Bt g with
 | false=>
  rw [hg] at hG
  rw [show B9 g x=false by simp [B9,hg]]
  refine zT Tryz.func104 rfl ?_
  conv=>whnf
  refine z_ hG ?_
  exact⟨_,ri,rfl⟩
 | true=>
  rw [hg] at hG ht
  obtain⟨h1,h2,h3,h4,h5⟩:=As.1 hg
  have hwz:IntKind.i64.wrap (g.z - 1)=g.z - 1:=IntWalk.i64_in _ (by omega)
  have hwd:IntKind.i64.wrap (g.d - 1)=g.d - 1:=IntWalk.i64_in _ (by omega)
  have hi1:=Vt x.zone 0 (g.z - 1)
  have hi2:=Vt x.what (-1) (g.d - 1)
  have hE:B9 g x=(CJ x.zone 0 (g.z - 1)&&(if x.what=255 then (Cu g x.bytes).isSome else CJ x.what (-1) (g.d - 1)&&decide (x.bytes.length=8))):=by rw [B9,hg];rfl
  rw [hE]
  cases hz:CJ x.zone 0 (g.z - 1) with
  | false=>
   rw [hz] at hi1
   refine zT Tryz.func104 rfl ?_
   conv=>whnf
   refine z_ hG ?_
   conv=>whnf
   rw [hwz]
   refine z_ hi1 ?_
   exact⟨_,ri,rfl⟩
  | true=>
   rw [hz] at hi1
   by_cases hw:x.what=255
   ·rw [if_pos hw]
    cases hr:Cu g x.bytes with
    | none=>
     rw [show DQ g x.bytes=4 by rw [DQ,if_neg (by rw [hg];decide),hr];rfl] at ht
     refine zT Tryz.func104 rfl ?_
     conv=>whnf
     refine z_ hG ?_
     conv=>whnf
     rw [hwz]
     refine z_ hi1 ?_
     conv=>whnf
     refine A3 (fun h=>?_) (fun h=>?_) <;> conv=>whnf
     ·refine z_ ht ?_
      exact⟨_,ri,rfl⟩
     ·exact absurd hw h
    | some l=>
     rw [show DQ g x.bytes=0 by rw [DQ,if_neg (by rw [hg];decide),hr];rfl] at ht
     refine zT Tryz.func104 rfl ?_
     conv=>whnf
     refine z_ hG ?_
     conv=>whnf
     rw [hwz]
     refine z_ hi1 ?_
     conv=>whnf
     refine A3 (fun h=>?_) (fun h=>?_) <;> conv=>whnf
     ·refine z_ ht ?_
      exact⟨_,ri,rfl⟩
     ·exact absurd hw h
   ·rw [if_neg hw]
    cases hh:CJ x.what (-1) (g.d - 1) with
    | false=>
     rw [hh] at hi2
     refine zT Tryz.func104 rfl ?_
     conv=>whnf
     refine z_ hG ?_
     conv=>whnf
     rw [hwz]
     refine z_ hi1 ?_
     conv=>whnf
     refine A3 (fun h=>?_) (fun h=>?_) <;> conv=>whnf
     ·exact absurd h hw
     rw [hwd]
     refine z_ hi2 ?_
     exact⟨_,ri,rfl⟩
    | true=>
     rw [hh] at hi2
     refine zT Tryz.func104 rfl ?_
     conv=>whnf
     refine z_ hG ?_
     conv=>whnf
     rw [hwz]
     refine z_ hi1 ?_
     conv=>whnf
     refine A3 (fun h=>?_) (fun h=>?_) <;> conv=>whnf
     ·exact absurd h hw
     rw [hwd]
     refine z_ hi2 ?_
     conv=>whnf
     refine A3 (fun h=>?_) (fun h=>?_) <;> conv=>whnf
     ·exact⟨_,ri,by rw [decide_eq_false (by omega)];rfl⟩
     ·exact⟨_,ri,by rw [decide_eq_true (by omega)];rfl⟩



theorem Kx (n lo hi:Int):Fn Tryz.prog 100 [.v (.int .i64 n), .v (.int .i64 lo), .v (.int .i64 hi)] fun r=>r = .v (.bool (CJ n lo hi)):=by
 refine zT Tryz.func100 rfl ?_
 conv=>whnf
 repeat' (first | (refine Ao (fun h=>?_) (fun h=>?_) <;> (try simp at h) <;> conv=>whnf) | (refine zN tys_ok mixed (by kernel_rfl) ?_;conv=>whnf) | (refine zX ?_;conv=>whnf) | (refine Ae (by omega) ?_;conv=>whnf))
 all_goals exact⟨_,ri,by simp [CJ, *] <;> omega⟩
theorem Li (g:Geo) (n:Int) (b:Bool):Fn Tryz.prog 166 [.ag (AY g), .v (.int .i64 n), .v (.bool b)] fun r=>r = .tp [.v (.int .i64 (if Bt g&&b then n else 0)), .v (.int .i64 (if Bt g&&b then 0 else 1))]:=by
 have s1:Fn Tryz.prog 46 [.ag (AY g)] fun r=>r = .v (Gp (Bt g)):=ER g.z g.d g.sp g.sl g.an
 cases hg:Bt g <;> cases b
 all_goals
  rw [hg] at s1
  refine zT Tryz.func166 rfl ?_
  conv=>whnf
  refine z_ s1 ?_
  exact⟨_,ri,rfl⟩
def DY (g:Geo) (x:Gt) (copy slot:Int):Option Rc:=
 if Bt g&&KO g copy slot&&decide (x.err=0)&&decide (C_ x.bytes=0)&&decide (CR x.bytes=BX g copy slot) then
  match Gf g (Cv x.bytes) with
  | some r=>if r.seq=Ci x.bytes then some r else none
  | none=>none
 else none
theorem Cg {l m:List AV} (h:SubL l m) (c:Ctx) (u:Value) (hr:Rd (.tp l) c u):Rd (.tp m) c u:=by
 simp only [Rd] at hr |-
 obtain⟨xs,rfl,h1⟩:=hr
 exact⟨xs,rfl,h.rdl h1⟩
theorem Lt (c:Ctx) (u:Value) (b:Bool) (h:Rd (.tp [.ag [.v (.int .i64 0), .v (.int .i64 0), .v (.int .i64 0), .v (.int .i64 0), .v (.int .i64 0), .v (.int .i64 0), .v (.int .i64 0), .v (.slice none 0 0)], .v (.bool b)]) c u):Rd (.tp [.ag (GJ zeroC), .v (.bool b)]) c u:=by
 refine Cg ?_ c u h
 exact⟨Ba ⟨ri,ri,ri,ri,ri,ri,ri,Br _ _,tv⟩,ri,tv⟩

theorem LK (b:List UInt8) (m:Nat) (hm:m<=b.length) (hm4:m<=4):Fn Tryz.prog 43 [bA b, .v (.int .i64 m)] fun r=>r = .v (.int .i64 (leN (b.take m):Nat)):=by
 refine zT Tryz.func43 rfl ?_
 conv=>whnf
 rw [wi (show -9223372036854775808<=(m:Int) - 1/\(m:Int) - 1<=9223372036854775807 by omega)]
 have hl:(b.take m).length=m:=by rw [Au];omega
 refine zV Nat (fun k=>([(0,bA b),(5, .v (.int .i64 (leN ((b.take m).drop k):Nat))),(6, .v (.int .i64 ((k:Int) - 1)))], [])) (fun k=>k<=m) (fun k=>k) m (Ah _)
  (zR (s:= []) ⟨⟨rfl,by rw [A8 (by omega)];rfl,rfl,tv⟩,tv,rfl,rfl,rfl,rfl,rfl⟩) ?_
 intro k hk
 conv=>whnf
 refine A3 (fun h5=>?_) (fun h5=>?_) <;> (repeat rw [Ac] at h5) <;> conv=>whnf
 ·obtain⟨j,rfl⟩:∃ j,k=j+1:=⟨k - 1,by omega⟩
  have e1:(((j+1:Nat):Int) - 1)=(j:Nat):=by omega
  have hj:j<(b.take m).length:=by omega
  have hb:b.getD j 0=(b.take m)[j]:=by rw [List.getElem_take,Aa,Af (by omega)];rfl
  have hd:leN ((b.take m).drop j)=(b.take m)[j].toNat+256*leN ((b.take m).drop (j+1)):=by rw [A_ hj];rfl
  have hlt:=leN_lt ((b.take m).drop (j+1))
  have hx:=(b.take m)[j].toNat_lt
  have hp:256 ^ ((b.take m).drop (j+1)).length<=256 ^ 3:=Nat.pow_le_pow_right (by decide) (by rw [Ak];omega)
  rw [e1]
  refine⟨⟨by omega,by omega⟩,?_⟩
  conv=>whnf
  have hv:IntKind.i64.wrap (IntKind.i64.wrap (256*((leN ((b.take m).drop (j+1)):Nat):Int))+IntKind.i64.wrap ((b.getD j 0).toNat:Nat))=((leN ((b.take m).drop j):Nat):Int):=by
   rw [hb,hd,wi (n:=(((b.take m)[j].toNat:Nat):Int)) (by omega),wi (n:=256*((leN ((b.take m).drop (j+1)):Nat):Int)) (by omega),wi (by omega)]
   omega
  exact⟨j,by omega,by omega,zR (s:= []) ⟨⟨rfl,congrArg (fun n=>AV.v (.int .i64 n)) hv,congrArg (fun n=>AV.v (.int .i64 n)) (wi (n:=(j:Int) - 1) (by omega)),tv⟩,tv,rfl,rfl,rfl,rfl,rfl⟩⟩
 ·have ek:k=0:=by omega
  subst ek
  exact⟨_,ri,rfl⟩
theorem Ti (N:Nat) (hr:N<4294967296):Fn Tryz.prog 218 [.v (.int .i64 N)] fun r=>r = .v (.int .i64 (Gb N:Nat)):=by
 refine zT Tryz.func218 rfl ?_
 refine⟨by decide,?_⟩
 conv=>whnf
 have ht:(N:Int).tmod 2=((N % 2:Nat):Int):=by rw [Bc (by omega)];omega
 have hd:IntKind.i64.wrap ((N:Int).tdiv 2)=((N / 2:Nat):Int):=by rw [Bl (by omega),wi (by omega)];omega
 by_cases h2:N % 2=1
 ·have hs:Gb N=N / 2 ^^^ 2197175160:=by unfold Gb;rw [if_pos h2];rfl
  rw [ht,h2,show (((1:Nat):Int) == 1)=true from rfl]
  refine⟨by decide,?_⟩
  conv=>whnf
  rw [hd]
  exact⟨_,ri,by rw [hs,<-St (N / 2) 2197175160 (by omega) (by omega)];rfl⟩
 ·have h0:N % 2=0:=by omega
  have hs:Gb N=N / 2:=by unfold Gb;rw [if_neg h2,Nat.xor_zero]
  rw [ht,h0,show (((0:Nat):Int) == 1)=false from rfl]
  refine⟨by decide,?_⟩
  exact⟨_,ri,by rw [hs,hd]⟩
theorem QU (r:Nat) (hr:r<4294967296):Fn Tryz.prog 165 [.v (.int .i64 r)] fun q=>q = .v (.int .i64 (F3 r:Nat)):=by
 refine zT Tryz.func165 rfl ?_
 conv=>whnf
 refine zV Nat (fun k=>([(0, .v (.int .i64 (stepsC k r:Nat))),(3, .v (.int .i64 k))], [])) (fun k=>k<=8) (fun k=>8 - k) 0 (Aj _)
  (zR (s:= []) ⟨⟨rfl,rfl,tv⟩,tv,rfl,rfl,rfl,rfl,rfl⟩) ?_
 intro k hk
 conv=>whnf
 refine A3 (fun h6=>?_) (fun h6=>?_) <;> (repeat rw [Ac] at h6) <;> conv=>whnf
 ·have hdn:=Ti (stepsC k r) (stepsC_lt k hr)
  refine z_ hdn ?_
  exact⟨k+1,by omega,by omega,zR (s:= []) ⟨⟨rfl,AS (by omega),tv⟩,tv,rfl,rfl,rfl,rfl,rfl⟩⟩
 ·have ek:k=8:=by omega
  subst ek
  exact⟨_,ri,rfl⟩
theorem SY (b:List UInt8) (hb:b.length<=1000000000):Fn Tryz.prog 99 [.v (.int .i64 0),bA b] fun r=>r = .v (.int .i64 (De b:Nat)):=by
 refine zT Tryz.func99 rfl ?_
 conv=>whnf
 rw [show IntKind.i64.wrap (4294967295 - 0)=4294967295 by decide]
 refine zV Nat (fun k=>([(1,bA b),(5, .v (.int .i64 (Gn 4294967295 (b.take k):Nat))),(6, .v (.int .i64 k))], [])) (fun k=>k<=b.length) (fun k=>b.length - k) 0 (Aj _)
  (zR (s:= []) ⟨⟨rfl,rfl,rfl,tv⟩,tv,rfl,rfl,rfl,rfl,rfl⟩) ?_
 intro k hk
 conv=>whnf
 refine A3 (fun h6=>?_) (fun h6=>?_) <;> (repeat rw [Ac] at h6) <;> conv=>whnf
 ·have hk':k<b.length:=by omega
  have hst:=Mq (r:=4294967295) hk'
  have hlt:=foldC_lt (b.take k) (r:=4294967295) (by omega)
  refine⟨⟨by omega,by omega⟩,?_⟩
  conv=>whnf
  have hb':b.getD (k:Int).toNat 0=b[k]:=by rw [Ac,Aa,Af hk'];rfl
  have hy:=b[k].toNat_lt
  have hx:IntKind.i64.wrap ((BitVec.ofInt IntKind.i64.bits ((Gn 4294967295 (b.take k):Nat):Int) ^^^ BitVec.ofInt IntKind.i64.bits (IntKind.i64.wrap ((b.getD (k:Int).toNat 0).toNat:Int))).toNat:Int)=((Gn 4294967295 (b.take k) ^^^ b[k].toNat:Nat):Int):=by
   rw [hb',wi (n:=((b[k].toNat:Nat):Int)) (by omega)]
   exact St _ _ hlt (by omega)
  rw [hx]
  have h8:=QU _ (Lu hlt (show b[k].toNat<4294967296 by omega))
  rw [<-hst] at h8
  refine z_ h8 ?_
  exact⟨k+1,hk',by omega,zR (s:= []) ⟨⟨rfl,rfl,AS (by omega),tv⟩,tv,rfl,rfl,rfl,rfl,rfl⟩⟩
 ·have ek:k=b.length:=by omega
  subst ek
  have hlt:=foldC_lt b (r:=4294967295) (by omega)
  exact⟨_,ri,congrArg (fun n=>AV.v (.int .i64 n)) (by rw [Ar];unfold De;rw [wi (by omega)];omega)⟩
theorem J2 (b:List UInt8) (hb:b.length<=1000000000):Fn Tryz.prog 44 [bA b] fun r=>r = .v (.int .i64 (De b:Nat)):=by
 have h:=SY b hb
 refine zT Tryz.func44 rfl ?_
 conv=>whnf
 refine z_ h ?_
 exact⟨_,ri,rfl⟩
theorem Sa (b:List UInt8) (hb:b.length<=1000000000):Fn Tryz.prog 44 [bA b] fun r=>r = .v (.int .i64 (De b:Nat)):=J2 b hb
theorem FA (b:List UInt8) (m:Nat) (hm:m<=b.length) (hm4:m<=4):Fn Tryz.prog 43 [bA b, .v (.int .i64 m)] fun r=>r = .v (.int .i64 (leN (b.take m):Nat)):=LK b m hm hm4
theorem Jj (c:Ctx) (u:Value) (e:Int) (h:Rd (.tp [.ag [.v (.int .i64 0), .v (.int .i64 0), .v (.slice none 0 0)], .v (.int .i64 e)]) c u):Rd (.tp [.ag (Oi ⟨0,0, []⟩), .v (.int .i64 e)]) c u:=by
 refine Cg ?_ c u h
 exact⟨Ba ⟨ri,ri,Br _ _,tv⟩,ri,tv⟩
theorem L5 {b:List UInt8} {lo:Int} {p:Nat} (h:lo.toNat=p) (hp:p<=b.length) (c:Ctx) (u:Value) (hr:Rd (.sl 1 (((b.length:Nat):Int).toNat - lo.toNat) fun i=>(fun i=> [AV.v (.int .u8 (b.getD i 0).toNat)]) (i+lo.toNat)) c u):Rd (bA (b.drop p)) c u:=
 zE (n':=(b.drop p).length) (by rw [Ak,h];omega) (fun i hi=>by simp only [Aa,BQ,h,Ct]) hr
theorem RU {b:List UInt8} {lo hi:Int} {p q:Nat} (h:lo.toNat=p) (h2:hi.toNat=q) (hp:p<=q) (hq:q<=b.length) (c:Ctx) (u:Value) (hr:Rd (.sl 1 (hi.toNat - lo.toNat) fun i=>(fun i=> [AV.v (.int .u8 (b.getD i 0).toNat)]) (i+lo.toNat)) c u):Rd (bA ((b.drop p).take (q - p))) c u:=
 zE (n':=((b.drop p).take (q - p)).length) (by rw [Au,Ak,h,h2];omega) (fun i hi=>by
  have hi':i<q - p:=by omega
  simp only [Aa,BC hi',BQ,h,Ct]) hr
theorem Vi (b:List UInt8) (hl:b.length<=100000):Fn Tryz.prog 15 [bA b] fun r=>r = .tp [.ag (if C_ b=0 then Oi ⟨CR b,Ci b,Cv b⟩ else Oi ⟨0,0, []⟩), .v (.int .i64 (C_ b))]:=by
 refine zT Tryz.func15 rfl ?_
 conv=>whnf
 refine A3 (fun t1=>?_) (fun t1=>?_) <;> (repeat rw [Ac] at t1) <;> conv=>whnf
 ·have e:C_ b=4:=by rw [C_,if_pos (by omega)]
  exact⟨_,fun c u h=>Jj c u 4 h,by rw [e];rfl⟩
 refine A3 (fun t2=>?_) (fun t2=>?_) <;> (repeat rw [Ac] at t2) <;> conv=>whnf
 ·have e:C_ b=4:=by rw [C_,if_pos (by omega)]
  exact⟨_,fun c u h=>Jj c u 4 h,by rw [e];rfl⟩
 have w4:IntKind.i64.wrap ((b.length:Int) - 4)=b.length - 4:=wi (by omega)
 have w11:IntKind.i64.wrap ((b.length:Int) - 11)=b.length - 11:=wi (by omega)
 have w10:IntKind.i64.wrap ((b.length:Int) - 10)=b.length - 10:=wi (by omega)
 have w8:IntKind.i64.wrap ((b.length:Int) - 8)=b.length - 8:=wi (by omega)
 have e4:(b.drop (b.length - 4)).take 4=b.drop (b.length - 4):=A4 (by rw [Ak];omega)
 have s1:=FA (b.drop (b.length - 4)) 4 (by rw [Ak];omega) (by omega)
 rw [e4] at s1
 have s2:=Sa (b.take (b.length - 4)) (by rw [Au];omega)
 have s3:=Ee (Cv b) (by simp [Cv];omega)
 have s4:=FA (b.drop (b.length - 10)) 2 (by rw [Ak];omega) (by omega)
 have s5:=FA (b.drop (b.length - 8)) 4 (by rw [Ak];omega) (by omega)
 have x1:(IntKind.i64.wrap ((b.length:Int) - 4)).toNat=b.length - 4:=by rw [w4];omega
 have x2:(IntKind.i64.wrap ((b.length:Int) - 10)).toNat=b.length - 10:=by rw [w10];omega
 have x3:(IntKind.i64.wrap ((b.length:Int) - 8)).toNat=b.length - 8:=by rw [w8];omega
 refine zA tys_ok mixed [0,1,2,3,5,6,7,8,4,9,10] (by kernel_rfl) ?_
 refine⟨⟨by omega,by omega,by omega,by omega⟩,?_⟩
 refine⟨⟨by omega,by omega,by omega,by omega⟩,?_⟩
 conv=>whnf
 refine zY _ ?_ (zI (s1) rfl ?_)
 ·repeat' (first | exact trivial | exact fun _ _ h=>h | exact Br _ _ | exact L5 x1 (by omega) | refine Ae ?_ ?_ | refine Ba ?_)
 rintro _ rfl
 conv=>whnf
 refine zY _ ?_ (zI (s2) rfl ?_)
 ·repeat' (first | exact trivial | exact fun _ _ h=>h | exact Br _ _ | exact RU (p:=0) (q:=b.length - 4) (by simp) x1 (by omega) (by omega) | refine Ae ?_ ?_ | refine Ba ?_)
 rintro _ rfl
 conv=>whnf
 have hp0:Cf b=(b.getD 0 0).toNat:=by
  unfold Cf
  cases b <;> rfl
 have hpl:=(b.getD 0 0).toNat_lt
 refine A3 (fun t3=>?_) (fun t3=>?_) <;> (repeat rw [Ac] at t3) <;> conv=>whnf
 ·have e:C_ b=5:=by rw [C_,if_neg (by omega),if_pos t3]
  exact⟨_,fun c u h=>Jj c u 5 h,by rw [e];rfl⟩
 refine⟨by first | omega | (refine⟨rfl,?_,?_⟩ <;> first | omega | (simp only [Ab];done) | (simp only [Ab];omega)) | (simp only [Ab];omega),?_⟩
 conv=>whnf
 refine A3 (fun t4=>?_) (fun t4=>?_) <;> (repeat rw [Ac] at t4) <;> conv=>whnf
 ·have e:C_ b=4:=by
   rw [C_,if_neg (by omega),if_neg (by rw [t3];simp),if_neg]
   rintro⟨h1,h2⟩
   simp only [Int.toNat_zero] at t4
   rw [w11,wi (by omega)] at t4
   omega
  exact⟨_,fun c u h=>Jj c u 4 h,by rw [e];rfl⟩
 have e:C_ b=0:=by
  rw [C_,if_neg (by omega),if_neg (by rw [t3];simp),if_pos]
  simp only [Int.toNat_zero] at t4
  rw [w11,wi (by omega)] at t4
  refine⟨?_,by omega⟩
  simp only [Fx,decide_eq_true_eq]
  omega
 rw [e,if_pos rfl]
 refine zA tys_ok mixed [0,1,2,3,5,6,7,8,10,11,12,13,4,9,14,15,16,17] (by kernel_rfl) ?_
 refine⟨⟨by omega,by omega,by omega,by omega⟩,?_⟩
 refine⟨⟨by omega,by omega,by omega,by omega⟩,?_⟩
 refine⟨⟨by omega,by omega,by omega,by omega⟩,?_⟩
 conv=>whnf
 refine zY _ ?_ (zI (s3) rfl ?_)
 ·repeat' (first | exact trivial | exact fun _ _ h=>h | exact Br _ _ | exact RU (p:=1) (q:=b.length - 10) (by simp) x2 (by omega) (by omega) | refine Ae ?_ ?_ | refine Ba ?_)
 rintro _ rfl
 conv=>whnf
 refine zY _ ?_ (zI (s4) rfl ?_)
 ·repeat' (first | exact trivial | exact fun _ _ h=>h | exact Br _ _ | exact L5 x2 (by omega) | refine Ae ?_ ?_ | refine Ba ?_)
 rintro _ rfl
 conv=>whnf
 refine zY _ ?_ (zI (s5) rfl ?_)
 ·repeat' (first | exact trivial | exact fun _ _ h=>h | exact Br _ _ | exact L5 x3 (by omega) | refine Ae ?_ ?_ | refine Ba ?_)
 rintro _ rfl
 exact⟨_,ri,rfl⟩
theorem Bf {α:Type} {f:α->List AV} {d:α} {sz:Nat} {es:List (List AV)} {n:Nat} (l:List α) (hn:n=l.length) (he:es=l.map f) (c:Ctx) (u:Value) (h:Rd (.sl sz n fun i=>es.getD i []) c u):Rd (.sl sz l.length fun i=>f (l.getD i d)) c u:=
 zE hn (fun i hi=>by rw [he,Bn (d:=d) (by omega)]) h
theorem Ux {n:Nat} {es:List (List AV)} (l:List UInt8) (hn:n=l.length) (he:es=l.map fun x=> [.v (.int .u8 x.toNat)]) (c:Ctx) (u:Value) (hr:Rd (.sl 1 n fun i=>es.getD i []) c u):Rd (bA l) c u:=
 Bf (f:=fun x:UInt8=> [.v (.int .u8 x.toNat)]) l hn he c u hr
theorem LJ (n lo hi:Int):Fn Tryz.prog 285 [.v (.int .i64 n), .v (.int .i64 lo), .v (.int .i64 hi)] fun r=>r = .v (.bool (CJ n lo hi)):=by
 refine zT Tryz.func285 rfl ?_
 conv=>whnf
 repeat' (first | (refine Ao (fun h=>?_) (fun h=>?_) <;> (try simp at h) <;> conv=>whnf) | (refine zN tys_ok mixed (by kernel_rfl) ?_;conv=>whnf) | (refine zX ?_;conv=>whnf) | (refine Ae (by omega) ?_;conv=>whnf))
 all_goals exact⟨_,ri,by simp [CJ, *] <;> omega⟩
theorem SQ (g:Geo) (n:Int) (hg:Bt g=true):Fn Tryz.prog 310 [.ag (AY g), .v (.int .i64 n)] fun r=>r = .v (.bool (CJ n (-1) (g.d - 1))):=by
 obtain⟨h1,h2,h3,h4,h5⟩:=As.1 hg
 have hi:=LJ n (-1) (g.d - 1)
 refine zT Tryz.func310 rfl ?_
 conv=>whnf
 rw [wi (show -9223372036854775808<=g.d - 1/\g.d - 1<=9223372036854775807 by omega)]
 refine z_ hi ?_
 exact⟨_,ri,rfl⟩
theorem Va (g:Geo) (l:List Ent) (hg:Bt g=true) (hl:l.length<=1000000):Fn Tryz.prog 256 [.ag (AY g), .ag [BA l]] fun r=>r = .v (.bool (GO g l)):=by
 obtain⟨h1,h2,h3,h4,h5⟩:=As.1 hg
 have hw:IntKind.i64.wrap (g.d+1)=g.d+1:=wi (by omega)
 by_cases hn:(l.length:Int)=g.d+1
 ·have hlo:Ho l g.d.toNat=(l.getD g.d.toNat ⟨0,0,false⟩).lost:=by
   rw [Ho,Aa,Af (by omega)];rfl
  have hO:GO g l=(l.all DF&&!(l.getD g.d.toNat ⟨0,0,false⟩).lost):=by rw [GO,hg,decide_eq_true hn,hlo];rfl
  rw [hO]
  refine zT Tryz.func256 rfl ?_
  conv=>whnf
  rw [hw,show ((l.length:Int) != g.d+1)=false by rw [hn];exact bne_self_eq_false _]
  refine⟨⟨by omega,by omega⟩,?_⟩
  conv=>whnf
  cases hL:(l.getD g.d.toNat ⟨0,0,false⟩).lost with
  | true=>
   exact⟨_,ri,by rw [Bool.not_true,Bool.and_false]⟩
  | false=>
   conv=>whnf
   rw [Bool.not_false,BH]
   refine zV Nat (fun k=>([(2, .bp 0 0),(3, .bp 1 0),(4, .v (.bool false)),(5, .v (.int .i64 k))], [.box 23 (AY g), .box 141 [BA l]])) (fun k=>k<=l.length/\(l.take k).all DF=true) (fun k=>l.length - k) 0 ⟨Aj _,rfl⟩
    (zR (s:= [0,1]) ⟨⟨rfl,rfl,rfl,rfl,tv⟩,⟨rfl,rfl,tv⟩,rfl,rfl,rfl,rfl,rfl⟩) ?_
   rintro k ⟨hk,hI⟩
   conv=>whnf
   refine A3 (fun h6=>?_) (fun h6=>?_) <;> (repeat rw [Ac] at h6) <;> conv=>whnf
   ·have hk':k<l.length:=by omega
    have i1:=LJ (l.getD (k:Int).toNat ⟨0,0,false⟩).stamp 0 4294967295
    have i2:=LJ (l.getD (k:Int).toNat ⟨0,0,false⟩).sum 0 4294967295
    have hst:(l.take (k+1)).all DF=(CJ (l.getD (k:Int).toNat ⟨0,0,false⟩).stamp 0 4294967295&&CJ (l.getD (k:Int).toNat ⟨0,0,false⟩).sum 0 4294967295):=by
     rw [Ac,Aa,Af hk',Bj,Af hk',Df,hI]
     simp [DF,H7]
    have hno:(l.take (k+1)).all DF=false->l.all DF=false:=fun h=>by
     rw [<-B3 (k+1) l,Df,h,Dv]
    refine⟨⟨by omega,by omega⟩,?_⟩
    conv=>whnf
    cases c1:CJ (l.getD (k:Int).toNat ⟨0,0,false⟩).stamp 0 4294967295 with
    | false=>
     rw [c1] at i1
     refine z_ i1 ?_
     exact⟨_,ri,by rw [hno (by rw [hst,c1,Dv])]⟩
    | true=>
     rw [c1] at i1
     refine z_ i1 ?_
     refine⟨⟨by omega,by omega⟩,?_⟩
     conv=>whnf
     cases c2:CJ (l.getD (k:Int).toNat ⟨0,0,false⟩).sum 0 4294967295 with
     | false=>
      rw [c2] at i2
      refine z_ i2 ?_
      exact⟨_,ri,by rw [hno (by rw [hst,c2,Bool.and_false])]⟩
     | true=>
      rw [c2] at i2
      refine z_ i2 ?_
      conv=>whnf
      exact⟨k+1,⟨hk',by rw [hst,c1,c2];rfl⟩,by omega,zR (s:= [0,1]) ⟨⟨rfl,rfl,rfl,AS (by omega),tv⟩,⟨rfl,rfl,tv⟩,rfl,rfl,rfl,rfl,rfl⟩⟩
   ·have ek:k=l.length:=by omega
    exact⟨_,ri,by rw [<-hI,ek,Ar]⟩
 ·have hO:GO g l=false:=by rw [GO,hg,decide_eq_false hn];rfl
  rw [hO]
  refine zT Tryz.func256 rfl ?_
  conv=>whnf
  rw [hw,show ((l.length:Int) != g.d+1)=true from bne_iff_ne.2 hn]
  exact⟨_,ri,rfl⟩
theorem Fn.subA {P:Program} {f:FuncId} {args args':List AV} {K:AV->Prop} (h:Fn P f args' K) (hs:SubL args args'):Fn P f args K:=
 ⟨h.go,fun c us hd hM hg hr=>h.calls c us hd hM hg (hs.rdl hr)⟩
theorem Ub {b:List UInt8} {n m p:Nat} (hn:n=b.length - m - p) (c:Ctx) (u:Value) (h:Rd (.sl 1 n fun i=> [.v (.int .u8 (b.getD (i+p+m) 0).toNat)]) c u):Rd (bA ((b.drop m).drop p)) c u:=
 zE (by rw [Ak,Ak];exact hn) (fun i _=>by rw [Aa,Aa,BQ,BQ,show i+p+m=m+(p+i) by omega]) h
theorem Wz {x:List UInt8} (h:9<=x.length):IH x=⟨(leN (x.take 4):Nat),(leN ((x.drop 4).take 4):Nat),(x[8].toNat:Int) == 1⟩:=by
 have h8:=PL h
 unfold N6 at h8
 unfold IH
 rw [h8]
 rfl
theorem IN (g:Geo) (b:List UInt8) (hg:Bt g=true):Fn Tryz.prog 205 [.ag (AY g),bA b] fun r=>r = .tp [.ag [BA ((Cu g b).getD [])], .v (.bool (Cu g b).isSome)]:=by
 obtain⟨h1,h2,h3,h4,h5⟩:=As.1 hg
 have hw:IntKind.i64.wrap (g.d+1)=g.d+1:=wi (by omega)
 have hw9:IntKind.i64.wrap (9*(g.d+1))=9*(g.d+1):=wi (by omega)
 have zs:∀ (c:Ctx) (v:Value),Rd (.tp [.ag [.v (.slice none 0 0)], .v (.bool false)]) c v->Rd (.tp [.ag [BA []], .v (.bool false)]) c v:=Cg (m:= [.ag [BA []], .v (.bool false)]) ⟨Ba ⟨Br 3 _,tv⟩,ri,tv⟩
 by_cases hn:b.length=9*(g.d+1).toNat
 ·refine zT Tryz.func205 rfl ?_
  conv=>whnf
  rw [hw,hw9,show ((b.length:Int) != 9*(g.d+1))=false by simp only [bne_eq_false_iff_eq];omega]
  conv=>whnf
  refine zV Nat (fun k=>([(1,bA b),(2, .bp 0 0),(4, .bp 1 0),(5, .v (.bool false)),(6, .bp 2 0),(7, .v (.int .i64 k))], [.box 23 (AY g), .box 141 [.v (.slice none 0 0)], .box 141 [.ow 3 k], .row 194 3 ((entsOf k b).map CZ)])) (fun k=>(k:Int)<=g.d+1/\Ln k b) (fun k=>(g.d+1 - k).toNat) 0 ⟨by omega,fun i hi=>absurd hi (Ap i)⟩
   ⟨_,_,z6 _ _, [(1002000,194,3)],⟨rfl,rfl,tv⟩, [0,1,2,3],⟨⟨rfl,rfl,rfl,rfl,rfl,rfl,tv⟩,⟨rfl,rfl,rfl,rfl,tv⟩,rfl,rfl,rfl,rfl,rfl⟩⟩ ?_
  rintro k ⟨hk,hA⟩
  conv=>whnf
  refine A3 (fun h6=>?_) (fun h6=>?_) <;> (repeat rw [Ac] at h6) <;> conv=>whnf
  ·have wk9:IntKind.i64.wrap (9*(k:Int))=((9*k:Nat):Int):=by rw [wi (by omega)];omega
   have hlx:(b.drop (9*k)).length=b.length - 9*k:=Ak
   have hx9:9<=(b.drop (9*k)).length:=by omega
   rw [wk9]
   refine⟨⟨by omega,by omega,by omega,by omega⟩,?_⟩
   conv=>whnf
   rw [Ac]
   have hv:=PL hx9
   have he:=Wz hx9
   have hes:=entsOf_step k b
   refine⟨⟨by omega,by omega⟩,?_⟩
   conv=>whnf
   have hg8:(b.getD (Int.toNat 8+((9*k:Nat):Int).toNat) 0).toNat=(b.drop (9*k))[8].toNat:=by
    rw [List.getElem_drop,Aa,Ac,show Int.toNat 8+9*k=9*k+8 by omega,Af (by omega)];rfl
   obtain⟨Y,hY⟩:∃ Y:Nat,Y=(b.drop (9*k))[8].toNat:=⟨_,rfl⟩
   rw [hg8,<-hY]
   rw [<-hY] at hv he
   by_cases h1Y:Y<=1
   ·rw [show decide ((Y:Int) > 1)=false from decide_eq_false (by omega)]
    conv=>whnf
    have q1:=LK (b.drop (9*k)) 4 (by omega) (by decide)
    have q2:=LK ((b.drop (9*k)).drop 4) 4 (by rw [Ak];omega) (by decide)
    have hml:k=((entsOf k b).map CZ).length:=by rw [Ab,entsOf_len]
    apply zH (0) tys_ok mixed (.one 0 (.one 1 (.one 2 (.one 4 (.one 5 (.one 7 (.one 8 (.one 9 (.one 10 (.one 3 (.one 6 (.one 11 (.one 12 (.one 13 (.one 14 (.one 15 .fin)))))))))))))))) [32,33,34,35,36,37,38,39,40,41,42,43,44,45,46] (by kernel_rfl)
    ·conv=>whnf
     try (refine tI ?_;conv=>whnf)
     try (refine tI ?_;conv=>whnf)
     (refine zY [bA (b.drop (9*k)), .v (.int .i64 4)] ⟨AT rfl,ri,tv⟩ ?_;refine z_ q1 ?_)
     conv=>whnf
     (refine zY [bA ((b.drop (9*k)).drop 4), .v (.int .i64 4)] ⟨Ub rfl,ri,tv⟩ ?_;refine z_ q2 ?_)
     conv=>whnf
     try (refine tJ ?_;conv=>whnf)
     try (refine tK ?_;conv=>whnf)
     try (refine tS ?_;conv=>whnf)
     exact⟨rfl,rfl⟩
    refine⟨k+1,⟨by omega,fun i hi=>?_⟩,by omega,zR (s:= [0,1,2,3]) ⟨⟨rfl,rfl,rfl,rfl,rfl,AS (by omega),tv⟩,⟨rfl,rfl,rfl,?_,tv⟩,rfl,rfl,rfl,rfl,rfl⟩⟩
    ·by_cases hik:i=k
     ·rw [hik,hv];omega
     ·exact hA i (by omega)
    ·rw [hes,AF,he]
     show hget _ 3=_
     rw [hg8,<-hY]
     rfl
   ·rw [show decide ((Y:Int) > 1)=true from decide_eq_true (by omega)]
    conv=>whnf
    rw [Kg (.inr fun hall=>h1Y (by have:=hall k (by omega);omega))]
    exact⟨_,zs,rfl⟩
  ·have ek:k=(g.d+1).toNat:=by omega
   subst ek
   have hT:=Va g (entsOf (g.d+1).toNat b) hg (by rw [entsOf_len];omega)
   have hR:=Tf hn hA
   have hS:=hT.subA (args:= [.ag (AY g), .ag [.sl 3 (g.d+1).toNat fun i=>((entsOf (g.d+1).toNat b).map CZ).getD i []]]) ⟨ri,Ba ⟨Bf (f:=CZ) (entsOf (g.d+1).toNat b) (by rw [entsOf_len]) rfl,tv⟩,tv⟩
   refine zl hS ⟨by rw [Ab,entsOf_len],rfl⟩ ?_
   rintro _ rfl
   refine⟨rfl,?_⟩
   conv=>whnf
   cases ho:GO g (entsOf (g.d+1).toNat b) with
   | false=>
    rw [hR,ho,if_neg (by decide)]
    exact⟨_,zs,rfl⟩
   | true=>
    rw [hR,ho,if_pos rfl]
    refine⟨(by rw [Ab,entsOf_len]),?_⟩
    exact⟨.tp [.ag [BA (entsOf (g.d+1).toNat b)], .v (.bool true)],Cg ⟨Ba ⟨Bf (f:=CZ) (entsOf (g.d+1).toNat b) (by rw [entsOf_len]) rfl,tv⟩,ri,tv⟩,rfl⟩
 ·refine zT Tryz.func205 rfl ?_
  conv=>whnf
  rw [hw,hw9,show ((b.length:Int) != 9*(g.d+1))=true by simp only [bne_iff_ne,ne_eq];omega]
  conv=>whnf
  rw [Kg (.inl hn)]
  exact⟨_,zs,rfl⟩
theorem GI (n lo hi:Int):Fn Tryz.prog 138 [.v (.int .i64 n), .v (.int .i64 lo), .v (.int .i64 hi)] fun r=>r = .v (.bool (CJ n lo hi)):=by
 refine zT Tryz.func138 rfl ?_
 conv=>whnf
 repeat' (first | (refine Ao (fun h=>?_) (fun h=>?_) <;> (try simp at h) <;> conv=>whnf) | (refine zN tys_ok mixed (by kernel_rfl) ?_;conv=>whnf) | (refine zX ?_;conv=>whnf) | (refine Ae (by omega) ?_;conv=>whnf))
 all_goals exact⟨_,ri,by simp [CJ, *] <;> omega⟩
theorem QP (g:Geo) (x:Img) (hg:Bt g=true):Fn Tryz.prog 306 [.ag (AY g), .ag (E8 x)] fun r=>r = .v (.bool (B9 g x)):=by
 obtain⟨h1,h2,h3,h4,h5⟩:=As.1 hg
 have i1:=GI x.zone 0 (g.z - 1)
 have i2:=IN g x.bytes hg
 have i3:=SQ g x.what hg
 have hE:B9 g x=(CJ x.zone 0 (g.z - 1)&&(if x.what=255 then (Cu g x.bytes).isSome else CJ x.what (-1) (g.d - 1)&&decide (x.bytes.length=8))):=by simp [B9,hg]
 rw [hE]
 refine zT Tryz.func306 rfl ?_
 conv=>whnf
 rw [wi (show -9223372036854775808<=g.z - 1/\g.z - 1<=9223372036854775807 by omega)]
 cases hz:CJ x.zone 0 (g.z - 1) with
 | false=>
  rw [hz] at i1
  refine z_ i1 ?_
  exact⟨_,ri,rfl⟩
 | true=>
  rw [hz] at i1
  refine z_ i1 ?_
  conv=>whnf
  by_cases h255:x.what=255
  ·rw [show (x.what == 255)=true by simpa using h255,if_pos h255]
   conv=>whnf
   refine z_ i2 ?_
   exact⟨_,ri,rfl⟩
  ·rw [show (x.what == 255)=false by simpa using h255,if_neg h255]
   conv=>whnf
   cases hw:CJ x.what (-1) (g.d - 1) with
   | false=>
    rw [hw] at i3
    refine z_ i3 ?_
    exact⟨_,ri,rfl⟩
   | true=>
    rw [hw] at i3
    refine z_ i3 ?_
    conv=>whnf
    exact⟨_,ri,congrArg (fun b=>AV.v (.bool b)) (by rw [CI];simp;omega)⟩
theorem ZG (x:Img):decide (x=⟨0,0, []⟩)=GP x:=by
 obtain⟨zone,what,bytes⟩:=x
 rw [CI]
 simp only [decide_eq_true_eq,GP,Img.mk.injEq,Ad,beq_iff_eq]
 refine⟨fun⟨h1,h2,h3⟩=>⟨h1,h2,by rw [h3];rfl⟩,fun⟨h1,h2,h3⟩=>⟨h1,h2,?_⟩⟩
 exact AX.1 (by omega)
theorem Pu (g:Geo) (x:Rc) (hl:x.img.bytes.length<=100000) (hg:Bt g=true):Fn Tryz.prog 302 [.ag (AY g), .ag (GJ x)] fun r=>r = .v (.bool (Fj g x)):=by
 have hE:Fj g x=G4 g x:=by simp [Fj,hg]
 have hi:=PU x.img ⟨0,0, []⟩ (by omega)
 rw [ZG] at hi
 have hm:=QP g x.img hg
 rw [hE]
 refine zT Tryz.func302 rfl ?_
 conv=>whnf
 refine zY [.ag (E8 x.img), .ag (E8 ⟨0,0, []⟩)] ⟨ri,Ba ⟨ri,ri,Br 1 _,tv⟩,tv⟩ ?_
 refine z_ hi ?_
 conv=>whnf
 by_cases k0:x.kind=0
 ·rw [show (x.kind == 0)=true by simpa using k0]
  have hB:G4 g x=(x.seq == 0&&(x.epoch == 0&&(x.at_ == 0&&(x.of_ == 0&&GP x.img)))):=by unfold G4;rw [if_pos k0]
  rw [hB]
  conv=>whnf
  cases h0:x.seq == 0 with
  | false=>
   exact⟨_,ri,rfl⟩
  | true=>
   conv=>whnf
   cases h1:x.epoch == 0 with
   | false=>
    exact⟨_,ri,rfl⟩
   | true=>
    conv=>whnf
    cases h2:x.at_ == 0 with
    | false=>
     exact⟨_,ri,rfl⟩
    | true=>
     conv=>whnf
     cases h3:x.of_ == 0 with
     | false=>
      exact⟨_,ri,rfl⟩
     | true=>
      exact⟨_,ri,rfl⟩
 ·rw [show (x.kind == 0)=false by simpa using k0]
  conv=>whnf
  have i1:=GI x.seq 0 4294967295
  have i2:=GI x.epoch 0 4294967295
  have i3:=GI x.of_ 2 30
  have i4:=GI x.at_ 0 (x.of_ - 2)
  have hB:G4 g x=if x.kind=1 then FQ x&&(CJ x.at_ 0 (x.of_ - 2)&&B9 g x.img) else if x.kind=2 then FQ x&&(x.at_ == x.of_ - 1&&GP x.img) else false:=by unfold G4;rw [if_neg k0]
  rw [hB]
  by_cases hN:FQ x=true
  ·have hN':=hN
   simp only [FQ,Ad] at hN'
   obtain⟨n1,n2,n3⟩:=hN'
   have hof:=AL.1 n3
   rw [n1] at i1
   rw [n2] at i2
   rw [n3] at i3
   rw [hN,BG,BG]
   refine z_ i1 ?_
   conv=>whnf
   refine z_ i2 ?_
   conv=>whnf
   refine z_ i3 ?_
   conv=>whnf
   by_cases k2:x.kind=2
   ·rw [show (x.kind == 2)=true by simpa using k2,if_neg (by omega),if_pos k2]
    conv=>whnf
    rw [wi (show -9223372036854775808<=x.of_ - 1/\x.of_ - 1<=9223372036854775807 by omega)]
    cases h1:x.at_ == x.of_ - 1 with
    | false=>
     exact⟨_,ri,rfl⟩
    | true=>
     exact⟨_,ri,rfl⟩
   ·rw [show (x.kind == 2)=false by simpa using k2,if_neg k2]
    conv=>whnf
    by_cases k1:x.kind=1
    ·rw [show (x.kind == 1)=true by simpa using k1,if_pos k1]
     conv=>whnf
     rw [wi (show -9223372036854775808<=x.of_ - 2/\x.of_ - 2<=9223372036854775807 by omega)]
     cases h1:CJ x.at_ 0 (x.of_ - 2) with
     | false=>
      rw [h1] at i4
      refine z_ i4 ?_
      exact⟨_,ri,rfl⟩
     | true=>
      rw [h1] at i4
      refine z_ i4 ?_
      conv=>whnf
      refine z_ hm ?_
      exact⟨_,ri,rfl⟩
    ·rw [show (x.kind == 1)=false by simpa using k1,if_neg k1]
     exact⟨_,ri,rfl⟩
  ·have hN:FQ x=false:=by simpa using hN
   have hF:(if x.kind=1 then FQ x&&(CJ x.at_ 0 (x.of_ - 2)&&B9 g x.img) else if x.kind=2 then FQ x&&(x.at_ == x.of_ - 1&&GP x.img) else false)=false:=by rw [hN];simp
   rw [hF]
   cases n1:CJ x.seq 0 4294967295 with
   | false=>
    rw [n1] at i1
    refine z_ i1 ?_
    exact⟨_,ri,rfl⟩
   | true=>
    rw [n1] at i1
    refine z_ i1 ?_
    conv=>whnf
    cases n2:CJ x.epoch 0 4294967295 with
    | false=>
     rw [n2] at i2
     refine z_ i2 ?_
     exact⟨_,ri,rfl⟩
    | true=>
     rw [n2] at i2
     have n3:CJ x.of_ 2 30=false:=by simpa [FQ,n1,n2] using hN
     rw [n3] at i3
     refine z_ i2 ?_
     conv=>whnf
     refine z_ i3 ?_
     exact⟨_,ri,rfl⟩
theorem P7 {b:List UInt8} {i:Nat} (h:i<b.length):Cf (b.drop i)=b[i].toNat:=by
 rw [A_ h]
 show b[i].toNat+256*0=b[i].toNat
 omega
theorem Z1 (x:UInt8):IntKind.i64.wrap (x.toNat:Int)=(x.toNat:Int):=wi (by have:=x.toNat_lt;omega)
theorem V0 (g:Geo) (b:List UInt8) (hl:b.length<=100000) (hg:Bt g=true):Fn Tryz.prog 295 [.ag (AY g),bA b] fun r=>r = .tp [.ag (GJ ((Gf g b).getD zeroC)), .v (.bool (Gf g b).isSome)]:=by
 have zs:∀ (e:Value) (c:Ctx) (v:Value),Rd (.tp [.ag [.v (.int .i64 0), .v (.int .i64 0), .v (.int .i64 0), .v (.int .i64 0), .v (.int .i64 0), .v (.int .i64 0), .v (.int .i64 0), .v (.slice none 0 0)], .v e]) c v->Rd (.tp [.ag (GJ zeroC), .v e]) c v:=fun e=>Cg (m:= [.ag (GJ zeroC), .v e]) ⟨by repeat' (first | exact trivial | exact fun _ _ h=>h | exact Br _ _ | refine Ae ?_ ?_ | refine Ba ?_),ri,tv⟩
 by_cases h11:b.length<11
 ·rw [P1 h11]
  refine zT Tryz.func295 rfl ?_
  conv=>whnf
  refine A3 (fun _=>?_) (fun hq=>absurd h11 (by omega))
  exact⟨_,zs _,rfl⟩
 ·have h11':11<=b.length:=by omega
  have hp:=P8 h11'
  have q1:=FA (b.drop 1) 4 (by rw [Ak];omega) (by decide)
  have q2:=FA (b.drop 5) 4 (by rw [Ak];omega) (by decide)
  have hgd:∀ i (h:i<b.length),b.getD i 0=b[i]:=fun i h=>by rw [Aa,Af h];rfl
  refine zT Tryz.func295 rfl ?_
  conv=>whnf
  refine A3 (fun hq=>absurd hq (by omega)) (fun hq=>?_)
  conv=>whnf
  apply zH (0) tys_ok mixed (.one 0 (.one 1 (.one 2 (.one 3 (.one 4 (.one 5 (.one 7 (.one 8 (.one 10 (.one 11 (.one 12 (.one 13 (.one 14 (.one 15 (.one 16 (.one 17 (.two 6 (.two 9 (.one 18 (.one 19 (.one 20 .fin))) 19 (.one 9 (.one 18 (.one 20 .fin)))) 19 (.one 6 (.one 9 (.one 18 (.one 20 .fin))))))))))))))))))))) [6,11,12,13,14,15,16,17,18,19,20,21,22,23,24,25,26,27,28,29] (by kernel_rfl)
  ·conv=>whnf
   try (refine tI ?_;conv=>whnf)
   try (refine tI ?_;conv=>whnf)
   try (refine tI ?_;conv=>whnf)
   try (refine tI ?_;conv=>whnf)
   try (refine tI ?_;conv=>whnf)
   refine Ae ?_ ?_
   ·conv=>whnf
    (refine zY [bA (b.drop 1), .v (.int .i64 4)] ⟨AT (by omega),ri,tv⟩ ?_;refine z_ q1 ?_)
    refine Ae ?_ ?_
    ·conv=>whnf
     (refine zY [bA (b.drop 5), .v (.int .i64 4)] ⟨AT (by omega),ri,tv⟩ ?_;refine z_ q2 ?_)
     conv=>whnf
     try (refine tS ?_;conv=>whnf)
     exact⟨rfl,rfl⟩
    ·conv=>whnf
     (refine zY [bA (b.drop 5), .v (.int .i64 4)] ⟨AT (by omega),ri,tv⟩ ?_;refine z_ q2 ?_)
     conv=>whnf
     try (refine tS ?_;conv=>whnf)
     exact⟨rfl,rfl⟩
   ·conv=>whnf
    (refine zY [bA (b.drop 1), .v (.int .i64 4)] ⟨AT (by omega),ri,tv⟩ ?_;refine z_ q1 ?_)
    conv=>whnf
    (refine zY [bA (b.drop 5), .v (.int .i64 4)] ⟨AT (by omega),ri,tv⟩ ?_;refine z_ q2 ?_)
    conv=>whnf
    try (refine tS ?_;conv=>whnf)
    exact⟨rfl,rfl⟩
  conv=>whnf
  repeat' (refine zX ?_;conv=>whnf)
  rw [Z1,Z1,Z1,show b.getD (Int.toNat 0) 0=b[0] from hgd 0 (by omega),show b.getD (Int.toNat 9) 0=b[9] from hgd 9 (by omega),show b.getD (Int.toNat 10) 0=b[10] from hgd 10 (by omega)]
  by_cases hk:b[0].toNat=1
  ·rw [show (((b[0].toNat:Nat):Int) == 1)=true by rw [hk];rfl]
   conv=>whnf
   by_cases h14:b.length<14
   ·refine A3 (fun hq=>?_) (fun hq=>absurd h14 (by omega))
    conv=>whnf
    rw [Kh h11' (by rw [hp,if_pos (by simp only;omega)];omega)]
    exact⟨_,zs _,rfl⟩
   ·refine A3 (fun hq=>absurd hq (by omega)) (fun hq=>?_)
    refine⟨⟨by omega,by omega⟩,?_⟩
    conv=>whnf
    have h13:Cf (b.drop 13)=b[13].toNat:=P7 (by omega)
    have hx:=b[13].toNat_lt
    obtain⟨n13,e13⟩:∃ n,n=b[13].toNat:=⟨_,rfl⟩
    have g13:(b.getD (Int.toNat 13) 0).toNat=n13:=by rw [e13];exact congrArg UInt8.toNat (hgd 13 (by omega))
    rw [<-e13] at h13 hx
    rw [Z1,g13,wi (by omega)]
    by_cases hn:b.length=14+n13
    ·rw [show ((b.length:Int) != (14:Int)+((n13:Nat):Int))=false by simp only [bne_eq_false_iff_eq];omega]
     conv=>whnf
     have htw:=Ee (b.drop 14) (by rw [Ak];omega)
     apply zH (0) tys_ok mixed (.one 0 (.one 1 (.one 2 (.one 3 (.one 4 (.one 5 (.one 6 (.one 7 (.one 8 (.one 9 (.one 10 (.one 11 (.one 12 (.one 13 .fin)))))))))))))) [47,48,49,50,51,52,53,54,55,56,57,58,59] (by kernel_rfl)
     ·conv=>whnf
      try (refine tI ?_;conv=>whnf)
      try (refine tI ?_;conv=>whnf)
      try (refine tI ?_;conv=>whnf)
      (refine zY [bA (b.drop 14)] ⟨AT (by omega),tv⟩ ?_;refine z_ htw ?_)
      conv=>whnf
      try (refine tS ?_;conv=>whnf)
      exact⟨rfl,rfl⟩
     conv=>whnf
     obtain⟨n12,e12⟩:∃ n:Nat,n=b[12].toNat:=⟨_,rfl⟩
     have g12:(b.getD (Int.toNat 12) 0).toNat=n12:=by rw [e12];exact congrArg UInt8.toNat (hgd 12 (by omega))
     obtain⟨n11,e11⟩:∃ n:Nat,n=b[11].toNat:=⟨_,rfl⟩
     have g11:(b.getD (Int.toNat 11) 0).toNat=n11:=by rw [e11];exact congrArg UInt8.toNat (hgd 11 (by omega))
     obtain⟨R,hR⟩:∃ R:Rc,R=⟨(b[0].toNat:Nat),(leN ((b.drop 1).take 4):Nat),(leN ((b.drop 5).take 4):Nat),(b[9].toNat:Nat),(b[10].toNat:Nat),⟨(n11:Nat),I9 (n12:Nat),b.drop 14⟩⟩:=⟨_,rfl⟩
     have hP:DK b=R:=by rw [hp,if_pos (by omega),Db (by rw [h13];exact hn),hR,e11,e12]
     have hRR:=Nv (g:=g) h11' (by rw [hp,if_pos (by simp only;omega),h13];exact hn)
     rw [hP] at hRR
     have hrec:=Pu g R (by rw [hR];show (b.drop 14).length<=100000;rw [Ak];omega) hg
     rw [Z1,Z1,g12,g11]
     repeat' (refine zX ?_;conv=>whnf)
     by_cases h254:n12=254
     ·have eW:I9 (n12:Nat) = -1:=by rw [h254];rfl
      rw [show (((n12:Nat):Int) == 254)=true by rw [h254];rfl]
      conv=>whnf
      refine zY [.ag (AY g), .ag (GJ R)] ⟨ri,Ba (show SubL _ (GJ R) by rw [hR,eW];exact⟨ri,ri,ri,ri,ri,ri,ri,ri,tv⟩),tv⟩ ?_
      cases hok:Fj g R with
      | false=>
       rw [hok] at hrec
       rw [hRR,if_neg (by rw [hok];simp)]
       refine z_ hrec ?_
       exact⟨_,zs _,rfl⟩
      | true=>
       rw [hok] at hrec
       rw [hRR,if_pos hok]
       refine z_ hrec ?_
       conv=>whnf
       exact⟨_,Cg (m:= [.ag (GJ R), .v (.bool true)]) ⟨Ba (show SubL _ (GJ R) by rw [hR,eW];exact⟨ri,ri,ri,ri,ri,ri,ri,ri,tv⟩),ri,tv⟩,rfl⟩
     ·have eW:I9 (n12:Nat)=(n12:Nat):=if_neg (by omega)
      rw [show (((n12:Nat):Int) == 254)=false by rw [beq_eq_false_iff_ne];omega]
      conv=>whnf
      refine zY [.ag (AY g), .ag (GJ R)] ⟨ri,Ba (show SubL _ (GJ R) by rw [hR,eW];exact⟨ri,ri,ri,ri,ri,ri,ri,ri,tv⟩),tv⟩ ?_
      cases hok:Fj g R with
      | false=>
       rw [hok] at hrec
       rw [hRR,if_neg (by rw [hok];simp)]
       refine z_ hrec ?_
       exact⟨_,zs _,rfl⟩
      | true=>
       rw [hok] at hrec
       rw [hRR,if_pos hok]
       refine z_ hrec ?_
       conv=>whnf
       exact⟨_,Cg (m:= [.ag (GJ R), .v (.bool true)]) ⟨Ba (show SubL _ (GJ R) by rw [hR,eW];exact⟨ri,ri,ri,ri,ri,ri,ri,ri,tv⟩),ri,tv⟩,rfl⟩
    ·rw [Kh h11' (by rw [hp,if_pos (by simp only;omega),h13];exact hn)]
     rw [show ((b.length:Int) != (14:Int)+((n13:Nat):Int))=true by rw [bne_iff_ne];omega]
     exact⟨_,zs _,rfl⟩
  ·rw [show (((b[0].toNat:Nat):Int) == 1)=false by simpa using (by omega:¬((b[0].toNat:Nat):Int)=1)]
   conv=>whnf
   by_cases hn:b.length=11
   ·obtain⟨R,hR⟩:∃ R:Rc,R=⟨(b[0].toNat:Nat),(leN ((b.drop 1).take 4):Nat),(leN ((b.drop 5).take 4):Nat),(b[9].toNat:Nat),(b[10].toNat:Nat),noImg⟩:=⟨_,rfl⟩
    have hP:DK b=R:=by rw [hp,if_neg (by omega),hR]
    have hRR:=Nv (g:=g) h11' (by rw [hp,if_neg (by simp only;omega)];exact hn)
    rw [hP] at hRR
    have hrec:=Pu g R (by rw [hR];show 0<=100000;decide) hg
    have hsb:SubL [.v (.int .i64 (b[0].toNat:Nat)), .v (.int .i64 (leN ((b.drop 1).take 4):Nat)), .v (.int .i64 (leN ((b.drop 5).take 4):Nat)), .v (.int .i64 (b[9].toNat:Nat)), .v (.int .i64 (b[10].toNat:Nat)), .v (.int .i64 0), .v (.int .i64 0), .v (.slice none 0 0)] (GJ R):=by
     rw [hR]
     exact⟨fun _ _ h=>h,fun _ _ h=>h,fun _ _ h=>h,fun _ _ h=>h,fun _ _ h=>h,fun _ _ h=>h,fun _ _ h=>h,Br 1 _,tv⟩
    rw [show ((b.length:Int) != 11)=false by rw [hn];rfl]
    conv=>whnf
    refine zY [.ag (AY g), .ag (GJ R)] ⟨ri,Ba hsb,tv⟩ ?_
    cases hok:Fj g R with
    | false=>
     rw [hok] at hrec
     rw [hRR,if_neg (by rw [hok];simp)]
     refine z_ hrec ?_
     exact⟨_,zs _,rfl⟩
    | true=>
     rw [hok] at hrec
     rw [hRR,if_pos hok]
     refine z_ hrec ?_
     exact⟨_,Cg (m:= [.ag (GJ R), .v (.bool true)]) ⟨Ba hsb,ri,tv⟩,rfl⟩
   ·rw [Kh h11' (by rw [hp,if_neg (by simp only;omega)];exact hn)]
    rw [show ((b.length:Int) != 11)=true by simpa using (by omega:¬(b.length:Int)=11)]
    exact⟨_,zs _,rfl⟩
theorem Dm (g:Geo) (copy slot:Int) (hg:Bt g=true) (hl:KO g copy slot=true):Fn Tryz.prog 73 [.ag (AY g), .v (.int .i64 copy), .v (.int .i64 slot)] fun r=>r = .v (.int .i64 (BX g copy slot)):=by
 obtain⟨h1,h2,h3,h4,h5⟩:=As.1 hg
 simp only [KO,Ad,AL] at hl
 refine zT Tryz.func73 rfl ?_
 refine⟨_,fun _ _ h=>h,?_⟩
 have hm:0<=copy*g.sl/\copy*g.sl<=30:=by
  rcases(show copy=0\/copy=1 by omega) with rfl | rfl <;> omega
 rw [wi (n:=copy*g.sl) (by omega),wi (n:=g.an+copy*g.sl) (by omega),wi (n:=g.an+copy*g.sl+slot) (by omega)]
 rfl
def BK (x:Gt) (addr:Int):Option Sec:=if x.err=0/\C_ x.bytes=0/\CR x.bytes=addr then some ⟨CR x.bytes,Ci x.bytes,Cv x.bytes⟩ else none
def zeroS:Sec:=⟨0,0, []⟩
theorem JX (c:Ctx) (u:Value) (b:Bool) (h:Rd (.tp [.ag [.v (.int .i64 0), .v (.int .i64 0), .v (.slice none 0 0)], .v (.bool b)]) c u):Rd (.tp [.ag (Oi zeroS), .v (.bool b)]) c u:=by
 refine Cg ?_ c u h
 exact⟨Ba ⟨ri,ri,Br _ _,tv⟩,ri,tv⟩
theorem Iu (x:Gt) (addr:Int) (hl:x.bytes.length<=100000):Fn Tryz.prog 257 [.ag (Dr x), .v (.int .i64 addr)] fun r=>r = .tp [.ag (Oi ((BK x addr).getD zeroS)), .v (.bool (BK x addr).isSome)]:=by
 have s1:=Vi x.bytes hl
 refine zT Tryz.func257 rfl ?_
 conv=>whnf
 refine A3 (fun t1=>?_) (fun t1=>?_) <;> (repeat rw [Ac] at t1) <;> conv=>whnf
 ·have e:BK x addr=none:=by rw [BK,if_neg (fun h=>t1 h.1)]
  rw [e]
  exact⟨_,fun c v h=>JX c v false h,rfl⟩
 by_cases hO:C_ x.bytes=0
 ·rw [if_pos hO,hO] at s1
  refine z_ s1 ?_
  conv=>whnf
  refine A3 (fun t2=>?_) (fun t2=>?_) <;> (repeat rw [Ac] at t2) <;> conv=>whnf
  ·have e:BK x addr=none:=by rw [BK,if_neg (fun h=>t2 h.2.2)]
   rw [e]
   exact⟨_,fun c v h=>JX c v false h,rfl⟩
  ·have e:BK x addr=some ⟨CR x.bytes,Ci x.bytes,Cv x.bytes⟩:=by rw [BK,if_pos ⟨t1,hO,t2⟩]
   rw [e]
   exact⟨_,ri,rfl⟩
 ·rw [if_neg hO] at s1
  refine z_ s1 ?_
  conv=>whnf
  have e:BK x addr=none:=by rw [BK,if_neg (fun h=>hO h.2.1)]
  rw [e]
  refine A3 (fun t2=>?_) (fun t2=>?_) <;> (repeat rw [Ac] at t2) <;> conv=>whnf
  ·exact⟨_,fun c v h=>JX c v false h,rfl⟩
  ·exact absurd t2 hO
theorem UU (g:Geo) (x:Gt) (copy slot:Int) (hg:Bt g=true) (hL:KO g copy slot=true):DY g x copy slot=match BK x (BX g copy slot) with | none=>none | some s=>match Gf g s.pay with | some r=>if r.seq=s.stamp then some r else none | none=>none:=by
 unfold DY BK
 rw [hg,hL]
 by_cases h1:x.err=0 <;> by_cases h2:C_ x.bytes=0 <;> by_cases h3:CR x.bytes=BX g copy slot <;> simp [h1,h2,h3] <;> rfl
theorem Pj {x:Gt} {a:Int} {s:Sec} (h:BK x a=some s):s.pay.length<=x.bytes.length:=by
 unfold BK at h
 split at h
 ·cases h;simp [Cv];omega
 ·cases h
theorem LO (g:Geo) (x:Gt) (copy slot:Int) (hl:x.bytes.length<=100000) (hg:Bt g=true) (hL:KO g copy slot=true):Fn Tryz.prog 275 [.ag (AY g), .ag (Dr x), .v (.int .i64 copy), .v (.int .i64 slot)] fun r=>r = .tp [.ag (GJ ((DY g x copy slot).getD zeroC)), .v (.bool (DY g x copy slot).isSome)]:=by
 have s1:=Iu x (BX g copy slot) hl
 rw [UU g x copy slot hg hL]
 cases hS:BK x (BX g copy slot) with
 | none=>
  rw [hS] at s1
  refine zT Tryz.func275 rfl ?_
  conv=>whnf
  apply zQ tys_ok mixed (.one 0 (.one 1 (.one 2 (.one 3 (.two 4 (.two 5 (.one 6 (.one 7 (.one 8 (.one 9 (.one 10 (.one 11 .fin)))))) 9 (.one 5 (.one 6 (.one 7 (.one 8 (.one 10 (.one 11 .fin))))))) 9 (.one 4 (.one 5 (.one 6 (.one 7 (.one 8 (.one 10 (.one 11 .fin)))))))))))) [10,11,13,14,15,16,17,18,19,20,21] (by kernel_rfl)
  ·refine Ae ?_ ?_
   ·conv=>whnf
    refine z_ (Dm g copy slot hg hL) ?_
    refine Ae ?_ ?_
    ·conv=>whnf
     refine z_ s1 ?_
     conv=>whnf
     try (refine tS ?_;conv=>whnf)
     exact⟨rfl,rfl⟩
    ·conv=>whnf
     refine z_ s1 ?_
     conv=>whnf
     try (refine tS ?_;conv=>whnf)
     exact⟨rfl,rfl⟩
   ·conv=>whnf
    refine z_ (Dm g copy slot hg hL) ?_
    conv=>whnf
    refine z_ s1 ?_
    conv=>whnf
    try (refine tS ?_;conv=>whnf)
    exact⟨rfl,rfl⟩
  exact⟨_,fun c v h=>Lt c v false h,rfl⟩
 | some s=>
  rw [hS] at s1
  have hp:=Pj hS
  have s2:=V0 g s.pay (by omega) hg
  cases hR:Gf g s.pay with
  | none=>
   rw [hR] at s2
   refine zT Tryz.func275 rfl ?_
   conv=>whnf
   apply zQ tys_ok mixed (.one 0 (.one 1 (.one 2 (.one 3 (.two 4 (.two 5 (.one 6 (.one 7 (.one 8 (.one 9 (.one 10 (.one 11 .fin)))))) 9 (.one 5 (.one 6 (.one 7 (.one 8 (.one 10 (.one 11 .fin))))))) 9 (.one 4 (.one 5 (.one 6 (.one 7 (.one 8 (.one 10 (.one 11 .fin)))))))))))) [10,11,13,14,15,16,17,18,19,20,21] (by kernel_rfl)
   ·refine Ae ?_ ?_
    ·conv=>whnf
     refine z_ (Dm g copy slot hg hL) ?_
     refine Ae ?_ ?_
     ·conv=>whnf
      refine z_ s1 ?_
      conv=>whnf
      try (refine tS ?_;conv=>whnf)
      exact⟨rfl,rfl⟩
     ·conv=>whnf
      refine z_ s1 ?_
      conv=>whnf
      try (refine tS ?_;conv=>whnf)
      exact⟨rfl,rfl⟩
    ·conv=>whnf
     refine z_ (Dm g copy slot hg hL) ?_
     conv=>whnf
     refine z_ s1 ?_
     conv=>whnf
     try (refine tS ?_;conv=>whnf)
     exact⟨rfl,rfl⟩
   conv=>whnf
   refine z_ s2 ?_
   conv=>whnf
   exact⟨_,fun c v h=>Lt c v false h,by simp only [hR];rfl⟩
  | some r=>
   rw [hR] at s2
   refine zT Tryz.func275 rfl ?_
   conv=>whnf
   apply zQ tys_ok mixed (.one 0 (.one 1 (.one 2 (.one 3 (.two 4 (.two 5 (.one 6 (.one 7 (.one 8 (.one 9 (.one 10 (.one 11 .fin)))))) 9 (.one 5 (.one 6 (.one 7 (.one 8 (.one 10 (.one 11 .fin))))))) 9 (.one 4 (.one 5 (.one 6 (.one 7 (.one 8 (.one 10 (.one 11 .fin)))))))))))) [10,11,13,14,15,16,17,18,19,20,21] (by kernel_rfl)
   ·refine Ae ?_ ?_
    ·conv=>whnf
     refine z_ (Dm g copy slot hg hL) ?_
     refine Ae ?_ ?_
     ·conv=>whnf
      refine z_ s1 ?_
      conv=>whnf
      try (refine tS ?_;conv=>whnf)
      exact⟨rfl,rfl⟩
     ·conv=>whnf
      refine z_ s1 ?_
      conv=>whnf
      try (refine tS ?_;conv=>whnf)
      exact⟨rfl,rfl⟩
    ·conv=>whnf
     refine z_ (Dm g copy slot hg hL) ?_
     conv=>whnf
     refine z_ s1 ?_
     conv=>whnf
     try (refine tS ?_;conv=>whnf)
     exact⟨rfl,rfl⟩
   conv=>whnf
   refine z_ s2 ?_
   conv=>whnf
   refine A3 (fun t=>?_) (fun t=>?_) <;> (repeat rw [Ac] at t) <;> (try simp only [Bz] at t) <;> conv=>whnf
   ·exact⟨_,fun c v h=>Lt c v false h,by simp only [hR,if_neg t];rfl⟩
   ·exact⟨_,ri,by simp only [hR,if_pos t];rfl⟩
def Eo (o:Option Rc) (a:An) (seq at_ of_ left:Int):Bool:=match o with | some r=>Dx r a seq at_ of_ left | none=>false
def C6 (p q:Option Rc) (b1 b2:Bool):Rc × List Int × Int:=
 if b1&&b2 then (p.getD zeroC, [],1) else if b1 then (p.getD zeroC, [1],1) else if b2 then (q.getD zeroC, [0],1) else if p.isSome || q.isSome then (zeroC, [],2) else (zeroC, [],3)
def EP (g:Geo) (a:An) (x y:Gt) (slot seq at_ of_ left:Int):Rc × List Int × Int:=
 C6 (DY g x 0 slot) (DY g y 1 slot) (Eo (DY g x 0 slot) a seq at_ of_ left) (Eo (DY g y 1 slot) a seq at_ of_ left)
def Cy (g:Geo):Int:=g.d+1+g.sp
def Av (g:Geo):Int:=g.an+2*g.sl+2*g.z+g.z*Cy g
def AG (g:Geo) (z k:Int):Int:=g.an+2*g.sl+2*z+k
def Cb (g:Geo) (z s:Int):Int:=g.an+2*g.sl+2*g.z+z*Cy g+s
theorem GA {g:Geo} (hg:Bt g=true):2<=Cy g/\Cy g<=7:=by
 obtain⟨h1,h2,h3,h4,h5⟩:=As.1 hg
 unfold Cy;omega
theorem G_ {g:Geo} (hg:Bt g=true) {z:Int} (hz:0<=z/\z<=4):0<=z*Cy g/\z*Cy g<=28:=by
 obtain⟨p1,p2⟩:=GA hg
 rcases(show z=0\/z=1\/z=2\/z=3\/z=4 by omega) with rfl | rfl | rfl | rfl | rfl <;> omega
theorem Eu {g:Geo} (hg:Bt g=true):32<=Av g/\Av g<=99:=by
 obtain⟨h1,h2,h3,h4,h5⟩:=As.1 hg
 obtain⟨p1,p2⟩:=GA hg
 have:=G_ hg (z:=g.z) (by omega)
 unfold Av
 rcases(show g.z=1\/g.z=2\/g.z=3\/g.z=4 by omega) with h | h | h | h <;> rw [h] at this |- <;> omega
theorem Ml (g:Geo) (hg:Bt g=true):Fn Tryz.prog 229 [.ag (AY g)] fun r=>r = .v (.int .i64 (g.an+2*g.sl)):=by
 obtain⟨h1,h2,h3,h4,h5⟩:=As.1 hg
 refine zT Tryz.func229 rfl ?_
 exact⟨_,ri,by rw [wi (n:=2*g.sl) (by omega),wi (by omega)]⟩
theorem Kz (g:Geo) (hg:Bt g=true):Fn Tryz.prog 220 [.ag (AY g)] fun r=>r = .v (.int .i64 (Cy g)):=by
 obtain⟨h1,h2,h3,h4,h5⟩:=As.1 hg
 refine zT Tryz.func220 rfl ?_
 conv=>whnf
 exact⟨_,ri,by rw [wi (n:=g.d+1) (by omega),wi (by omega)];rfl⟩
theorem Mm (g:Geo) (hg:Bt g=true):Fn Tryz.prog 219 [.ag (AY g)] fun r=>r = .v (.int .i64 (g.an+2*g.sl+2*g.z)):=by
 obtain⟨h1,h2,h3,h4,h5⟩:=As.1 hg
 refine zT Tryz.func219 rfl ?_
 conv=>whnf
 apply zQ tys_ok mixed (.one 0 (.one 2 (.one 3 (.one 4 (.one 1 (.one 5 (.one 6 .fin))))))) [2,3,4,5,6,7,8] (by kernel_rfl)
 ·conv=>whnf
  refine z_ (Ml g hg) ?_
  exact⟨rfl,rfl⟩
 exact⟨_,ri,by rw [wi (n:=2*g.z) (by omega),wi (by omega)]⟩
theorem Ry (g:Geo) (hg:Bt g=true):Fn Tryz.prog 167 [.ag (AY g)] fun r=>r = .v (.int .i64 (Av g)):=by
 obtain⟨h1,h2,h3,h4,h5⟩:=As.1 hg
 have hz:=G_ hg (z:=g.z) (by omega)
 have hc:=Eu hg
 refine zT Tryz.func167 rfl ?_
 conv=>whnf
 apply zQ tys_ok mixed (.one 0 (.one 2 (.one 3 (.one 4 (.one 1 (.one 5 (.one 6 (.one 7 (.one 8 .fin))))))))) [2,3,4,5,6,7,8,9,10] (by kernel_rfl)
 ·conv=>whnf
  refine z_ (Mm g hg) ?_
  conv=>whnf
  refine z_ (Kz g hg) ?_
  exact⟨rfl,rfl⟩
 conv=>whnf
 exact⟨_,ri,by rw [wi (n:=g.z*Cy g) (by omega),wi (by omega)];rfl⟩
theorem TQ (g:Geo) (hg:Bt g=true):Fn Tryz.prog 101 [.ag (AY g)] fun r=>r = .tp [.v (.int .i64 (Av g)), .v (.int .i64 0)]:=by
 have ht:=Li g (Av g) true
 rw [hg] at ht
 refine zT Tryz.func101 rfl ?_
 conv=>whnf
 apply zQ tys_ok mixed (.one 0 (.one 1 (.one 2 (.one 3 (.one 4 (.one 5 (.one 6 (.one 7 .fin)))))))) [2,3,4,5,6,7,8,9] (by kernel_rfl)
 ·conv=>whnf
  refine z_ (Ry g hg) ?_
  conv=>whnf
  refine z_ ht ?_
  exact⟨rfl,rfl⟩
 exact⟨_,ri,rfl⟩
theorem Mp (g:Geo) (i:Int) (hg:Bt g=true) (hi:0<=i/\i<g.an):Fn Tryz.prog 158 [.ag (AY g), .v (.int .i64 i)] fun r=>r = .tp [.v (.int .i64 i), .v (.int .i64 0)]:=by
 obtain⟨h1,h2,h3,h4,h5⟩:=As.1 hg
 have ht:=Li g i true
 rw [hg] at ht
 have hw:IntKind.i64.wrap (g.an - 1)=g.an - 1:=wi (by omega)
 have hn:=Kx i 0 (IntKind.i64.wrap (g.an - 1))
 rw [show CJ i 0 (IntKind.i64.wrap (g.an - 1))=true from AL.2 (by rw [hw];omega)] at hn
 refine zT Tryz.func158 rfl ?_
 conv=>whnf
 apply zQ tys_ok mixed (.one 0 (.one 1 (.one 2 (.one 3 (.one 4 (.one 5 (.one 6 (.one 7 (.one 8 (.one 9 (.one 10 (.one 11 .fin)))))))))))) [4,5,6,7,8,9,10,11,12,13,14,15] (by kernel_rfl)
 ·conv=>whnf
  refine z_ hn ?_
  conv=>whnf
  refine z_ ht ?_
  exact⟨rfl,rfl⟩
 exact⟨_,ri,rfl⟩
theorem Kw (g:Geo) (z k:Int) (hg:Bt g=true) (hz:0<=z/\z<g.z) (hk:0<=k/\k<=1):Fn Tryz.prog 179 [.ag (AY g), .v (.int .i64 z), .v (.int .i64 k)] fun r=>r = .tp [.v (.int .i64 (AG g z k)), .v (.int .i64 0)]:=by
 obtain⟨h1,h2,h3,h4,h5⟩:=As.1 hg
 have e:IntKind.i64.wrap (IntKind.i64.wrap (g.an+2*g.sl+IntKind.i64.wrap (2*z))+k)=AG g z k:=by
  rw [wi (n:=2*z) (by omega),wi (n:=g.an+2*g.sl+2*z) (by omega),wi (by omega)];rfl
 have ht:=Li g (IntKind.i64.wrap (IntKind.i64.wrap (g.an+2*g.sl+IntKind.i64.wrap (2*z))+k)) true
 rw [hg] at ht
 have hw:IntKind.i64.wrap (g.z - 1)=g.z - 1:=wi (by omega)
 have hn:=Kx z 0 (IntKind.i64.wrap (g.z - 1))
 rw [show CJ z 0 (IntKind.i64.wrap (g.z - 1))=true from AL.2 (by rw [hw];omega)] at hn
 have hn2:=Kx k 0 1
 rw [show CJ k 0 1=true from AL.2 hk] at hn2
 refine zT Tryz.func179 rfl ?_
 conv=>whnf
 apply zQ tys_ok mixed (.one 0 (.one 1 (.one 3 (.one 4 (.one 6 (.one 8 (.one 9 (.one 10 (.one 11 (.one 2 (.one 5 (.one 7 (.one 12 (.one 13 (.one 14 (.one 15 (.one 16 (.one 17 (.one 18 (.one 19 (.one 20 (.one 21 .fin)))))))))))))))))))))) [6,7,8,9,10,11,12,13,14,15,16,17,18,19,20,21,22,23,24,25,26,27] (by kernel_rfl)
 ·conv=>whnf
  refine z_ (Ml g hg) ?_
  conv=>whnf
  refine z_ hn ?_
  conv=>whnf
  refine z_ hn2 ?_
  conv=>whnf
  refine z_ ht ?_
  exact⟨rfl,rfl⟩
 conv=>whnf
 exact⟨_,ri,by simp only [Bool.and_self,if_true];rw [e]⟩
theorem Wd (g:Geo) (z s:Int) (hg:Bt g=true) (hz:0<=z/\z<g.z) (hs:0<=s/\s<Cy g):Fn Tryz.prog 235 [.ag (AY g), .v (.int .i64 z), .v (.int .i64 s)] fun r=>r = .tp [.v (.int .i64 (Cb g z s)), .v (.int .i64 0)]:=by
 obtain⟨h1,h2,h3,h4,h5⟩:=As.1 hg
 have hzp:=G_ hg (z:=z) (by omega)
 have hp:=GA hg
 have e:IntKind.i64.wrap (IntKind.i64.wrap (g.an+2*g.sl+2*g.z+IntKind.i64.wrap (z*Cy g))+s)=Cb g z s:=by
  rw [wi (n:=z*Cy g) (by omega),wi (n:=g.an+2*g.sl+2*g.z+z*Cy g) (by omega),wi (by omega)];rfl
 have ht:=Li g (IntKind.i64.wrap (IntKind.i64.wrap (g.an+2*g.sl+2*g.z+IntKind.i64.wrap (z*Cy g))+s)) true
 rw [hg] at ht
 have hw:IntKind.i64.wrap (g.z - 1)=g.z - 1:=wi (by omega)
 have hn:=Kx z 0 (IntKind.i64.wrap (g.z - 1))
 rw [show CJ z 0 (IntKind.i64.wrap (g.z - 1))=true from AL.2 (by rw [hw];omega)] at hn
 have hw2:IntKind.i64.wrap (Cy g - 1)=Cy g - 1:=wi (by omega)
 have hn2:=Kx s 0 (IntKind.i64.wrap (Cy g - 1))
 rw [show CJ s 0 (IntKind.i64.wrap (Cy g - 1))=true from AL.2 (by rw [hw2];omega)] at hn2
 refine zT Tryz.func235 rfl ?_
 conv=>whnf
 apply zQ tys_ok mixed (.one 0 (.one 1 (.one 3 (.one 4 (.one 8 (.one 10 (.one 11 (.one 12 (.one 13 (.one 2 (.one 5 (.one 6 (.one 7 (.one 9 (.one 14 (.one 15 (.one 16 (.one 17 (.one 18 (.one 19 (.one 20 (.one 21 (.one 22 (.one 23 (.one 24 (.one 25 (.one 26 .fin))))))))))))))))))))))))))) [6,7,8,9,10,11,12,13,14,15,16,17,18,19,20,21,22,23,24,25,26,27,28,29,30,31,32] (by kernel_rfl)
 ·conv=>whnf
  refine z_ (Mm g hg) ?_
  conv=>whnf
  refine z_ (Kz g hg) ?_
  conv=>whnf
  refine z_ hn ?_
  conv=>whnf
  refine z_ (Kz g hg) ?_
  conv=>whnf
  refine z_ hn2 ?_
  conv=>whnf
  refine z_ ht ?_
  exact⟨rfl,rfl⟩
 conv=>whnf
 exact⟨_,ri,by simp only [Bool.and_self,if_true];rw [e]⟩
theorem Oo (g:Geo) (hg:Bt g=true):Fn Tryz.prog 28 [.ag (AY g)] fun r=>r = .v (.int .i64 (Cy g)):=by
 obtain⟨h1,h2,h3,h4,h5⟩:=As.1 hg
 refine zT Tryz.func28 rfl ?_
 conv=>whnf
 exact⟨_,ri,by rw [wi (n:=g.d+1) (by omega),wi (by omega)];rfl⟩
theorem Rb (g:Geo) (hg:Bt g=true):Fn Tryz.prog 116 [.ag (AY g)] fun r=>r = .v (.int .i64 (Av g)):=by
 obtain⟨h1,h2,h3,h4,h5⟩:=As.1 hg
 have hz:=G_ hg (z:=g.z) (by omega)
 have hc:=Eu hg
 refine zT Tryz.func116 rfl ?_
 conv=>whnf
 apply zQ tys_ok mixed (.one 0 (.one 1 (.one 2 (.one 3 (.one 4 (.one 5 (.one 6 (.one 7 (.one 8 (.one 9 (.one 10 (.one 11 (.one 12 (.one 13 (.one 14 (.one 15 (.one 16 .fin))))))))))))))))) [2,3,4,5,6,7,8,9,10,11,12,13,14,15,16,17,18] (by kernel_rfl)
 ·conv=>whnf
  refine z_ (Oo g hg) ?_
  exact⟨rfl,rfl⟩
 conv=>whnf
 exact⟨_,ri,by rw [wi (n:=g.z*Cy g) (by omega),wi (n:=2*g.sl) (by omega),wi (n:=2*g.z) (by omega),wi (n:=g.an+2*g.sl) (by omega),wi (n:=g.an+2*g.sl+2*g.z) (by omega),wi (by omega)];rfl⟩
theorem Iv (g:Geo) (z k:Int) (hg:Bt g=true) (hz:0<=z/\z<g.z) (hk:0<=k/\k<=1):Fn Tryz.prog 14 [.ag (AY g), .v (.int .i64 z), .v (.int .i64 k)] fun r=>r = .v (.int .i64 (AG g z k)):=by
 obtain⟨h1,h2,h3,h4,h5⟩:=As.1 hg
 refine zT Tryz.func14 rfl ?_
 conv=>whnf
 exact⟨_,ri,by rw [wi (n:=2*g.sl) (by omega),wi (n:=2*z) (by omega),wi (n:=g.an+2*g.sl) (by omega),wi (n:=g.an+2*g.sl+2*z) (by omega),wi (by omega)];rfl⟩
theorem Pt (g:Geo) (z s:Int) (hg:Bt g=true) (hz:0<=z/\z<g.z) (hs:0<=s/\s<Cy g):Fn Tryz.prog 25 [.ag (AY g), .v (.int .i64 z), .v (.int .i64 s)] fun r=>r = .v (.int .i64 (Cb g z s)):=by
 obtain⟨h1,h2,h3,h4,h5⟩:=As.1 hg
 have hzp:=G_ hg (z:=z) (by omega)
 have hp:=GA hg
 refine zT Tryz.func25 rfl ?_
 conv=>whnf
 apply zQ tys_ok mixed (.one 0 (.one 1 (.one 2 (.one 3 (.one 4 (.one 5 (.one 6 (.one 7 (.one 8 (.one 9 (.one 10 (.one 11 (.one 15 (.one 12 (.one 13 (.one 14 (.one 16 (.one 17 .fin)))))))))))))))))) [6,7,8,9,10,11,12,13,14,15,16,17,18,19,20,21,22,23] (by kernel_rfl)
 ·conv=>whnf
  refine z_ (Oo g hg) ?_
  exact⟨rfl,rfl⟩
 conv=>whnf
 exact⟨_,ri,by rw [wi (n:=z*Cy g) (by omega),wi (n:=2*g.sl) (by omega),wi (n:=2*g.z) (by omega),wi (n:=g.an+2*g.sl) (by omega),wi (n:=g.an+2*g.sl+2*g.z) (by omega),wi (n:=g.an+2*g.sl+2*g.z+z*Cy g) (by omega),wi (by omega)];rfl⟩
theorem Sb (L:List UInt8):((List.range L.length).map fun i=> [AV.v (Value.int IntKind.u8 ((L.getD i 0).toNat:Int))])=L.map EK:=by
 apply List.ext_getElem
 ·simp
 ·intro i h1 h2
  simp only [Ab,DB] at h1
  simp [EK,Aa,Af h1]
theorem FU {L:List UInt8} {n:Nat} {es:List (List AV)} (hn:n=L.length) (he:es=L.map EK) (c:Ctx) (v:Value) (h:Rd (.sl 1 n fun i=>es.getD i []) c v):Rd (bA L) c v:=Bf (f:=EK) L hn he c v h
theorem Nc (b:List UInt8) (hb:b.length<=1000000000):ACalls Tryz.prog false 45 [bA b] [] fun r H=>r = .ow 0 b.length/\H=[.row 5 1 (b.map EK)]:=by
 refine zv tys_ok Tryz.func45 rfl rfl (Ag rfl) ?_
 refine⟨hb,?_⟩
 exact⟨.ow 0 b.length, .ow 0 b.length, [.row 5 1 (b.map EK)],fun _ _ h=>h,zG ⟨[],tv,⟨rfl,tv⟩,⟨congrArg (AB.row 5 1) (Sb b).symm,tv⟩,rfl,rfl,rfl⟩,rfl,rfl⟩
theorem Ia (l:List UInt8) (n:Int) (m:Nat) (hl:l.length<=1000000) (hn:0<=n/\n<=4294967295) (hm:m<=4):ACalls Tryz.prog false 192 [bA l, .v (.int .i64 n), .v (.int .i64 m)] [] fun r H=>r = .ow 0 (l ++ leB m n.toNat).length/\H=[.row 5 1 ((l ++ leB m n.toNat).map EK)]:=by
 have htw:=Nc l (by omega)
 obtain⟨q,rfl⟩:∃ q:Nat,n=q:=⟨n.toNat,by omega⟩
 rw [Ac]
 refine zv tys_ok Tryz.func192 rfl rfl (Ag rfl) ?_
 conv=>whnf
 refine zU (htw) rfl ?_
 rintro _ _ ⟨rfl,rfl⟩
 conv=>whnf
 refine zV Nat (fun k=>([(1, .v (.int .i64 (q / 256 ^ k:Nat))),(2, .v (.int .i64 m)),(7, .ow 0 (l ++ leB k q).length),(8, .v (.int .i64 k))], [.row 5 1 ((l ++ leB k q).map EK)])) (fun k=>k<=m) (fun k=>m - k) 0 (Aj _)
  (zR (s:= [0]) ⟨⟨congrArg (fun n:Nat=>AV.v (.int .i64 n)) (show q=q / 256 ^ 0 by simp),rfl,congrArg (fun n:Nat=>AV.ow 0 n) (show l.length=(l ++ leB 0 q).length by simp [leB]),rfl,tv⟩,⟨show some (AB.row 5 1 (l.map EK))=some (AB.row 5 1 ((l ++ leB 0 q).map EK)) by simp [leB],tv⟩,rfl,rfl,rfl,rfl,rfl⟩) ?_
 intro k hk
 have hstep:=leB_step k q
 have hq:q / 256 ^ k<=4294967295:=Bi (Nat.div_le_self _ _) (by omega)
 have hdiv:q / 256 ^ k / 256=q / 256 ^ (k+1):=by rw [Nat.div_div_eq_div_mul,Nat.pow_succ]
 have hlen:(l ++ leB k q).length<=1000004:=by rw [Ai,leB_len];omega
 generalize q / 256 ^ k=Q at hstep hq hdiv
 conv=>whnf
 refine A3 (fun h6=>?_) (fun h6=>?_) <;> (repeat rw [Ac] at h6) <;> conv=>whnf
 ·refine⟨rfl,?_⟩
  refine⟨⟨by rw [Ab],by omega⟩,?_⟩
  refine⟨by decide,?_⟩
  conv=>whnf
  have htd:IntKind.i64.wrap ((Q:Int).tdiv 256)=((Q / 256:Nat):Int):=by rw [Bl (by omega),wi (by omega)];omega
  have hU : [[AV.v (Value.int IntKind.u8 (IntKind.u8.wrap (Q:Int)))]]=[UInt8.ofNat (Q % 256)].map EK:=by
   show _=[[AV.v (.int .u8 ((UInt8.ofNat (Q % 256)).toNat:Nat))]]
   rw [BB (show Q % 256<256 by omega),IntKind.wrap_u8]
   rfl
  refine⟨k+1,by omega,by omega,zR (s:= [0]) ⟨⟨congrArg (fun n:Int=>AV.v (.int .i64 n)) (by rw [htd,hdiv]),rfl,congrArg (fun n:Nat=>AV.ow 0 n) (show (l ++ leB k q).length+1=(l ++ leB (k+1) q).length by rw [hstep];simp;omega),AS (by omega),tv⟩,⟨?_,tv⟩,rfl,rfl,rfl,rfl,rfl⟩⟩
  rw [hstep,<-A5,AF,<-hU]
  rfl
 ·have ek:k=m:=by omega
  subst ek
  exact⟨.ow 0 (l ++ leB k q).length, .ow 0 (l ++ leB k q).length, [.row 5 1 ((l ++ leB k q).map EK)],fun _ _ h=>h,zG ⟨[],tv,⟨rfl,tv⟩,⟨rfl,tv⟩,rfl,rfl,rfl⟩,rfl,rfl⟩
theorem On (l:List UInt8) (n m:Nat) (hl:l.length<=1000000) (hn:n<=4294967295) (hm:m<=4):Fn Tryz.prog 192 [bA l, .v (.int .i64 n), .v (.int .i64 m)] fun r=>r=bA (l ++ leB m n):=by
 refine ACalls.fn (Ia l n m hl (by omega) hm) ?_
 rintro _ _ ⟨rfl,rfl⟩
 refine⟨_,zy _,?_⟩
 refine Ae (Ab _).symm ?_
 exact⟨bA (l ++ leB m n),FU rfl rfl,rfl⟩
theorem EB (l:List UInt8) (n:Int) (m:Nat) (hl:l.length<=1000000) (hn:0<=n/\n<=4294967295) (hm:m<=4):Fn Tryz.prog 192 [bA l, .v (.int .i64 n), .v (.int .i64 m)] fun r=>r=bA (l ++ leB m n.toNat):=by
 have:=On l n.toNat m hl (by omega) hm
 rwa [CE hn.1] at this
theorem LH (l:List UInt8) (hl:l.length<=255):ACalls Tryz.prog false 210 [bA l] [] fun r H=>r = .ow 0 (UInt8.ofNat l.length::l).length/\H=[.row 5 1 ((UInt8.ofNat l.length::l).map EK)]:=by
 refine zv tys_ok Tryz.func210 rfl rfl (Ag rfl) ?_
 refine⟨⟨rfl,by omega⟩,?_⟩
 conv=>whnf
 have e : [[AV.v (Value.int IntKind.u8 (IntKind.u8.wrap (l.length:Int)))]] ++ (List.range l.length).map (fun i=> [AV.v (Value.int IntKind.u8 ((l.getD i 0).toNat:Int))])=(UInt8.ofNat l.length::l).map EK:=by
  rw [Sb,A0,List.singleton_append,EK,BB (show l.length<256 by omega),IntKind.wrap_u8]
  congr 4
  omega
 exact⟨.ow 0 (1+l.length), .ow 0 (1+l.length), [.row 5 1 ((UInt8.ofNat l.length::l).map EK)],fun _ _ h=>h,zG ⟨[],tv,⟨rfl,tv⟩,⟨congrArg (AB.row 5 1) e.symm,tv⟩,rfl,rfl,rfl⟩,congrArg (AV.ow 0) (by rw [Al];omega),rfl⟩
theorem ST (addr stamp:Int) (p:List UInt8) (hok:U6 addr stamp p):Fn Tryz.prog 151 [.ag [.v (.int .i64 addr), .v (.int .i64 stamp),bA p]] fun r=>r=bA (Bk addr stamp p):=by
 obtain⟨q1,q2,q3,q4,q5⟩:=hok
 have hp:=LH p (by omega)
 have a1:=EB (UInt8.ofNat p.length::p) addr 2 (by simp;omega) (by omega) (by decide)
 have a2:=EB ((UInt8.ofNat p.length::p) ++ leB 2 addr.toNat) stamp 4 (by simp [leB_len];omega) (by omega) (by decide)
 have a3:=J2 ((UInt8.ofNat p.length::p) ++ leB 2 addr.toNat ++ leB 4 stamp.toNat) (by simp [leB_len];omega)
 have a4:=On ((UInt8.ofNat p.length::p) ++ leB 2 addr.toNat ++ leB 4 stamp.toNat) (De ((UInt8.ofNat p.length::p) ++ leB 2 addr.toNat ++ leB 4 stamp.toNat)) 4 (by simp [leB_len];omega) (by unfold De;omega) (by decide)
 have e:Bk addr stamp p=(((UInt8.ofNat p.length::p) ++ leB 2 addr.toNat) ++ leB 4 stamp.toNat) ++ leB 4 (De (((UInt8.ofNat p.length::p) ++ leB 2 addr.toNat) ++ leB 4 stamp.toNat)):=rfl
 rw [e]
 refine zT Tryz.func151 rfl ?_
 conv=>whnf
 apply zH (0) tys_ok mixed (.one 0 (.one 1 (.one 3 (.one 4 (.one 6 (.one 7 (.one 2 (.one 5 (.one 8 (.one 9 .fin)))))))))) [3,4,5,6,7,8,9,10,11,12] (by kernel_rfl)
 ·conv=>whnf
  (refine zU hp rfl ?_;rintro _ _ ⟨rfl,rfl⟩)
  conv=>whnf
  (refine zM a1.go ?_;(conv=>whnf);refine Ae (Ab _).symm ?_;(conv=>whnf);refine zY [bA (UInt8.ofNat p.length::p), .v (.int .i64 addr), .v (.int .i64 2)] ⟨FU rfl rfl,ri,ri,tv⟩ ?_;refine z_ a1 ?_)
  conv=>whnf
  refine z_ a2 ?_
  exact⟨rfl,rfl⟩
 conv=>whnf
 conv=>whnf
 refine zY [bA (UInt8.ofNat p.length::p ++ leB 2 addr.toNat ++ leB 4 stamp.toNat)] ⟨ri,tv⟩ ?_
 refine z_ a3 ?_
 conv=>whnf
 refine z_ a4 ?_
 exact⟨_,ri,rfl⟩
theorem Fw (addr stamp:Int) (p:List UInt8) (hok:U6 addr stamp p):Fn Tryz.prog 79 [.v (.int .i64 addr), .v (.int .i64 stamp),bA p] fun r=>r=bA (Bk addr stamp p):=by
 have h:=ST addr stamp p hok
 refine zT Tryz.func79 rfl ?_
 conv=>whnf
 refine z_ h ?_
 exact⟨_,ri,rfl⟩
def zero8:List UInt8:= [0,0,0,0,0,0,0,0]
def ent0:Ent:=⟨0,(De zero8:Nat),false⟩
def EW (g:Geo):List Ent:=List.replicate (g.d+1).toNat ent0
theorem MA (stamp:Int) (b:List UInt8) (hb:b.length<=1000000000):Fn Tryz.prog 143 [.v (.int .i64 stamp),bA b] fun r=>r = .ag (CZ ⟨stamp,(De b:Nat),false⟩):=by
 refine zT Tryz.func143 rfl ?_
 conv=>whnf
 repeat' (first | (refine zX ?_;conv=>whnf) | (refine A3 (fun _=>?_) (fun _=>?_) <;> conv=>whnf) | (refine z_ (Sa b hb) ?_;conv=>whnf) | (refine Ae (by first | omega | exact of_decide_eq_true rfl) ?_;conv=>whnf) | fail)
 exact⟨_,ri,rfl⟩
def bv (l:List Ent):Nat->AV
 | 0=> .v (.slice none 0 0)
 | k+1=>bA (CU (l.take (k+1)))
theorem RT (l:List Ent) (hl:l.length<=1000) (hb:∀ e∈l,(0<=e.stamp/\e.stamp<=4294967295)/\0<=e.sum/\e.sum<=4294967295):Fn Tryz.prog 119 [.ag [BA l]] fun r=>r=bA (CU l):=by
 refine zT Tryz.func119 rfl ?_
 conv=>whnf
 refine zP Nat (fun k=>([(1, .bp 0 0),(3,bv l k),(4, .v (.int .i64 k))], [.box 141 [BA l]])) (fun k=>k<=l.length) (fun k=>l.length - k) 0 (Aj _) ⟨[],tv,⟨rfl,rfl,rfl,tv⟩,⟨rfl,tv⟩,rfl,rfl,rfl⟩ ?_
 intro k hk
 conv=>whnf
 refine A3 (fun c1=>?_) (fun c1=>?_) <;> (repeat rw [Ac] at c1) <;> conv=>whnf
 ·have he:=hb _ (A9 (d:=⟨0,0,false⟩) c1)
  refine zX ?_
  conv=>whnf
  refine⟨by first | omega | (refine⟨rfl,?_,?_⟩ <;> first | omega | (simp only [Ab];done) | (simp only [Ab];omega)) | (simp only [Ab];omega),?_⟩
  conv=>whnf
  have hlt:(CU (l.take k)).length<=9000:=by rw [EU,Au];omega
  have p1:=EB (CU (l.take k)) (l.getD k ⟨0,0,false⟩).stamp 4 (by omega) he.1 (by decide)
  have p2:=EB (CU (l.take k) ++ leB 4 (l.getD k ⟨0,0,false⟩).stamp.toNat) (l.getD k ⟨0,0,false⟩).sum 4 (by rw [Ai,leB_len];omega) he.2 (by decide)
  have p3:=EB (CU (l.take k) ++ leB 4 (l.getD k ⟨0,0,false⟩).stamp.toNat ++ leB 4 (l.getD k ⟨0,0,false⟩).sum.toNat) (Da (l.getD k ⟨0,0,false⟩).lost) 1 (by rw [Ai,Ai,leB_len,leB_len];omega) (by unfold Da;split <;> omega) (by decide)
  have hst:bv l (k+1)=bA (CU (l.take k) ++ leB 4 (l.getD k ⟨0,0,false⟩).stamp.toNat ++ leB 4 (l.getD k ⟨0,0,false⟩).sum.toNat ++ leB 1 (Da (l.getD k ⟨0,0,false⟩).lost).toNat):=by
   rw [bv,Nf c1,Jf]
   rw [Aa,Af c1]
   simp [rowB,A5]
  obtain⟨L,hLe⟩:∃ L,(l.getD k ⟨0,0,false⟩).lost=L:=⟨_,rfl⟩
  rw [hLe] at p3 hst
  rcases k with _ | k
  all_goals
   refine zA tys_ok mixed [0,1,2,4,5,3,6,7] (by kernel_rfl) ?_
   conv=>whnf
   refine zY _ ?_ (zI (p1) rfl ?_)
   ·repeat' (first | exact trivial | exact fun _ _ h=>h | exact Br _ _ | refine Ae ?_ ?_ | refine Ba ?_)
   rintro _ rfl
   conv=>whnf
   refine zY _ ?_ (zI (p2) rfl ?_)
   ·repeat' (first | exact trivial | exact fun _ _ h=>h | exact Br _ _ | refine Ae ?_ ?_ | refine Ba ?_)
   rintro _ rfl
   conv=>whnf
   refine zX ?_
   conv=>whnf
   rw [Ac,hLe]
   cases L
  all_goals
   conv=>whnf
   refine z_ p3 ?_
   refine⟨_,by omega,by omega, [],tv,⟨rfl,hst.symm,AS (by omega),tv⟩,⟨rfl,tv⟩,rfl,rfl,rfl⟩
 ·have ek:k=l.length:=by omega
  rcases k with _ | k
  ·have e:l=[]:=AX.1 ek.symm
   subst e
   exact⟨bA (CU []),Br 1 _,rfl⟩
  ·conv=>whnf
   exact⟨_,ri,by rw [ek,Ar];rfl⟩
theorem Xk (g:Geo) (hg:Bt g=true):Fn Tryz.prog 120 [.ag (AY g)] fun r=>r = .ag [BA (EW g)]:=by
 obtain⟨h1,h2,h3,h4,h5⟩:=As.1 hg
 refine zT Tryz.func120 rfl ?_
 conv=>whnf
 have w1:IntKind.i64.wrap (g.d+1)=g.d+1:=by rw [IntKind.wrap_i64];omega
 refine zP Nat (fun k=>([(1, .bp 0 0),(2, .bp 1 0),(3, .bp 2 0),(4, .v (.int .i64 k))], [.box 23 (AY g), .box 141 [.v (.slice none 0 0)], .box 141 [.ow 3 k], .row 194 3 ((List.replicate k ent0).map CZ)])) (fun k=>(k:Int)<=g.d+1) (fun k=>(g.d+1 - k).toNat) 0 (show (0:Int)<=g.d+1 by omega) ⟨[(1002000,194,3)],⟨rfl,rfl,tv⟩,⟨rfl,rfl,rfl,rfl,tv⟩,⟨rfl,rfl,rfl,rfl,tv⟩,rfl,rfl,rfl⟩ ?_
 intro k hk
 conv=>whnf
 refine A3 (fun c1=>?_) (fun c1=>?_) <;> (repeat rw [Ac] at c1) <;> conv=>whnf
 ·refine zA tys_ok mixed [0,1,2,3,4,5,6,7] (by kernel_rfl) ?_
  conv=>whnf
  repeat' (refine Ae (by first | omega | exact of_decide_eq_true rfl) ?_;conv=>whnf)
  have e0:=MA 0 zero8 (by decide)
  refine zM (e0).go ?_
  conv=>whnf
  repeat' (refine Ae (by first | rfl | omega | (simp;done) | (simp only [Ab];omega)) ?_;conv=>whnf)
  refine zY _ ?_ (zI (e0) rfl ?_)
  ·repeat' (first | exact trivial | exact fun _ _ h=>h | exact Br _ _ | exact Ux zero8 rfl rfl | refine Ae ?_ ?_ | refine Ba ?_)
  rintro _ rfl
  conv=>whnf
  repeat' (first | (refine Ae (by first | rfl | omega) ?_;conv=>whnf) | fail)
  refine⟨⟨by rw [Ab,B4],by omega⟩,?_⟩
  conv=>whnf
  exact⟨k+1,by omega,by omega, [],tv,⟨rfl,rfl,rfl,AS (by omega),tv⟩,⟨rfl,rfl,rfl,by rw [List.replicate_succ',AF];rfl,tv⟩,rfl,rfl,rfl⟩
 ·refine⟨(by rw [Ab,B4]),?_⟩
  conv=>whnf
  have ek:k=(g.d+1).toNat:=by omega
  refine⟨.ag [BA (EW g)],Ba ⟨Bf (EW g) ?_ ?_,tv⟩,rfl⟩
  ·rw [EW,B4,ek]
  ·rw [EW,ek]
theorem Pg (addr stamp:Int) (p:List UInt8) (hok:U6 addr stamp p):Fn Tryz.prog 216 [.ag [.v (.int .i64 addr), .v (.int .i64 stamp),bA p]] fun r=>r = .tp [bA (Bk addr stamp p), .v (.int .i64 0)]:=by
 refine⟨⟨_,Tryz.func216,rfl,by decide⟩,fun c0 us hd hM _ hr=>?_⟩
 obtain⟨u,rfl,h⟩:=ZZ hr
 simp only [Rd,RdL] at h
 obtain⟨xs,rfl,a,_,rfl,rfl,b,_,rfl,rfl,d,_,rfl,h3,rfl⟩:=h
 refine(VL addr stamp d p c0.w c0.M (Jq (by simpa only [Rd,bA] using h3)) hok).mono ?_
 rintro e w' ⟨q,rfl,ho,hB⟩
 exact⟨_,_,rfl,rfl,hB,O9 (VE ho hM) (Tj _)⟩
theorem Iw (x:Rc):rowB (E7 x) szR=leB 1 x.kind.toNat ++ (leB 4 x.seq.toNat ++ (leB 4 x.epoch.toNat ++ (leB 1 x.at_.toNat ++ leB 1 x.of_.toNat))):=by
 simp [rowB,E7,szR]
theorem OO {L:List UInt8} {n:Nat} {es:List (List AV)} (hn:n=L.length) (he:es=L.map EK) (c:Ctx) (v:Value) (h:Rd (.sl 1 n fun i=>es.getD i []) c v):Rd (bA L) c v:=by
 subst he
 exact zE hn (fun i hi=>Bn (f:=EK) (l:=L) (d:=0) (hn ▸ hi)) h
theorem SU (g:Geo) (x:Rc) (hok:Fj g x=true):Fn Tryz.prog 146 [.ag (GJ x)] fun r=>r=bA (Gv x):=by
 obtain⟨K,S,E,A,O,k1,k2,k3,k4,k5,hS,hE⟩:=XH hok
 have p1:=On (leB 1 K) S 4 (by rw [leB_len];decide) hS (by decide)
 have p2:=Ia (leB 1 K ++ leB 4 S) (E:Nat) 4 (by simp [leB_len]) (by omega) (by decide)
 have eK : [[AV.v (.int .u8 (IntKind.u8.wrap x.kind))]]=(leB 1 K).map EK:=by
  rw [k1]
  show _=[[AV.v (.int .u8 ((UInt8.ofNat (K % 256)).toNat:Nat))]]
  rw [BB (show K % 256<256 by omega),IntKind.wrap_u8]
  rfl
 refine zT Tryz.func146 rfl ?_
 conv=>whnf
 apply zW (0) tys_ok mixed (.one 0 (.one 1 (.one 2 (.one 4 (.one 5 (.one 7 (.one 8 (.one 3 (.one 6 (.one 9 (.one 10 .fin))))))))))) (by kernel_rfl)
 conv=>whnf
 (refine zM p1.go ?_;(conv=>whnf);refine Ae rfl ?_;(conv=>whnf);refine zY [bA (leB 1 K), .v (.int .i64 S), .v (.int .i64 4)] ⟨OO rfl eK,by rw [k2];exact fun _ _ h=>h,ri,tv⟩ ?_;refine z_ p1 ?_)
 conv=>whnf
 (rw [k3];refine zU p2 rfl ?_;rintro _ _ ⟨rfl,rfl⟩)
 refine⟨rfl,?_⟩
 refine⟨⟨by simp,by simp [leB_len]⟩,?_⟩
 have eR:List.map EK (leB 1 K ++ leB 4 S ++ leB 4 ((E:Nat):Int).toNat) ++ [[AV.v (.int .u8 (IntKind.u8.wrap x.at_))], [AV.v (.int .u8 (IntKind.u8.wrap x.of_))]]=(rowB (E7 x) szR).map EK:=by
  rw [Iw,k1,k2,k3,k4,k5]
  have e8:∀ n:Nat, [[AV.v (.int .u8 (IntKind.u8.wrap (n:Int)))]]=(leB 1 n).map EK:=fun n=>by
   show _=[[AV.v (.int .u8 ((UInt8.ofNat (n % 256)).toNat:Nat))]]
   rw [BB (show n % 256<256 by omega),IntKind.wrap_u8]
   rfl
  simp only [AF,<-e8,Ac,A5]
  rfl
 rw [eR]
 conv=>whnf
 by_cases hk:x.kind=1
 ·rw [show (x.kind != 1)=false by simpa using hk]
  conv=>whnf
  repeat' (refine zX ?_;conv=>whnf)
  obtain⟨Z,W,z1,z2,z3,z4⟩:=XI hok hk
  have hpt:=LH x.img.bytes z4
  have hR11:(rowB (E7 x) szR).length=11:=by rw [Iw];simp [leB_len]
  have hA:(leB 1 K ++ leB 4 S ++ leB 4 ((E:Nat):Int).toNat).length+2=(List.map EK (rowB (E7 x) szR)).length:=by rw [Ab,hR11];simp [leB_len]
  have hA2:(leB 1 K ++ leB 4 S ++ leB 4 ((E:Nat):Int).toNat).length+2+2<=1000000000:=by simp [leB_len]
  have e8:∀ n:Nat, [[AV.v (.int .u8 (IntKind.u8.wrap (n:Int)))]]=(leB 1 n).map EK:=fun n=>by
   show _=[[AV.v (.int .u8 ((UInt8.ofNat (n % 256)).toNat:Nat))]]
   rw [BB (show n % 256<256 by omega),IntKind.wrap_u8]
   rfl
  obtain⟨Q,hQ⟩:∃ Q,Q=rowB (E7 x) szR ++ (leB 1 Z ++ leB 1 W):=⟨_,rfl⟩
  have hB:Gv x=Q ++ (UInt8.ofNat x.img.bytes.length::x.img.bytes):=by
   unfold Gv
   rw [if_pos hk,hQ,A5]
   unfold Ku
   rw [z1,z2]
   simp [rowB]
  have eQ:List.map EK (rowB (E7 x) szR) ++ [[AV.v (.int .u8 (IntKind.u8.wrap (Z:Int)))], [AV.v (.int .u8 (IntKind.u8.wrap (W:Int)))]]=Q.map EK:=by
   rw [hQ,AF,AF,<-e8,<-e8]
   rfl
  have hQl:Q.length=13:=by rw [hQ];simp [leB_len,hR11]
  have hP:(UInt8.ofNat x.img.bytes.length::x.img.bytes).length=(List.map EK (UInt8.ofNat x.img.bytes.length::x.img.bytes)).length:=(Ab _).symm
  have hP2:(UInt8.ofNat x.img.bytes.length::x.img.bytes).length<=256:=by rw [Al];omega
  have hQ1:(leB 1 K ++ leB 4 S ++ leB 4 ((E:Nat):Int).toNat).length+2+2=(List.map EK Q).length:=by rw [Ab,hQl];simp [leB_len]
  have hQ2:(leB 1 K ++ leB 4 S ++ leB 4 ((E:Nat):Int).toNat).length=9:=by simp [leB_len]
  have hF1:(leB 1 K ++ leB 4 S ++ leB 4 ((E:Nat):Int).toNat).length+2+2+(UInt8.ofNat x.img.bytes.length::x.img.bytes).length=(List.map EK Q ++ List.map EK (UInt8.ofNat x.img.bytes.length::x.img.bytes)).length:=by rw [hQ1,hP];exact List.length_append.symm
  have hF2:(leB 1 K ++ leB 4 S ++ leB 4 ((E:Nat):Int).toNat).length+2+2+(UInt8.ofNat x.img.bytes.length::x.img.bytes).length=(Q ++ (UInt8.ofNat x.img.bytes.length::x.img.bytes)).length:=by rw [hQ1,Ab];exact List.length_append.symm
  by_cases hw:x.img.what = -1
  rw [show (x.img.what == -1)=true by simpa using hw]
  conv=>whnf
  have hW:(254:Int)=(W:Int):=by rw [<-z2,hw];rfl
  rotate_left 1
  rw [show (x.img.what == -1)=false by simpa using hw]
  conv=>whnf
  have hW:x.img.what=(W:Int):=by rw [<-z2];unfold E9;rw [if_neg hw]
  all_goals
   apply zW (2048) tys_ok mixed (.one 0 (.one 1 (.one 2 (.one 3 (.one 4 (.one 5 (.one 6 (.one 9 (.one 10 (.two 7 (.two 8 (.one 11 (.one 12 (.one 13 (.one 14 .fin)))) 11 (.one 8 (.one 12 (.one 13 (.one 14 .fin))))) 11 (.one 7 (.one 8 (.one 12 (.one 13 (.one 14 .fin))))))))))))))) (by kernel_rfl)
   refine Ae ?_ ?_
   refine Ae ?_ ?_
   conv=>whnf
   try (refine tJ ?_;conv=>whnf)
   try (refine tK ?_;conv=>whnf)
   (rw [z1,hW,eQ];refine zU hpt rfl ?_;rintro _ _ ⟨rfl,rfl⟩)
   conv=>whnf
   try (refine tJ ?_;conv=>whnf)
   try (refine tK ?_;conv=>whnf)
   rotate_left 1
   conv=>whnf
   try (refine tJ ?_;conv=>whnf)
   try (refine tK ?_;conv=>whnf)
   (rw [z1,hW,eQ];refine zU hpt rfl ?_;rintro _ _ ⟨rfl,rfl⟩)
   conv=>whnf
   try (refine tJ ?_;conv=>whnf)
   try (refine tK ?_;conv=>whnf)
   rotate_left 1
   conv=>whnf
   try (refine tJ ?_;conv=>whnf)
   try (refine tK ?_;conv=>whnf)
   (rw [z1,hW,eQ];refine zU hpt rfl ?_;rintro _ _ ⟨rfl,rfl⟩)
   conv=>whnf
   try (refine tJ ?_;conv=>whnf)
   try (refine tK ?_;conv=>whnf)
   rotate_left 1
   all_goals
    refine⟨hF1,?_⟩
    conv=>whnf
    rw [hB]
    exact⟨bA _,OO hF2 List.map_append.symm,rfl⟩
 ·rw [show (x.kind != 1)=true by simpa using hk]
  conv=>whnf
  have hB:Gv x=rowB (E7 x) szR:=by unfold Gv;rw [if_neg hk,AM]
  rw [hB]
  refine Ae (by rw [Ab,Iw];simp [leB_len]) ?_
  conv=>whnf
  exact⟨bA _,OO (by rw [Iw];simp [leB_len]) rfl,rfl⟩
theorem FX (g:Geo) (x:Rc) (copy slot:Int) (hok:Fj g x=true) (hl:KO g copy slot=true):Fn Tryz.prog 74 [.ag (AY g), .ag (GJ x), .v (.int .i64 copy), .v (.int .i64 slot)] fun r=>r=bA (DZ g x copy slot):=by
 have hg:Bt g=true:=by unfold Fj at hok;simp only [Ad] at hok;exact hok.1
 have hb:=JB hg hl
 have hs:=Sp hok
 have hn:=Fv hok
 have h1:=Dm g copy slot hg hl
 have h2:=SU g x hok
 have h3:=Fw (BX g copy slot) x.seq (Gv x) ⟨hb.1,by omega,hs.1,hs.2,by omega⟩
 refine zT Tryz.func74 rfl ?_
 conv=>whnf
 apply zH (0) tys_ok mixed (.one 0 (.one 1 (.one 2 (.one 4 (.one 5 (.one 6 (.one 3 (.one 7 (.one 8 (.one 9 .fin)))))))))) [8,9,10,11,12,13,14,15,16,17] (by kernel_rfl)
 ·conv=>whnf
  refine z_ h1 ?_
  conv=>whnf
  refine z_ h2 ?_
  conv=>whnf
  refine z_ h3 ?_
  exact⟨rfl,rfl⟩
 exact⟨_,ri,rfl⟩
theorem XG {x:Int} (c:Ctx) (u:Value) (h:Rd (.sl 1 1 fun i=> [[AV.v (.int .i64 x)]].getD i []) c u):Rd (iA [x]) c u:=
 zE (n:=1) (n':= [x].length) rfl (fun i hi=>by
  have:i=0:=by simp at hi;omega
  subst this
  rfl) h
theorem Vn (how:Int) (c:Ctx) (u:Value) (h:Rd (.tp [.ag [.v (.int .i64 0), .v (.int .i64 0), .v (.int .i64 0), .v (.int .i64 0), .v (.int .i64 0), .v (.int .i64 0), .v (.int .i64 0), .v (.slice none 0 0)], .v (.slice none 0 0), .v (.int .i64 how)]) c u):Rd (.tp [.ag (GJ zeroC),iA [], .v (.int .i64 how)]) c u:=by
 refine Cg ?_ c u h
 exact⟨Ba ⟨ri,ri,ri,ri,ri,ri,ri,Br _ _,tv⟩,Br _ _,ri,tv⟩
theorem Xx (r:Rc) (c:Ctx) (u:Value) (h:Rd (.tp [.ag (GJ r), .v (.slice none 0 0), .v (.int .i64 1)]) c u):Rd (.tp [.ag (GJ r),iA [], .v (.int .i64 1)]) c u:=by
 refine Cg ?_ c u h
 exact⟨fun _ _ h=>h,Br _ _,fun _ _ h=>h,tv⟩
theorem Xw (r:Rc) (x:Int) (c:Ctx) (u:Value) (h:Rd (.tp [.ag (GJ r), .sl 1 1 fun i=> [[AV.v (.int .i64 x)]].getD i [], .v (.int .i64 1)]) c u):Rd (.tp [.ag (GJ r),iA [x], .v (.int .i64 1)]) c u:=by
 refine Cg ?_ c u h
 exact⟨fun _ _ h=>h,XG,fun _ _ h=>h,tv⟩
theorem Vm (g:Geo) (a:An) (x y:Gt) (slot seq at_ of_ left:Int) (hg:Bt g=true) (hs:CJ slot 0 (g.sl - 1)=true) (hx:x.bytes.length<=100000) (hy:y.bytes.length<=100000) :
  Fn Tryz.prog 245 [.ag (AY g), .ag (Ed a), .ag (Dr x), .ag (Dr y), .v (.int .i64 slot), .v (.int .i64 seq), .v (.int .i64 at_), .v (.int .i64 of_), .v (.int .i64 left)]
   fun r=>r = .tp [.ag (GJ (EP g a x y slot seq at_ of_ left).1),iA (EP g a x y slot seq at_ of_ left).2.1, .v (.int .i64 (EP g a x y slot seq at_ of_ left).2.2)]:=by
 have s2:=LO g x 0 slot hx hg (by rw [KO,hs];rfl)
 have s3:=LO g y 1 slot hy hg (by rw [KO,hs];rfl)
 unfold EP
 generalize DY g x 0 slot=p at s2 |-
 generalize DY g y 1 slot=q at s3 |-
 have i1:∀ r,p=some r->Fn Tryz.prog 276 [.ag (GJ r), .ag (Ed a), .v (.int .i64 seq), .v (.int .i64 at_), .v (.int .i64 of_), .v (.int .i64 left)] fun x=>x = .v (.bool (Eo p a seq at_ of_ left)):=by
  rintro r rfl;exact Sc r a seq at_ of_ left
 have i2:∀ r,q=some r->Fn Tryz.prog 276 [.ag (GJ r), .ag (Ed a), .v (.int .i64 seq), .v (.int .i64 at_), .v (.int .i64 of_), .v (.int .i64 left)] fun x=>x = .v (.bool (Eo q a seq at_ of_ left)):=by
  rintro r rfl;exact Sc r a seq at_ of_ left
 have n1:p=none->Eo p a seq at_ of_ left=false:=by rintro rfl;rfl
 have n2:q=none->Eo q a seq at_ of_ left=false:=by rintro rfl;rfl
 generalize Eo p a seq at_ of_ left=b1 at i1 n1 |-
 generalize Eo q a seq at_ of_ left=b2 at i2 n2 |-
 rcases p with _ | p <;> rcases q with _ | q <;> cases b1 <;> cases b2
 all_goals first
  | exact absurd (n1 rfl) (by decide)
  | exact absurd (n2 rfl) (by decide)
  | skip
 all_goals
  refine zT Tryz.func245 rfl ?_
  conv=>whnf
  repeat' (first | (refine zX ?_;conv=>whnf) | (refine A3 (fun _=>?_) (fun _=>?_) <;> conv=>whnf) | (refine z_ s2 ?_;conv=>whnf) | (refine z_ s3 ?_;conv=>whnf) | (refine z_ (i1 _ rfl) ?_;conv=>whnf) | (refine z_ (i2 _ rfl) ?_;conv=>whnf) | (refine Ae (by first | omega | exact of_decide_eq_true rfl) ?_;conv=>whnf) | fail)
  first
   | exact⟨_,fun c u h=>Vn 2 c u h,rfl⟩
   | exact⟨_,fun c u h=>Vn 3 c u h,rfl⟩
   | exact⟨_,fun c u h=>Xx _ c u h,rfl⟩
   | exact⟨_,fun c u h=>Xw _ _ c u h,rfl⟩
end
end Go.Proofs.YtkolckdakddggaaGreatDoor.A
namespace Go.Proofs.YtkolckdakddggaaGreatDoor
section

theorem L3 {l m:List UInt8} {n:Nat} (h:l.length=n):(l ++ m).take n=l:=by subst h;simp
theorem MD {l m:List UInt8} {n:Nat} (h:l.length=n):(l ++ m).drop n=m:=by subst h;simp
theorem He (a s:Int) (p:List UInt8):(EA a s p).length=p.length+7:=by
 simp only [EA,Ai,Al,leB_len]
theorem Ea (a s:Int) (p:List UInt8):(Bk a s p).length=p.length+11:=by
 simp only [Bk,Ai,He,leB_len]
theorem Kb {a s:Int} {p:List UInt8} (h:U6 a s p):C_ (Bk a s p)=0/\CR (Bk a s p)=a/\Ci (Bk a s p)=s/\Cv (Bk a s p)=p:=by
 obtain⟨h1,h2,h3,h4,h5⟩:=h
 have hl:=Ea a s p
 have hs:=It (EA a s p)
 have e1:Bk a s p=EA a s p ++ leB 4 (De (EA a s p)):=rfl
 have e2:Bk a s p=(UInt8.ofNat p.length::p) ++ (leB 2 a.toNat ++ (leB 4 s.toNat ++ leB 4 (De (EA a s p)))):=by rw [e1];simp only [EA,A5]
 have e3:Bk a s p=((UInt8.ofNat p.length::p) ++ leB 2 a.toNat) ++ (leB 4 s.toNat ++ leB 4 (De (EA a s p))):=by rw [e2,A5]
 have hpn:Cf (Bk a s p)=p.length:=by
  rw [e2]
  show (UInt8.ofNat p.length).toNat=p.length
  rw [BB]
  exact Nat.lt_of_le_of_lt h5 (by decide)
 refine⟨?_,?_,?_,?_⟩
 ·unfold C_
  rw [if_neg (by omega),if_neg,if_pos]
  ·refine⟨?_,by omega⟩
   simp only [Fx,decide_eq_true_eq]
   omega
  ·rw [hl,show p.length+11 - 4=p.length+7 by omega,e1,MD (He a s p),L3 (He a s p),leN_leB _ _ (by have:(256:Nat) ^ 4=4294967296:=rfl;omega)]
   simp
 ·unfold CR
  rw [hl,show p.length+11 - 10=p.length+1 by omega,e2,MD (by simp),L3 (leB_len 2 _),leN_leB _ _ (by have:(256:Nat) ^ 2=65536:=rfl;omega)]
  omega
 ·unfold Ci
  rw [hl,show p.length+11 - 8=p.length+3 by omega,e3,MD (by simp [leB_len]),L3 (leB_len 4 _),leN_leB _ _ (by have:(256:Nat) ^ 4=4294967296:=rfl;omega)]
  omega
 ·unfold Cv
  rw [hl,show p.length+11 - 11=p.length by omega,e2]
  simp
end
end Go.Proofs.YtkolckdakddggaaGreatDoor
namespace Go.Proofs.YtkolckdakddggaaGreatDoor.A
section
open Go.RowKit
def Km (x:Int) (n:Int):Int:=IntKind.i64.wrap ((IntKind.u64.wrap x).tmod n)
theorem FB {x n:Int} (h:0<n) (h2:n<=4611686018427387904):0<=Km x n/\Km x n<n:=by
 have h0:0<=IntKind.u64.wrap x:=by rw [IntKind.wrap_u64];omega
 have h1:=Bq n h0
 have h3:=Bb (IntKind.u64.wrap x) h
 unfold Km
 rw [wi (by omega)]
 exact⟨h1,h3⟩
def L8 (z d sp sl an:Int):Geo:=⟨1+Km z 4,1+Km d 4,Km sp 3,14+Km sl 17,1+Km an 3⟩
theorem UQ (z d sp sl an:Int):Bt (L8 z d sp sl an)=true:=by
 have h1:=FB (x:=z) (n:=4) (by decide) (by decide)
 have h2:=FB (x:=d) (n:=4) (by decide) (by decide)
 have h3:=FB (x:=sp) (n:=3) (by decide) (by decide)
 have h4:=FB (x:=sl) (n:=17) (by decide) (by decide)
 have h5:=FB (x:=an) (n:=3) (by decide) (by decide)
 refine As.2 ?_
 simp only [L8]
 omega
theorem Xm (z d sp sl an:Int):Fn Tryz.prog 21 [.v (.int .i64 z), .v (.int .i64 d), .v (.int .i64 sp), .v (.int .i64 sl), .v (.int .i64 an)] fun r=>r = .ag (AY (L8 z d sp sl an)):=by
 have h1:=FB (x:=z) (n:=4) (by decide) (by decide)
 have h2:=FB (x:=d) (n:=4) (by decide) (by decide)
 have h4:=FB (x:=sl) (n:=17) (by decide) (by decide)
 have h5:=FB (x:=an) (n:=3) (by decide) (by decide)
 refine zT Tryz.func21 rfl ?_
 conv=>whnf
 repeat' (refine Ae (by decide) ?_;conv=>whnf)
 refine⟨_,fun _ _ h=>h,?_⟩
 simp only [AY,L8]
 rw [<-wi (n:=1+Km z 4) (by omega),<-wi (n:=1+Km d 4) (by omega),<-wi (n:=14+Km sl 17) (by omega),<-wi (n:=1+Km an 3) (by omega)]
 rfl
def BZ (g:Geo) (s:ByteArray):An:=⟨1,0,0,1,0,s,List.replicate g.z.toNat ⟨(List.range (g.d+1).toNat).map Int.ofNat,g.d+1,0⟩⟩
def Hi (n:Nat):List (List AV):=(List.range n).map fun i=> [.v (.int .i64 (i:Nat))]
theorem KJ (n:Nat):Hi (n+1)=Hi n ++ [[.v (.int .i64 (n:Nat))]]:=by simp [Hi,B5]
theorem Re {n i:Nat} (h:i<n):(Hi n).getD i []=[.v (.int .i64 (i:Nat))]:=EJ h
def NC (g:Geo):List AV:= [.sl 1 (g.d+1).toNat fun i=>(Hi (g.d+1).toNat).getD i [], .v (.int .i64 (g.d+1)), .v (.int .i64 0)]
theorem TH (g:Geo):SubL (NC g) (DG ⟨(List.range (g.d+1).toNat).map Int.ofNat,g.d+1,0⟩):=
 ⟨fun _ _ h=>zE (by simp) (fun i hi=>by rw [Re hi,EJ hi];rfl) h,fun _ _ h=>h,fun _ _ h=>h,tv⟩
theorem Wv (g:Geo) (s:ByteArray) (hg:Bt g=true):Fn Tryz.prog 117 [.ag (AY g), .v (.string s)] fun r=>r = .ag (Ed (BZ g s)):=by
 obtain⟨h1,h2,h3,h4,h5⟩:=As.1 hg
 have w1:IntKind.i64.wrap (g.d+1)=g.d+1:=wi (by omega)
 refine zT Tryz.func117 rfl ?_
 conv=>whnf
 refine zP Nat (fun k=>([(2, .bp 0 0),(4, .bp 1 0),(5, .bp 2 0),(6, .v (.int .i64 k))], [.box 23 (AY g), .box 28 [.v (.int .i64 0), .v (.int .i64 0), .v (.int .i64 0), .v (.int .i64 0), .v (.int .i64 0), .v (.string ⟨#[]⟩), .v (.slice none 0 0)], .box 28 [.v (.int .i64 1), .v (.int .i64 0), .v (.int .i64 0), .v (.int .i64 1), .v (.int .i64 0), .v (.string s), .ow 3 k], .row 53 3 (List.replicate k (NC g))])) (fun k=>k<=g.z.toNat) (fun k=>g.z.toNat - k) 0 (Aj _) ⟨[(1002006,53,3)],⟨rfl,rfl,tv⟩,⟨rfl,rfl,rfl,rfl,tv⟩,⟨rfl,rfl,rfl,rfl,tv⟩,rfl,rfl,rfl⟩ ?_
 intro k hk
 conv=>whnf
 refine A3 (fun t1=>?_) (fun t1=>?_) <;> (repeat rw [Ac] at t1) <;> conv=>whnf
 ·refine zP Nat (fun j=>([(2, .bp 0 0),(4, .bp 1 0),(5, .bp 2 0),(6, .v (.int .i64 k)),(7, .bp 4 0),(8, .v (.int .i64 j))], [.box 23 (AY g), .box 28 [.v (.int .i64 0), .v (.int .i64 0), .v (.int .i64 0), .v (.int .i64 0), .v (.int .i64 0), .v (.string ⟨#[]⟩), .v (.slice none 0 0)], .box 28 [.v (.int .i64 1), .v (.int .i64 0), .v (.int .i64 0), .v (.int .i64 1), .v (.int .i64 0), .v (.string s), .ow 3 k], .row 53 3 (List.replicate k (NC g)), .box 53 [.ow 5 j, .v (.int .i64 (g.d+1)), .v (.int .i64 0)], .row 3 1 (Hi j)])) (fun j=>j<=(g.d+1).toNat) (fun j=>(g.d+1).toNat - j) 0 (Aj _) ⟨[(1004000,3,1)],⟨rfl,rfl,tv⟩,⟨rfl,rfl,rfl,rfl,rfl,rfl,tv⟩,⟨rfl,rfl,rfl,rfl,by rw [w1];rfl,rfl,tv⟩,rfl,rfl,rfl⟩ ?_
  intro j hj
  conv=>whnf
  refine A3 (fun t2=>?_) (fun t2=>?_) <;> (repeat rw [Ac] at t2) <;> conv=>whnf
  ·refine⟨rfl,?_⟩
   refine⟨⟨by simp [Hi],by omega⟩,?_⟩
   exact⟨j+1,by omega,by omega,(Wk.plain (by repeat' first | exact trivial | exact rfl | refine Ae ?_ ?_ | exact AS (by omega) | exact congrArg (AB.row _ _) (KJ j)) (by repeat' first | exact trivial | exact rfl | refine Ae ?_ ?_ | exact AS (by omega) | exact congrArg (AB.row _ _) (KJ j)) rfl rfl rfl)⟩
  ·have ej:j=(g.d+1).toNat:=by omega
   refine⟨(by simp [Hi]),?_⟩
   refine⟨rfl,?_⟩
   refine⟨⟨by simp,by omega⟩,?_⟩
   conv=>whnf
   have er:AB.row 53 3 (List.replicate (k+1) (NC g)) = .row 53 3 (List.replicate k (NC g) ++ [[AV.sl 1 j fun i=>(Hi j).getD i [], .v (.int .i64 (g.d+1)), .v (.int .i64 0)]]):=by
    rw [List.replicate_succ',NC,<-ej]
   exact⟨k+1,by omega,by omega,(Wk.plain (by repeat' first | exact trivial | exact rfl | refine Ae ?_ ?_ | exact AS (by omega) | exact er) (by repeat' first | exact trivial | exact rfl | refine Ae ?_ ?_ | exact AS (by omega) | exact er) rfl rfl rfl)⟩
 ·refine⟨by simp,?_⟩
  conv=>whnf
  have ek:k=g.z.toNat:=by omega
  refine⟨.ag (Ed (BZ g s)),fun c u h=>?_,rfl⟩
  refine Ba ?_ c u h
  refine⟨fun _ _ h=>h,fun _ _ h=>h,fun _ _ h=>h,fun _ _ h=>h,fun _ _ h=>h,fun _ _ h=>h,fun c u h=>Rd.sub (by simp [BZ,ek]) (fun i hi=>?_) h,tv⟩
  rw [BZ,Aa,Aa,Cn hi,Cn (by omega)]
  exact TH g
theorem No {g:Geo} {r:Rc} {copy slot:Int} (hg:Bt g=true) (hok:Fj g r=true) (hl:KO g copy slot=true):DY g ⟨0,DZ g r copy slot⟩ copy slot=some r:=by
 have hb:=JB hg hl
 have hs:=Sp hok
 have hn:=Fv hok
 obtain⟨h1,h2,h3,h4⟩:=Kb (a:=BX g copy slot) (s:=r.seq) (p:=Gv r) ⟨hb.1,hb.2,hs.1,hs.2,by omega⟩
 unfold DY
 rw [hg,hl]
 simp only [DZ,h1,h2,h3,h4,QY hok]
 rfl
theorem lab_nil:ET []=0:=by rw [<-N9,I_];simp
theorem NM {g:Geo} {s:ByteArray} (hg:Bt g=true) (hs:ET s.data.toList=0):Bg g (BZ g s)=true:=by
 obtain⟨h1,h2,h3,h4,h5⟩:=As.1 hg
 have hp:O1 ((List.range (g.d+1).toNat).map Int.ofNat) (g.d+1)=true:=by
  rcases(show g.d=1\/g.d=2\/g.d=3\/g.d=4 by omega) with h | h | h | h <;> rw [h] <;> decide
 have hh:DN g ⟨(List.range (g.d+1).toNat).map Int.ofNat,g.d+1,0⟩=true:=by
  simp [DN,hp,CJ]
  omega
 simp [Bg,BZ,hs,CJ]
 exact⟨by omega,by omega, .inr hh⟩
theorem RB (b:List UInt8) (h:b.length<=100000000000):Fn Tryz.prog 16 [bA b,bA b] fun x=>x = .v (.bool true):=by
 have:=Io b b h
 rw [decide_eq_true rfl] at this
 exact this
theorem YE {x y:Tx} (h1:x.seq=y.seq) (h2:x.pos=y.pos) (h3:x.n=y.n) (h4:x.images=y.images):x=y:=by
 cases x;cases y;simp_all
theorem Xg (l m:List Tx) (hl:l.length<=1000000000) (hb:∀ t∈l,t.images.length<=1000000000/\∀ x∈t.images,x.bytes.length<=100000000000):Fn Tryz.prog 52 [Di l,Di m] fun r=>r = .v (.bool (decide (l=m))):=by
 refine zT Tryz.func52 rfl ?_
 conv=>whnf
 refine A3 (fun h=>?_) (fun h=>?_) <;> (repeat rw [Ac] at h) <;> conv=>whnf
 ·exact⟨_,ri,by rw [decide_eq_false (fun e=>h (by rw [e]))]⟩
 refine zP Nat (fun k=>([(0,Di l),(1,Di m),(5, .v (.int .i64 k))], [])) (fun k=>k<=l.length/\l.take k=m.take k) (fun k=>l.length - k) 0 ⟨Aj _,by simp⟩ ⟨[],tv,⟨rfl,rfl,rfl,tv⟩,tv,rfl,rfl,rfl⟩ ?_
 rintro k ⟨hk,hI⟩
 conv=>whnf
 refine A3 (fun h2=>?_) (fun h2=>?_) <;> (repeat rw [Ac] at h2) <;> conv=>whnf
 ·have hm:=hb _ (A9 (d:=⟨0,0,0, []⟩) (show k<l.length by omega))
  refine zN tys_ok mixed (by kernel_rfl) ?_
  conv=>whnf
  repeat' (first | (refine zX ?_;conv=>whnf) | (refine A3 (fun _=>?_) (fun _=>?_) <;> conv=>whnf) | (refine z_ (TE (l.getD k ⟨0,0,0, []⟩).images (m.getD k ⟨0,0,0, []⟩).images hm.1 hm.2) ?_;conv=>whnf) | (refine Ae (by first | omega | exact of_decide_eq_true rfl) ?_;conv=>whnf) | fail)
  all_goals first
   | exact⟨_,ri,by rw [decide_eq_false (DV (fun e=>absurd (congrArg Tx.seq e) ‹_›))]⟩
   | exact⟨_,ri,by rw [decide_eq_false (DV (fun e=>absurd (congrArg Tx.pos e) ‹_›))]⟩
   | exact⟨_,ri,by rw [decide_eq_false (DV (fun e=>absurd (congrArg Tx.n e) ‹_›))]⟩
   | exact⟨_,ri,by rw [decide_eq_false (DV (fun e=>absurd (congrArg Tx.images e) ‹_›))]⟩
   | exact⟨k+1,⟨by omega,EV hI (by omega) (by omega) (YE ‹_› ‹_› ‹_› ‹_›)⟩,by omega,⟨[],tv,⟨rfl,rfl,AS (by omega),tv⟩,tv,rfl,rfl,rfl⟩⟩
 ·exact⟨_,ri,by rw [decide_eq_true (Gq hI (by omega) (by omega))]⟩


end
end Go.Proofs.YtkolckdakddggaaGreatDoor.A
namespace Go.Proofs.YtkolckdakddggaaGreatDoor
section
open Go.ChangeShapes Go.WideShapes Go.ChangeAt Go.RowKit Go.Deep
variable {H:Type} {enc:TypeId × Value->H}

theorem SN {w:World} {a:Addr} {u:Value} (h:w.cell? a=some u):a.spot=none:=by
 unfold World.cell? at h
 split at h
 ·split at h
  ·cases h
  ·rename_i hn
   cases hs:a.spot with
   | none=>rfl
   | some x=>rw [hs] at hn;exact absurd rfl hn
 ·cases h

theorem XV {k:Int} (h:(Lit.int .i64 k).wf=true):k<=9223372036854775807:=by
 have h2:IntKind.i64.min<=k/\k<=IntKind.i64.max:=by
  simp only [Lit.wf,Ad,decide_eq_true_eq] at h
  exact h
 have e2:IntKind.i64.max=9223372036854775807:=by decide
 omega
theorem XU {k:Int} (h:(Lit.int .i64 k).wf=true) : -9223372036854775808<=k:=by
 have h2:IntKind.i64.min<=k/\k<=IntKind.i64.max:=by
  simp only [Lit.wf,Ad,decide_eq_true_eq] at h
  exact h
 have e2:IntKind.i64.min = -9223372036854775808:=by decide
 omega
instance:Rp Geo where
 sz:=5
 agg:=true
 pos:=by omega
 E:=fun _ _ cs g=>cs=[.int .i64 g.z, .int .i64 g.d, .int .i64 g.sp, .int .i64 g.sl, .int .i64 g.an]
 len:=fun h=>by rw [h];rfl
 one:=fun h u hu=>by rw [h] at hu;simp at hu;rcases hu with rfl | rfl | rfl | rfl | rfl <;> rfl
 mono:=fun _ h=>h
end
end Go.Proofs.YtkolckdakddggaaGreatDoor
namespace Go.Proofs.YtkolckdakddggaaGreatDoor.A
section
open Go.RowKit
def Lf (w:World):Ctx:={ w:=w,M:=noM,base:=w.heap.size,dom:=0,len:=fun _=>0,rho:=fun _=>undef }
theorem Fn.any {P:Program} {f:FuncId} {args:List AV} {a:AV} (h:Fn P f args fun r=>r=a) (w:World) (hg:globOk w) (us:List Value) (hr:RdL args (Lf w) us) :
  Calls P f us.toArray w fun e w'=>∃ v,e = .returned v/\Below w.heap.size w w'/\Rd a { Lf w with w:=w' } v:=by
 refine(h.calls (Lf w) us rfl (fun _ h=>h.elim) hg hr).mono ?_
 rintro e w' ⟨v,r,rfl,rfl,h1,h2⟩
 exact⟨v,rfl,h1,h2⟩
theorem Fn.anyV {P:Program} {f:FuncId} {args:List AV} {a:Value} (h:Fn P f args fun r=>r = .v a) (w:World) (hg:globOk w) (us:List Value) (hr:RdL args (Lf w) us) :
  Calls P f us.toArray w fun e w'=>e = .returned a/\Below w.heap.size w w':=by
 refine(h.any w hg us hr).mono ?_
 rintro e w' ⟨v,rfl,h1,h2⟩
 simp only [Rd] at h2
 exact⟨by rw [h2],h1⟩
end
section
open Go.RowKit Go.ChangeShapes Go.WideShapes Go.ChangeAt Go.Deep
open Go.ChangeMaps (open_string)

section
variable {H:Type} {enc:TypeId × Value->H} {w:World}
def OpenE (enc:TypeId × Value->H) (w:World) (t:TypeId) (sz:Nat) (G:List AV->Prop):Prop:=
 Tryz.prog.cellsOf t=sz/\∀ n cs x,DataW.trod enc Tryz.prog w 0 (fun _=>true) true n t cs=some x->∃ L,G L/\RdL L (Lf w) cs/\(∀ u∈cs,u.oneCell'=true)/\L.length=sz
theorem OpenE.mono {t sz:Nat} {G G':List AV->Prop} (h:OpenE enc w t sz G) (hg:∀ L,G L->G' L):OpenE enc w t sz G':=
 ⟨h.1,fun n cs x hx=>let ⟨L,h1,h2⟩:=h.2 n cs x hx;⟨L,hg L h1,h2⟩⟩
def Zl (L:List AV):Prop:=∃ k:Int,L=[.v (.int .i64 k)]/\ -9223372036854775808<=k/\k<=9223372036854775807
theorem YZ {t:Nat} (ht:Tryz.prog.underlying t=some (.int .i64)) (hc:Tryz.prog.cellsOf t=1):OpenE enc w t 1 Zl:=⟨hc,fun n cs x h=>by
 obtain⟨k,rfl, -,hw⟩:=DataW.trod_int ht h
 exact⟨_,⟨k,rfl,XU hw,XV hw⟩,by simp only [RdL,Rd];exact⟨_,_,rfl,rfl,rfl⟩,by simp [Value.oneCell'],rfl⟩⟩
def aJ {α:Type} (sz:Nat) (f:α->List AV) (d:α) (L:List AV):Prop:=∃ l:List α,L=[.sl sz l.length fun i=>f (l.getD i d)]
theorem ZF {α:Type} {t e sz:Nat} {f:α->List AV} {d:α} (ht:Tryz.prog.underlying t=some (.slice e)) (hc:Tryz.prog.cellsOf t=1) (hsz:0<sz) (he:OpenE enc w e sz fun L=>∃ a,L=f a):OpenE enc w t 1 (aJ sz f d):=⟨hc,fun n cs x h=>by
 have hnil:∀ (u:Value),Rd (.v (.slice none 0 0)) (Lf w) u->Rd (.sl sz ([]:List α).length fun i=>f (([]:List α).getD i d)) (Lf w) u:=fun u h=>by
  simp only [Rd] at h |-
  exact⟨none,0,h,by simp,by simp [maxLen], .inl rfl⟩
 rcases open_slice ht h with ⟨rfl, -⟩ | ⟨a,len,cap,m,n',D,Pl,rfl, -,hlc,hcm,hm, -,hel'⟩
 ·exact⟨_,⟨[],rfl⟩,by simp only [RdL];exact⟨_,_,rfl,hnil _ (by simp [Rd]),rfl⟩,by simp [Value.oneCell'],rfl⟩
 ·simp only [if_true] at hm
  subst hm
  obtain⟨b,off,spot⟩:=a
  by_cases h0:len=0
  ·subst h0
   refine⟨_,⟨[],rfl⟩,?_,by simp [Value.oneCell'],rfl⟩
   simp only [RdL,Rd]
   exact⟨_,_,rfl,⟨_,m,rfl,by simp,hcm, .inl rfl⟩,rfl⟩
  ·have hsp:spot=none:=by
    obtain⟨cs',hc',htr⟩:=hel' 0 (by omega)
    obtain⟨L,⟨a,rfl⟩,hR,h1,hl⟩:=he.2 n' cs' _ htr
    obtain⟨-,hl2,hcell⟩:=World.cells?_some hc'
    have hlen:=hR.length
    have:=hcell 0 (by rw [he.1];omega)
    rw [Af (by omega)] at this
    simp only [Addr.add,Nat.zero_mul,if_true] at this
    exact SN this
   subst hsp
   have key:∀ i,i<len->∃ cs,∃ a:α,RdL (f a) (Lf w) cs/\(∀ u∈cs,u.oneCell'=true)/\(f a).length=sz/\∀ j u,cs[j]? = some u->w.cell? ⟨b,off+(i*sz+j),none⟩=some u:=fun i hi=>by
    obtain⟨cs',hc',htr⟩:=hel' i (by omega)
    obtain⟨L,⟨a,rfl⟩,hR,h1,hl⟩:=he.2 n' cs' _ htr
    refine⟨cs',a,hR,h1,hl,fun j u hu=>?_⟩
    obtain⟨-,hl2,hcell⟩:=World.cells?_some hc'
    have hj:j<Tryz.prog.cellsOf e:=by rw [<-hl2];exact(Aq.1 hu).1
    have h3:=(hcell j hj).trans hu
    rw [he.1,Addr.add_lit,Addr.add_lit,C7] at h3
    exact h3
   have hex:∀ k,k<=len->∃ l:List α,l.length=k/\∀ i,i<k->(f (l.getD i d)).length=sz/\RdAt (f (l.getD i d)) (Lf w) b (off+i*sz):=by
    intro k
    induction k with
    | zero=>exact fun _=>⟨[],rfl,fun i hi=>absurd hi (Ap i)⟩
    | succ k ih=>
     intro hk
     obtain⟨l,hl,hr⟩:=ih (by omega)
     obtain⟨cs',a,hR,h1,hla,h2⟩:=key k (by omega)
     refine⟨l ++ [a],by simp [hl],fun i hi=>?_⟩
     by_cases hik:i<k
     ·have e:(l ++ [a]).getD i d=l.getD i d:=by rw [Aa,Aa,AC (by omega)]
      rw [e]
      exact hr i hik
     ·have e2:i=k:=by omega
      subst e2
      have e:(l ++ [a]).getD i d=a:=by rw [Aa,AH (by omega),hl];simp
      rw [e]
      refine⟨hla,RdAt.of hR h1 fun j u hu=>?_⟩
      have:=h2 j u hu
      rw [C7]
      exact this
   obtain⟨l,hl,hr⟩:=hex len (Ah _)
   refine⟨_,⟨l,rfl⟩,?_,by simp [Value.oneCell'],rfl⟩
   simp only [RdL,Rd]
   refine⟨_,_,rfl,⟨_,m,by rw [hl],by omega,hcm, .inr ⟨b,off,rfl,fun h=>h,?_,fun i hi=>hr i (by omega)⟩⟩,rfl⟩
   obtain⟨cs',a,hR,h1,hla,h2⟩:=key 0 (by omega)
   have hlen:=hR.length
   have h3:=h2 0 cs'[0] (Af (by omega))
   exact World.block_lt_of_cell? _ _ h3⟩
def catG:List (List AV->Prop)->List AV->Prop
 | [],L=>L=[]
 | G::r,L=>∃ A B,L=A ++ B/\G A/\catG r B
structure FieldE (enc:TypeId × Value->H) (w:World) where
 t:TypeId
 sz:Nat
 G:List AV->Prop
 ok:OpenE enc w t sz G
theorem Kl {n:Nat} {cs:List Value}:∀ (fs:List (FieldE enc w)) (off:Nat),off+(fs.map (·.sz)).sum=cs.length->
  (∀ i f,fs[i]? = some f->∃ x,DataW.trod enc Tryz.prog w 0 (fun _=>true) true n f.t ((cs.drop (off+((fs.take i).map (·.sz)).sum)).take f.sz)=some x)->
  ∃ L,catG (fs.map (·.G)) L/\RdL L (Lf w) (cs.drop off)/\(∀ u∈cs.drop off,u.oneCell'=true)/\L.length=(fs.map (·.sz)).sum
 | [],off,hl,_=>⟨[],rfl,by simp only [RdL];exact A8 (by simp at hl;omega),by rw [A8 (by simp at hl;omega)];simp,rfl⟩
 | f::r,off,hl,h=>by
  simp only [A0,List.sum_cons] at hl |-
  obtain⟨x,hx⟩:=h 0 f rfl
  simp only [List.take_zero,Bp,List.sum_nil,CS] at hx
  obtain⟨A,hA,hRA,h1A,hlA⟩:=f.ok.2 _ _ _ hx
  obtain⟨B,hB,hRB,h1B,hlB⟩:=Kl (cs:=cs) r (off+f.sz) (by omega) (fun i g hg=>by
   obtain⟨y,hy⟩:=h (i+1) g (by simpa using hg)
   refine⟨y,?_⟩
   simp only [CC,A0,List.sum_cons] at hy
   rw [C7]
   exact hy)
  have e:cs.drop off=(cs.drop off).take f.sz ++ cs.drop (off+f.sz):=by rw [<-AP,B3]
  refine⟨A ++ B,⟨A,B,rfl,hA,hB⟩,?_,?_,by simp [hlA,hlB]⟩
  ·rw [e];exact hRA.append hRB
  ·intro u hu
   rw [e,A6] at hu
   exact hu.elim (h1A u) (h1B u)
theorem Tu {t:Nat} (fs:List (FieldE enc w)) {F:Array Field} (ht:Tryz.prog.underlying t=some (.struct F)) (hc:Tryz.prog.cellsOf t=(fs.map (·.sz)).sum)
  (hF:F.toList.map (fun f=>(f.type,f.offset))=fs.zipIdx.map fun p=>(p.1.t,((fs.take p.2).map (·.sz)).sum)):OpenE enc w t (fs.map (·.sz)).sum (catG (fs.map (·.G))):=⟨hc,fun n cs x h=>by
 obtain⟨xs,n',_,rfl,hl,hlen,hf⟩:=DataW.trod_struct ht h
 have hsz:F.size=fs.length:=by have:=congrArg List.length hF;simpa using this
 obtain⟨L,h1,h2,h3,h4⟩:=Kl (n:=n') (cs:=cs) fs 0 (by rw [hl,hc];omega) (fun i f hi=>by
  have hi':i<fs.length:=(Aq.1 hi).1
  have hFi:F[i]? = some F[i]:=CK (by omega)
  have hx:=hf i F[i] hFi
  have he:(F[i].type,F[i].offset)=(f.t,((fs.take i).map (·.sz)).sum):=by
   have:=congrArg (fun l=>l[i]?) hF
   simp only [Be,List.getElem?_zipIdx,hi,Array.getElem?_toList,hFi,Option.map_some,Az,Option.some.injEq] at this
   exact this
  injection he with e1 e2
  rw [e1,e2,f.ok.1] at hx
  rw [Af (by omega)] at hx
  rw [Az]
  exact⟨_,hx⟩)
 exact⟨L,h1,by simpa using h2,by simpa using h3,h4⟩⟩
end
section
variable {H:Type} {enc:TypeId × Value->H} {w:World}
theorem oI:OpenE enc w 3 1 Zl:=YZ Tryz.underlying3 (by kernel_rfl)
def fI:FieldE enc w:=⟨_,_,_,oI⟩
theorem oGeo:OpenE enc w 23 5 fun L=>∃ x,L=AY x:=
 (Tu [fI,fI,fI,fI,fI] Tryz.underlying23 (by kernel_rfl) (by kernel_rfl)).mono fun L h=>by
  obtain⟨_,_,rfl,⟨a,rfl,_⟩,_,_,rfl,⟨b,rfl,_⟩,_,_,rfl,⟨c,rfl,_⟩,_,_,rfl,⟨d,rfl,_⟩,_,_,rfl,⟨e,rfl,_⟩,rfl⟩:=h
  exact⟨⟨a,b,c,d,e⟩,rfl⟩
def ZW (l:List Int):List AV:=l.map fun k=> .v (.int .i64 k)
theorem cat_ints:∀ (n:Nat) {L:List AV},catG (List.replicate n Zl) L->∃ l:List Int,l.length=n/\L=ZW l/\∀ k∈l, -9223372036854775808<=k/\k<=9223372036854775807
 | 0,L,h=>⟨[],rfl,h,by simp⟩
 | n+1,L,h=>by
  obtain⟨A,B,rfl,⟨k,rfl,hk⟩,hB⟩:=h
  obtain⟨l,h1,rfl,h2⟩:=cat_ints n hB
  refine⟨k::l,by simp [h1],rfl,fun x hx=>?_⟩
  rcases AQ.1 hx with rfl | hx
  ·exact hk
  ·exact h2 x hx
theorem Y_ {t n:Nat} (ht:Tryz.prog.underlying t=some (.array n 3)) (hc:Tryz.prog.cellsOf t=n):OpenE enc w t n fun L=>∃ l:List Int,l.length=n/\L=ZW l/\∀ k∈l, -9223372036854775808<=k/\k<=9223372036854775807:=⟨hc,fun m cs x h=>by
 obtain⟨xs,m',_,rfl,hl,hlen,hel⟩:=DataW.trod_array ht h
 have hs:((List.replicate n (fI:FieldE enc w)).map (·.sz)).sum=n:=by
  rw [List.map_replicate,List.sum_replicate_nat]
  exact Nat.mul_one n
 obtain⟨L,h1,h2,h3,h4⟩:=Kl (n:=m') (cs:=cs) (List.replicate n (fI:FieldE enc w)) 0 (by rw [hl,hc,hs];omega) (fun i f hi=>by
  have hin:i<n:=by simpa using (Aq.1 hi).1
  rw [Cn hin] at hi
  have hi:=(Option.some.inj hi).symm
  subst hi
  have:=hel i hin
  rw [(oI (enc:=enc) (w:=w)).1,Af (by omega)] at this
  refine⟨_,Eq.trans ?_ this⟩
  have e:((List.take i (List.replicate n (fI:FieldE enc w))).map (·.sz)).sum=i*1:=by
   rw [List.take_replicate,List.map_replicate,List.sum_replicate_nat,D0 (by omega)]
   rfl
  rw [e,Az]
  rfl)
 rw [List.map_replicate] at h1
 obtain⟨l,q1,q2,q3⟩:=cat_ints n h1
 exact⟨L,⟨l,q1,q2,q3⟩,by simpa using h2,by simpa using h3,by rw [h4,hs]⟩⟩

theorem Yp {t:Nat} {G:List AV->Prop} {v:Value} {d:DataW H} {ps:List MemPlace} (ho:OpenE enc w t 1 G) (hv:v.cells.toList=[v]) (h:DataW.Trod enc Tryz.prog w 0 (fun _=>true) true t v d ps):∃ L,G L/\RdL L (Lf w) [v]:=by
 obtain⟨n,hn⟩:=h
 obtain⟨L,h1,h2,_⟩:=ho.2 n _ _ hn
 rw [hv] at h2
 exact⟨L,h1,h2⟩
theorem Yq {t sz:Nat} {G:List AV->Prop} {cs:Array Value} {d:DataW H} {ps:List MemPlace} (ho:OpenE enc w t sz G) (h:DataW.Trod enc Tryz.prog w 0 (fun _=>true) true t (.agg cs) d ps):∃ L,G L/\Rd (.ag L) (Lf w) (.agg cs):=by
 obtain⟨n,hn⟩:=h
 obtain⟨L,h1,h2,_⟩:=ho.2 n _ _ hn
 refine⟨L,h1,?_⟩
 simp only [Rd]
 exact⟨cs.toList,rfl,h2⟩
theorem XA {a:AV} {c:Ctx} {v:Value} (h:RdL [a] c [v]):Rd a c v:=by
 simp only [RdL] at h
 obtain⟨y,ys,e,h1,_⟩:=h
 injection e with e _
 subst e
 exact h1
end
end
section
open Go.RowKit
theorem QH {g:Geo} {x:Gt} {copy slot:Int} (h:(Bt g&&KO g copy slot)=false):DY g x copy slot=none:=by
 unfold DY
 rw [h]
 rfl
theorem LG {g:Geo} {x:Gt} {copy slot:Int} {r:Rc} (h:DY g x copy slot=some r):Fj g r=true/\KO g copy slot=true/\r.img.bytes.length<=59:=by
 unfold DY at h
 split at h
 ·rename_i hc
  simp only [Ad] at hc
  split at h
  ·rename_i r' hr
   split at h
   ·injection h with h
    subst h
    obtain⟨h1,h2⟩:=QX hr
    have h3:=Fv h1
    have h4:=J3 h1
    refine⟨h1,hc.1.1.1.2,?_⟩
    by_cases hk:r'.kind=1
    ·rw [if_pos hk] at h4
     omega
    ·have:r'.img.bytes.length=0:=by
      unfold Fj G4 at h1
      simp only [Ad] at h1
      have h5:=h1.2
      split at h5
      ·simp only [GP,Ad,beq_iff_eq] at h5
       omega
      ·split at h5
       ·simp only [GP,Ad,beq_iff_eq] at h5
        omega
       ·cases h5
     omega
   ·cases h
  ·cases h
 ·cases h
theorem PM {p q:Option Rc} {b1 b2:Bool} {Q:Rc->Prop} (h1:b1=true->∃ r,p=some r/\Q r) (h2:b2=true->∃ r,q=some r/\Q r) :
  ((C6 p q b1 b2).2.2=1/\Q (C6 p q b1 b2).1/\(C6 p q b1 b2).2.1.length<=1/\∀ c∈(C6 p q b1 b2).2.1,c=0\/c=1)\/(((C6 p q b1 b2).2.2=2\/(C6 p q b1 b2).2.2=3)/\(C6 p q b1 b2).2.1=[]/\(C6 p q b1 b2).1=zeroC):=by
 unfold C6
 cases b1 <;> cases b2
 ·by_cases h:(p.isSome || q.isSome)=true
  ·simp [h]
  ·simp [h]
 ·obtain⟨r,rfl,hr⟩:=h2 rfl
  exact .inl ⟨rfl,hr,by simp,by simp⟩
 ·obtain⟨r,rfl,hr⟩:=h1 rfl
  exact .inl ⟨rfl,hr,by simp,by simp⟩
 ·obtain⟨r,rfl,hr⟩:=h1 rfl
  exact .inl ⟨rfl,hr,by simp,by simp⟩
theorem PD {g:Geo} {a:An} {x:Gt} {c slot seq at_ of_ left:Int} (h:Eo (DY g x c slot) a seq at_ of_ left=true):∃ r,DY g x c slot=some r/\Fj g r=true/\r.img.bytes.length<=59/\Dx r a seq at_ of_ left=true:=by
 cases hp:DY g x c slot with
 | none=>rw [hp] at h;cases h
 | some r=>
  rw [hp] at h
  obtain⟨e1, -,e3⟩:=LG hp
  exact⟨r,rfl,e1,e3,h⟩
theorem KP {g:Geo} {a:An} {x y:Gt} {slot seq at_ of_ left:Int} (hs:0<=slot/\slot<g.sl) :
  ((EP g a x y slot seq at_ of_ left).2.2=1/\(Fj g (EP g a x y slot seq at_ of_ left).1=true/\(EP g a x y slot seq at_ of_ left).1.img.bytes.length<=59/\Dx (EP g a x y slot seq at_ of_ left).1 a seq at_ of_ left=true)/\(EP g a x y slot seq at_ of_ left).2.1.length<=1/\∀ c∈(EP g a x y slot seq at_ of_ left).2.1,KO g c slot=true)\/
  (((EP g a x y slot seq at_ of_ left).2.2=2\/(EP g a x y slot seq at_ of_ left).2.2=3)/\(EP g a x y slot seq at_ of_ left).2.1=[]/\(EP g a x y slot seq at_ of_ left).1=zeroC):=by
 have hi:CJ slot 0 (g.sl - 1)=true:=AL.2 (by omega)
 have o0:KO g 0 slot=true:=by rw [KO,hi];rfl
 have o1:KO g 1 slot=true:=by rw [KO,hi];rfl
 refine(PM (Q:=fun r=>Fj g r=true/\r.img.bytes.length<=59/\Dx r a seq at_ of_ left=true) PD PD).imp (fun h=>⟨h.1,h.2.1,h.2.2.1,fun c hc=>?_⟩) id
 rcases h.2.2.2 c hc with rfl | rfl
 ·exact o0
 ·exact o1
def gz:Gt:=⟨0, []⟩
def DO (g:Geo) (pos at_:Int):Int:=(IntKind.i64.wrap (pos+at_)).tmod g.sl
def DJ (g:Geo) (a:An) (x y:List Gt) (pos seq left at_ of_:Int):Rc × Int × List Wr:=
 let s:=DO g pos at_
 let q:=EP g a (x.getD s.toNat gz) (y.getD s.toNat gz) s seq at_ of_ left
 (q.1,q.2.2,q.2.1.map fun c=>⟨BX g c s,DZ g q.1 c s⟩)
def BD (look:Int->Rc × Int × List Wr):Nat->Int->Rc->List Img->List Wr->Int × List Img × List Wr
 | 0,_,r,im,w=>(1,if r.kind=1 then im ++ [r.img] else im,w)
 | f+1,at_,r,im,w=>
  let q:=look at_
  if q.2.1≠1 then (q.2.1, [], []) else BD look f (at_+1) q.1 (if r.kind=1 then im ++ [r.img] else im) (w ++ q.2.2)
def Gu (g:Geo) (a:An) (x y:List Gt) (pos seq left:Int):Int × Int × List Img × List Wr:=
 let q:=DJ g a x y pos seq left 0 0
 if q.2.1≠1 then (q.2.1,0, [], []) else
  let t:=BD (fun k=>DJ g a x y pos seq left k q.1.of_) (q.1.of_ - 1).toNat 1 q.1 [] q.2.2
  if t.1≠1 then (t.1,0, [], []) else (1,q.1.of_,t.2.1,t.2.2)
def Fb (g:Geo) (a:An) (x y:List Gt):Nat->Int->Int->Int->List Tx->List Wr->Option (List Tx × List Wr × Int)
 | 0,_,seq,_,l,w=>some (l,w,seq)
 | f+1,pos,seq,left,l,w=>
  if 0<left/\seq<=4294967295 then
   let t:=Gu g a x y pos seq left
   if t.1=3 then none else if t.1≠1 then some (l,w,seq)
   else Fb g a x y f ((pos+t.2.1).tmod g.sl) (seq+1) (left - t.2.1) (l ++ [⟨seq,pos,t.2.1,t.2.2.1⟩]) (w ++ t.2.2.2)
  else some (l,w,seq)
def damaged:Int:=12
def TU (a:An):Option (List Tx × List Wr × Int)->List Tx × List Wr × Int
 | none=>([], [],damaged)
 | some (l,w,seq)=>if seq - 1<a.last then ([], [],damaged) else (l,w,0)
theorem Im {a:An} {l:List Tx} {w:List Wr} {seq:Int} (h:seq - 1<a.last):TU a (some (l,w,seq))=([], [],damaged):=if_pos h
theorem FM {a:An} {l:List Tx} {w:List Wr} {seq:Int} (h:¬seq - 1<a.last):TU a (some (l,w,seq))=(l,w,0):=if_neg h
def Ej (g:Geo) (a:An) (x y:List Gt):List Tx × List Wr × Int:=TU a (Fb g a x y g.sl.toNat a.pos a.seq g.sl [] [])
theorem L9 {g:Geo} {pos at_:Int} (hg:Bt g=true) (hp:0<=pos/\pos<g.sl) (hat:0<=at_/\at_<=1000):0<=DO g pos at_/\DO g pos at_<g.sl:=by
 obtain⟨h1,h2,h3,h4,h5⟩:=As.1 hg
 have hw:IntKind.i64.wrap (pos+at_)=pos+at_:=by rw [IntKind.wrap_i64];omega
 exact⟨Bq _ (by rw [hw];omega),Bb _ (by omega)⟩
theorem Hh {g:Geo} {a:An} {x y:List Gt} {pos seq left at_ of_:Int} (hg:Bt g=true) (hp:0<=pos/\pos<g.sl) (hat:0<=at_/\at_<=1000) :
  ((DJ g a x y pos seq left at_ of_).2.1=1/\(Fj g (DJ g a x y pos seq left at_ of_).1=true/\(DJ g a x y pos seq left at_ of_).1.img.bytes.length<=59/\Dx (DJ g a x y pos seq left at_ of_).1 a seq at_ of_ left=true)/\(DJ g a x y pos seq left at_ of_).2.2.length<=1)\/
  (((DJ g a x y pos seq left at_ of_).2.1=2\/(DJ g a x y pos seq left at_ of_).2.1=3)/\(DJ g a x y pos seq left at_ of_).2.2=[]/\(DJ g a x y pos seq left at_ of_).1=zeroC):=by
 refine(KP (a:=a) (x:=x.getD (DO g pos at_).toNat gz) (y:=y.getD (DO g pos at_).toNat gz) (seq:=seq) (at_:=at_) (of_:=of_) (left:=left) (L9 hg hp hat)).imp (fun h=>⟨h.1,h.2.1,?_⟩) (fun h=>⟨h.1,?_,h.2.2⟩)
 ·simp only [DJ,Ab]
  exact h.2.2.1
 ·simp only [DJ,h.2.1,Bp]
theorem Kk {r:Rc} {g:Geo} {a:An} {seq at_ of_ left:Int} (hk:Fj g r=true) (h:Dx r a seq at_ of_ left=true):2<=r.of_/\r.of_<=30/\r.at_=at_/\r.at_<=r.of_ - 1/\(of_=0->r.of_<=left)/\(of_≠0->r.of_=of_):=by
 have h:=of_decide_eq_true h
 unfold Fj G4 at hk
 simp only [Ad] at hk
 have h2:=hk.2
 rw [if_neg h.1] at h2
 split at h2
 ·simp only [FQ,Ad,AL] at h2
  refine⟨by omega,by omega,h.2.2.1,by omega,h.2.2.2.1,h.2.2.2.2.1⟩
 ·split at h2
  ·simp only [FQ,Ad,AL,beq_iff_eq] at h2
   refine⟨by omega,by omega,h.2.2.1,by omega,h.2.2.2.1,h.2.2.2.2.1⟩
  ·cases h2
@[reducible] def aN (g:Geo) (a:An) (x y:List Gt) (pos seq left:Int) (w:AV):List AV:=
 [.v (.int .i64 g.z), .v (.int .i64 g.d), .v (.int .i64 g.sp), .v (.int .i64 g.sl), .v (.int .i64 g.an), .v (.int .i64 a.gen), .v (.int .i64 a.epoch), .v (.int .i64 a.pos), .v (.int .i64 a.seq), .v (.int .i64 a.last), .v (.string a.label),I8 a.homes,Gm x,Gm y, .v (.int .i64 pos), .v (.int .i64 seq), .v (.int .i64 left),w]
theorem Rs (seq epoch of_:Int) {k:Nat} {l:List Img} (hk:k<l.length):(Ja seq epoch of_ (k+1) l).map GJ=(Ja seq epoch of_ k l).map GJ ++ [GJ ⟨1,seq,epoch,(k:Nat),of_,l.getD k ⟨0,0, []⟩⟩]:=by
 rw [TB seq epoch of_ hk,AF,Aa,Af hk];rfl

def VQ (seq epoch n:Int):List AV:= [.v (.int .i64 2), .v (.int .i64 seq), .v (.int .i64 epoch), .v (.int .i64 n), .v (.int .i64 (n+1)), .v (.int .i64 0), .v (.int .i64 0), .v (.slice none 0 0)]
theorem Vy (seq epoch:Int) (l:List Img) (i:Nat) (hi:i<l.length+1) :
  SubL ((List.map GJ (Ja seq epoch (l.length+1) l.length l) ++ [VQ seq epoch l.length]).getD i [])
   (GJ ((FO seq epoch l).getD i ⟨0,0,0,0,0,⟨0,0, []⟩⟩)):=by
 have hlk:(Ja seq epoch (l.length+1) l.length l).length=l.length:=by rw [JF];omega
 rcases Ca i l.length with h | h
 ·have e1:(List.map GJ (Ja seq epoch (l.length+1) l.length l) ++ [VQ seq epoch l.length]).getD i []=GJ ((FO seq epoch l).getD i ⟨0,0,0,0,0,⟨0,0, []⟩⟩):=by
   unfold FO
   rw [JJ (by rw [Ab,hlk];exact h),JJ (by rw [hlk];exact h)]
   exact Bn (by rw [hlk];exact h)
  rw [e1]
  exact SubL.refl _
 ·obtain rfl:i=l.length:=by omega
  unfold FO
  rw [I0 (by rw [Ab,hlk];omega),I0 (by rw [hlk];omega),Ab,hlk,D7]
  simp only [List.getD_cons_zero,GJ,noImg,VQ]
  exact⟨fun _ _ h=>h,fun _ _ h=>h,fun _ _ h=>h,fun _ _ h=>h,fun _ _ h=>h,fun _ _ h=>h,fun _ _ h=>h,Br _ _,tv⟩
theorem LN (seq epoch:Int) (l:List Img):(FO seq epoch l).length=l.length+1:=by
 unfold FO;rw [Ai,JF];simp
theorem QV (seq epoch:Int) (l:List Img) (hl:l.length<=1000000) (hb:∀ x∈l,x.bytes.length<=1000000000):Fn Tryz.prog 71 [.v (.int .i64 seq), .v (.int .i64 epoch),Eg l] fun r=>r=Vz (FO seq epoch l):=by
 refine zT Tryz.func71 rfl ?_
 conv=>whnf
 refine zP Nat (fun k=>([(0, .v (.int .i64 seq)),(1, .v (.int .i64 epoch)),(2,Eg l),(7, .ow 0 k),(8, .v (.int .i64 k))], [.row 152 8 ((Ja seq epoch (l.length+1) k l).map GJ)])) (fun k=>k<=l.length) (fun k=>l.length - k) 0 (Aj _) ⟨[(7,152,8)],⟨rfl,rfl,tv⟩,⟨rfl,rfl,rfl,rfl,rfl,tv⟩,⟨rfl,tv⟩,rfl,rfl,rfl⟩ ?_
 rintro k hk
 have hlk:=JF seq epoch (l.length+1) k l
 conv=>whnf
 refine Ao (fun h2=>?_) (fun h2=>?_) <;> simp at h2 <;> conv=>whnf
 ·refine zN tys_ok mixed (by kernel_rfl) ?_
  conv=>whnf
  refine⟨by first | omega | (refine⟨rfl,?_,?_⟩ <;> first | omega | (simp only [Ab];done) | (simp only [Ab];omega)) | (simp only [Ab];omega),?_⟩
  conv=>whnf
  refine⟨by first | omega | (refine⟨rfl,?_,?_⟩ <;> first | omega | (simp only [Ab];done) | (simp only [Ab];omega)) | (simp only [Ab];omega),?_⟩
  conv=>whnf
  refine⟨by first | omega | (refine⟨rfl,?_,?_⟩ <;> first | omega | (simp only [Ab];done) | (simp only [Ab];omega)) | (simp only [Ab];omega),?_⟩
  conv=>whnf
  refine zI (Ee (l.getD k ⟨0,0, []⟩).bytes (hb _ (A9 h2))) rfl ?_
  rintro _ rfl
  refine⟨rfl,?_⟩
  conv=>whnf
  refine⟨⟨by rw [Ab,hlk];omega,by omega⟩,?_⟩
  refine⟨k+1,by omega,by omega, [],tv,⟨rfl,rfl,rfl,rfl,AS (by omega),tv⟩,⟨ZC ?_,tv⟩,rfl,rfl,rfl⟩
  rw [Rs _ _ _ h2,wi (by omega)]
  rfl
 ·obtain rfl:k=l.length:=by omega
  rw [wi (by omega)]
  refine⟨rfl,?_⟩
  conv=>whnf
  refine⟨⟨by rw [Ab,hlk];omega,by omega⟩,?_⟩
  conv=>whnf
  refine⟨by rw [Ai,Ab,hlk];simp,?_⟩
  exact⟨Vz (FO seq epoch l),fun c v h=>Rd.sub (LN seq epoch l).symm (Vy seq epoch l) h,rfl⟩

def Jz (g:Geo) (a:An) (x y:List Gt):List Tx × List Wr × Int:=
 if Bt g&&Bg g a then (if (x.length:Int)=g.sl/\(y.length:Int)=g.sl then Ej g a x y else ([], [],2)) else ([], [],1)
theorem Kc (k:Int) (c:Ctx) (u:Value) (h:Rd (.tp [.v (.slice none 0 0), .v (.slice none 0 0), .v (.int .i64 k)]) c u):Rd (.tp [Di [],II [], .v (.int .i64 k)]) c u:=by
 refine Cg ?_ c u h
 exact⟨Br _ _,Br _ _,fun _ _ h=>h,tv⟩
theorem JT {g:Geo} {a:An} (h:Bg g a=true):(0<=a.seq/\a.seq<=4294967296)/\0<=a.pos/\a.pos<g.sl:=by
 simp only [Bg,Bd,Ad,AL] at h
 omega
theorem KT {look:Int->Rc × Int × List Wr}:∀ (f:Nat) (k:Int) (r:Rc) (im:List Img) (w:List Wr),(∀ i,k<=i->i<k+f->(look i).2.2.length<=1)->(BD look f k r im w).2.2.length<=w.length+f
 | 0,_,_,_,_,_=>by simp [BD]
 | f+1,k,r,im,w,h=>by
  have h1:=h k (by omega) (by omega)
  unfold BD
  simp only
  split
  ·simp
  ·have:=KT f (k+1) (look k).1 (if r.kind=1 then im ++ [r.img] else im) (w ++ (look k).2.2) fun i h2 h3=>h i (by omega) (by omega)
   rw [Ai] at this
   omega
theorem KU {look:Int->Rc × Int × List Wr}:∀ (f:Nat) (k:Int) (r:Rc) (im:List Img) (w:List Wr),(∀ i,k<=i->i<k+f->(look i).2.1=1\/(look i).2.1=2\/(look i).2.1=3)->(BD look f k r im w).1=1\/(BD look f k r im w).1=2\/(BD look f k r im w).1=3
 | 0,_,_,_,_,_=> .inl rfl
 | f+1,k,r,im,w,h=>by
  have h1:=h k (by omega) (by omega)
  unfold BD
  simp only
  split
  ·exact h1
  ·exact KU f (k+1) (look k).1 (if r.kind=1 then im ++ [r.img] else im) (w ++ (look k).2.2) fun i h2 h3=>h i (by omega) (by omega)
theorem IK {g:Geo} {a:An} {x y:List Gt} {pos seq left:Int} (hg:Bt g=true) (hp:0<=pos/\pos<g.sl) :
  ((Gu g a x y pos seq left).1=1/\(2<=(Gu g a x y pos seq left).2.1/\(Gu g a x y pos seq left).2.1<=left/\(Gu g a x y pos seq left).2.1<=30)/\(Gu g a x y pos seq left).2.2.2.length<=30)\/((Gu g a x y pos seq left).1=2\/(Gu g a x y pos seq left).1=3):=by
 have r0:=Hh (a:=a) (x:=x) (y:=y) (seq:=seq) (left:=left) (of_:=0) (at_:=0) hg hp (by omega)
 unfold Gu
 simp only
 rcases r0 with ⟨e1,⟨e2, -,e3⟩,e4⟩ | ⟨e1, -, -⟩
 ·rw [if_neg (by omega)]
  have hN:=Kk e2 e3
  have hA:=fun(i:Int) (h1:1<=i) (h2:i<1+((DJ g a x y pos seq left 0 0).1.of_ - 1).toNat)=>Hh (a:=a) (x:=x) (y:=y) (seq:=seq) (left:=left) (of_:=(DJ g a x y pos seq left 0 0).1.of_) (at_:=i) hg hp (by omega)
  have hH:=KU (look:=fun k=>DJ g a x y pos seq left k (DJ g a x y pos seq left 0 0).1.of_) ((DJ g a x y pos seq left 0 0).1.of_ - 1).toNat 1 (DJ g a x y pos seq left 0 0).1 [] (DJ g a x y pos seq left 0 0).2.2 fun i h1 h2=>(hA i h1 h2).imp (fun h=>h.1) fun h=>h.1
  split
  ·exact .inr (hH.resolve_left ‹_›)
  ·refine .inl ⟨rfl,⟨hN.1,hN.2.2.2.2.1 rfl,hN.2.1⟩,?_⟩
   have:=KT (look:=fun k=>DJ g a x y pos seq left k (DJ g a x y pos seq left 0 0).1.of_) ((DJ g a x y pos seq left 0 0).1.of_ - 1).toNat 1 (DJ g a x y pos seq left 0 0).1 [] (DJ g a x y pos seq left 0 0).2.2 fun i h1 h2=>by
    rcases hA i h1 h2 with ⟨_,_,h⟩ | ⟨_,h,_⟩
    ·exact h
    ·rw [h];simp
   exact Bi this (by omega)
 ·rw [if_pos (by omega)]
  exact .inr e1
def ZA (g:Geo) (t:Tx) (s:Int):Int:=(IntKind.i64.wrap (IntKind.i64.wrap (s - t.pos)+g.sl)).tmod g.sl
def Z9 (g:Geo) (t:Tx) (s:Int):Bool:=CJ t.pos 0 (g.sl - 1)&&CJ t.n 0 g.sl&&decide (ZA g t s<t.n)
def YB (g:Geo) (s:Int):List Tx->Nat->Option (Nat × Int)
 | [],_=>none
 | t::r,i=>if Z9 g t s then some (i,ZA g t s) else YB g s r (i+1)
end
end Go.Proofs.YtkolckdakddggaaGreatDoor.A
namespace Go.Proofs.YtkolckdakddggaaGreatDoor
section

def rc0:Rc:=⟨0,0,0,0,0,⟨0,0, []⟩⟩
theorem Tb (seq epoch:Int) (l:List Img) {k:Nat} (hk:k<l.length+1):(FO seq epoch l).getD k rc0=if k<l.length then ⟨1,seq,epoch,(k:Nat),l.length+1,l.getD k ⟨0,0, []⟩⟩ else ⟨2,seq,epoch,(k:Nat),l.length+1,noImg⟩:=by
 have hlen:(Ja seq epoch (l.length+1) l.length l).length=l.length:=by rw [JF];omega
 unfold FO
 rw [Aa]
 by_cases h:k<l.length
 ·rw [if_pos h,AC (by omega)]
  have h2:(Ja seq epoch (l.length+1) l.length l)[k]? = some ⟨1,seq,epoch,(k:Nat),l.length+1,l[k]⟩:=by
   unfold Ja
   rw [Ar,Be,List.getElem?_zipIdx,Af h]
   simp
  rw [h2,Aa,Af h]
  rfl
 ·have e:k=l.length:=by omega
  subst e
  rw [if_neg h,AH (by omega),hlen]
  simp
structure RecAt (g:Geo) (seq epoch:Int) (l:List Img) (k:Nat) (r:Rc):Prop where
 ok:Fj g r=true
 seq:r.seq=seq
 epoch:r.epoch=epoch
 at_:r.at_=(k:Nat)
 of_:r.of_=l.length+1
 kind:r.kind≠0
 img:(r.kind=1↔k<l.length)/\(k<l.length->r.img=l.getD k ⟨0,0, []⟩)
end
end Go.Proofs.YtkolckdakddggaaGreatDoor
namespace Go.Proofs.YtkolckdakddggaaGreatDoor.A
section
open Go.RowKit
def tz:Tx:=⟨0,0,0, []⟩
def V3 (g:Geo) (l:List Tx) (epoch s:Int):Rc:=match YB g s l 0 with
 | none=>zeroC
 | some (i,k)=>(FO (l.getD i tz).seq epoch (l.getD i tz).images).getD k.toNat zeroC
def GD (g:Geo) (l:List Tx) (epoch copy:Int) (n:Nat):List Gt:=(List.range n).map fun s=>⟨0,DZ g (V3 g l epoch (s:Nat)) copy (s:Nat)⟩
structure LogOk (g:Geo) (l:List Tx) (epoch:Int):Prop where
 len:l.length<=1000
 img:∀ t∈l,t.images.length<=1000/\∀ x∈t.images,x.bytes.length<=1000000
 who:∀ s i k,0<=s/\s<g.sl->YB g s l 0=some (i,k)->i<l.length/\0<=k/\k.toNat<(l.getD i tz).images.length+1
 ok:∀ s,0<=s/\s<g.sl->Fj g (V3 g l epoch s)=true
def iz:Img:=⟨0,0, []⟩
def Ck (l:List Img) (z w:Int):Nat->Option Img
 | 0=>none
 | k+1=>if (l.getD k iz).zone=z/\(l.getD k iz).what=w then some (l.getD k iz) else Ck l z w k
def Ez (l:List Tx) (z w:Int):Nat->Option (Img × Int)
 | 0=>none
 | k+1=>match Ck (l.getD k tz).images z w (l.getD k tz).images.length with
  | some x=>some (x,(l.getD k tz).seq)
  | none=>Ez l z w k
def CL (l:List Tx) (z w:Int):Option (Img × Int):=Ez l z w l.length
theorem I3 {l:List Img} {z w:Int}:∀ {k:Nat} {x:Img},k<=l.length->Ck l z w k=some x->x∈l/\x.zone=z/\x.what=w
 | k+1,x,hk,h=>by
  rw [Ck] at h
  split at h
  ·rename_i hc
   obtain rfl:=Option.some.inj h
   exact⟨A9 (by omega),hc⟩
  ·exact I3 (by omega) h
theorem NN {l:List Tx} {z w:Int}:∀ {k:Nat} {x:Img} {s:Int},k<=l.length->Ez l z w k=some (x,s)->∃ t∈l,t.seq=s/\x∈t.images/\x.zone=z/\x.what=w
 | k+1,x,s,hk,h=>by
  rw [Ez] at h
  split at h
  ·rename_i y hy
   obtain⟨rfl,rfl⟩:=Prod.mk.inj (Option.some.inj h)
   exact⟨l.getD k tz,A9 (by omega),rfl,I3 (Ah _) hy⟩
  ·exact NN (by omega) h
def Ce (a:An) (l:List Tx) (z:Int):Int:=match CL l z 255 with
 | some p=>p.2
 | none=>(a.homes.getD z.toNat ⟨[],0,0⟩).root
def IA (n:Int):Int:=if 0<=n/\n<=30 then n else 0
def H4 (l:List Tx):Nat->Int
 | 0=>0
 | k+1=>H4 l k+IA (l.getD k tz).n
def Ey (l:List Tx):Int:=H4 l l.length
theorem O_ (n:Int):0<=IA n/\IA n<=30:=by
 unfold IA
 split <;> omega
theorem Jm (l:List Tx):∀ k:Nat,0<=H4 l k/\H4 l k<=30*k
 | 0=>by simp [H4]
 | k+1=>by
  have:=Jm l k
  have:=O_ (l.getD k tz).n
  rw [H4]
  omega
def E0 (g:Geo) (w:Int):Int:=if w = -1 then g.d else w
def Bw (g:Geo) (a:An) (z w:Int):Int:=Cb g z ((a.homes.getD z.toNat ⟨[],0,0⟩).places.getD (E0 g w).toNat 0)
def BO (g:Geo) (x:Gt) (addr root:Int):Option (List Ent):=match BK x addr with
 | some s=>if s.stamp=root then Cu g s.pay else none
 | none=>none
def Ec (x:Gt) (addr:Int) (e:Ent):Option (List UInt8):=match BK x addr with
 | some s=>if s.stamp=e.stamp/\s.pay.length=8/\((De s.pay:Nat):Int)=e.sum then some s.pay else none
 | none=>none
def I5 (a b:List UInt8):List UInt8:=List.zipWith (fun x y=>x ^^^ y) a b
def ez:Ent:=⟨0,0,false⟩
def Ef (t:List Ent) (had:List (List UInt8)) (at_:Nat):Nat->Option (List UInt8)
 | 0=>some zero8
 | k+1=>match Ef t had at_ k with
  | none=>none
  | some b=>if k=at_\/(t.getD k ez).lost=true then some b else if (had.getD k []).length=0 then none else some (I5 b (had.getD k []))
def GB (g:Geo) (t:List Ent) (had:List (List UInt8)) (at_:Nat):List UInt8:=
 if (t.getD at_ ez).lost then []
 else if 0<(had.getD at_ []).length then had.getD at_ []
 else match Ef t had at_ (g.d.toNat+1) with
  | none=> []
  | some b=>if ((De b:Nat):Int)=(t.getD at_ ez).sum then b else []
def flatX:AV->Bool
 | .v _=>true
 | _=>false
def flatO:AV->Bool
 | .v _=>true
 | .ow _ _=>true
 | .tp l=>l.all fun x=>match x with | .v _=>true | .ow _ _=>true | _=>false
 | _=>false
def flatR:List AB->Bool
 | []=>true
 | .row _ _ es::r=>es.flatten.all flatX&&flatR r
 | _::_=>false
theorem Qc {c c':Ctx}:∀ {l:List AV} {us:List Value},l.all flatX=true->RdL l c us->RdL l c' us
 | [],us,_,h=>by simpa only [RdL] using h
 | x::l,us,hf,h=>by
  rw [Bd,Ad] at hf
  simp only [RdL] at h |-
  obtain⟨u,vs,rfl,h1,h2⟩:=h
  refine⟨u,vs,rfl,?_,Qc hf.2 h2⟩
  cases x <;> simp [flatX] at hf
  simpa only [Rd] using h1
theorem OL {c c':Ctx} (hr:c'.rho=c.rho) (hl:c'.len=c.len) (hd:c'.dom=c.dom) {x:AV} (hx:(match x with | .v _=>true | .ow _ _=>true | _=>false)=true) {u:Value} (h:Rd x c u):Rd x c' u:=by
 cases x <;> simp at hx
 ·simpa only [Rd] using h
 ·simp only [Rd] at h |-
  rw [hr,hl,hd]
  exact h
theorem Wu {c c':Ctx} (hr:c'.rho=c.rho) (hl:c'.len=c.len) (hd:c'.dom=c.dom) {x:AV} (hx:flatO x=true) {u:Value} (h:Rd x c u):Rd x c' u:=by
 cases x with
 | v y=>exact OL hr hl hd rfl h
 | ow k n=>exact OL hr hl hd rfl h
 | tp l=>
  simp only [Rd] at h |-
  obtain⟨xs,rfl,hxs⟩:=h
  refine⟨xs,rfl,?_⟩
  simp only [flatO] at hx
  induction l generalizing xs with
  | nil=>simpa only [RdL] using hxs
  | cons y l ih=>
   rw [Bd,Ad] at hx
   simp only [RdL] at hxs |-
   obtain⟨u,us,rfl,h1,h2⟩:=hxs
   exact⟨u,us,rfl,OL hr hl hd hx.1 h1,ih hx.2 us h2⟩
 | _=>simp [flatO] at hx
theorem flatR_mem:∀ {R:List AB} {y:AB},flatR R=true->y∈R->∃ t sz es,y = .row t sz es/\es.flatten.all flatX=true
 | .row t sz es::r,y,h,hy=>by
  rw [flatR,Ad] at h
  rcases AQ.1 hy with rfl | hy
  ·exact⟨t,sz,es,rfl,h.1⟩
  ·exact flatR_mem h.2 hy
theorem FnO.lend {P:Program} {f:FuncId} {args args':List AV} {H:List AB} {K:AV->List AB->Prop} {q:Bool} {k:AV->List AB->Prop} (h:FnO P f args' K) (hs:sealA args H fun a _=>a=args') (hk:∀ r R,K r R->(flatO r=true/\flatR R=true)/\appK H R 0 fun d H=>Dz (r.shift d) fun r=>k r H):ACalls P q f args H k:=by
 refine⟨h.go,fun w0 M0 c us hs0 hr=>?_⟩
 obtain⟨l',H',c',rfl,h2,h3,h4,h5,_⟩:=sealA_sound hs0 hr hs
 have hglob:globOk c'.closed.w:=h3.glob
 have hc:=h.calls c'.closed us hglob rfl h3.lt h5
 have ew:c'.closed.w=c.w:=h2
 suffices hh:Calls P f us.toArray c'.closed.w fun e w'=>∃ v c1 r H1,e = .returned v/\c1.w=w'/\k r H1/\HS w0 M0 c1 H1/\Ext c c1/\Rd r c1 v/\(q=true->Old c.w w') by
  rw [ew] at hh
  exact hh
 refine hc.mono ?_
 rintro e w' ⟨v,r,c2,R,rfl,q1,rfl,q2,q3,q4⟩
 obtain⟨⟨f1,f2⟩,hkk⟩:=hk r R q1
 -- the same memory;what the caller holds is not read
 obtain⟨c3,e3⟩:∃ c3:Ctx,c3={ c2 with M:=fun b=>c2.M b\/c.M b }:=⟨_,rfl⟩
 have hsub:∀ b,b<c.w.heap.size->c'.M b->c.M b:=fun b hb hm=>by
  by_cases hx:c.M b
  ·exact hx
  ·exact absurd hm (h4.keep b hb hx).1
 have hlow:=q2.low
 have q2':HS (Fl.all c.w hs0.glob) c.M c3 R:=by
  subst e3
  refine⟨⟨?_,?_,?_,?_,?_⟩,q2.base,q2.dom,fun b hb=>?_,fun b hb=>?_,fun i y hi=>?_,fun i y g hi hl ho=>?_,q2.dis⟩
  ·have:=hlow.os;rw [show (Fl.all c'.closed.w hglob).w=c.w from ew] at this;exact this
  ·have:=hlow.tape;rw [show (Fl.all c'.closed.w hglob).w=c.w from ew] at this;exact this
  ·have:=hlow.output;rw [show (Fl.all c'.closed.w hglob).w=c.w from ew] at this;exact this
  ·have:=hlow.size;rw [show (Fl.all c'.closed.w hglob).w=c.w from ew] at this;exact this
  ·intro b hb
   have:=hlow.block b (by show b<c'.closed.w.heap.size;rw [ew];exact hb)
   rw [show (Fl.all c'.closed.w hglob).w=c.w from ew] at this
   exact this
  ·have hb':b<c.w.heap.size:=hb
   have:=q2.foreign b (by show b<c'.closed.w.heap.size;rw [ew];exact hb')
   exact⟨fun hx=>hx.elim (fun hx=>hsub b hb' (this.1 hx)) (fun hx=>hx),fun hx=> .inr hx⟩
  ·have hsz:c.w.heap.size<=c2.w.heap.size:=by
    have:=hlow.size;rw [show (Fl.all c'.closed.w hglob).w=c.w from ew] at this;exact this
   rcases hb with hb | hb
   ·exact q2.lt b hb
   ·exact At (hs0.lt b hb) hsz
  ·obtain⟨t,sz,es,rfl,hfl⟩:=flatR_mem f2 (DA hi)
   obtain⟨a1,a2,a3,xs,a4,a5,a6⟩:=q2.blk i _ hi
   exact⟨a1,a2,a3,xs,a4,Qc hfl a5,a6⟩
  ·have:=q2.own i y g hi hl ho
   refine⟨.inl this.1,fun hx=>this.2 ?_⟩
   show g<c'.closed.w.heap.size
   rw [ew]
   exact hx
 have q3':Rd r c3 v:=Wu (by rw [e3]) (by rw [e3]) (by rw [e3]) f1 q3
 have q5:c3.w=c2.w:=by rw [e3]
 obtain⟨p1,p2⟩:=hs0.beside (c':=c3) q2' q4
 have h1:=BP (appK_iff hkk)
 rw [Az,<-hs0.dom] at h1
 exact⟨v,c.beside c3,_,_,rfl,by show c3.w=_;exact q5,h1,p1,p2,Rd.shift r q3',fun _=>by have:=q2'.low.below.old;rw [q5] at this;exact this⟩
theorem Pq (l:List Tx) (hl:l.length<=1000000):Fn Tryz.prog 66 [Di l] fun r=>r = .v (.int .i64 (Ey l)):=by
 refine zT Tryz.func66 rfl ?_
 conv=>whnf
 refine zV Nat (fun k=>([(0,Di l),(3, .v (.int .i64 (H4 l k))),(4, .v (.int .i64 k))], [])) (fun k=>k<=l.length) (fun k=>l.length - k) 0 (Aj _)
  (zR (s:= []) ⟨⟨rfl,rfl,rfl,tv⟩,tv,rfl,rfl,rfl,rfl,rfl⟩) ?_
 intro k hk
 conv=>whnf
 refine A3 (fun h6=>?_) (fun h6=>?_) <;> (repeat rw [Ac] at h6) <;> conv=>whnf
 ·have hk':k<l.length:=by omega
  have hb:=Jm l k
  have hi:=GI (l.getD (k:Int).toNat ⟨0,0,0, []⟩).n 0 30
  have hs:H4 l (k+1)=H4 l k+IA (l.getD (k:Int).toNat ⟨0,0,0, []⟩).n:=rfl
  have hn:=O_ (l.getD (k:Int).toNat ⟨0,0,0, []⟩).n
  repeat' (refine zX ?_;conv=>whnf)
  refine⟨⟨by omega,by omega⟩,?_⟩
  conv=>whnf
  cases hc:CJ (l.getD (k:Int).toNat ⟨0,0,0, []⟩).n 0 30 with
  | false=>
   rw [hc] at hi
   have h0:IA (l.getD (k:Int).toNat ⟨0,0,0, []⟩).n=0:=by
    unfold IA
    rw [if_neg]
    intro h
    rw [AL.2 h] at hc
    cases hc
   refine z_ hi ?_
   exact⟨k+1,hk',by omega,zR (s:= []) ⟨⟨rfl,congrArg (fun n:Int=>AV.v (.int .i64 n)) (by rw [hs,h0,Int.add_zero]),AS (by omega),tv⟩,tv,rfl,rfl,rfl,rfl,rfl⟩⟩
  | true=>
   rw [hc] at hi
   have h0:IA (l.getD (k:Int).toNat ⟨0,0,0, []⟩).n=(l.getD (k:Int).toNat ⟨0,0,0, []⟩).n:=by
    unfold IA
    rw [if_pos (AL.1 hc)]
   refine z_ hi ?_
   refine⟨⟨by omega,by omega⟩,?_⟩
   conv=>whnf
   exact⟨k+1,hk',by omega,zR (s:= []) ⟨⟨rfl,congrArg (fun n:Int=>AV.v (.int .i64 n)) (by rw [hs,h0,wi (by rw [<-h0];omega)]),AS (by omega),tv⟩,tv,rfl,rfl,rfl,rfl,rfl⟩⟩
 ·have ek:k=l.length:=by omega
  subst ek
  exact⟨_,ri,rfl⟩
theorem Vj (g:Geo) (a:An) (l:List Tx) (hg:Bt g=true) (ha:Bg g a=true) (hl:l.length<=1000000):Fn Tryz.prog 67 [.ag (AY g), .ag (Ed a),Di l] fun r=>r = .tp [.v (.int .i64 ((a.pos+Ey l).tmod g.sl)), .v (.int .i64 (a.seq+l.length))]:=by
 obtain⟨g1,g2,g3,g4,g5⟩:=As.1 hg
 have hu:=Pq l hl
 have hb:=Jm l l.length
 have hp:(1<=a.seq/\a.seq<=4294967295)/\(0<=a.pos/\a.pos<g.sl):=by
  simp only [Bg,Bd,BR,BH,Ad,decide_eq_true_eq,AL] at ha
  omega
 refine zT Tryz.func67 rfl ?_
 conv=>whnf
 apply zQ tys_ok mixed (.one 0 (.one 1 (.one 2 (.one 5 (.one 6 (.one 8 (.one 9 (.one 10 (.one 11 (.one 12 (.one 3 (.one 4 (.one 7 (.one 13 (.one 14 .fin))))))))))))))) [6,7,8,9,10,11,12,13,14,15,16,17,18,19,20] (by kernel_rfl)
 ·conv=>whnf
  refine z_ hu ?_
  conv=>whnf
  try (refine tI ?_;conv=>whnf)
  exact⟨rfl,rfl⟩
 conv=>whnf
 exact⟨_,ri,by rw [wi (n:=a.pos+Ey l) (by unfold Ey;omega),wi (by omega)]⟩
def ZM (o:Option (Img × Int)) (r:AV) (R:List AB):Prop:=match o with
 | some p=>r = .tp [.ow 0 p.1.bytes.length, .v (.int .i64 p.2), .v (.bool true)]/\R=[.row 5 1 (p.1.bytes.map EK)]
 | none=>r = .tp [.v (.slice none 0 0), .v (.int .i64 0), .v (.bool false)]/\R=[]
theorem Kf (l:List Tx) (z w:Int) (hl:l.length<=1000000) (hi:∀ t∈l,t.images.length<=1000000/\∀ x∈t.images,x.bytes.length<=1000000000):FnO Tryz.prog 204 [Di l, .v (.int .i64 z), .v (.int .i64 w)] (ZM (CL l z w)):=by
 refine FnO.of tys_ok Tryz.func204 rfl rfl (Ag rfl) ?_
 conv=>whnf
 rw [wi (n:=(l.length:Int) - 1) (by omega)]
 refine zV Nat (fun k=>([(0,Di l),(1, .v (.int .i64 z)),(2, .v (.int .i64 w)),(9, .v (.int .i64 ((k:Int) - 1)))], [])) (fun k=>k<=l.length/\CL l z w=Ez l z w k) (fun k=>k) l.length ⟨Ah _,rfl⟩
  (zR (s:= []) ⟨⟨rfl,rfl,rfl,rfl,tv⟩,tv,rfl,rfl,rfl,rfl,rfl⟩) ?_
 rintro k ⟨hk,hI⟩
 conv=>whnf
 refine A3 (fun h6=>?_) (fun h6=>?_) <;> (repeat rw [Ac] at h6) <;> conv=>whnf
 ·obtain⟨j,rfl⟩:∃ j,k=j+1:=⟨k - 1,by omega⟩
  have e1:((j+1:Nat):Int) - 1=(j:Nat):=by omega
  have hm:=hi _ (A9 (d:=(⟨0,0,0, []⟩:Tx)) (show j<l.length by omega))
  rw [e1]
  refine⟨⟨by omega,by omega⟩,?_⟩
  conv=>whnf
  rw [Ac,wi (n:=((l.getD j ⟨0,0,0, []⟩).images.length:Int) - 1) (by omega)]
  have hF:Ez l z w (j+1)=match Ck (l.getD j ⟨0,0,0, []⟩).images z w (l.getD j ⟨0,0,0, []⟩).images.length with | some x=>some (x,(l.getD j ⟨0,0,0, []⟩).seq) | none=>Ez l z w j:=rfl
  generalize hT:l.getD j ⟨0,0,0, []⟩=T at hm hF
  refine zV Nat (fun m=>([(0,Di l),(1, .v (.int .i64 z)),(2, .v (.int .i64 w)),(9, .v (.int .i64 (j:Nat))),(10, .v (.int .i64 ((m:Int) - 1)))], [])) (fun m=>m<=T.images.length/\Ez l z w (j+1)=match Ck T.images z w m with | some x=>some (x,T.seq) | none=>Ez l z w j) (fun m=>m) T.images.length ⟨Ah _,hF⟩
   (zR (s:= []) ⟨⟨rfl,rfl,rfl,rfl,rfl,tv⟩,tv,rfl,rfl,rfl,rfl,rfl⟩) ?_
  rintro m ⟨hmn,hJ⟩
  conv=>whnf
  refine A3 (fun h7=>?_) (fun h7=>?_) <;> (repeat rw [Ac] at h7) <;> conv=>whnf
  ·obtain⟨i,rfl⟩:∃ i,m=i+1:=⟨m - 1,by omega⟩
   have e2:((i+1:Nat):Int) - 1=(i:Nat):=by omega
   rw [e2]
   refine⟨⟨by omega,by omega⟩,?_⟩
   conv=>whnf
   rw [Ac,hT]
   refine⟨⟨by omega,by omega⟩,?_⟩
   conv=>whnf
   rw [Ac]
   have hK:Ck T.images z w (i+1)=if (T.images.getD i ⟨0,0, []⟩).zone=z/\(T.images.getD i ⟨0,0, []⟩).what=w then some (T.images.getD i ⟨0,0, []⟩) else Ck T.images z w i:=rfl
   have hbl:=hm.2 _ (A9 (d:=(⟨0,0, []⟩:Img)) (show i<T.images.length by omega))
   generalize T.images.getD i ⟨0,0, []⟩=y at hK hbl
   have hgo:¬(y.zone=z/\y.what=w)->Ez l z w (j+1)=match Ck T.images z w i with | some x=>some (x,T.seq) | none=>Ez l z w j:=fun h=>by rw [hJ,hK,if_neg h]
   by_cases hz:y.zone=z
   ·rw [show (y.zone == z)=true by simpa using hz]
    conv=>whnf
    by_cases hw:y.what=w
    ·rw [show (y.what == w)=true by simpa using hw]
     conv=>whnf
     have htw:=Nc y.bytes (by omega)
     apply zH (0) tys_ok mixed (.one 0 (.one 1 (.one 3 (.one 4 (.one 5 (.one 6 (.one 7 (.one 2 (.one 8 (.one 9 (.one 10 .fin))))))))))) [6,7,8,48,49,50,51,52,53,54,55] (by kernel_rfl)
     ·conv=>whnf
      try (refine tI ?_;conv=>whnf)
      (refine zU htw rfl ?_;rintro _ _ ⟨rfl,rfl⟩)
      exact⟨rfl,rfl⟩
     conv=>whnf
     rw [hI,hJ,hK,if_pos ⟨hz,hw⟩,Ac,hT]
     exact⟨rfl,rfl⟩
    ·rw [show (y.what == w)=false by simpa using hw]
     exact⟨i,⟨by omega,hgo fun h=>hw h.2⟩,by omega,zR (s:= []) ⟨⟨rfl,rfl,rfl,rfl,congrArg (fun n:Int=>AV.v (.int .i64 n)) (wi (by omega)),tv⟩,tv,rfl,rfl,rfl,rfl,rfl⟩⟩
   ·rw [show (y.zone == z)=false by simpa using hz]
    exact⟨i,⟨by omega,hgo fun h=>hz h.1⟩,by omega,zR (s:= []) ⟨⟨rfl,rfl,rfl,rfl,congrArg (fun n:Int=>AV.v (.int .i64 n)) (wi (by omega)),tv⟩,tv,rfl,rfl,rfl,rfl,rfl⟩⟩
  ·have em:m=0:=by omega
   subst em
   exact⟨j,⟨by omega,by rw [hI,hJ];rfl⟩,by omega,zR (s:= []) ⟨⟨rfl,rfl,rfl,congrArg (fun n:Int=>AV.v (.int .i64 n)) (wi (by omega)),tv⟩,tv,rfl,rfl,rfl,rfl,rfl⟩⟩
 ·have ek:k=0:=by omega
  subst ek
  rw [hI]
  exact⟨rfl,rfl⟩
theorem FnO.subA {P:Program} {f:FuncId} {args args':List AV} {K:AV->List AB->Prop} (h:FnO P f args' K) (hs:SubL args args'):FnO P f args K:=
 ⟨h.go,fun c0 us hg h1 h2 h3=>h.calls c0 us hg h1 h2 (hs.rdl h3)⟩
theorem Ve (g:Geo) (a:An) (l:List Tx) (z:Int) (ha:(a.homes.length:Int)=g.z) (hz:0<=z/\z<g.z) (hl:l.length<=1000000) (hi:∀ t∈l,t.images.length<=1000000/\∀ x∈t.images,x.bytes.length<=1000000000):Fn Tryz.prog 206 [.ag (Ed a),Di l, .v (.int .i64 z)] fun r=>r = .v (.int .i64 (Ce a l z)):=by
 have hf:=Kf l z 255 hl hi
 unfold Ce
 cases hL:CL l z 255 with
 | some p=>
  obtain⟨x,q⟩:=p
  rw [hL] at hf
  refine zT Tryz.func206 rfl ?_
  conv=>whnf
  refine FnO.call hf rfl ?_
  rintro _ _ ⟨rfl,rfl⟩
  exact⟨_,ri,rfl⟩
 | none=>
  rw [hL] at hf
  refine zT Tryz.func206 rfl ?_
  conv=>whnf
  refine FnO.call hf rfl ?_
  rintro _ _ ⟨rfl,rfl⟩
  refine⟨⟨by omega,by omega⟩,?_⟩
  exact⟨_,ri,rfl⟩
theorem Ok (n:Int):Fn Tryz.prog 76 [iA [], .v (.int .i64 n)] fun r=>r=iA []:=by
 refine zT Tryz.func76 rfl ?_
 conv=>whnf
 refine zV Nat (fun k=>([(0,iA []),(5, .v (.slice none 0 0)),(6, .v (.int .i64 k))], [])) (fun k=>k=0) (fun k=>k) 0 rfl
  (zR (s:= []) ⟨⟨rfl,rfl,rfl,tv⟩,tv,rfl,rfl,rfl,rfl,rfl⟩) ?_
 rintro k rfl
 exact⟨iA [],Br 1 _,rfl⟩
theorem Vl (g:Geo) (lba:Int) (hg:Bt g=true) (h:0<=lba/\lba<g.z*g.d):Fn Tryz.prog 65 [.ag (AY g),iA [lba]] fun r=>r = .v (.int .i64 4):=by
 obtain⟨g1,g2,g3,g4,g5⟩:=As.1 hg
 have hq:lba.tdiv g.d=lba / g.d:=Bl h.1
 have hq0:0<=lba / g.d:=D3 h.1 (by omega)
 have hq1:lba / g.d<g.z:=Cp (by omega) h.2
 refine zT Tryz.func65 rfl ?_
 refine⟨⟨rfl,by omega,by omega⟩,?_⟩
 conv=>whnf
 refine zV Nat (fun k=>([(1,iA [lba]),(2, .bp 0 0),(5, .ow 1 g.z.toNat),(6, .v (.int .i64 (3*(k:Int)))),(7, .v (.int .i64 k))], [.box 23 (AY g), .row 4 1 (if k=0 then List.replicate g.z.toNat [AV.v (.bool false)] else (List.replicate g.z.toNat [AV.v (.bool false)]).set (lba / g.d).toNat [AV.v (.bool true)])])) (fun k=>k<=1) (fun k=>1 - k) 0 (by decide)
  (zR (s:= [0,1]) ⟨⟨rfl,rfl,rfl,rfl,rfl,tv⟩,⟨rfl,rfl,tv⟩,rfl,rfl,rfl,rfl,rfl⟩) ?_
 intro k hk
 conv=>whnf
 refine A3 (fun h6=>?_) (fun h6=>?_)
 ·have ek:k=0:=by simp only [Al,AW] at h6;omega
  subst ek
  rw [if_pos rfl]
  conv=>whnf
  repeat' (refine zX ?_;conv=>whnf)
  refine zA tys_ok mixed [0,1,2,3,4,5,6,7] (by kernel_rfl) ?_
  conv=>whnf
  refine Ae ⟨by decide,by show ((0:Nat):Int)<((1:Nat):Int);decide⟩ ?_
  refine⟨by omega,?_⟩
  conv=>whnf
  rw [show IntKind.i64.wrap (([lba].getD (Int.toNat ((0:Nat):Int)) 0).tdiv g.d)=lba / g.d by rw [show [lba].getD (Int.toNat ((0:Nat):Int)) 0=lba from rfl,hq,wi (by omega)]]
  refine⟨⟨hq0,by omega⟩,?_⟩
  refine⟨⟨rfl,by simp,by omega⟩,?_⟩
  rw [show (List.replicate g.z.toNat [AV.v (.bool false)]).getD (lba / g.d).toNat []=[AV.v (.bool false)] by rw [Aa,C3,if_pos (by omega)];rfl]
  refine⟨⟨hq0,by omega⟩,?_⟩
  refine⟨⟨rfl,by simp,by omega⟩,?_⟩
  rw [show (List.replicate g.z.toNat [AV.v (.bool false)]).getD (lba / g.d).toNat []=[AV.v (.bool false)] by rw [Aa,C3,if_pos (by omega)];rfl]
  exact⟨1,by omega,by omega,zR (s:= [0,1]) ⟨⟨rfl,rfl,rfl,rfl,rfl,tv⟩,⟨rfl,rfl,tv⟩,rfl,rfl,rfl,rfl,rfl⟩⟩
 ·have ek:k=1:=by simp only [Al,AW] at h6;omega
  subst ek
  conv=>whnf
  repeat' (refine zX ?_;conv=>whnf)
  exact⟨_,ri,rfl⟩
end
section
open Go.RowKit Go.Lib
def GS (s:ByteArray):List UInt8:=UInt8.ofNat s.size::s.data.toList
theorem Gk (s:ByteArray):(GS s).length=1+s.size:=by simp [GS,Ct]
theorem Qj (l:List UInt8):(decodeL l).2<=4:=by
 rw [decodeL_N]
 rcases decodeN_shape l.length (l.getD 0 0).toNat (l.getD 1 0).toNat (l.getD 2 0).toNat (l.getD 3 0).toNat with ⟨_,e⟩ | ⟨_,_,_,_,e⟩ | ⟨_,_,_,_,_,_,e⟩ | ⟨_,_,_,_,_,_,_,e⟩ | e <;> rw [e] <;> simp
theorem SR (n:Nat):∀ l:List UInt8,l.length=n->l.length<=4*Fc l:=by
 induction n using Nat.strongRecOn with
 | ind n ih=>
  intro l hl
  by_cases h:l=[]
  ·subst h;simp
  ·have h1:=Hv h
   have h2:=ih _ (by rw [<-hl];exact h1) _ rfl
   have h3:=Qj l
   rw [HY l h]
   rw [Ak] at h2
   omega
theorem Ii {l:List UInt8} (h:ET l=0):l.length<=24:=by
 have h1:=SR _ l rfl
 unfold ET at h
 split at h
 ·cases h
 ·split at h
  ·cases h
  ·omega
def HH (b:List UInt8):Option (ByteArray × Nat):=
 if b.length<1+(b.getD 0 0).toNat then none
 else if ET ((b.drop 1).take (b.getD 0 0).toNat)=0 then some (⟨((b.drop 1).take (b.getD 0 0).toNat).toArray⟩,1+(b.getD 0 0).toNat) else none
theorem NA {b:List UInt8} {s:ByteArray} {n:Nat} (h:HH b=some (s,n)):n<=b.length/\GS s=b.take n/\n=1+s.size/\ET s.data.toList=0:=by
 unfold HH at h
 split at h
 ·cases h
 ·rename_i h1
  split at h
  ·rename_i h2
   simp only [Option.some.injEq,Prod.mk.injEq] at h
   obtain⟨rfl,rfl⟩:=h
   have hl:((b.drop 1).take (b.getD 0 0).toNat).length=(b.getD 0 0).toNat:=by rw [Au,Ak];omega
   have hb:b=b.getD 0 0::b.drop 1:=by
    cases b with
    | nil=>simp at h1
    | cons x r=>rfl
   refine⟨by omega,?_,by show _=1+(List.toArray _).size;simp only [BM,hl],h2⟩
   have e:(⟨((b.drop 1).take (b.getD 0 0).toNat).toArray⟩:ByteArray).size=(b.getD 0 0).toNat:=by show (List.toArray _).size=_;simp only [BM,hl]
   unfold GS
   rw [e]
   simp only
   rw [Ct,hb]
   simp
  ·cases h
theorem T7 {s:ByteArray} (h:ET s.data.toList=0) (r:List UInt8):HH (GS s ++ r)=some (s,1+s.size):=by
 have h24:=Ii h
 have hs:s.size=s.data.toList.length:=rfl
 have e0:((GS s ++ r).getD 0 0).toNat=s.size:=by
  show (UInt8.ofNat s.size).toNat=s.size
  simp;omega
 have e1:((GS s ++ r).drop 1).take s.size=s.data.toList:=by
  show (s.data.toList ++ r).take s.size=_
  rw [List.take_append_of_le_length (by omega),A4 (by omega)]
 unfold HH
 rw [e0,e1,if_neg (by rw [Ai,Gk];omega),if_pos h]

def FP (n:Nat):List Int:=List.replicate n 1
def szA:List Int:= [4,4,4,4,1]
def K4 (a:An):List Int:= [a.gen,a.epoch,a.seq,a.last,a.pos]
def O2 (l:List Int):List UInt8:=rowB l (FP l.length)
def MO (h:Hm):List UInt8:=O2 h.places ++ rowB [h.next,h.root] [1,4]
def KX (a:An):List UInt8:=rowB (K4 a) szA ++ GS a.label ++ (a.homes.map MO).flatten
def Q6 (n:Nat):List Int:=FP (n+1) ++ [4]
def Kv (n:Nat) (c:List UInt8):Hm:=⟨(nums (Q6 n) c).take n,(nums (Q6 n) c).getD n 0,(nums (Q6 n) c).getD (n+1) 0⟩
def ED (n k:Nat) (c:List UInt8):List Hm:=(List.range k).map fun i=>Kv n (c.drop ((n+5)*i))
def MM (n k:Nat) (b:List UInt8) (s:ByteArray) (u:Nat):An:=⟨(nums szA b).getD 0 0,(nums szA b).getD 1 0,(nums szA b).getD 4 0,(nums szA b).getD 2 0,(nums szA b).getD 3 0,s,ED n k (b.drop (17+u))⟩
def Fm (g:Geo) (b:List UInt8):Option An:=
 if b.length<17 then none else
 match HH (b.drop 17) with
 | none=>none
 | some (s,u)=>if b.length≠17+u+g.z.toNat*(g.d.toNat+6) then none
  else if Bg g (MM (g.d.toNat+1) g.z.toNat b s u) then some (MM (g.d.toNat+1) g.z.toNat b s u) else none

theorem tot_ones:∀ n,tot (FP n)=n
 | 0=>rfl
 | n+1=>by show 1+tot (FP n)=n+1;rw [tot_ones n];omega
theorem tot_app:∀ (a b:List Int),tot (a ++ b)=tot a+tot b
 | [],b=>by simp [tot]
 | x::a,b=>by simp only [Bo,tot,tot_app a b];omega
theorem Jp (n:Nat):tot (Q6 n)=n+5:=by rw [Q6,tot_app,tot_ones];rfl
theorem Ju (n:Nat):(Q6 n).length=n+2:=by simp [Q6,FP]
theorem J8 (n:Nat):(FP n).length=n:=by simp [FP]
theorem rowB_app:∀ (a s b t:List Int),a.length=s.length->rowB (a ++ b) (s ++ t)=rowB a s ++ rowB b t
 | [], [],b,t,_=>rfl
 | x::a,y::s,b,t,h=>by simp only [Bo,rowB,rowB_app a s b t (by simpa using h),A5]
theorem Nz (n:Nat):FP (n+1)=FP n ++ [1]:=by simp [FP,List.replicate_succ']
theorem JH (h:Hm):MO h=rowB (h.places ++ [h.next,h.root]) (Q6 h.places.length):=by
 rw [Q6,Nz,A5,rowB_app _ _ _ _ (J8 _).symm]
 rfl
theorem PO {l:List Int} {n:Nat} (h:l.length=n+2):l=l.take n ++ [l.getD n 0,l.getD (n+1) 0]:=by
 have h1:n<l.length:=by omega
 have h2:n+1<l.length:=by omega
 conv=>lhs;rw [<-B3 n l]
 congr 1
 rw [A_ h1,A_ h2,A8 (by omega)]
 simp [Aa,Af h1,Af h2]
theorem Wc (n:Nat) (c:List UInt8) (hc:n+5<=c.length):MO (Kv n c)=c.take (n+5):=by
 have hl:(nums (Q6 n) c).length=n+2:=by rw [nums_len,Ju]
 have hp:(Kv n c).places.length=n:=by show ((nums (Q6 n) c).take n).length=n;rw [Au];omega
 rw [JH,hp,show (Kv n c).places ++ [(Kv n c).next,(Kv n c).root]=nums (Q6 n) c from (PO hl).symm,rowB_nums _ _ (by rw [Jp];exact hc),Jp]
theorem Su (n:Nat):∀ (k:Nat) (c:List UInt8),(n+5)*k<=c.length->((ED n k c).map MO).flatten=c.take ((n+5)*k)
 | 0,c,_=>by simp [ED]
 | k+1,c,h=>by
  have h':(n+5)*k+(n+5)<=c.length:=by rw [Nat.mul_succ] at h;exact h
  have ih:=Su n k c (by omega)
  rw [ED,B5,AF,AF,BY,show ((List.map (fun i=>Kv n (List.drop ((n+5)*i) c)) (List.range k)).map MO).flatten=_ from ih]
  simp only [A0,Bp,AK,List.flatten_nil,AM]
  rw [Wc n _ (by rw [Ak];omega),Nat.mul_succ,<-List.take_add]
theorem WS (n k:Nat) (b:List UInt8) (s:ByteArray) (u:Nat) (h17:17<=b.length) (hl:HH (b.drop 17)=some (s,u)) (hk:17+u+(n+5)*k<=b.length):KX (MM n k b s u)=b.take (17+u+(n+5)*k):=by
 obtain⟨h1,h2,h3,h4⟩:=NA hl
 have e1:K4 (MM n k b s u)=nums szA b:=rfl
 have e2:rowB (nums szA b) szA=b.take 17:=rowB_nums szA b h17
 have e3:=Su n k (b.drop (17+u)) (by rw [Ak];omega)
 rw [KX,e1,e2,show (MM n k b s u).homes=ED n k (b.drop (17+u)) from rfl,e3,show GS (MM n k b s u).label=GS s from rfl,h2,<-List.take_add,<-List.take_add]

theorem OE {g:Geo} {h:Hm} (hg:Bt g=true) (hh:DN g h=true):h.places.length=g.d.toNat+1/\(∀ p∈h.places,0<=p/\p<256)/\(0<=h.next/\h.next<256)/\0<=h.root/\h.root<4294967296:=by
 obtain⟨h1,h2,h3,h4,h5⟩:=As.1 hg
 simp only [DN,Ad,decide_eq_true_eq,AL,O1,Aw,AU] at hh
 obtain⟨q1,q2,q3,q4⟩:=hh
 refine⟨by omega,fun p hp=>?_,by omega,by omega⟩
 obtain⟨i,hi,rfl⟩:=List.getElem_of_mem hp
 have:=(q4 i hi).1
 rw [Aa,Af hi] at this
 simp only [Bz] at this
 omega
theorem VB {l:List Int} (h:∀ p∈l,0<=p/\p<256):∀ k (a:k<l.length) (b:k<(FP l.length).length),EY (FP l.length)[k]/\0<=l[k]/\l[k]<Dn (FP l.length)[k]:=fun k a b=>by
 have e:(FP l.length)[k]=1:=by simp [FP]
 rw [e]
 exact⟨.inl rfl,h _ (C2 a)⟩
theorem Ya {a s b t:List Int} (ha:a.length=s.length) (h1:∀ k (p:k<a.length) (q:k<s.length),EY s[k]/\0<=a[k]/\a[k]<Dn s[k]) (h2:∀ k (p:k<b.length) (q:k<t.length),EY t[k]/\0<=b[k]/\b[k]<Dn t[k]) :
  ∀ k (p:k<(a ++ b).length) (q:k<(s ++ t).length),EY (s ++ t)[k]/\0<=(a ++ b)[k]/\(a ++ b)[k]<Dn (s ++ t)[k]:=fun k p q=>by
 by_cases hk:k<a.length
 ·rw [List.getElem_append_left hk,List.getElem_append_left (by omega)]
  exact h1 k hk (by omega)
 ·rw [List.getElem_append_right (by omega),List.getElem_append_right (by omega)]
  have:=h2 (k - a.length) (by rw [Ai] at p;omega) (by rw [Ai] at q;omega)
  simpa only [ha] using this
theorem RQ {x y:Int} (h1:0<=x/\x<256) (h2:0<=y/\y<4294967296):∀ k (_:k < [x,y].length) (_:k<([1,4]:List Int).length),EY ([1,4]:List Int)[k]/\0<= [x,y][k]/\ [x,y][k]<Dn ([1,4]:List Int)[k]:=fun k p _=>by
 have hk:k=0\/k=1:=by simp at p;omega
 rcases hk with rfl | rfl
 ·exact⟨.inl rfl,h1⟩
 ·exact⟨.inr (.inr rfl),h2⟩
theorem XY {g:Geo} {h:Hm} (hg:Bt g=true) (hh:DN g h=true):(MO h).length=g.d.toNat+6:=by
 obtain⟨h1,_⟩:=OE hg hh
 rw [JH,tot_rowB _ _ (by rw [Ai,Ju];rfl),Jp,h1]
theorem Wb {g:Geo} {h:Hm} (hg:Bt g=true) (hh:DN g h=true) (r:List UInt8):Kv (g.d.toNat+1) (MO h ++ r)=h:=by
 obtain⟨h1,h2,h3,h4⟩:=OE hg hh
 have e:nums (Q6 (g.d.toNat+1)) (MO h ++ r)=h.places ++ [h.next,h.root]:=by
  rw [<-h1,JH]
  refine nums_rowB _ _ _ (by rw [Ai,Ju];rfl) ?_
  rw [Q6,Nz,A5]
  exact Ya (J8 _).symm (VB h2) (RQ h3 h4)
 unfold Kv
 rw [e,<-h1]
 obtain⟨p,n,ro⟩:=h
 simp [Aa]
theorem Lp {g:Geo} (hg:Bt g=true):∀ (l:List Hm),(∀ h∈l,DN g h=true)->ED (g.d.toNat+1) l.length (l.map MO).flatten=l/\(l.map MO).flatten.length=l.length*(g.d.toNat+6)
 | [],_=>⟨rfl,by simp⟩
 | h::l,hh=>by
  obtain⟨ih,ih2⟩:=Lp hg l fun x hx=>hh x (by simp [hx])
  have hB:=XY hg (hh h (by simp))
  refine⟨?_,by simp only [A0,AK,Ai,ih2,hB,Al,Bv];omega⟩
  simp only [ED,A0,AK,Al,List.range_succ_eq_map,List.map_map]
  rw [Nat.mul_zero,List.drop_zero,Wb hg (hh h (by simp))]
  congr 1
  refine Eq.trans (CD fun i _=>?_) ih
  simp only [Function.comp,Nat.succ_eq_add_one]
  rw [show (g.d.toNat+1+5)*(i+1)=(MO h).length+(g.d.toNat+1+5)*i by rw [hB,Nat.mul_succ];omega,Ch]
  rw [A8 (by omega),Bu,Nat.add_sub_cancel_left]
theorem Th {g:Geo} {a:An} (hg:Bt g=true) (ha:Bg g a=true):Fm g (KX a)=some a:=by
 obtain⟨g1,g2,g3,g4,g5⟩:=As.1 hg
 have ha0:=ha
 simp only [Bg,Ad,decide_eq_true_eq,Bd,BR,BH,AL,Aw] at ha
 obtain⟨⟨q1,q2,q3,q4⟩,_,_,q5,q6,q7,q8⟩:=ha
 have hz:a.homes.length=g.z.toNat:=by omega
 obtain⟨e1,e2⟩:=Lp hg a.homes q8
 have hf:∀ k (p:k<(K4 a).length) (q:k<szA.length),EY szA[k]/\0<=(K4 a)[k]/\(K4 a)[k]<Dn szA[k]:=fun k p q=>by
  have hk:k=0\/k=1\/k=2\/k=3\/k=4:=by simp [K4] at p;omega
  have l4:Dn 4=4294967296:=rfl
  have l1:Dn 1=256:=rfl
  rcases hk with rfl | rfl | rfl | rfl | rfl
  ·exact⟨.inr (.inr rfl),q1.1,by show a.gen<Dn 4;omega⟩
  ·exact⟨.inr (.inr rfl),q2.1,by show a.epoch<Dn 4;omega⟩
  ·exact⟨.inr (.inr rfl),q3.1,by show a.seq<Dn 4;omega⟩
  ·exact⟨.inr (.inr rfl),q4.1,by show a.last<Dn 4;omega⟩
  ·exact⟨.inl rfl,q5.1,by show a.pos<Dn 1;omega⟩
 have hn:nums szA (KX a)=K4 a:=by
  rw [KX,A5]
  exact nums_rowB _ _ _ rfl hf
 have h17:(rowB (K4 a) szA).length=17:=tot_rowB _ _ rfl
 have hd:(KX a).drop 17=GS a.label ++ (a.homes.map MO).flatten:=by
  rw [KX,A5,<-h17,Ch,A8 (Ah _),D7];simp
 have hlen:(KX a).length=17+(1+a.label.size)+g.z.toNat*(g.d.toNat+6):=by
  rw [KX,Ai,Ai,h17,Gk,e2,hz]
 have hdu:(KX a).drop (17+(1+a.label.size))=(a.homes.map MO).flatten:=by
  rw [<-AP,hd,<-Gk,Ch,A8 (Ah _),D7];simp
 have ho:MM (g.d.toNat+1) g.z.toNat (KX a) a.label (1+a.label.size)=a:=by
  unfold MM
  rw [hn,hdu,<-hz,e1]
  rfl
 unfold Fm
 rw [if_neg (by omega),hd,T7 q6]
 simp only
 rw [if_neg (by omega),ho,if_pos ha0]
theorem QZ {g:Geo} {b:List UInt8} {a:An} (hg:Bt g=true) (h:Fm g b=some a):Bg g a=true/\KX a=b:=by
 obtain⟨g1,g2,g3,g4,g5⟩:=As.1 hg
 unfold Fm at h
 split at h
 ·cases h
 ·rename_i h17
  split at h
  ·cases h
  ·rename_i s u hl
   split at h
   ·cases h
   ·rename_i hlen
    split at h
    ·rename_i hok
     cases h
     refine⟨hok,?_⟩
     have hm:(g.d.toNat+1+5)*g.z.toNat=g.z.toNat*(g.d.toNat+6):=Nat.mul_comm _ _
     rw [WS _ _ _ _ _ (by omega) hl (by omega),A4 (by omega)]
    ·cases h
end
section
open Go.Lib
theorem FZ (n:Nat) (z:Int) (h:z=n):UInt8.ofNat n=z.toNat.toUInt8:=by subst h;rfl
theorem Zm (r:Nat) (h:r<=1114111) (hv:r<55296\/57344<=r):(Utf8.encode (r:Int)).data.toList=encodeRune (r:Int):=by
 have v:Utf8.valid (r:Int)=true:=by simp [Utf8.valid];omega
 unfold encodeRune
 by_cases c1:r<128
 ·rw [encodeRuneZ_one (by omega) (by omega)];simp [Utf8.encode,v,c1]
 by_cases c2:r<2048
 ·rw [encodeRuneZ_two (by omega) (by omega),show (Utf8.encode (r:Int)).data.toList=[UInt8.ofNat (192+r / 64),UInt8.ofNat (128+r % 64)] by simp [Utf8.encode,v,c1,c2]]
  exact congr (congrArg List.cons (FZ _ _ (by omega))) (congr (congrArg List.cons (FZ _ _ (by omega))) rfl)
 by_cases c3:r<65536
 ·rw [encodeRuneZ_three (by omega),show (Utf8.encode (r:Int)).data.toList=[UInt8.ofNat (224+r / 4096),UInt8.ofNat (128+r / 64 % 64),UInt8.ofNat (128+r % 64)] by simp [Utf8.encode,v,c1,c2,c3]]
  exact congr (congrArg List.cons (FZ _ _ (by omega))) (congr (congrArg List.cons (FZ _ _ (by omega))) (congr (congrArg List.cons (FZ _ _ (by omega))) rfl))
 ·rw [encodeRuneZ_four (by omega) (by omega),show (Utf8.encode (r:Int)).data.toList=[UInt8.ofNat (240+r / 262144),UInt8.ofNat (128+r / 4096 % 64),UInt8.ofNat (128+r / 64 % 64),UInt8.ofNat (128+r % 64)] by simp [Utf8.encode,v,c1,c2,c3]]
  exact congr (congrArg List.cons (FZ _ _ (by omega))) (congr (congrArg List.cons (FZ _ _ (by omega))) (congr (congrArg List.cons (FZ _ _ (by omega))) (congr (congrArg List.cons (FZ _ _ (by omega))) rfl)))
def DT (l:List UInt8):List Int:=if _h:l=[] then [] else ((decodeL l).1:Int)::DT (l.drop (decodeL l).2)
termination_by l.length
decreasing_by exact Hv _h
theorem runesL_nil:DT []=[]:=by rw [DT];simp
theorem HZ (l:List UInt8) (h:¬l=[]):DT l=((decodeL l).1:Int)::DT (l.drop (decodeL l).2):=by rw [DT,dif_neg h]
theorem R8 {l:List UInt8}:(decodeL l).1<55296\/57344<=(decodeL l).1:=by
 rw [decodeL_N]
 have k0:=(l.getD 0 0).toNat_lt
 have k1:=(l.getD 1 0).toNat_lt
 have k2:=(l.getD 2 0).toNat_lt
 rcases decodeN_shape l.length (l.getD 0 0).toNat (l.getD 1 0).toNat (l.getD 2 0).toNat (l.getD 3 0).toNat with ⟨_,e⟩ | ⟨_,_,_,_,e⟩ | ⟨_,_,_,_,_,_,e⟩ | ⟨_,_,_,_,_,_,_,e⟩ | e <;> rw [e] <;> simp only <;> omega
theorem QJ (n:Nat):∀ l:List UInt8,l.length=n->(DT l).length<=l.length:=by
 induction n using Nat.strongRecOn with
 | ind n ih=>
  intro l hl
  by_cases h:l=[]
  ·subst h;rw [runesL_nil];simp
  ·have h1:=Hv h
   have h2:=ih _ (by rw [<-hl];exact h1) _ rfl
   rw [HZ l h,Al]
   omega
theorem TX (n:Nat):∀ (l:List UInt8) (b:ByteArray),l.length=n->validD l=true->((DT l).foldl (fun r n=>r ++ Utf8.encode n) b).data.toList=b.data.toList ++ l:=by
 induction n using Nat.strongRecOn with
 | ind n ih=>
  intro l b hl hv
  by_cases h:l=[]
  ·subst h;rw [runesL_nil];simp
  ·have h1:=Hv h
   rw [validD_step l h] at hv
   split at hv
   ·cases hv
   ·rename_i hn
    rw [HZ l h,List.foldl_cons,ih _ (by rw [<-hl];exact h1) _ _ rfl hv]
    have e:(b ++ Utf8.encode ((decodeL l).1:Int)).data.toList=b.data.toList ++ (Utf8.encode ((decodeL l).1:Int)).data.toList:=by simp [ByteArray.data_append]
    rw [e,Zm _ (decodeL_rune l) R8,encode_decode l h hn,A5,B3]
theorem Ke {s:ByteArray} (h:validD s.data.toList=true):runesBytes (DT s.data.toList)=s:=by
 have:=TX _ s.data.toList ByteArray.empty rfl h
 apply ByteArray.ext
 apply Array.ext'
 rw [runesBytes,this]
 rfl
theorem J1 (s:ByteArray):∀ (bound i:Nat) (acc:Array Value),s.size<=i+bound->Conv.runesFrom s bound i acc=acc ++ ((DT (s.data.toList.drop i)).map (Value.int .i32)).toArray
 | 0,i,acc,h=>by
  have:s.data.toList.drop i=[]:=A8 (by rw [DS];omega)
  rw [this,runesL_nil]
  simp [Conv.runesFrom]
 | bound+1,i,acc,h=>by
  unfold Conv.runesFrom
  split
  ·rename_i hi
   have hne:¬s.data.toList.drop i=[]:=by
    intro e
    have:=congrArg List.length e
    rw [Ak,DS] at this
    simp at this
    omega
   have hd:=In s i
   have hw:1<=(Utf8.decode s i).2:=by rw [hd];exact decodeL_width _
   show Conv.runesFrom s bound (i+(Utf8.decode s i).2) (acc.push (Value.int IntKind.i32 (Int.ofNat (Utf8.decode s i).1)))=_
   rw [J1 s bound _ _ (by omega),HZ _ hne,<-hd,AP]
   simp
  ·have:s.data.toList.drop i=[]:=A8 (by rw [DS];omega)
   rw [this,runesL_nil]
   simp
end
end Go.Proofs.YtkolckdakddggaaGreatDoor.A
namespace Go.Proofs.YtkolckdakddggaaGreatDoor
section
open Go.RowKit
attribute [local go_sem ↓] Go.wp_at_zero Go.wp_at_succ

theorem F_ {P:Program} {w:World} {ops:Array Oper} {rest:List Oper} {o:Oper} {a:Act} {Q:Exit->Act->World->Prop} (hgd:o.guard=none) (d s:Operand) (t t':TypeId)
  (ho:o.op = .call { callee:= .builtin .append,args:= #[d,s],argTypes:= #[t,t'] }) {v u:Value} (hd:a.eval d=v) (hs:a.eval s=u) {v':Value} {w':World}
  (hr:(Builtin.append_ #[t,t'] o.type #[v,u]).run P w = .ok v' w') (h:wpList P ops Q rest (a.put o.dst v') w'):wpList P ops Q (o::rest) a w:=by
 refine wpList_plain hgd fun _ hK=>?_
 unfold Oper.wp execOp
 simp only [ho,resolve,invoke,builtin,Sem.run_bind,Sem.run_pure,Result.andThen_ok,List.map_toArray,A0,Bp,hd,hs,hr]
 exact hK _ _ h
theorem MB (w:World) (M:Ms) (n:Int) (x:UInt8) (hx:n=(x.toNat:Int)) (s:ByteArray):Elems (Rp.sz UInt8) (Rp.E w M) ([Value.int .u8 n] ++ Lib.strCells s) (x::s.data.toList):=by
 subst hx
 refine⟨[.int .u8 x.toNat],_,rfl,rfl,rfl,?_⟩
 unfold Lib.strCells
 induction s.data.toList with
 | nil=>rfl
 | cons y l ih=>exact⟨[.int .u8 y.toNat],_,rfl,rfl,rfl,ih⟩

theorem SZ (s:ByteArray) (w:World) (M:Ms) (hs:s.size<=255) :
  Calls Tryz.prog 246 #[.string s] w fun e w'=>∃ r,e = .returned r/\OwR w' M w.heap.size 5 r (UInt8.ofNat s.size::s.data.toList)/\Below w.heap.size w w':=by
 obtain⟨i,h1,h2,h3,h4⟩:=info_parts (show (Tryz.prog.info? 5).map (fun i=>(i.zero,i.size,i.bytes))=some (some (.int .u8 0),1,1) by kernel_rfl)
 have hw8:IntKind.u8.wrap (s.size:Int)=s.size:=by rw [IntKind.wrap_u8];omega
 have hN:(s.size:Int)=((UInt8.ofNat s.size).toNat:Int):=by simp;omega
 have hB:=(Below.refl w.heap.size w).alloc (Ah _) (.cells #[Value.int .u8 (s.size:Int)] 5)
 have ho:(w.alloc (.cells #[Value.int .u8 (s.size:Int)] 5)).ownsRow w.heap.size 5 1 (.slice (some ⟨w.heap.size,0,none⟩) 1 1) 1 [.int .u8 (s.size:Int)]:=
  ⟨rfl, .inr ⟨w.heap.size,1,_,rfl,Ah _,heap_alloc_new w _,Ah _,by decide,rfl,rfl⟩⟩
 obtain⟨v',w',hr,hr2,hr3,_⟩:=Lib.run_append_own_string (P:=Tryz.prog) (w.alloc (.cells #[Value.int .u8 (s.size:Int)] 5)) w.heap.size 49 9 49 5 i Tryz.underlying49 Tryz.underlying9 h1 h2 h3 h4 _ 1 _ ho s (by unfold maxLen;omega) (by omega) hB.size
 have HO:=Lib.hid (Ae (⟨_,by simp only [Al,CF];rw [Ct];exact hr2,MB _ _ _ _ hN s⟩:OwR w' M w.heap.size 5 v' (UInt8.ofNat s.size::s.data.toList)) (hB.grown hr3 hB.size (fun b e=>by cases e;exact Ah _)))
 clear hr2 hr3 ho hB hN h1 h2 h3 h4
 go_enter Tryz.func246,Tryz.ntmps246
 go_wp2_with (at_builtin;refine F_ rfl _ _ _ _ rfl (by rfl) (by rfl) hr ?_)
 go_ret
 exact⟨_,rfl,HO.out⟩
theorem XR (s:ByteArray) (w:World) (e0:Int) (he:(e0 != 0)=true) (hc:Calls Tryz.prog 170 #[.string s] w fun e w'=>e = .returned (.int .i64 e0)/\Below w.heap.size w w') :
  Calls Tryz.prog 260 #[.string s] w fun e w'=>e = .returned (.tuple #[.slice none 0 0, .int .i64 e0])/\Below w.heap.size w w':=by
 have HC:=Lib.hid hc
 clear hc
 go_enter Tryz.func260,Tryz.ntmps260
 go_wp2_with (go_at_call 170;go_must (with_reducible refine HC.out.mono ?_);rintro e w1 ⟨rfl,hB1⟩)
 have HB:=Lib.hid hB1
 clear hB1
 go_wp2
 go_ret2
 exact⟨rfl,HB.out⟩
theorem VO (s:ByteArray) (w:World) (M:Ms) (hs:s.size<=255) (hv:Lib.validD s.data.toList=true) (hc:Calls Tryz.prog 170 #[.string s] w fun e w'=>e = .returned (.int .i64 0)/\Below w.heap.size w w') :
  Calls Tryz.prog 260 #[.string s] w fun e w'=>∃ r,e = .returned (.tuple #[r, .int .i64 0])/\OwR w' M w.heap.size 5 r (UInt8.ofNat s.size::s.data.toList)/\Below w.heap.size w w':=by
 obtain⟨i,h1,h2,h3,h4⟩:=info_parts (show (Tryz.prog.info? 5).map (fun i=>(i.zero,i.size,i.bytes))=some (some (.int .u8 0),1,1) by kernel_rfl)
 have HI:=Lib.hid (Ae h1 (Ae h2 (Ae h3 h4)))
 have hw8:IntKind.u8.wrap (s.size:Int)=s.size:=by rw [IntKind.wrap_u8];omega
 have HC:=Lib.hid hc
 have HV:=Lib.hid hv
 have HS:=Lib.hid hs
 clear hc h1 h2 h3 h4 hv hs
 go_enter Tryz.func260,Tryz.ntmps260
 go_wp2_with (go_at_call 170;go_must (with_reducible refine HC.out.mono ?_);rintro e w1 ⟨rfl,hB1⟩)
 have hrf:=A.J1 s s.size 0 #[] (by omega)
 rw [List.drop_zero,Array.empty_append] at hrf
 have hrl:=A.QJ _ s.data.toList rfl
 have hsz:s.data.toList.length=s.size:=rfl
 have hrs:(Conv.runesFrom s s.size 0 #[]).size=(A.DT s.data.toList).length:=by rw [hrf];simp
 have hconv:=run_runes_of_string (P:=Tryz.prog) w1 9 379 21 s Tryz.underlying9 Tryz.underlying379 Tryz.underlying21 (by rw [hrs];have:=HS.out;omega)
 rw [hconv]
 have hB2:=hB1.trans (((MK w1).trans ((Below.refl w1.drew.heap.size w1.drew).alloc (Ah _) (.cells (Conv.runesFrom s s.size 0 #[] ++ Array.replicate (grownCap w1 (Conv.runesFrom s s.size 0 #[]).size 0 21 - (Conv.runesFrom s s.size 0 #[]).size) (.int .i32 0)) 21))).mono hB1.size)
 have hcell:∀ j,j<(A.DT s.data.toList).length->(w1.drew.alloc (.cells (Conv.runesFrom s s.size 0 #[] ++ Array.replicate (grownCap w1 (Conv.runesFrom s s.size 0 #[]).size 0 21 - (Conv.runesFrom s s.size 0 #[]).size) (.int .i32 0)) 21)).cell? ⟨w1.heap.size,j,none⟩=some (.int .i32 ((A.DT s.data.toList).getD j 0)):=fun j hj=>by
  rw [cell_of_row _ w1.heap.size _ _ 21 (0,0) (heap_alloc_new w1.drew _),Array.getElem?_append_left (by rw [hrs];exact hj),hrf]
  simp [Aa,Af hj]
 generalize w1.drew.alloc (.cells (Conv.runesFrom s s.size 0 #[] ++ Array.replicate (grownCap w1 (Conv.runesFrom s s.size 0 #[]).size 0 21 - (Conv.runesFrom s s.size 0 #[]).size) (.int .i32 0)) 21)=w2 at hB2 hcell |-
 rw [hrs] at *
 generalize grownCap w1 (A.DT s.data.toList).length 0 21=cap
 have hgl:w1.heap.size<w2.heap.size\/(A.DT s.data.toList).length=0:=by
  rcases Dt (A.DT s.data.toList).length with h | h
  ·exact .inr h
  ·exact .inl (World.block_lt_of_cell? _ _ (hcell 0 h))
 generalize w1.heap.size=g at hcell hgl |-
 have hN:(s.size:Int)=((UInt8.ofNat s.size).toNat:Int):=by have:=HS.out;simp;omega
 have hB3:=hB2.trans (((Below.refl w2.heap.size w2).alloc (Ah _) (.cells #[Value.int .u8 (s.size:Int)] 5)).mono hB2.size)
 have hcv:(convert 379 9 (.slice (some ⟨g,0,none⟩) (A.DT s.data.toList).length cap)).run Tryz.prog (w2.alloc (.cells #[Value.int .u8 (s.size:Int)] 5)) = .ok (.string s) (w2.alloc (.cells #[Value.int .u8 (s.size:Int)] 5)):=by
  rw [run_convert_runes (P:=Tryz.prog) _ 379 9 21 ⟨g,0,none⟩ (A.DT s.data.toList).length cap (A.DT s.data.toList) (Ah _) Tryz.underlying379 Tryz.underlying21 Tryz.underlying9 (fun j hj=>by
   rw [Addr.add_lit,Az]
   exact RH ((Below.refl w2.heap.size w2).alloc (Ah _) _) (hcell j hj)),Ar,A.Ke HV.out]
 have ho:(w2.alloc (.cells #[Value.int .u8 (s.size:Int)] 5)).ownsRow w.heap.size 5 1 (.slice (some ⟨w2.heap.size,0,none⟩) 1 1) 1 [.int .u8 (s.size:Int)]:=
  ⟨rfl, .inr ⟨w2.heap.size,1,_,rfl,hB2.size,heap_alloc_new w2 _,Ah _,by decide,rfl,rfl⟩⟩
 obtain⟨v',w',hr,hr2,hr3,_⟩:=Lib.run_append_own_string (P:=Tryz.prog) (w2.alloc (.cells #[Value.int .u8 (s.size:Int)] 5)) w.heap.size 49 9 49 5 i Tryz.underlying49 Tryz.underlying9 HI.out.1 HI.out.2.1 HI.out.2.2.1 HI.out.2.2.2 _ 1 _ ho s (by have:=HS.out;unfold maxLen;omega) (by have:=HS.out;omega) hB3.size
 have HO:=Lib.hid (Ae (⟨_,by simp only [Al,CF];rw [Ct];exact hr2,MB _ _ _ _ hN s⟩:OwR w' M w.heap.size 5 v' (UInt8.ofNat s.size::s.data.toList)) (hB3.grown hr3 hB3.size (fun b e=>by cases e;exact hB2.size)))
 clear hr2 hr3 ho hB3 hB2 hB1 hN hcell hgl hconv hrf hrl hsz hrs
 go_wp2_with (at_builtin;refine F_ rfl _ _ _ _ rfl (by rfl) (by rfl) hr ?_)
 go_ret2
 exact⟨_,rfl,HO.out⟩
end
end Go.Proofs.YtkolckdakddggaaGreatDoor
namespace Go.Proofs.YtkolckdakddggaaGreatDoor.A
section
open Go.RowKit
def PR (b:List UInt8):AV:=match HH b with
 | some (s,n)=> .tp [.v (.string s), .v (.int .i64 n), .v (.int .i64 0)]
 | none=> .tp [.v (.string ⟨#[]⟩), .v (.int .i64 0), .v (.int .i64 4)]
theorem ZJ (b:List UInt8) (hl:b.length<=100000):Fn Tryz.prog 282 [bA b] fun r=>r=PR b:=by
 have hb0:=(b.getD 0 0).toNat_lt
 have hw:IntKind.i64.wrap (1+IntKind.i64.wrap ((b.getD 0 0).toNat:Int))=((1+(b.getD 0 0).toNat:Nat):Int):=by rw [wi (n:=((b.getD 0 0).toNat:Int)) (by omega),wi (by omega)];omega
 by_cases hs:b.length<1+(b.getD 0 0).toNat
 ·have hr:PR b = .tp [.v (.string ⟨#[]⟩), .v (.int .i64 0), .v (.int .i64 4)]:=by rw [PR,HH,if_pos hs]
  rw [hr]
  refine zT Tryz.func282 rfl ?_
  conv=>whnf
  refine A3 (fun h=>?_) (fun h=>?_) <;> (repeat rw [Ac] at h) <;> conv=>whnf
  ·exact⟨_,ri,rfl⟩
  ·refine⟨by first | omega | (refine⟨rfl,?_,?_⟩ <;> first | omega | (simp only [Ab];done) | (simp only [Ab];omega)) | (simp only [Ab];omega),?_⟩
   conv=>whnf
   refine A3 (fun h2=>?_) (fun h2=>?_) <;> (repeat rw [Ac] at h2) <;> conv=>whnf
   ·exact⟨_,ri,rfl⟩
   ·exfalso
    have h2:IntKind.i64.wrap (1+IntKind.i64.wrap ((b.getD 0 0).toNat:Int))<=(b.length:Int):=h2
    rw [hw] at h2
    omega
 ·have hlen:((b.drop 1).take (b.getD 0 0).toNat).length=(b.getD 0 0).toNat:=by rw [Au,Ak];omega
  have hc:=IY ⟨((b.drop 1).take (b.getD 0 0).toNat).toArray⟩ (by show (List.toArray _).size<=_;simp only [BM];omega)
  have e1:(IntKind.i64.wrap (1+IntKind.i64.wrap ((b.getD 0 0).toNat:Int)) - 1).toNat=(b.getD 0 0).toNat:=by rw [hw];omega
  refine zT Tryz.func282 rfl ?_
  conv=>whnf
  refine A3 (fun h=>?_) (fun h=>?_) <;> (repeat rw [Ac] at h) <;> conv=>whnf
  ·exfalso
   have h:(b.length:Int)=0:=h
   omega
  ·refine⟨by first | omega | (refine⟨rfl,?_,?_⟩ <;> first | omega | (simp only [Ab];done) | (simp only [Ab];omega)) | (simp only [Ab];omega),?_⟩
   conv=>whnf
   refine A3 (fun h2=>?_) (fun h2=>?_) <;> (repeat rw [Ac] at h2) <;> conv=>whnf
   ·exfalso
    have h2:(b.length:Int)<IntKind.i64.wrap (1+IntKind.i64.wrap ((b.getD 0 0).toNat:Int)):=h2
    rw [hw] at h2
    omega
   ·refine⟨by first | omega | (refine⟨rfl,?_,?_⟩ <;> first | omega | (simp only [Ab];done) | (simp only [Ab];omega)) | (simp only [Ab];omega),?_⟩
    conv=>whnf
    have hw':IntKind.i64.wrap (1+IntKind.i64.wrap ((b.getD (Int.toNat 0) 0).toNat:Int))=((1+(b.getD 0 0).toNat:Nat):Int):=hw
    rw [hw']
    refine⟨⟨by omega,by omega,by omega,by omega⟩,?_⟩
    conv=>whnf
    refine⟨(b.drop 1).take (b.getD 0 0).toNat,⟨rfl,by rw [hlen];omega,fun i hi=>?_⟩,?_⟩
    ·have hi':i<(b.getD 0 0).toNat:=by omega
     show [AV.v (Value.int IntKind.u8 ((b.getD (i+1) 0).toNat:Int))]=_
     rw [show ((b.drop 1).take (b.getD 0 0).toNat).getD i 0=b.getD (i+1) 0 by rw [Aa,BC hi',BQ,Ct];rfl]
    conv=>whnf
    refine z_ hc ?_
    conv=>whnf
    refine A3 (fun h3=>?_) (fun h3=>?_) <;> (repeat rw [Ac] at h3) <;> conv=>whnf
    ·have h3:ET ((b.drop 1).take (b.getD 0 0).toNat)≠0:=h3
     exact⟨_,ri,by rw [PR,HH,if_neg hs,if_neg h3]⟩
    ·have h3:ET ((b.drop 1).take (b.getD 0 0).toNat)=0:=h3
     exact⟨_,ri,by rw [PR,HH,if_neg hs,if_pos h3]⟩
theorem SV (b:List UInt8) (hl:b.length<=100000):Fn Tryz.prog 293 [bA b] fun r=>r=match HH b with | some (s,n)=> .tp [.v (.string s), .v (.int .i64 n)] | none=> .tp [.v (.string ⟨#[]⟩), .v (.int .i64 0)]:=by
 have hb0:=(b.getD 0 0).toNat_lt
 have hw:IntKind.i64.wrap (1+IntKind.i64.wrap ((b.getD 0 0).toNat:Int))=((1+(b.getD 0 0).toNat:Nat):Int):=by rw [wi (n:=((b.getD 0 0).toNat:Int)) (by omega),wi (by omega)];omega
 by_cases hs:b.length<1+(b.getD 0 0).toNat
 ·rw [show HH b=none by rw [HH,if_pos hs]]
  refine zT Tryz.func293 rfl ?_
  conv=>whnf
  refine A3 (fun h=>?_) (fun h=>?_) <;> (repeat rw [Ac] at h) <;> conv=>whnf
  ·exact⟨_,ri,rfl⟩
  ·refine⟨by first | omega | (refine⟨rfl,?_,?_⟩ <;> first | omega | (simp only [Ab];done) | (simp only [Ab];omega)) | (simp only [Ab];omega),?_⟩
   conv=>whnf
   refine A3 (fun h2=>?_) (fun h2=>?_) <;> (repeat rw [Ac] at h2) <;> conv=>whnf
   ·exact⟨_,ri,rfl⟩
   ·exfalso
    have h2:IntKind.i64.wrap (1+IntKind.i64.wrap ((b.getD 0 0).toNat:Int))<=(b.length:Int):=h2
    rw [hw] at h2
    omega
 ·have hlen:((b.drop 1).take (b.getD 0 0).toNat).length=(b.getD 0 0).toNat:=by rw [Au,Ak];omega
  have hsz:(⟨((b.drop 1).take (b.getD 0 0).toNat).toArray⟩:ByteArray).size=(b.getD 0 0).toNat:=by show (List.toArray _).size=_;simp only [BM,hlen]
  have hc:=Nt ⟨((b.drop 1).take (b.getD 0 0).toNat).toArray⟩ (by rw [hsz];omega)
  have hw2:IntKind.i64.wrap (1+((⟨((b.drop 1).take (b.getD 0 0).toNat).toArray⟩:ByteArray).size:Int))=((1+(b.getD 0 0).toNat:Nat):Int):=by rw [hsz,wi (by omega)];omega
  refine zT Tryz.func293 rfl ?_
  conv=>whnf
  refine A3 (fun h=>?_) (fun h=>?_) <;> (repeat rw [Ac] at h) <;> conv=>whnf
  ·exfalso
   have h:(b.length:Int)=0:=h
   omega
  ·refine⟨by first | omega | (refine⟨rfl,?_,?_⟩ <;> first | omega | (simp only [Ab];done) | (simp only [Ab];omega)) | (simp only [Ab];omega),?_⟩
   conv=>whnf
   refine A3 (fun h2=>?_) (fun h2=>?_) <;> (repeat rw [Ac] at h2) <;> conv=>whnf
   ·exfalso
    have h2:(b.length:Int)<IntKind.i64.wrap (1+IntKind.i64.wrap ((b.getD 0 0).toNat:Int)):=h2
    rw [hw] at h2
    omega
   ·refine⟨by first | omega | (refine⟨rfl,?_,?_⟩ <;> first | omega | (simp only [Ab];done) | (simp only [Ab];omega)) | (simp only [Ab];omega),?_⟩
    conv=>whnf
    have hw':IntKind.i64.wrap (1+IntKind.i64.wrap ((b.getD (Int.toNat 0) 0).toNat:Int))=((1+(b.getD 0 0).toNat:Nat):Int):=hw
    rw [hw']
    refine⟨⟨by omega,by omega,by omega,by omega⟩,?_⟩
    conv=>whnf
    refine⟨(b.drop 1).take (b.getD 0 0).toNat,⟨rfl,by rw [hlen];omega,fun i hi=>?_⟩,?_⟩
    ·have hi':i<(b.getD 0 0).toNat:=by omega
     show [AV.v (Value.int IntKind.u8 ((b.getD (i+1) 0).toNat:Int))]=_
     rw [show ((b.drop 1).take (b.getD 0 0).toNat).getD i 0=b.getD (i+1) 0 by rw [Aa,BC hi',BQ,Ct];rfl]
    conv=>whnf
    refine z_ hc ?_
    conv=>whnf
    refine A3 (fun h3=>?_) (fun h3=>?_) <;> (repeat rw [Ac] at h3) <;> conv=>whnf
    ·have h3:ET ((b.drop 1).take (b.getD 0 0).toNat)≠0:=h3
     exact⟨_,ri,by rw [HH,if_neg hs,if_neg h3]⟩
    ·have h3:ET ((b.drop 1).take (b.getD 0 0).toNat)=0:=h3
     exact⟨_,ri,by rw [HH,if_neg hs,if_pos h3];simp only;rw [hw2]⟩
theorem Vp (s:ByteArray) (hs:s.size<=255):Fn Tryz.prog 246 [.v (.string s)] fun r=>r=bA (GS s):=by
 refine⟨⟨_,Tryz.func246,rfl,by decide⟩,fun c0 us hd hM _ hr=>?_⟩
 obtain⟨u1,rfl,h1⟩:=ZZ hr
 simp only [Rd] at h1
 subst h1
 refine(SZ s c0.w noM hs).mono ?_
 rintro e w' ⟨r,rfl,ho,hB⟩
 exact⟨_,_,rfl,rfl,hB,VE ho hM⟩
theorem T5 (s:ByteArray) (hs:s.size<=1000000):Fn Tryz.prog 260 [.v (.string s)] fun r=>r = .tp [bA (if ET s.data.toList=0 then GS s else []), .v (.int .i64 (ET s.data.toList))]:=by
 have hc:=IY s hs
 refine⟨⟨_,Tryz.func260,rfl,by decide⟩,fun c0 us hd hM hg hr=>?_⟩
 have hr0:=hr
 obtain⟨u1,rfl,h1⟩:=ZZ hr
 simp only [Rd] at h1
 subst h1
 have hC:=hc.calls c0 _ hd hM hg hr0
 by_cases h0:ET s.data.toList=0
 ·have h24:=Ii h0
  have hv:Lib.validD s.data.toList=true:=by
   unfold ET at h0
   split at h0
   ·cases h0
   ·rename_i h;simp at h;exact h.2
  rw [if_pos h0]
  rw [h0] at hC |-
  refine(VO s c0.w noM (by have:s.size=s.data.toList.length:=rfl;omega) hv (hC.mono ?_)).mono ?_
  ·rintro e w' ⟨v,r,rfl,rfl,q1,q2⟩
   simp only [Rd] at q2
   exact⟨by rw [q2],q1⟩
  ·rintro e w' ⟨r,rfl,ho,hB⟩
   exact⟨_,_,rfl,rfl,hB,O9 (VE ho hM) (Tj _)⟩
 ·rw [if_neg h0]
  refine(XR s c0.w (ET s.data.toList) (by simpa using h0) (hC.mono ?_)).mono ?_
  ·rintro e w' ⟨v,r,rfl,rfl,q1,q2⟩
   simp only [Rd] at q2
   exact⟨by rw [q2],q1⟩
  ·rintro e w' ⟨rfl,hB⟩
   refine⟨_,_,rfl,rfl,hB,O9 ?_ (Tj _)⟩
   exact Br 1 (fun i=> [.v (.int .u8 (([]:List UInt8).getD i 0).toNat)]) _ (.slice none 0 0) (by simp [Rd])
theorem P4 (l:List Int) (j:Nat) (h:j<l.length):O2 (l.take (j+1))=O2 (l.take j) ++ leB 1 (l.getD j 0).toNat:=by
 have e:∀ n,n<=l.length->O2 (l.take n)=rowB (l.take n) ((FP l.length).take n):=fun n hn=>by
  rw [O2,Au,D0 hn,FP,FP,List.take_replicate,D0 hn]
 rw [e _ (by omega),e _ (by omega),rowB_step l (FP l.length) j h (by rw [J8];exact h)]
 simp [FP,Aa,Af h]
theorem Lm (l:List Int):(O2 l).length=l.length:=by rw [O2,tot_rowB _ _ (J8 _).symm,tot_ones]
def Gy (a:An) (k:Nat):List UInt8:=rowB (K4 a) szA ++ GS a.label ++ ((a.homes.take k).map MO).flatten
theorem N_ (a:An) (k:Nat) (h:k<a.homes.length):Gy a (k+1)=Gy a k ++ MO (a.homes.getD k ⟨[],0,0⟩):=by
 rw [Gy,Gy,AI h,AF,BY,A5]
 simp only [A0,Bp,AK,List.flatten_nil,AM,Aa,Af h,Bz,A5]
theorem Qu (a:An):Gy a a.homes.length=KX a:=by rw [Gy,Ar,KX]
theorem Yr {g:Geo} {a:An} (hg:Bt g=true) (ha:Bg g a=true):∀ k (_:k<(K4 a).length) (_:k<szA.length),EY szA[k]/\0<=(K4 a)[k]/\(K4 a)[k]<Dn szA[k]:=by
 obtain⟨g1,g2,g3,g4,g5⟩:=As.1 hg
 simp only [Bg,Ad,decide_eq_true_eq,Bd,BR,BH,AL,Aw] at ha
 obtain⟨⟨q1,q2,q3,q4⟩,_,_,q5,q6,q7,q8⟩:=ha
 intro k p _
 have hk:k=0\/k=1\/k=2\/k=3\/k=4:=by simp [K4] at p;omega
 have l4:Dn 4=4294967296:=rfl
 have l1:Dn 1=256:=rfl
 rcases hk with rfl | rfl | rfl | rfl | rfl
 ·exact⟨.inr (.inr rfl),q1.1,by show a.gen<Dn 4;omega⟩
 ·exact⟨.inr (.inr rfl),q2.1,by show a.epoch<Dn 4;omega⟩
 ·exact⟨.inr (.inr rfl),q3.1,by show a.seq<Dn 4;omega⟩
 ·exact⟨.inr (.inr rfl),q4.1,by show a.last<Dn 4;omega⟩
 ·exact⟨.inl rfl,q5.1,by show a.pos<Dn 1;omega⟩
theorem EF {g:Geo} {a:An} (hg:Bt g=true) (ha:Bg g a=true) (k:Nat) (hk:k<=a.homes.length):(Gy a k).length<=200/\a.homes.length<=4/\ET a.label.data.toList=0/\a.label.size<=24/\(∀ h∈a.homes,DN g h=true):=by
 obtain⟨g1,g2,g3,g4,g5⟩:=As.1 hg
 simp only [Bg,Ad,decide_eq_true_eq,Bd,BR,BH,AL,Aw] at ha
 obtain⟨_,_,_,q5,q6,q7,q8⟩:=ha
 have h24:=Ii q6
 have hs:a.label.size=a.label.data.toList.length:=rfl
 have hr:(rowB (K4 a) szA).length=17:=tot_rowB _ _ rfl
 have hm:((a.homes.take k).map MO).flatten.length=(a.homes.take k).length*(g.d.toNat+6):=(Lp hg (a.homes.take k) fun h hh=>q8 h (C0 hh)).2
 have hk4:(a.homes.take k).length<=4:=by rw [Au];omega
 have hmul:(a.homes.take k).length*(g.d.toNat+6)<=4*10:=Ds hk4 (by omega)
 refine⟨?_,by omega,q6,by omega,q8⟩
 rw [Gy,Ai,Ai,hr,Gk,hm]
 omega
theorem MI {L:List UInt8} {n:Nat} {es:List (List AV)} (hn:n=L.length) (he:es=L.map EK) (c:Ctx) (v:Value) (h:Rd (.sl 1 n fun i=>es.getD i []) c v):Rd (bA L) c v:=by
 subst he
 exact zE hn (fun i hi=>Bn (f:=EK) (l:=L) (d:=0) (hn ▸ hi)) h
theorem Ic {α:Type} {d:α} {β:Type} (f:α->β) (l:List α):(List.range l.length).map (fun i=>f (l.getD i d))=l.map f:=by
 refine List.ext_getElem (by simp) fun i h1 h2=>?_
 simp only [Ab,DB] at h1
 simp [Aa,Af h1]
theorem Qp (L:List UInt8):((List.range L.length).map fun i=> [AV.v (Value.int IntKind.u8 ((L.getD i 0).toNat:Int))])=L.map EK:=Ic (d:=0) EK L
theorem U4 (g:Geo) (a:An) (hl:a.label.size<=1000000) (hh:a.homes.length<=1000000):Fn Tryz.prog 215 [.ag (AY g), .ag (Ed a)] fun r=>r = .tp [bA (if Bt g&&Bg g a then KX a else []), .v (Gp (Bt g&&Bg g a))]:=by
 have hc:=K7 g a hl hh
 have no:∀ (c:Ctx) (v:Value),Rd (.tp [.v (.slice none 0 0), .v (.int .i64 1)]) c v->Rd (.tp [bA [], .v (.int .i64 1)]) c v:=fun c v h=>by
  simp only [Rd,RdL] at h |-
  obtain⟨xs,rfl,y,ys,rfl,rfl,h⟩:=h
  exact⟨_,rfl,_,_,rfl,Br 1 (fun i=> [.v (.int .u8 (([]:List UInt8).getD i 0).toNat)]) c (.slice none 0 0) (by simp [Rd]),h⟩
 cases hok:(Bt g&&Bg g a) with
 | false=>
  rw [hok] at hc
  refine zT Tryz.func215 rfl ?_
  conv=>whnf
  refine z_ hc ?_
  exact⟨_,no,rfl⟩
 | true=>
  rw [hok] at hc
  have hg:Bt g=true:=by simp only [Ad] at hok;exact hok.1
  have ha:Bg g a=true:=by simp only [Ad] at hok;exact hok.2
  obtain⟨q1,q2,q3,q4,q5⟩:=EF hg ha 0 (Aj _)
  have hrow:=Ou (K4 a) szA rfl (by show 5<=1000;decide) (Yr hg ha)
  have hlb:=T5 a.label hl
  rw [if_pos q3,q3] at hlb
  refine zT Tryz.func215 rfl ?_
  conv=>whnf
  refine z_ hc ?_
  conv=>whnf
  refine zM (hrow).go ?_
  refine⟨rfl,?_⟩
  refine⟨rfl,?_⟩
  conv=>whnf
  refine zY [iA (K4 a),iA szA] ⟨(D5 (l:=(K4 a)) rfl).1,(D5 (l:=szA) rfl).1,tv⟩ ?_
  refine zU (hrow) rfl ?_
  rintro _ _ ⟨rfl,rfl⟩
  conv=>whnf
  refine z_ hlb ?_
  conv=>whnf
  have hr17:(rowB (K4 a) szA).length=17:=tot_rowB _ _ rfl
  refine Ae ⟨by simp,by rw [hr17,Gk];omega⟩ ?_
  conv=>whnf
  have e0:(rowB (K4 a) szA).map EK ++ ((List.range (GS a.label).length).map fun i=> [AV.v (Value.int IntKind.u8 (((GS a.label).getD i 0).toNat:Int))])=(Gy a 0).map EK:=by
   rw [Qp,<-AF];simp [Gy]
  have e1:(rowB (K4 a) szA).length+(GS a.label).length=(Gy a 0).length:=by simp [Gy]
  refine zk Nat (fun k=>([(2, .bp 0 0),(3, .bp 1 0),(7, .ow 4 (Gy a k).length),(49,I8 a.homes),(50, .v (.int .i64 a.homes.length)),(51, .v (.int .i64 k))], [.box 23 (AY g), .box 28 (Ed a), .dead, .dead, .row 5 1 ((Gy a k).map EK)])) (fun k=>k<=a.homes.length) (fun k=>a.homes.length - k) 0 (Aj _)
   (zG ⟨[],tv,⟨rfl,rfl,congrArg (AV.ow 4) e1,rfl,rfl,rfl,tv⟩,⟨rfl,rfl,congrArg (AB.row _ _) e0.symm,tv⟩,rfl,rfl,rfl⟩) ?_
  intro k hk
  conv=>whnf
  refine A3 (fun h6=>?_) (fun h6=>?_) <;> (repeat rw [Ac] at h6) <;> conv=>whnf
  ·refine⟨by first | omega | (refine⟨rfl,?_,?_⟩ <;> first | omega | (simp only [Ab];done) | (simp only [Ab];omega)) | (simp only [Ab];omega),?_⟩
   conv=>whnf
   have hk':k<a.homes.length:=by omega
   have hh4:=q5 _ (A9 (d:=(⟨[],0,0⟩:Hm)) hk')
   obtain⟨f1,f2,f3,f4,f5⟩:=OE hg hh4
   have hst:=N_ a k hk'
   have hB:=(EF hg ha k hk).1
   have hB2:=(EF hg ha (k+1) hk').1
   generalize hX:Gy a k=X at hst hB |-
   rw [show a.homes.getD (k:Int).toNat ⟨[],0,0⟩=a.homes.getD k ⟨[],0,0⟩ by rw [Ac]]
   generalize a.homes.getD k ⟨[],0,0⟩=h at hh4 f1 f2 f3 f4 f5 hst |-
   rw [hst] at hB2
   have hlm:(MO h).length=h.places.length+5:=by rw [JH,tot_rowB _ _ (by rw [Ai,Ju];rfl),Jp]
   rw [Ai,hlm] at hB2
   refine zk Nat (fun j=>([(2, .bp 0 0),(3, .bp 1 0),(7, .ow 4 (X ++ O2 (h.places.take j)).length),(12, .bp 5 0),(49,I8 a.homes),(50, .v (.int .i64 a.homes.length)),(51, .v (.int .i64 k)),(56,iA h.places),(57, .v (.int .i64 h.places.length)),(58, .v (.int .i64 j))], [.box 23 (AY g), .box 28 (Ed a), .dead, .dead, .row 5 1 ((X ++ O2 (h.places.take j)).map EK), .box 53 (DG h)])) (fun j=>j<=h.places.length) (fun j=>h.places.length - j) 0 (Aj _)
    (zG ⟨[],tv,⟨rfl,rfl,congrArg (fun l=>AV.ow 4 (List.length l)) (AM X).symm,rfl,rfl,rfl,rfl,rfl,rfl,rfl,tv⟩,⟨rfl,rfl,congrArg (fun l=>AB.row _ _ (List.map EK l)) (AM X),rfl,tv⟩,rfl,rfl,rfl⟩) ?_
   intro j hj
   conv=>whnf
   refine A3 (fun h7=>?_) (fun h7=>?_) <;> (repeat rw [Ac] at h7) <;> conv=>whnf
   ·refine⟨by first | omega | (refine⟨rfl,?_,?_⟩ <;> first | omega | (simp only [Ab];done) | (simp only [Ab];omega)) | (simp only [Ab];omega),?_⟩
    conv=>whnf
    rw [Ac]
    have hj':j<h.places.length:=by omega
    have hp:=f2 _ (A9 (d:=(0:Int)) hj')
    have hpl:=Lm (h.places.take j)
    have hps:=P4 h.places j hj'
    have hput:=XC (X ++ O2 (h.places.take j)) (h.places.getD j 0) 1 (.inl rfl) (by rw [Ai,hpl,Au];omega) hp.1 hp.2
    rw [show (1:Int).toNat=1 from rfl,A5,<-hps] at hput
    refine zM (hput).go ?_
    conv=>whnf
    repeat' (refine Ae (by first | rfl | omega | (simp;done) | (simp only [Ab];omega) | (simp;omega)) ?_;conv=>whnf)
    refine zY [bA (X ++ O2 (h.places.take j)), .v (.int .i64 (h.places.getD j 0)), .v (.int .i64 1)] ⟨MI rfl rfl,ri,ri,tv⟩ ?_
    refine zU (hput) rfl ?_
    rintro _ _ ⟨rfl,rfl⟩
    refine⟨j+1,by omega,by omega,zR (s:= [0,1,2,3,6,5]) ⟨⟨rfl,rfl,rfl,rfl,rfl,rfl,rfl,rfl,rfl,AS (by omega),tv⟩,⟨rfl,rfl,tv,tv,rfl,rfl,tv⟩,rfl,rfl,rfl,rfl,rfl⟩⟩
   ·have ej:j=h.places.length:=by omega
    subst ej
    have hr2:=Ou [h.next,h.root] [1,4] rfl (by show 2<=1000;decide) (RQ f3 ⟨f4,f5⟩)
    have l5:(rowB [h.next,h.root] [1,4]).length=5:=tot_rowB _ _ rfl
    have hpl:=Lm (h.places.take h.places.length)
    rw [Ar] at hpl |-
    refine zM (hr2).go ?_
    refine⟨rfl,?_⟩
    refine⟨rfl,?_⟩
    conv=>whnf
    refine zY [iA [h.next,h.root],iA [1,4]] ⟨(D5 (l:= [h.next,h.root]) rfl).1,(D5 (l:= [1,4]) rfl).1,tv⟩ ?_
    refine zU (hr2) rfl ?_
    rintro _ _ ⟨rfl,rfl⟩
    refine⟨by simp,?_⟩
    conv=>whnf
    refine Ae ⟨by simp,by rw [l5,Ai,hpl];omega⟩ ?_
    conv=>whnf
    refine⟨k+1,hk',by omega,zR (s:= [0,1,2,3,4]) ⟨⟨rfl,rfl,congrArg (AV.ow 4) (by rw [hst];simp [MO,C7]),rfl,rfl,AS (by omega),tv⟩,⟨rfl,rfl,tv,tv,congrArg (fun l=>some (AB.row _ _ l)) (by rw [hst];simp [MO]),tv⟩,rfl,rfl,rfl,rfl,rfl⟩⟩
  ·have ek:k=a.homes.length:=by omega
   subst ek
   rw [Qu]
   refine⟨by simp,?_⟩
   exact⟨.tp [bA (KX a), .v (.int .i64 0)],fun c v h=>by
    simp only [Rd,RdL] at h |-
    obtain⟨xs,rfl,y,ys,rfl,h1,h⟩:=h
    exact⟨_,rfl,y,ys,rfl,MI rfl rfl c y (by simp only [Rd];exact h1),h⟩,rfl⟩
section
variable {P:Program} {T:Tys} {w0:Fl} {M0:Ms} {n d0:Nat} {ce:Ctx} {l m:Nat}
theorem Oq {row:String} {args:Array Value} {w:World} {R:Value->World->Prop} (h:Rows P row args w R):RowsIn (Fence.wide.inRound l) m P row args w R:=
 fun c cs _=>let ⟨v,w',r,s⟩:=h c cs;⟨v,w',r,stepsIn_wide.2 s⟩
theorem Hk {o:Oper} {a:Act} {w:World} {next:Act->World->Prop} {Q:Exit->Act->World->Prop} (hd:∀ c,o.op≠ .defer c) (h:o.wp P a w next Q):o.wpIn (Fence.wide.inRound l) m P a w next Q:=by
 refine⟨fun _ _=>trivial,?_⟩
 rw [show (Fence.wide.inRound l).round=some l from rfl,Oper.semAt_some l a.eval o hd]
 unfold Oper.wp at h
 revert h
 generalize (execOp a.eval o).run P w=r
 intro h
 cases r with
 | ok x w'=>
  cases x with
  | value v=>exact h
  | skip=>exact h
  | defer d=>exact h
  | enter f args=>exact⟨fun e=>(by cases e),CallsIn.inRound l (callsIn_wide.2 h)⟩
  | row r args=>exact⟨fun e=>(by cases e),Oq h⟩
  | _=>exact h.elim
 | halt x w'=>
  cases x with
  | panic v=>exact h
  | _=>exact h.elim
def roundOk:Code->Bool
 | .skip=>true
 | .exit _=>true
 | .ret=>true
 | .region _ ops draw=>!draw&&ops.toList.all ZE
 | .seq a b=>roundOk a&&roundOk b
 | .cond _ a b=>roundOk a&&roundOk b
 | .block _ c=>roundOk c
 | .rangeFunc _ _ _ body=>noRF body
 | _=>false
theorem YW {o:Oper} (h:ZE o=true):∀ c,o.op≠ .defer c:=by
 intro c e
 unfold ZE at h
 rw [e] at h
 cases h
theorem IT (hT:TOk P T) {ops:Array Oper} {K:Fr->List AB->Prop} {Q:Exit->Act->World->Prop} (hq:∀ a w,Eh w0 M0 ce n K a w->Q .normal a w) :
  ∀ (r:List Oper) (c:Ctx) (fr:Fr) (H:List AB) (a:Act),r.all ZE=true->HS w0 M0 c H->FR w0 c n fr a->Ext ce c->O5 P T n ops.toList r fr H K->wpListIn (Fence.wide.inRound l) m P ops Q r a c.w
 | [],c,fr,H,a,_,hs,hf,he,h=>hq _ _ ⟨c,fr,H,rfl,h,hs,hf,he⟩
 | o::r,c,fr,H,a,hr,hs,hf,he,h=>by
  simp only [Bd,Ad] at hr
  simp only [O5] at h
  unfold wpListIn
  rcases D6 (ops:=ops) hf h with ⟨hw,fr',hf',h⟩ | ⟨hw,fr',hf',h⟩
  ·rw [if_pos hw]
   refine Hk (YW hr.1) (FF hT hs hf' he h ?_)
   rintro a' w' ⟨c',fr2,H',rfl,h1,h2,h3,h4⟩ -
   exact IT hT hq r c' fr2 H' a' hr.2 h2 h3 h4 h1
  ·rw [if_neg (by rw [hw];simp)]
   obtain⟨fr2,h1,h2⟩:=Cw (v:=undef) hf' (by simp [Rd]) h
   exact⟨fun _ _=>trivial,IT hT hq r c fr2 H _ hr.2 hs h2 he h1⟩
theorem Cx (hT:TOk P T) (hd:ce.dom=d0):∀ (cd:Code) (Q:QA) (Q':Exit->Act->World->Prop) (c:Ctx) (fr:Fr) (H:List AB) (a:Act),roundOk cd=true->(noRF cd=true\/(3<=m/\∃ r,ce.w.heap[l]? = some (.loop r)/\¬ce.M l))->(∀ e a w,LiftQ w0 M0 ce n Q e a w->Q' e a w)->HS w0 M0 c H->FR w0 c n fr a->Ext ce c->
  Cr P T n d0 cd Q fr H->cd.wpIn (Fence.wide.inRound l) m P Q' a c.w
 | .skip,Q,Q',c,fr,H,a,_,_,hq,hs,hf,he,h=>wpIn_skip (hq .normal _ _ ⟨c,fr,H,rfl,h,hs,hf,he⟩)
 | .region id ops draw,Q,Q',c,fr,H,a,hr,hm,hq,hs,hf,he,h=>by
  simp only [roundOk,Ad,Bm] at hr
  obtain⟨rfl,hr⟩:=hr
  simp only [Cr] at h
  exact wpIn_region_list (IT hT (fun a w hl=>hq .normal a w hl) ops.toList c fr H a hr hs hf he h)
 | .seq x y,Q,Q',c,fr,H,a,hr,hm,hq,hs,hf,he,h=>by
  simp only [roundOk,Ad] at hr
  have hm1:=hm.imp_left fun h=>(by simp only [noRF,Ad] at h;exact h.1)
  have hm2:=hm.imp_left fun h=>(by simp only [noRF,Ad] at h;exact h.2)
  simp only [Cr] at h
  have plain:Cr P T n d0 x (EX.then (fun fr H=>Cr P T n d0 y Q fr H) Q) fr H->(Code.seq x y).wpIn (Fence.wide.inRound l) m P Q' a c.w:=by
   intro h
   refine wpIn_seq_k fun K hK=>Cx hT hd x _ _ c fr H a hr.1 hm1 (zC ?_ hq) hs hf he h
   rintro a' w' ⟨c',fr',H',rfl,h1,h2,h3,h4⟩
   exact hK _ _ (Cx hT hd y Q Q' c' fr' H' a' hr.2 hm2 hq h2 h3 h4 h1)
  split at h
  ·rcases h.ex with h | ⟨ι,st,I,h,hk⟩ | ⟨ι,st,I,h,hk⟩ | ⟨ι,st,I,h,hk⟩
   ·exact plain h
   ·refine wpIn_seq_k fun K hK=>Cx hT hd x _ _ c fr H a hr.1 hm1 (zC ?_ hq) hs hf he h
    rintro a' w' ⟨c',fr',H',rfl,⟨z,hI,hw⟩,h2,h3,h4⟩
    obtain⟨c4,e4,hs4,hf4,he4⟩:=hw.sound hd h2 h3 h4
    rw [<-e4]
    exact hK _ _ (Cx hT hd y Q Q' c4 _ _ a' hr.2 hm2 hq hs4 hf4 he4 (hk z hI))
   ·refine wpIn_seq_k fun K hK=>Cx hT hd x _ _ c fr H a hr.1 hm1 (zC ?_ hq) hs hf he h
    rintro a' w' ⟨c',fr',H',rfl,⟨z,hI,hw⟩,h2,h3,h4⟩
    obtain⟨c4,e4,hs4,hf4,he4⟩:=hw.sound hd h2 h3 h4
    rw [<-e4]
    exact hK _ _ (Cx hT hd y Q Q' c4 _ _ a' hr.2 hm2 hq hs4 hf4 he4 (hk z hI))
   ·refine wpIn_seq_k fun K hK=>Cx hT hd x _ _ c fr H a hr.1 hm1 (zC ?_ hq) hs hf he h
    rintro a' w' ⟨c',fr',H',rfl,⟨z,hI,hw⟩,h2,h3,h4⟩
    obtain⟨c4,e4,hs4,hf4,he4⟩:=hw.sound hd h2 h3 h4
    rw [<-e4]
    exact hK _ _ (Cx hT hd y Q Q' c4 _ _ a' hr.2 hm2 hq hs4 hf4 he4 (hk z hI))
  ·exact plain h
 | .cond x y z,Q,Q',c,fr,H,a,hr,hm,hq,hs,hf,he,h=>by
  simp only [roundOk,Ad] at hr
  have hm1:=hm.imp_left fun h=>(by simp only [noRF,Ad] at h;exact h.1)
  have hm2:=hm.imp_left fun h=>(by simp only [noRF,Ad] at h;exact h.2)
  simp only [Cr] at h
  split at h
  ·rename_i t ht
   have hrd:=hf.ev x
   rw [ht] at hrd
   simp only [Rd] at hrd
   obtain⟨h1,h2⟩:=ES h
   refine wpIn_cond_split hrd (fun e=>?_) fun e=>?_
   ·exact Cx hT hd y Q Q' c fr H a hr.1 hm1 hq hs hf he (h1 e)
   ·exact Cx hT hd z Q Q' c fr H a hr.2 hm2 hq hs hf he (h2 e)
  ·exact h.elim
 | .block id x,Q,Q',c,fr,H,a,hr,hm,hq,hs,hf,he,h=>by
  simp only [roundOk] at hr
  simp only [noRF] at hm
  simp only [Cr] at h
  refine wpIn_block (Cx hT hd x _ _ c fr H a hr hm ?_ hs hf he h)
  intro e a' w' hl
  cases e with
  | normal=>exact hq .normal _ _ hl
  | exit i=>
   simp only [Exit.inBlock]
   have hl:Eh w0 M0 ce n (match Nat.beq i id with | true=>Q .normal | false=>Q (.exit i)) a' w':=by
    have e:(EX.inBlock id Q (EX.exit i))=(match Nat.beq i id with | true=>Q .normal | false=>Q (.exit i)):=by
     funext fr H
     simp only [EX.inBlock]
     cases Nat.beq i id <;> rfl
    rw [<-e]
    exact hl
   by_cases hi:i=id
   ·subst hi
    rw [if_pos rfl]
    rw [Nat.beq_refl] at hl
    exact hq .normal _ _ hl
   ·rw [if_neg hi]
    have hb:Nat.beq i id=false:=by
     cases hq:Nat.beq i id with
     | true=>exact absurd (Am hq) hi
     | false=>rfl
    rw [hb] at hl
    exact hq (.exit i) _ _ hl
  | ret=>exact hq .ret _ _ hl
  | _=>exact hl.elim
 | .exit id,Q,Q',c,fr,H,a,_,_,hq,hs,hf,he,h=>wpIn_exit (hq (.exit id) _ _ ⟨c,fr,H,rfl,h,hs,hf,he⟩)
 | .ret,Q,Q',c,fr,H,a,_,_,hq,hs,hf,he,h=>wpIn_ret (hq .ret _ _ ⟨c,fr,H,rfl,h,hs,hf,he⟩)
 | .loop _,_,_,_,_,_,_,hr,_,_,_,_,_,_=>by simp [roundOk] at hr
 | .rangeFunc g ps asg body,Q,Q',c,fr,H,a,hr,hm,hq,hs,hf,he,h=>by
  simp only [roundOk] at hr
  rcases hm with hm | ⟨hm,r,h1,h2⟩
  ·simp [noRF] at hm
  ·simp only [Cr] at h
   have hk:=he.keep l (Ay.1 h1).1 h2
   exact h.wpR hr w0 M0 ce c a hs hf he hd l r m (hk.2.trans h1) hm Q' fun ex c' fr' H' a' q1 q2 q3 q4=>by
    cases ex <;> exact hq _ _ _ ⟨c',fr',H',rfl,q1,q2,q3,q4⟩
 | .label _,_,_,_,_,_,_,hr,_,_,_,_,_,_=>by simp [roundOk] at hr
 | .goto _,_,_,_,_,_,_,hr,_,_,_,_,_,_=>by simp [roundOk] at hr
 | .scope _,_,_,_,_,_,_,hr,_,_,_,_,_,_=>by simp [roundOk] at hr
 | .refuse _,_,_,_,_,_,_,hr,_,_,_,_,_,_=>by simp [roundOk] at hr
end
end
end Go.Proofs.YtkolckdakddggaaGreatDoor.A
