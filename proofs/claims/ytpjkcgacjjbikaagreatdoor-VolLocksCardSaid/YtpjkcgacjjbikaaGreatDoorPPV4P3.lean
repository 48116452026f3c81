/-
Several texts in one.
-/
import Derived.Test.YtpjkcgacjjbikaaGreatDoorPPV4P2
import Derived.Test.YtpjkcgacjjbikaaGreatDoorPPV4P1
import Derived.Lib.Overlaps
import Derived.Laws.Externs
import Derived.Lib.AppendZerosOnto
import Derived.ProofKit
import Derived.Deep.Slices
import Derived.OpenShut
import Derived.Deep.RegionLaw
import Derived.Shelf.RegionOpenPlain
set_option linter.defProp false
set_option maxRecDepth 100000
set_option maxHeartbeats 8000000
set_option linter.unusedSimpArgs false
set_option linter.unusedVariables false
set_option linter.deprecated false
namespace Go.Proofs.YtpjkcgacjjbikaaGreatDoor.A
section
open Go.RowKit
theorem Wu (a:An):rowB (Km a) szA=leB 4 a.gen.toNat ++ (leB 4 a.epoch.toNat ++ (leB 4 a.seq.toNat ++ (leB 4 a.last.toNat ++ leB 1 a.pos.toNat))):=by
 simp [rowB,Km,szA]
theorem ZM (g:Geo) (a:An) (hg:Bq g=true) (ha:B7 g a=true):Fn Tryz.prog 132 [.ag (Fp a)] fun r=>r=bA (JE a):=by
 obtain⟨g1,g2,g3,g4,g5⟩:=A2.1 hg;obtain⟨q1,q2,q3,q4,q5⟩:=DE hg ha 0 (Aj _);have ha0:=ha;simp only [B7,Ad,decide_eq_true_eq,AR,BA,B6,AK,Av] at ha;obtain⟨⟨w1,w2,w3,w4⟩,_,_,w5,_,_,_⟩:=ha;have p1:=Hn [] a.gen 4 (by simp) w1 (by decide);have p2:=Hn (leB 4 a.gen.toNat) a.epoch 4 (by rw [leB_len];decide) w2 (by decide);have p3:=Hn (leB 4 a.gen.toNat ++ leB 4 a.epoch.toNat) a.seq 4 (by simp [leB_len]) w3 (by decide);have p4:=Hn (leB 4 a.gen.toNat ++ leB 4 a.epoch.toNat ++ leB 4 a.seq.toNat) a.last 4 (by simp [leB_len]) w4 (by decide);have p5:=Jn (leB 4 a.gen.toNat ++ leB 4 a.epoch.toNat ++ leB 4 a.seq.toNat ++ leB 4 a.last.toNat) a.pos 1 (by simp [leB_len]) (by omega) (by decide);have hlb:=UA a.label (by omega);refine zT Tryz.func132 rfl ?_;conv=>whnf
 refine zV [bA [],iv a.gen,iv 4] ⟨Bv 1 _,ri,ri,tv⟩ ?_;refine zY p1 ?_;conv=>whnf
 refine zY p2 ?_;conv=>whnf
 refine zY p3 ?_;conv=>whnf
 refine zY p4 ?_;conv=>whnf
 apply zW (0) tys_ok mixed (.o [0,1,2,4,5,3,6,7,8] .fin) (by kernel_rfl);conv=>whnf
 (refine zX p5 rfl ?_;rintro _ _ ⟨rfl,rfl⟩)
 conv=>whnf
 refine zY hlb ?_;conv=>whnf
 try (refine tJ ?_;conv=>whnf)
 try (refine tK ?_;conv=>whnf)
 have eR:leB 4 a.gen.toNat ++ leB 4 a.epoch.toNat ++ leB 4 a.seq.toNat ++ leB 4 a.last.toNat ++ leB 1 a.pos.toNat=rowB (Km a) szA:=by rw [Wu];simp
 rw [eR];have hr17:(rowB (Km a) szA).length=17:=tot_rowB _ _ rfl;refine Ai ⟨by simp,by rw [hr17,F5];omega⟩ ?_;conv=>whnf
 have e0:(rowB (Km a) szA).map EI ++ ((List.range (Gj a.label).length).map fun i=> [AV.v (Value.int IntKind.u8 (((Gj a.label).getD i 0).toNat:Int))])=(FD a 0).map EI:=by
  rw [Qu,<-A0];simp [FD]
 have e1:(rowB (Km a) szA).length+(Gj a.label).length=(FD a 0).length:=by simp [FD]
 refine zd Nat (fun k=>([(1, .bp 0 0),(3, .ow 1 (FD a k).length),(4,iv k)], [.box 28 (Fp a), .row 5 1 ((FD a k).map EI)])) (fun k=>k<=a.homes.length) (fun k=>a.homes.length - k) 0 (Aj _)
  (zL ⟨[],tv,⟨rfl,congrArg (AV.ow 1) e1,rfl,tv⟩,⟨rfl,congrArg (AB.row _ _) e0.symm,tv⟩,rfl,rfl,rfl⟩) ?_
 intro k hk;conv=>whnf
 refine AS (fun h6=>?_) (fun h6=>?_) <;> (repeat rw [Ac] at h6) <;> conv=>whnf
 ·have hk':k<a.homes.length:=by omega
  have hh4:=q5 _ (AC (d:=(⟨[],0,0⟩:Hm)) hk');obtain⟨f1,f2,f3,f4,f5⟩:=LT hg hh4;have hst:=N8 a k hk';have hB:=(DE hg ha0 k hk).1;have hB2:=(DE hg ha0 (k+1) hk').1;obtain⟨h,hh⟩:∃ h,h=a.homes.getD k ⟨[],0,0⟩:=⟨_,rfl⟩;rw [<-hh] at hh4 f1 f2 f3 f4 f5 hst;generalize hX:FD a k=X at hst hB |-
  have hlm:(M9 h).length=h.places.length+5:=by rw [J1,tot_rowB _ _ (by rw [Ah,EU];try rfl),ET]
  rw [hst,Ah,hlm] at hB2;refine zd Nat (fun j=>([(1, .bp 0 0),(3, .ow 1 (X ++ NW (h.places.take j)).length),(4,iv k),(5,iv j)], [.box 28 (Fp a), .row 5 1 ((X ++ NW (h.places.take j)).map EI)])) (fun j=>j<=h.places.length) (fun j=>h.places.length - j) 0 (Aj _)
   (zL ⟨[],tv,⟨rfl,congrArg (fun l=>AV.ow 1 (List.length l)) (AE X).symm,rfl,rfl,tv⟩,⟨rfl,congrArg (fun l=>AB.row _ _ (List.map EI l)) (AE X),tv⟩,rfl,rfl,rfl⟩) ?_
  intro j hj;conv=>whnf
  have hgk:a.homes.getD (k:Int).toNat ⟨[],0,0⟩=h:=by rw [Ac,hh]
  refine⟨by first | omega | (refine⟨rfl,?_,?_⟩ <;> first | omega | (simp only [Aa];done) | (simp only [Aa];omega)) | (simp only [Aa];omega),?_⟩;conv=>whnf
  rw [hgk];refine AS (fun h7=>?_) (fun h7=>?_) <;> (repeat rw [Ac] at h7) <;> conv=>whnf
  ·refine⟨by first | omega | (refine⟨rfl,?_,?_⟩ <;> first | omega | (simp only [Aa];done) | (simp only [Aa];omega)) | (simp only [Aa];omega),?_⟩;conv=>whnf
   rw [hgk];refine⟨by first | omega | (refine⟨rfl,?_,?_⟩ <;> first | omega | (simp only [Aa];done) | (simp only [Aa];omega)) | (simp only [Aa];omega),?_⟩;conv=>whnf
   rw [Ac];have hj':j<h.places.length:=by omega
   have hp:=f2 _ (AC (d:=(0:Int)) hj');have hpl:=KZ (h.places.take j);have hps:=P0 h.places j hj';have hput:=Jn (X ++ NW (h.places.take j)) (h.places.getD j 0) 1 (by rw [Ah,hpl,Aq];omega) (by omega) (by decide);rw [AA,<-hps] at hput;refine zS (hput).go ?_;conv=>whnf
   repeat' (refine Ai (by first | rfl | omega | (simp;done) | (simp only [Aa];omega) | (simp;omega)) ?_;conv=>whnf)
   refine zV [bA (X ++ NW (h.places.take j)),iv (h.places.getD j 0),iv 1] ⟨Mw rfl rfl,ri,ri,tv⟩ ?_;refine zX (hput) rfl ?_;rintro _ _ ⟨rfl,rfl⟩;refine⟨j+1,by omega,by omega,zQ (s:= [0,2]) ⟨⟨rfl,rfl,rfl,AT (by omega),tv⟩,tA,rfl,rfl,rfl,rfl,rfl⟩⟩
  ·have ej:j=h.places.length:=by omega
   subst ej;have hpl:=KZ (h.places.take h.places.length);rw [A6] at hpl |-
   have hp1:=Hn (X ++ NW h.places) h.next 1 (by rw [Ah,hpl];omega) (by omega) (by decide);have hp2:=Jn (X ++ NW h.places ++ leB 1 h.next.toNat) h.root 4 (by rw [Ah,Ah,hpl,leB_len];omega) (by omega) (by decide);have eY:X ++ NW h.places ++ leB 1 h.next.toNat ++ leB 4 h.root.toNat=X ++ M9 h:=by simp [M9,rowB]
   rw [eY] at hp2;apply zW (0) tys_ok mixed (.o [0,1,2,3,4,5,6,8,9,10,11,12,13,7,14,15] .fin) (by kernel_rfl);conv=>whnf
   try (refine tI ?_;conv=>whnf)
   try (refine tI ?_;conv=>whnf)
   (rw [hgk];refine zS hp1.go ?_;(conv=>whnf);refine Ai (by simp) ?_;(conv=>whnf);refine zV [bA (X ++ NW h.places),iv h.next,iv 1] ⟨Mw rfl rfl,ri,ri,tv⟩ ?_;refine zY hp1 ?_)
   conv=>whnf
   (refine zX hp2 rfl ?_;rintro _ _ ⟨rfl,rfl⟩)
   refine⟨k+1,hk',by omega,zQ (s:= [0,2]) ⟨⟨rfl,congrArg (AV.ow 2) (by rw [hst]),AT (by omega),tv⟩,⟨rfl,congrArg (fun l=>some (AB.row _ _ l)) (by rw [hst]),tv⟩,rfl,rfl,rfl,rfl,rfl⟩⟩
 ·have ek:k=a.homes.length:=by omega
  subst ek;rw [Q0];refine⟨by simp,?_⟩;exact⟨bA (JE a),Mw rfl rfl,rfl⟩
def Dt (a:An) (i:Int):List UInt8:=CF i a.gen (JE a)
theorem Kn {g:Geo} {a:An} (hg:Bq g=true) (ha:B7 g a=true):(JE a).length<=82:=by
 obtain⟨g1,g2,g3,g4,g5⟩:=A2.1 hg;have hz:=ha;simp only [B7,Ad,decide_eq_true_eq,AR,BA,B6,AK,Av] at hz;obtain⟨_,_,_,_,q6,q7,q8⟩:=hz;have h24:=Hz q6;have hs:a.label.size=a.label.data.toList.length:=rfl;have hr:(rowB (Km a) szA).length=17:=tot_rowB _ _ rfl;have hm:=(Lc hg a.homes q8).2;have hmul:a.homes.length*(g.d.toNat+6)<=4*10:=C_ (by omega) (by omega);rw [JE,Ah,Ah,hr,F5,hm];omega
theorem Qy {g:Geo} {a:An} (ha:B7 g a=true):0<=a.gen/\a.gen<=4294967295:=by
 simp only [B7,Ad,decide_eq_true_eq,AR,BA,B6,AK,Av] at ha;exact ha.1.1
theorem N7 {g:Geo} {a:An} (hg:Bq g=true) (ha:B7 g a=true) {i:Int} (hi:0<=i/\i<=65535):Yb i a.gen (JE a):=
 ⟨hi.1,hi.2,(Qy ha).1,(Qy ha).2,by have:=Kn hg ha;omega⟩
theorem PD (g:Geo) (a:An) (i:Int) (hg:Bq g=true) (ha:B7 g a=true) (hi:0<=i/\i<g.an):Fn Tryz.prog 101 [.ag (Bm g), .ag (Fp a),iv i] fun r=>r = .tp [bA (Dt a i),iv 0]:=by
 obtain⟨g1,g2,g3,g4,g5⟩:=A2.1 hg;obtain⟨q1,q2,q3,q4,q5⟩:=DE hg ha 0 (Aj _);have h1:=Ko g a (by omega) (by omega);rw [hg,ha] at h1;have h2:=F7 g i hg hi;have h3:=Jk i a.gen (JE a) (N7 hg ha (by omega));refine zT Tryz.func101 rfl ?_;conv=>whnf
 refine zY h1 ?_;conv=>whnf
 refine zY h2 ?_;conv=>whnf
 refine zY h3 ?_;exact⟨_,ri,rfl⟩
end
end Go.Proofs.YtpjkcgacjjbikaaGreatDoor.A
namespace Go.Proofs.YtpjkcgacjjbikaaGreatDoor
section
open Go.RowKit
theorem G0 {P:Program} (w:World) (dT sT ty elem:TypeId) (g o dLen dCap:Nat) (a:Addr) (sLen sCap:Nat) (cur:Array Value) (t:TypeId) (cs:List Value) (sz:Nat)
  (hu:P.underlying dT=some (.slice elem)) (hs:(P.info? elem).map (·.size)=some sz)
  (hg:w.heap[g]? = some (.cells cur t (0,0))) (hn:cs.length=Nat.min sLen dLen*sz)
  (hsrc:∀ j v,cs[j]? = some v->w.cell? (a.add j)=some v) (hfit:o+cs.length<=cur.size) (h1:∀ v∈cs,v.oneCell'=true) :
  (Builtin.copy_ #[dT,sT] ty #[.slice (some ⟨g,o,none⟩) dLen dCap, .slice (some a) sLen sCap]).run P w =
   .ok (goInt (Nat.min sLen dLen)) (w.setRow g (cur.toList.take o ++ cs ++ cur.toList.drop (o+cs.length)).toArray):=by
 have hl:=run_loadCells_list (P:=P) w a cs hsrc;have hst:=run_storeCells_at P g o t cs 0 cur w hg (by simpa using hfit) h1;cases hq:P.info? elem with
 | none=>simp [hq] at hs
 | some i=>
  have hi:i.size=sz:=by simpa [hq] using hs
  have e':Nat.min sLen dLen*sz=cs.length:=hn.symm;simp [Builtin.copy_,run_underlying hu,Builtin.lenOf,Builtin.firstCells,sizeOf,typeInfo,hq,hi,e',hl,hst]
theorem Kt {P:Program} {ops:Array Oper} {o:Oper} {a:Act} {w:World} {K:Act->World->Prop} {Q:Exit->Act->World->Prop} {E:Prop}
  (hg:o.guard=none) (d x:Operand) (dT sT:TypeId) (hop:o.op=Op.call { callee:=Callee.builtin Builtin.copy,args:= #[d,x],argTypes:= #[dT,sT] })
  {v u:Value} (hd:a.eval d=v) (hx:a.eval x=u) {v':Value} {w':World} (hr:(Builtin.copy_ #[dT,sT] o.type #[v,u]).run P w = .ok v' w') (hK:K (a.put o.dst v') w') :
  if Region.wanted o (yielded ops a.tmps)=true then Oper.wp P o a w K Q else E:=by
 have hw:Region.wanted o (yielded ops a.tmps)=true:=by simp [Region.wanted,hg]
 rw [if_pos hw];unfold Oper.wp;simp [execOp,hop,resolve,invoke,builtin,hd,hx,hr,Result.andThen];exact hK
theorem D6 {w:World} {g:Nat} {cs:Array Value} {row:Option Nat} (h:row=some g):w.grownBy (w.setRow g cs) row:=
 ⟨rfl,rfl,rfl,by simp [World.setRow],fun k _ hne=>setRow_other w g k cs (fun e=>hne (by rw [h,e]))⟩
def Cy (xs zs:List Value) (k m:Nat):List Value:=(List.replicate k xs).flatten ++ (List.replicate m zs).flatten
theorem NR {α:Type} (a b:Nat) (x:α):List.replicate (a+b) x=List.replicate a x ++ List.replicate b x:=(List.replicate_append_replicate).symm
theorem Mg {n:Nat} {xs:List Value}:(List.replicate n xs).flatten.length=n*xs.length:=by simp
theorem Ib {xs zs:List Value} {k m j:Nat} (h:xs.length=zs.length) (hm:j<=m) :
  (Cy xs zs k m).take (k*xs.length) ++ (List.replicate j xs).flatten ++ (Cy xs zs k m).drop (k*xs.length+(List.replicate j xs).flatten.length)=Cy xs zs (k+j) (m - j):=by
 have e1:(Cy xs zs k m).take (k*xs.length)=(List.replicate k xs).flatten:=by
  unfold Cy;rw [List.take_left' (by simp)]
 have e2:(Cy xs zs k m).drop (k*xs.length+(List.replicate j xs).flatten.length)=(List.replicate (m - j) zs).flatten:=by
  unfold Cy;rw [<-AZ,List.drop_left' (by simp),Mg,h,show m=j+(m - j) by omega,NR,AX,List.drop_left' (by simp),show j+(m - j) - j=m - j by omega]
 rw [e1,e2];unfold Cy;rw [NR,AX]
theorem Pu {xs zs:List Value} {k m j i:Nat} {v:Value} (hj:j<=k) (hv:(List.replicate j xs).flatten[i]? = some v):(Cy xs zs k m)[i]? = some v:=by
 have e:Cy xs zs k m=(List.replicate j xs).flatten ++ ((List.replicate (k - j) xs).flatten ++ (List.replicate m zs).flatten):=by
  unfold Cy;rw [<-AA,<-AX (L₁:=List.replicate j xs),<-NR,show j+(k - j)=k by omega]
 rw [e,AD (Ar.1 hv).1,hv]
end
section
open Go.RowKit
attribute [local go_sem ↓] Go.wp_at_zero Go.wp_at_succ

theorem Ps (a:Addr) (cap:Nat) (x:Int) (N:Nat) (w:World) (hN:2<=N/\N<=6) (hx:∀ j u, [Value.int .i64 x][j]? = some u->w.cell? (a.add j)=some u)
  (hmul:Calls Tryz.prog 264 #[.int .u64 1, .int .u64 N] w fun e w'=>e = .returned (.tuple #[.int .u64 0, .int .u64 N])/\Below w.heap.size w w') :
  Calls Tryz.prog 409 #[.slice (some a) 1 cap, .int .i64 N] w fun e w'=>∃ g,e = .returned (.slice (some ⟨g,0,none⟩) N N)/\w.heap.size<=g/\w'.heap[g]? = some (.cells (Cy [Value.int .i64 x] [Value.int .i64 0] N 0).toArray 3 (0,0))/\Below w.heap.size w w':=by
 have hw1:IntKind.u64.wrap (N:Int)=N:=by rw [IntKind.wrap_u64];omega
 have hw2:IntKind.i64.wrap (N:Int)=N:=by rw [IntKind.wrap_i64];omega
 have h0:¬(N:Int)<0:=by omega
 have h9:¬(9223372036854775807:Int)<N:=by omega
 have hmk:∀ w:World,(Instr.makeSlice 30 (.int .i64 (N:Int)) (.int .i64 (N:Int))).run Tryz.prog w = .ok (.slice (some ⟨w.heap.size,0,none⟩) N N) (w.alloc (.cells (Cy [Value.int .i64 x] [Value.int .i64 0] 0 N).toArray 3)):=by
  intro w;obtain⟨i,h1,h2,h3,h4⟩:=info_parts (show (Tryz.prog.info? 3).map (fun i=>(i.zero,i.size,i.bytes))=some (some (.int .i64 0),1,8) by kernel_rfl);have hr:=run_make (P:=Tryz.prog) w 30 3 i (.int .i64 0) (by kernel_rfl) h1 h2 .i64 .i64 N N (by omega) (by omega) (by rw [h4];omega) (by omega);simp only [Ac,h3] at hr;rw [hr];congr 3;rw [Cy];rcases(show N=2\/N=3\/N=4\/N=5\/N=6 by omega) with rfl | rfl | rfl | rfl | rfl <;> kernel_rfl
 have HX:=Lib.hid hx;have HM:=Lib.hid hmul;have HN:=Lib.hid hN;clear hx hmul hN
 go_enter Tryz.func409,Tryz.ntmps409
 go_wp2_with (go_at_call 264;go_must (with_reducible refine HM.out.mono ?_);rintro e w1 ⟨rfl,hB1⟩)
 have hn1:¬((some ⟨w1.heap.size,0,none⟩:Option Addr)=none):=by simp
 have hg1:(w1.alloc (.cells (Cy [Value.int .i64 x] [Value.int .i64 0] 0 N).toArray 3)).heap[w1.heap.size]? = some (.cells (Cy [Value.int .i64 x] [Value.int .i64 0] 0 N).toArray 3 (0,0)):=heap_alloc_new w1 _;have hBA:=hB1.trans ((Below.refl w1.heap.size w1).alloc (Ag _) (.cells (Cy [Value.int .i64 x] [Value.int .i64 0] 0 N).toArray 3) |>.mono hB1.size);have hc1:=G0 (P:=Tryz.prog) (w1.alloc (.cells (Cy [Value.int .i64 x] [Value.int .i64 0] 0 N).toArray 3)) 30 30 3 3 w1.heap.size 0 N N a 1 cap _ 3 (List.replicate 1 [Value.int .i64 x]).flatten 1 Tryz.underlying30 (by kernel_rfl) hg1
  (by rw [show Nat.min 1 N=1 from Cn (by have:=HN.out;omega)];try rfl) (fun j v hv=>IX hBA (HX.out j v (by simpa using hv))) (by have:=HN.out;simp [Cy];omega) (fun v hv=>by
    obtain⟨l,hl,hv⟩:=BP.1 hv;rw [AY hl] at hv;simp at hv;first | (subst hv;rfl) | (rcases hv with rfl | rfl | rfl <;> rfl))
 have hl1:=Ib (xs:= [Value.int .i64 x]) (zs:= [Value.int .i64 0]) (k:=0) (m:=N) (j:=1) rfl (by have:=HN.out;omega);rw [show Nat.min 1 N=1 from Cn (by have:=HN.out;omega)] at hc1;rw [hc1];simp only [Nat.zero_mul] at hl1;rw [show (Cy [Value.int .i64 x] [Value.int .i64 0] 0 N).toArray.toList=Cy [Value.int .i64 x] [Value.int .i64 0] 0 N from rfl,hl1];have hg2:=setRow_heap _ w1.heap.size _ (Cy [Value.int .i64 x] [Value.int .i64 0] (0+1) (N - 1)).toArray 3 (0,0) hg1;have hB2:=hBA.grown (D6 (w:=w1.alloc (.cells (Cy [Value.int .i64 x] [Value.int .i64 0] 0 N).toArray 3)) (g:=w1.heap.size) (cs:=(Cy [Value.int .i64 x] [Value.int .i64 0] (0+1) (N - 1)).toArray) (row:=some w1.heap.size) rfl) (by simp;have:=hB1.size;omega) (fun b e=>by cases e;exact hB1.size);obtain⟨g,hg⟩:∃ g,g=w1.heap.size:=⟨_,rfl⟩;have hgs:=hB1.size;rw [<-hg] at hg2 hB2 hgs |-
 clear hc1 hl1 hBA hg1 hn1;generalize (w1.alloc (.cells (Cy [Value.int .i64 x] [Value.int .i64 0] 0 N).toArray 3)).setRow g (Cy [Value.int .i64 x] [Value.int .i64 0] (0+1) (N - 1)).toArray=w2 at hg2 hB2 |-
 have HH:=Lib.hid (Ai hg2 (Ai hB2 hgs));clear hg2 hB2 hgs hg hB1
 go_wp2_with fail
 go_loopg [8] N (fun gg s8 wr=>∃ k:Nat,s8 = .int .i64 k/\1<=k/\k<=N/\N - k<=gg/\Hid (wr.heap[g]? = some (.cells (Cy [Value.int .i64 x] [Value.int .i64 0] k (N - k)).toArray 3 (0,0))/\Below w.heap.size w wr))
 case atStart=>exact⟨1,rfl,Ag _,by have:=HN.out;omega,by omega,Lib.hid ⟨HH.out.1,HH.out.2.1⟩⟩
 case round=>
  obtain⟨k,rfl,hk1,hkl,hgg,hI⟩:=hrel;obtain⟨w0,rfl⟩:∃ w0,w0=wr:=⟨_,rfl⟩;by_cases hlt:k<N
  ·have hlt':(k:Int)<N:=by omega
   have hne:¬N=k:=by omega
   have hkN:(k:Int)<=N:=by omega
   have hk0:(0:Int)<=k:=by omega
   go_wp2_with fail
   refine Pq [] (fun _=>True) (by kernel_rfl) ?_;apply De 0 rfl (by kernel_rfl) (fun _ _ _ h=>h) rfl
   ·(intro W;go_simp;try rfl)
   ·(go_simp;try rfl)
   apply De 1 rfl (by kernel_rfl) (fun _ _ _ h=>h) rfl
   ·(intro W;go_simp;try rfl)
   ·(go_simp;try rfl)
   apply De 2 rfl (by kernel_rfl) (fun _ _ _ h=>h) rfl
   ·(intro W;go_simp;try rfl)
   ·(go_simp;try rfl)
   apply De 3 rfl (by kernel_rfl) (fun _ _ _ h=>h) rfl
   ·(intro W;go_simp;try rfl)
   ·(go_simp;try rfl)
   apply De 4 rfl (by kernel_rfl) (fun _ _ _ h=>h) rfl
   ·(intro W;go_simp;try rfl)
   ·(go_simp;try rfl)
   apply De 5 rfl (by kernel_rfl) (fun _ _ _ h=>h) rfl
   ·(intro W;go_simp;try rfl)
   ·(go_simp;try rfl)
   apply De 6 rfl (by kernel_rfl) (fun _ _ _ h=>h) rfl
   ·(intro W;go_simp;try rfl)
   ·(go_simp;try rfl)
   refine R_ 7 (by kernel_rfl) rfl (fun K hK=>?_);obtain⟨j,hj⟩:∃ j,j=Nat.min k (N - k):=⟨_,rfl⟩;have hj':j<=k/\j<=N - k/\1<=j:=⟨by rw [hj];exact Nat.min_le_left _ _,by rw [hj];exact Nat.min_le_right _ _,by rw [hj];exact Nat.le_min.2 ⟨hk1,by omega⟩⟩;have hst:=Ib (xs:= [Value.int .i64 x]) (zs:= [Value.int .i64 0]) (k:=k) (m:=N - k) (j:=j) rfl hj'.2.1;have hc2:=G0 (P:=Tryz.prog) w0.drew 30 30 3 3 g (k*1) (N - k) (N - k) ⟨g,0,none⟩ k N _ 3 (List.replicate j [Value.int .i64 x]).flatten 1 Tryz.underlying30 (by kernel_rfl) (show w0.drew.heap[g]? = _ from hI.out.1)
    (by rw [<-hj,Mg];try rfl) (fun i v hv=>by
     rw [Addr.add_lit,Au,cell_of_row w0.drew g _ _ 3 (0,0) hI.out.1];simpa using Pu hj'.1 hv) (by simp [Cy];omega) (fun v hv=>by
    obtain⟨l,hl,hv⟩:=BP.1 hv;rw [AY hl] at hv;simp at hv;first | (subst hv;rfl) | (rcases hv with rfl | rfl | rfl <;> rfl))
   rw [show (Cy [Value.int .i64 x] [Value.int .i64 0] k (N - k)).toArray.toList=Cy [Value.int .i64 x] [Value.int .i64 0] k (N - k) from rfl] at hc2;simp only [Ao,AN,Au] at hst;rw [hst,<-hj] at hc2;try simp only [D4] at hc2
   have hg2:=setRow_heap _ g _ (Cy [Value.int .i64 x] [Value.int .i64 0] (k+j) (N - k - j)).toArray 3 (0,0) (show w0.drew.heap[g]? = _ from hI.out.1);have hB2:=(hI.out.2.trans ((GK w0).mono hI.out.2.size)).grown (D6 (w:=w0.drew) (g:=g) (cs:=(Cy [Value.int .i64 x] [Value.int .i64 0] (k+j) (N - k - j)).toArray) (row:=some g) rfl) (by have:=hI.out.2.size;simpa using this) (fun b e=>by cases e;exact HH.out.2.2);have HK:=Lib.hid (Ai hj' (Ai hg2 hB2));have hwj:IntKind.i64.wrap ((k:Int)+(j:Int))=((k+j:Nat):Int):=by have:=HN.out;rw [IntKind.wrap_i64];omega
   clear hst hg2 hB2 hj' hj hI;refine Kt rfl _ _ _ _ rfl (by rfl) (by rfl) hc2 ?_;refine hK _ _ ⟨fun _ _=>trivial,?_⟩;clear hK K;clear hc2;apply De 8 rfl (by kernel_rfl) (fun _ _ _ h=>h) rfl
   ·(intro W;go_simp;try rfl)
   ·(go_simp;try rfl)
   apply De 9 rfl (by kernel_rfl) (fun _ _ _ h=>h) rfl
   ·(intro W;go_simp;try rfl)
   ·(go_simp;try rfl)
   refine Sa (by kernel_rfl) ?_;generalize w0.drew.setRow g (Cy [Value.int .i64 x] [Value.int .i64 0] (k+j) (N - k - j)).toArray=w3 at HK |-
   clear hwj
   go_wp2_with fail
   go_roundg (N - (k+j))
   case measure=>have:=HK.out.1;omega
   case rel=>exact⟨k+j,by go_num,by omega,by have:=HK.out.1;omega,by omega,Lib.hid (by rw [Nat.sub_sub] at HK;exact HK.out.2)⟩
  ·obtain rfl:k=N:=by omega
   have HE:=Lib.hid (Ai HH.out.2.2 hI.out);have hnl:¬(k:Int)<k:=by omega
   clear hI HH
   go_wp2
   go_ret
   rw [B9] at HE;exact⟨g,rfl,HE.out.1,HE.out.2.1,HE.out.2.2⟩
end
section
open Go.RowKit
attribute [local go_sem ↓] Go.wp_at_zero Go.wp_at_succ

theorem Pt (a:Addr) (cap:Nat) (x y:Int) (z:Bool) (N:Nat) (w:World) (hN:2<=N/\N<=6) (hx:∀ j u, [Value.int .i64 x, .int .i64 y, .bool z][j]? = some u->w.cell? (a.add j)=some u)
  (hmul:Calls Tryz.prog 264 #[.int .u64 1, .int .u64 N] w fun e w'=>e = .returned (.tuple #[.int .u64 0, .int .u64 N])/\Below w.heap.size w w') :
  Calls Tryz.prog 187 #[.slice (some a) 1 cap, .int .i64 N] w fun e w'=>∃ g,e = .returned (.slice (some ⟨g,0,none⟩) N N)/\w.heap.size<=g/\w'.heap[g]? = some (.cells (Cy [Value.int .i64 x, .int .i64 y, .bool z] [Value.int .i64 0, .int .i64 0, .bool false] N 0).toArray 189 (0,0))/\Below w.heap.size w w':=by
 have hw1:IntKind.u64.wrap (N:Int)=N:=by rw [IntKind.wrap_u64];omega
 have hw2:IntKind.i64.wrap (N:Int)=N:=by rw [IntKind.wrap_i64];omega
 have h0:¬(N:Int)<0:=by omega
 have h9:¬(9223372036854775807:Int)<N:=by omega
 have hmk:∀ w:World,(Instr.makeSlice 143 (.int .i64 (N:Int)) (.int .i64 (N:Int))).run Tryz.prog w = .ok (.slice (some ⟨w.heap.size,0,none⟩) N N) (w.alloc (.cells (Cy [Value.int .i64 x, .int .i64 y, .bool z] [Value.int .i64 0, .int .i64 0, .bool false] 0 N).toArray 189)):=by
  intro w;obtain⟨i,h1,h2,h3,h4⟩:=info_parts (show (Tryz.prog.info? 189).map (fun i=>(i.zero,i.size,i.bytes))=some (some (.agg #[.int .i64 0, .int .i64 0, .bool false]),3,24) by kernel_rfl);have hr:=run_make (P:=Tryz.prog) w 143 189 i (.agg #[.int .i64 0, .int .i64 0, .bool false]) (by kernel_rfl) h1 h2 .i64 .i64 N N (by omega) (by omega) (by rw [h4];omega) (by omega);simp only [Ac,h3] at hr;rw [hr];congr 3;rw [Cy];rcases(show N=2\/N=3\/N=4\/N=5\/N=6 by omega) with rfl | rfl | rfl | rfl | rfl <;> kernel_rfl
 have HX:=Lib.hid hx;have HM:=Lib.hid hmul;have HN:=Lib.hid hN;clear hx hmul hN
 go_enter Tryz.func187,Tryz.ntmps187
 go_wp2_with (go_at_call 264;go_must (with_reducible refine HM.out.mono ?_);rintro e w1 ⟨rfl,hB1⟩)
 have hn1:¬((some ⟨w1.heap.size,0,none⟩:Option Addr)=none):=by simp
 have hg1:(w1.alloc (.cells (Cy [Value.int .i64 x, .int .i64 y, .bool z] [Value.int .i64 0, .int .i64 0, .bool false] 0 N).toArray 189)).heap[w1.heap.size]? = some (.cells (Cy [Value.int .i64 x, .int .i64 y, .bool z] [Value.int .i64 0, .int .i64 0, .bool false] 0 N).toArray 189 (0,0)):=heap_alloc_new w1 _;have hBA:=hB1.trans ((Below.refl w1.heap.size w1).alloc (Ag _) (.cells (Cy [Value.int .i64 x, .int .i64 y, .bool z] [Value.int .i64 0, .int .i64 0, .bool false] 0 N).toArray 189) |>.mono hB1.size);have hc1:=G0 (P:=Tryz.prog) (w1.alloc (.cells (Cy [Value.int .i64 x, .int .i64 y, .bool z] [Value.int .i64 0, .int .i64 0, .bool false] 0 N).toArray 189)) 143 143 3 189 w1.heap.size 0 N N a 1 cap _ 189 (List.replicate 1 [Value.int .i64 x, .int .i64 y, .bool z]).flatten 3 Tryz.underlying143 (by kernel_rfl) hg1
  (by rw [show Nat.min 1 N=1 from Cn (by have:=HN.out;omega)];try rfl) (fun j v hv=>IX hBA (HX.out j v (by simpa using hv))) (by have:=HN.out;simp [Cy];omega) (fun v hv=>by
    obtain⟨l,hl,hv⟩:=BP.1 hv;rw [AY hl] at hv;simp at hv;first | (subst hv;rfl) | (rcases hv with rfl | rfl | rfl <;> rfl))
 have hl1:=Ib (xs:= [Value.int .i64 x, .int .i64 y, .bool z]) (zs:= [Value.int .i64 0, .int .i64 0, .bool false]) (k:=0) (m:=N) (j:=1) rfl (by have:=HN.out;omega);rw [show Nat.min 1 N=1 from Cn (by have:=HN.out;omega)] at hc1;rw [hc1];simp only [Nat.zero_mul] at hl1;rw [show (Cy [Value.int .i64 x, .int .i64 y, .bool z] [Value.int .i64 0, .int .i64 0, .bool false] 0 N).toArray.toList=Cy [Value.int .i64 x, .int .i64 y, .bool z] [Value.int .i64 0, .int .i64 0, .bool false] 0 N from rfl,hl1];have hg2:=setRow_heap _ w1.heap.size _ (Cy [Value.int .i64 x, .int .i64 y, .bool z] [Value.int .i64 0, .int .i64 0, .bool false] (0+1) (N - 1)).toArray 189 (0,0) hg1;have hB2:=hBA.grown (D6 (w:=w1.alloc (.cells (Cy [Value.int .i64 x, .int .i64 y, .bool z] [Value.int .i64 0, .int .i64 0, .bool false] 0 N).toArray 189)) (g:=w1.heap.size) (cs:=(Cy [Value.int .i64 x, .int .i64 y, .bool z] [Value.int .i64 0, .int .i64 0, .bool false] (0+1) (N - 1)).toArray) (row:=some w1.heap.size) rfl) (by simp;have:=hB1.size;omega) (fun b e=>by cases e;exact hB1.size);obtain⟨g,hg⟩:∃ g,g=w1.heap.size:=⟨_,rfl⟩;have hgs:=hB1.size;rw [<-hg] at hg2 hB2 hgs |-
 clear hc1 hl1 hBA hg1 hn1;generalize (w1.alloc (.cells (Cy [Value.int .i64 x, .int .i64 y, .bool z] [Value.int .i64 0, .int .i64 0, .bool false] 0 N).toArray 189)).setRow g (Cy [Value.int .i64 x, .int .i64 y, .bool z] [Value.int .i64 0, .int .i64 0, .bool false] (0+1) (N - 1)).toArray=w2 at hg2 hB2 |-
 have HH:=Lib.hid (Ai hg2 (Ai hB2 hgs));clear hg2 hB2 hgs hg hB1
 go_wp2_with fail
 go_loopg [8] N (fun gg s8 wr=>∃ k:Nat,s8 = .int .i64 k/\1<=k/\k<=N/\N - k<=gg/\Hid (wr.heap[g]? = some (.cells (Cy [Value.int .i64 x, .int .i64 y, .bool z] [Value.int .i64 0, .int .i64 0, .bool false] k (N - k)).toArray 189 (0,0))/\Below w.heap.size w wr))
 case atStart=>exact⟨1,rfl,Ag _,by have:=HN.out;omega,by omega,Lib.hid ⟨HH.out.1,HH.out.2.1⟩⟩
 case round=>
  obtain⟨k,rfl,hk1,hkl,hgg,hI⟩:=hrel;obtain⟨w0,rfl⟩:∃ w0,w0=wr:=⟨_,rfl⟩;by_cases hlt:k<N
  ·have hlt':(k:Int)<N:=by omega
   have hne:¬N=k:=by omega
   have hkN:(k:Int)<=N:=by omega
   have hk0:(0:Int)<=k:=by omega
   go_wp2_with fail
   refine Pq [] (fun _=>True) (by kernel_rfl) ?_;apply De 0 rfl (by kernel_rfl) (fun _ _ _ h=>h) rfl
   ·(intro W;go_simp;try rfl)
   ·(go_simp;try rfl)
   apply De 1 rfl (by kernel_rfl) (fun _ _ _ h=>h) rfl
   ·(intro W;go_simp;try rfl)
   ·(go_simp;try rfl)
   apply De 2 rfl (by kernel_rfl) (fun _ _ _ h=>h) rfl
   ·(intro W;go_simp;try rfl)
   ·(go_simp;try rfl)
   apply De 3 rfl (by kernel_rfl) (fun _ _ _ h=>h) rfl
   ·(intro W;go_simp;try rfl)
   ·(go_simp;try rfl)
   apply De 4 rfl (by kernel_rfl) (fun _ _ _ h=>h) rfl
   ·(intro W;go_simp;try rfl)
   ·(go_simp;try rfl)
   apply De 5 rfl (by kernel_rfl) (fun _ _ _ h=>h) rfl
   ·(intro W;go_simp;try rfl)
   ·(go_simp;try rfl)
   apply De 6 rfl (by kernel_rfl) (fun _ _ _ h=>h) rfl
   ·(intro W;go_simp;try rfl)
   ·(go_simp;try rfl)
   refine R_ 7 (by kernel_rfl) rfl (fun K hK=>?_);obtain⟨j,hj⟩:∃ j,j=Nat.min k (N - k):=⟨_,rfl⟩;have hj':j<=k/\j<=N - k/\1<=j:=⟨by rw [hj];exact Nat.min_le_left _ _,by rw [hj];exact Nat.min_le_right _ _,by rw [hj];exact Nat.le_min.2 ⟨hk1,by omega⟩⟩;have hst:=Ib (xs:= [Value.int .i64 x, .int .i64 y, .bool z]) (zs:= [Value.int .i64 0, .int .i64 0, .bool false]) (k:=k) (m:=N - k) (j:=j) rfl hj'.2.1;have hc2:=G0 (P:=Tryz.prog) w0.drew 143 143 3 189 g (k*3) (N - k) (N - k) ⟨g,0,none⟩ k N _ 189 (List.replicate j [Value.int .i64 x, .int .i64 y, .bool z]).flatten 3 Tryz.underlying143 (by kernel_rfl) (show w0.drew.heap[g]? = _ from hI.out.1)
    (by rw [<-hj,Mg];try rfl) (fun i v hv=>by
     rw [Addr.add_lit,Au,cell_of_row w0.drew g _ _ 189 (0,0) hI.out.1];simpa using Pu hj'.1 hv) (by simp [Cy];omega) (fun v hv=>by
    obtain⟨l,hl,hv⟩:=BP.1 hv;rw [AY hl] at hv;simp at hv;first | (subst hv;rfl) | (rcases hv with rfl | rfl | rfl <;> rfl))
   rw [show (Cy [Value.int .i64 x, .int .i64 y, .bool z] [Value.int .i64 0, .int .i64 0, .bool false] k (N - k)).toArray.toList=Cy [Value.int .i64 x, .int .i64 y, .bool z] [Value.int .i64 0, .int .i64 0, .bool false] k (N - k) from rfl] at hc2;simp only [Ao,AN,Au] at hst;rw [hst,<-hj] at hc2;try simp only [D4] at hc2
   have hg2:=setRow_heap _ g _ (Cy [Value.int .i64 x, .int .i64 y, .bool z] [Value.int .i64 0, .int .i64 0, .bool false] (k+j) (N - k - j)).toArray 189 (0,0) (show w0.drew.heap[g]? = _ from hI.out.1);have hB2:=(hI.out.2.trans ((GK w0).mono hI.out.2.size)).grown (D6 (w:=w0.drew) (g:=g) (cs:=(Cy [Value.int .i64 x, .int .i64 y, .bool z] [Value.int .i64 0, .int .i64 0, .bool false] (k+j) (N - k - j)).toArray) (row:=some g) rfl) (by have:=hI.out.2.size;simpa using this) (fun b e=>by cases e;exact HH.out.2.2);have HK:=Lib.hid (Ai hj' (Ai hg2 hB2));have hwj:IntKind.i64.wrap ((k:Int)+(j:Int))=((k+j:Nat):Int):=by have:=HN.out;rw [IntKind.wrap_i64];omega
   clear hst hg2 hB2 hj' hj hI;refine Kt rfl _ _ _ _ rfl (by rfl) (by rfl) hc2 ?_;refine hK _ _ ⟨fun _ _=>trivial,?_⟩;clear hK K;clear hc2;apply De 8 rfl (by kernel_rfl) (fun _ _ _ h=>h) rfl
   ·(intro W;go_simp;try rfl)
   ·(go_simp;try rfl)
   apply De 9 rfl (by kernel_rfl) (fun _ _ _ h=>h) rfl
   ·(intro W;go_simp;try rfl)
   ·(go_simp;try rfl)
   refine Sa (by kernel_rfl) ?_;generalize w0.drew.setRow g (Cy [Value.int .i64 x, .int .i64 y, .bool z] [Value.int .i64 0, .int .i64 0, .bool false] (k+j) (N - k - j)).toArray=w3 at HK |-
   clear hwj
   go_wp2_with fail
   go_roundg (N - (k+j))
   case measure=>have:=HK.out.1;omega
   case rel=>exact⟨k+j,by go_num,by omega,by have:=HK.out.1;omega,by omega,Lib.hid (by rw [Nat.sub_sub] at HK;exact HK.out.2)⟩
  ·obtain rfl:k=N:=by omega
   have HE:=Lib.hid (Ai HH.out.2.2 hI.out);have hnl:¬(k:Int)<k:=by omega
   clear hI HH
   go_wp2
   go_ret
   rw [B9] at HE;exact⟨g,rfl,HE.out.1,HE.out.2.1,HE.out.2.2⟩
end
end Go.Proofs.YtpjkcgacjjbikaaGreatDoor
namespace Go.Proofs.YtpjkcgacjjbikaaGreatDoor.A
section
open Go.RowKit
theorem UX (N:Nat) (hN:2<=N/\N<=6):Fn Tryz.prog 264 [.v (.int .u64 1), .v (.int .u64 N)] fun r=>r = .tp [.v (.int .u64 0), .v (.int .u64 N)]:=by
 have h:∀ N,2<=N/\N<=6->Fn Tryz.prog 327 [.v (.int .u64 1), .v (.int .u64 (N:Nat))] fun r=>r = .tp [.v (.int .u64 0), .v (.int .u64 N)]:=by
  intro N hN;rcases(show N=2\/N=3\/N=4\/N=5\/N=6 by omega) with rfl | rfl | rfl | rfl | rfl
  all_goals
   refine zT Tryz.func327 rfl ?_;conv=>whnf
   repeat' (first | (refine Ai (by decide) ?_;conv=>whnf) | fail)
   exact⟨_,ri,rfl⟩
 have h:=h N hN;refine zT Tryz.func264 rfl ?_;conv=>whnf
 refine zY h ?_;exact⟨_,ri,rfl⟩
theorem NS {c:Ctx} {l:List AV} {xs:List Value}:∀ N,RdL l c xs->RdL (List.replicate N l).flatten c (List.replicate N xs).flatten
 | 0,_=>by simp [RdL]
 | N+1,h=>by
  rw [CM,CM,A8,A8];exact RdL.append h (NS N h)
theorem WV (N:Nat) (hN:2<=N/\N<=6) (x:Int) (get:Nat->List AV) (hget:get 0=[iv x]) :
  ACalls Tryz.prog false 409 [.sl 1 1 get,iv N] [] fun r H=>r = .ow 0 N/\H=[.row 3 1 (List.replicate N [iv x])]:=by
 refine⟨⟨_,Tryz.func409,rfl,by decide⟩,fun w0 M0 c us hs hr=>?_⟩;obtain⟨u1,u2,rfl,h1,h2⟩:=Zt hr;simp only [Rd] at h1 h2;subst h2;obtain⟨a,k,rfl,_,_,h3⟩:=h1;obtain⟨b,off,rfl,hm,hb,hc⟩:=h3.resolve_left (by decide);have hc0:=(hc 0 (by decide)).2;rw [hget] at hc0;simp only [RdAt,Rd,Nat.zero_mul,Ca,and_true] at hc0;obtain⟨u,q1,_,rfl⟩:=hc0;have hmul:=(UX N hN).calls (Ctx.closed { c with M:=fun _=>False }) [.int .u64 1, .int .u64 N] rfl (fun _ h=>h.elim) hs.glob (by simp [RdL,Rd]);refine(Ps ⟨b,off,none⟩ k x N c.w hN (fun j u hu=>?_) (hmul.mono ?_)).mono ?_
 ·cases j with
  | zero=>simp at hu;subst hu;exact q1
  | succ j=>simp at hu
 ·rintro e w' ⟨v,r,rfl,rfl,q2,q3⟩;simp only [Rd,RdL] at q3;obtain⟨_,rfl,y,ys,rfl,rfl,z,zs,rfl,rfl,rfl⟩:=q3;exact⟨rfl,q2⟩
 ·rintro e w' ⟨g,rfl,hg,hh,hB⟩;have hrow:=hs.newrow hB (t:=3) (sz:=1) (es:=List.replicate N [AV.v (.int .i64 x)]) (v:= .slice (some ⟨g,0,none⟩) N N) (xs:=(List.replicate N [Value.int .i64 x]).flatten) (by decide) (fun e he=>by rw [AY he];try rfl)
   ⟨by simp, .inr ⟨g,N,_,by simp,hg,hh,by simp,by unfold maxLen;omega,by simp [Cy],by simp only [Cy,List.replicate_zero,List.flatten_nil,AE];exact At (by simp)⟩⟩ (fun u hu=>by obtain⟨l,hl,hu⟩:=BP.1 hu;rw [AY hl] at hu;simp at hu;subst hu;rfl) ?_
  ·rw [Be] at hrow;exact⟨_,_,_,_,rfl,rfl,tA,hrow.1,hrow.2.1,hrow.2.2,fun e=>by cases e⟩
  ·exact NS N (l:= [AV.v (.int .i64 x)]) (xs:= [Value.int .i64 x]) (by simp [RdL,Rd])
theorem UE (N:Nat) (hN:2<=N/\N<=6) (x y:Int) (z:Bool) (get:Nat->List AV) (hget:get 0=[iv x,iv y, .v (.bool z)]) :
  ACalls Tryz.prog false 187 [.sl 3 1 get,iv N] [] fun r H=>r = .ow 0 N/\H=[.row 189 3 (List.replicate N [iv x,iv y, .v (.bool z)])]:=by
 refine⟨⟨_,Tryz.func187,rfl,by decide⟩,fun w0 M0 c us hs hr=>?_⟩;obtain⟨u1,u2,rfl,h1,h2⟩:=Zt hr;simp only [Rd] at h1 h2;subst h2;obtain⟨a,k,rfl,_,_,h3⟩:=h1;obtain⟨b,off,rfl,hm,hb,hc⟩:=h3.resolve_left (by decide);have hc0:=(hc 0 (by decide)).2;rw [hget] at hc0;simp only [RdAt,Rd,Nat.zero_mul,Ca,and_true] at hc0;obtain⟨⟨_,q1,_,rfl⟩,⟨_,q2,_,rfl⟩,⟨_,q3,_,rfl⟩⟩:=hc0;have hmul:=(UX N hN).calls (Ctx.closed { c with M:=fun _=>False }) [.int .u64 1, .int .u64 N] rfl (fun _ h=>h.elim) hs.glob (by simp [RdL,Rd]);refine(Pt ⟨b,off,none⟩ k x y z N c.w hN (fun j u hu=>?_) (hmul.mono ?_)).mono ?_
 ·match j,hu with
  | 0,hu=>simp at hu;subst hu;exact q1
  | 1,hu=>simp at hu;subst hu;exact q2
  | 2,hu=>simp at hu;subst hu;exact q3
  | j+3,hu=>simp at hu
 ·rintro e w' ⟨v,r,rfl,rfl,q2,q3⟩;simp only [Rd,RdL] at q3;obtain⟨_,rfl,y,ys,rfl,rfl,z,zs,rfl,rfl,rfl⟩:=q3;exact⟨rfl,q2⟩
 ·rintro e w' ⟨g,rfl,hg,hh,hB⟩;have hrow:=hs.newrow hB (t:=189) (sz:=3) (es:=List.replicate N [AV.v (.int .i64 x),iv y, .v (.bool z)]) (v:= .slice (some ⟨g,0,none⟩) N N) (xs:=(List.replicate N [Value.int .i64 x, .int .i64 y, .bool z]).flatten) (by decide) (fun e he=>by rw [AY he];try rfl)
   ⟨by simp, .inr ⟨g,N,_,by simp,hg,hh,by simp,by unfold maxLen;omega,by simp [Cy],by simp only [Cy,List.replicate_zero,List.flatten_nil,AE];exact At (by simp)⟩⟩ (fun u hu=>by obtain⟨l,hl,hu⟩:=BP.1 hu;rw [AY hl] at hu;simp at hu;rcases hu with rfl | rfl | rfl <;> rfl) ?_
  ·rw [Be] at hrow;exact⟨_,_,_,_,rfl,rfl,tA,hrow.1,hrow.2.1,hrow.2.2,fun e=>by cases e⟩
  ·exact NS N (l:= [AV.v (.int .i64 x),iv y, .v (.bool z)]) (xs:= [Value.int .i64 x, .int .i64 y, .bool z]) (by simp [RdL,Rd])
theorem Ru (n k:Nat) (c:List UInt8):Ez n (k+1) c=Ez n k c ++ [LU n (c.drop ((n+5)*k))]:=by
 rw [Ez,Ez,By,A0];try rfl
theorem Fu (n k:Nat) (c:List UInt8):(Ez n k c).length=k:=by simp [Ez]
theorem QL (n:Nat):∀ s∈HZ n,Ee s:=by
 intro s hs;rw [HZ,Az] at hs;rcases hs with hs | hs
 ·rw [FC] at hs;rw [AY hs];exact .inl rfl
 ·simp at hs;subst hs;exact .inr (.inr rfl)
theorem Lb {L:List Int} {n:Nat} {es:List (List AV)} (hn:n=L.length) (he:es=L.map TB) (c:Ctx) (v:Value) (h:Rd (.sl 1 n fun i=>es.getD i []) c v):Rd (iA L) c v:=by
 subst he;exact z7 hn (fun i hi=>AP (f:=TB) (l:=L) (d:=0) (hn ▸ hi)) h
theorem JH (b:List UInt8) (ss:List Int) (hss:∀ s∈ss,Ee s) (hl:b.length<=1000000) (hn:ss.length<=1000) (ht:tot ss<=b.length):Fn Tryz.prog 235 [bA b,iA ss] fun r=>r = .tp [iA (nums ss b),bA (b.drop (tot ss)),iv 0]:=by
 refine ACalls.fn (EJ b ss hss hl hn ht) ?_;rintro _ _ ⟨rfl,rfl⟩;refine⟨_,zE _,?_⟩;refine⟨(by rw [Aa,nums_len]),?_⟩;exact⟨.tp [iA (nums ss b),bA (b.drop (tot ss)),iv 0],BV ⟨Lb (by rw [nums_len]) rfl,ri,ri,tv⟩,rfl⟩
theorem PQ {n:Nat} {c:List UInt8} {x y:Int} (hw1:x=(n:Int)) (hw2:y=((n+1:Nat):Int)) (hnl:(nums (HZ n) c).length=n+2):SubL [AV.sl 1 (x.toNat - Int.toNat 0) fun i=>(fun i=> [AV.v (Value.int IntKind.i64 ((nums (HZ n) c).getD i 0))]) (i+Int.toNat 0),AV.v (.int .i64 ((nums (HZ n) c).getD x.toNat 0)),AV.v (.int .i64 ((nums (HZ n) c).getD y.toNat 0))] (M8 (LU n c)):=by
 subst hw1 hw2;rw [Ac,Ac];refine⟨fun c' u h=>?_,fun _ _ h=>h,fun _ _ h=>h,tv⟩;refine z7 ?_ (fun i hi=>?_) h
 ·show n - 0=((nums (HZ n) c).take n).length;rw [Aq];omega
 ·have hi':i<n:=hi;show [AV.v (.int .i64 ((nums (HZ n) c).getD (i+0) 0))]=[AV.v (.int .i64 (((nums (HZ n) c).take n).getD i 0))];rw [Ab,Ab,Cm hi'];try rfl
theorem V8 (g:Geo) (b:List UInt8) (hg:Bq g=true) (hb:b.length<=100000):Fn Tryz.prog 400 [.ag (Bm g),bA b] fun r=>r = .tp [GW (if g.z.toNat*(g.d.toNat+6)<=b.length then Ez (g.d.toNat+1) g.z.toNat b else []),iv (if g.z.toNat*(g.d.toNat+6)<=b.length then 0 else 4)]:=by
 obtain⟨g1,g2,g3,g4,g5⟩:=A2.1 hg;obtain⟨n,hn⟩:∃ n:Nat,n=g.d.toNat+1:=⟨_,rfl⟩;have hr:=WV (n+1) (by omega) 1 (fun i=> [[AV.v (Value.int IntKind.i64 1)]].getD i []) rfl;have hw2:IntKind.i64.wrap (g.d+2)=((n+1:Nat):Int):=by rw [wi (by omega)];omega
 refine zT Tryz.func400 rfl ?_;conv=>whnf
 rw [hw2];refine zS hr.go ?_;refine⟨rfl,?_⟩;conv=>whnf
 refine zX hr rfl ?_;rintro _ _ ⟨rfl,rfl⟩;refine⟨rfl,?_⟩;refine⟨⟨by simp,by omega⟩,?_⟩;conv=>whnf
 have es0:List.replicate (n+1) [AV.v (.int .i64 1)] ++ [[AV.v (.int .i64 4)]]=(HZ n).map TB:=by
  rw [HZ,A0,FC,List.map_replicate];try rfl
 have el0:n+1+1=(List.replicate (n+1) [AV.v (.int .i64 1)] ++ [[AV.v (.int .i64 4)]]).length:=by simp
 have hst:=fun k=>Ru n k b
 by_cases hs:g.z.toNat*(g.d.toNat+6)<=b.length
 ·rw [if_pos hs,if_pos hs];refine zR Nat (fun k=>([(1,bA (b.drop ((n+5)*k))),(2, .bp 0 0),(6, .ow 1 k),(7,iA (HZ n)),(19,iv g.z),(20,iv k)], [.box 24 (Bm g), .row 108 3 ((Ez n k b).map M8)])) (fun k=>k<=g.z.toNat) (fun k=>g.z.toNat - k) 0 (Aj _) ?_ ?_
  ·refine⟨_,_,zN (zF 7 2 (congrArg (AV.ow 2) el0) rfl) (z8 7 rfl (Lb (L:=HZ n) (by rw [es0,Aa]) es0)), [(6,108,3)],tA, [0,4],tA,tA,rfl,rfl,rfl,rfl,rfl⟩
  ·intro k hk;conv=>whnf
   refine AS (fun h6=>?_) (fun h6=>?_) <;> (repeat rw [Ac] at h6) <;> conv=>whnf
   ·have hu:=JH (b.drop ((n+5)*k)) (HZ n) (QL n) (by rw [Al];omega) (by rw [EU];omega) (by
     rw [ET,Al];have:(n+5)*(k+1)<=(n+5)*g.z.toNat:=Nat.mul_le_mul_left _ (by omega);rw [Nat.mul_succ] at this;have:(n+5)*g.z.toNat=g.z.toNat*(g.d.toNat+6):=by rw [hn,Nat.mul_comm]
     omega)
    rw [ET] at hu;refine zY hu ?_;conv=>whnf
    have hnl:(nums (HZ n) (b.drop ((n+5)*k))).length=n+2:=by rw [nums_len,EU]
    have hw1:IntKind.i64.wrap (g.d+1)=(n:Int):=by rw [wi (by omega)];omega
    apply zW (0) tys_ok mixed (.o [0,1,2,3,4,5,6,7,8,9,10,11,12,13,14,15,16,17,18,19,20,21,22,23,24] .fin) (by kernel_rfl);conv=>whnf
    try (refine tI ?_;conv=>whnf)
    try (refine tI ?_;conv=>whnf)
    try (refine tI ?_;conv=>whnf)
    try (refine tJ ?_;conv=>whnf)
    try (refine tK ?_;conv=>whnf)
    refine⟨⟨by rw [Aa,Fu],by omega⟩,?_⟩;conv=>whnf
    have e':=PQ (n:=n) (c:=b.drop ((n+5)*k)) hw1 hw2 hnl;refine⟨k+1,by omega,by omega,zK (zO (ConvH.last 1 rfl e')) (s:= [0,1]) ⟨⟨congrArg bA (by rw [AZ,Nat.mul_succ]),rfl,rfl,rfl,rfl,AT (by omega),tv⟩,⟨rfl,congrArg (fun l=>some (AB.row _ _ l)) (by rw [hst k,A0];try rfl),tv⟩,rfl,rfl,rfl,rfl,rfl⟩⟩
   ·have ek:k=g.z.toNat:=by omega
    subst ek;refine⟨(by rw [Aa,Fu]),?_⟩;exact⟨.tp [GW (Ez n g.z.toNat b),iv 0],BV ⟨BY (f:=M8) (Ez n g.z.toNat b) (by rw [Fu]) rfl,ri,tv⟩,by rw [hn]⟩
 ·rw [if_neg hs,if_neg hs];refine zR Nat (fun k=>([(1,bA (b.drop ((n+5)*k))),(2, .bp 0 0),(6, .ow 1 k),(7,iA (HZ n)),(19,iv g.z),(20,iv k)], [.box 24 (Bm g), .row 108 3 ((Ez n k b).map M8)])) (fun k=>(n+5)*k<=b.length) (fun k=>g.z.toNat - k) 0 (Aj _) ?_ ?_
  ·refine⟨_,_,zN (zF 7 2 (congrArg (AV.ow 2) el0) rfl) (z8 7 rfl (Lb (L:=HZ n) (by rw [es0,Aa]) es0)), [(6,108,3)],tA, [0,4],tA,tA,rfl,rfl,rfl,rfl,rfl⟩
  ·intro k hk;conv=>whnf
   refine AS (fun h6=>?_) (fun h6=>?_) <;> (repeat rw [Ac] at h6) <;> conv=>whnf
   ·by_cases h9:(n+5)*(k+1)<=b.length
    ·have hu:=JH (b.drop ((n+5)*k)) (HZ n) (QL n) (by rw [Al];omega) (by rw [EU];omega) (by
      rw [ET,Al];rw [Nat.mul_succ] at h9;omega)
     rw [ET] at hu;refine zY hu ?_;conv=>whnf
     have hnl:(nums (HZ n) (b.drop ((n+5)*k))).length=n+2:=by rw [nums_len,EU]
     have hw1:IntKind.i64.wrap (g.d+1)=(n:Int):=by rw [wi (by omega)];omega
     apply zW (0) tys_ok mixed (.o [0,1,2,3,4,5,6,7,8,9,10,11,12,13,14,15,16,17,18,19,20,21,22,23,24] .fin) (by kernel_rfl);conv=>whnf
     try (refine tI ?_;conv=>whnf)
     try (refine tI ?_;conv=>whnf)
     try (refine tI ?_;conv=>whnf)
     try (refine tJ ?_;conv=>whnf)
     try (refine tK ?_;conv=>whnf)
     refine⟨⟨by rw [Aa,Fu],by omega⟩,?_⟩;conv=>whnf
     have e':=PQ (n:=n) (c:=b.drop ((n+5)*k)) hw1 hw2 hnl;refine⟨k+1,h9,by omega,zK (zO (ConvH.last 1 rfl e')) (s:= [0,1]) ⟨⟨congrArg bA (by rw [AZ,Nat.mul_succ]),rfl,rfl,rfl,rfl,AT (by omega),tv⟩,⟨rfl,congrArg (fun l=>some (AB.row _ _ l)) (by rw [hst k,A0];try rfl),tv⟩,rfl,rfl,rfl,rfl,rfl⟩⟩
    ·have hu:=He (b.drop ((n+5)*k)) (HZ n) (QL n) (by rw [Al];omega) (by rw [EU];omega) (by
      rw [ET,Al];rw [Nat.mul_succ] at h9;omega)
     refine zY hu ?_;exact⟨.tp [GW [],iv 4],BV ⟨Bv 3 _,ri,tv⟩,rfl⟩
   ·exfalso;have:(n+5)*k=k*(g.d.toNat+6):=by rw [hn,Nat.mul_comm]
    have h2:g.z.toNat*(g.d.toNat+6)<=k*(g.d.toNat+6):=BR _ (by omega);omega
theorem U5 {α:Type} {f:α->List AV} {d:α} {l:List α} {k:Nat} {e:List AV} (hk:k<l.length) (h:SubL e (f (l.getD k d))) (i:Nat):SubL (((l.map f).set k e).getD i []) ((l.map f).getD i []):=by
 by_cases hi:k=i
 ·subst hi;rw [BK (by simpa using hk),AP (d:=d) hk];exact h
 ·rw [DQ hi];exact SubL.refl _
theorem YP (h:Hm):SubL [.sl 1 h.places.length fun i=>(h.places.map TB).getD i [],iv h.next,iv h.root] (M8 h):=
 ⟨Lb rfl rfl,fun _ _ h=>h,fun _ _ h=>h,tv⟩
theorem Wp (a:An) (hh:a.homes.length<=1000) (hp:∀ h∈a.homes,h.places.length<=1000000):Fn Tryz.prog 81 [.ag (Fp a)] fun r=>r = .ag (Fp a):=by
 have hc:=TG a.homes (by omega);refine zT Tryz.func81 rfl ?_;conv=>whnf
 refine zX hc rfl ?_;rintro _ _ ⟨rfl,rfl⟩;conv=>whnf
 refine zR Nat (fun k=>([(1, .bp 0 0),(2, .bp 1 0),(10,iv a.homes.length),(11,iv k)], [.box 28 [iv a.gen,iv a.epoch,iv a.pos,iv a.seq,iv a.last, .v (.string a.label), .ow 2 a.homes.length], .box 28 [iv 0,iv 0,iv 0,iv 0,iv 0, .v (.string ⟨#[]⟩), .v (.slice none 0 0)], .row 108 3 (a.homes.map M8)])) (fun k=>k<=a.homes.length) (fun k=>a.homes.length - k) 0 (Aj _)
  (zQ (s:= [0,1,2]) tA) ?_
 intro k hk;conv=>whnf
 refine AS (fun h6=>?_) (fun h6=>?_) <;> (repeat rw [Ac] at h6) <;> conv=>whnf
 ·have hk':k<a.homes.length:=by omega
  have hi:=V2 (a.homes.getD k ⟨[],0,0⟩).places (by have:=hp _ (AC (d:=(⟨[],0,0⟩:Hm)) hk');omega);have hE:(a.homes.map M8).getD (k:Int).toNat []=M8 (a.homes.getD k ⟨[],0,0⟩):=by rw [Ac];exact AP hk'
  apply zW (0) tys_ok mixed (.o [0,1,2,3,4,5,6,7,8,9,10,11,12] .fin) (by kernel_rfl);conv=>whnf
  try (first | (refine Ai ⟨rfl,(Aa _).symm,by omega⟩ ?_;(conv=>whnf);rw [hE]) | skip;conv=>whnf)
  try (first | (refine Ai ⟨rfl,(Aa _).symm,by omega⟩ ?_;(conv=>whnf);rw [hE]) | skip;conv=>whnf)
  try (refine tI ?_;conv=>whnf)
  try (first | (refine Ai ⟨rfl,(Aa _).symm,by omega⟩ ?_;(conv=>whnf);rw [hE]) | skip;conv=>whnf)
  (refine zX hi rfl ?_;rintro _ _ ⟨rfl,rfl⟩)
  conv=>whnf
  try (refine tI ?_;conv=>whnf)
  try (refine tS ?_;conv=>whnf)
  (refine Ai (Aa _).symm ?_;(conv=>whnf);refine Ai ⟨rfl,(Aa _).symm,by omega⟩ ?_;(conv=>whnf);rw [hE])
  refine⟨k+1,hk',by omega,zK (zO (zm (k:=2) rfl (es':=a.homes.map M8) (by simp) ?_)) (s:= [0,1,2]) ⟨⟨rfl,rfl,rfl,AT (by omega),tv⟩,tA,rfl,rfl,rfl,rfl,rfl⟩⟩;rw [Ac];exact U5 (d:=(⟨[],0,0⟩:Hm)) hk' (YP _)
 ·have ek:k=a.homes.length:=by omega
  refine Ai (Aa _).symm ?_;exact⟨.ag (Fp a),Bg ⟨ri,ri,ri,ri,ri,ri,BY (f:=M8) a.homes rfl rfl,tv⟩,rfl⟩
def ZO (d:Dk):List AV:= [Qp d.cells,NB d.cache,iv d.reqs,iv d.left]
theorem S4 (d:Dk) (h1:d.cells.length<=1000000000) (h2:d.cache.length<=1000000000):ACalls Tryz.prog false 44 [.ag (ZO d)] [] fun r H=>r = .bp 0 0/\H=dkH d:=by
 have c1:=RE d.cells h1;have c2:=SE d.cache h2;refine zU tys_ok Tryz.func44 rfl rfl (Ae rfl) ?_;conv=>whnf
 apply zW (0) tys_ok mixed (.o [0,1,3,4,2,6,5,7,8,9] .fin) (by kernel_rfl);conv=>whnf
 (refine zX c1 rfl ?_;rintro _ _ ⟨rfl,rfl⟩)
 conv=>whnf
 (refine zX c2 rfl ?_;rintro _ _ ⟨rfl,rfl⟩)
 conv=>whnf
 try (refine tS ?_;conv=>whnf)
 try (refine tS ?_;conv=>whnf)
 exact⟨_, .bp 0 0,dkH d,fun _ _ h=>h,zQ (s:= [3,1,2]) tA,rfl,rfl⟩
theorem ACalls.pre {P:Program} {q:Bool} {f:FuncId} {args:List AV} {H H':List AB} {K:AV->List AB->Prop} (h:ConvH H H') (k:ACalls P q f args H' K):ACalls P q f args H K:=by
 refine⟨k.go,fun w0 M0 c us hs hr=>?_⟩;obtain⟨c1,e1,s1,x1⟩:=h w0 M0 c hs;have:=k.calls w0 M0 c1 us s1 (RdL.ext _ x1 hr);rw [e1] at this;refine this.mono ?_;rintro e w' ⟨v,c',r,H2,rfl,rfl,q1,q2,q3,q4,q5⟩;exact⟨v,c',r,H2,rfl,rfl,q1,q2,x1.trans q3,q4,q5⟩
def zh:=@ACalls.pre
theorem Nh (l:List Lck) (hl:l.length<=1000000000):ACalls Tryz.prog false 121 [BH l] [] fun r H=>r = .ow 0 l.length/\H=[.row 216 3 (l.map DX)]:=by
 refine zJ tys_ok Tryz.func121 rfl rfl (by show 1<=_;decide) ?_;refine Ai (fun h=>?_) ?_
 ·conv=>whnf
  have h0:=AG.1 h;subst h0;exact⟨_, .ow 0 0, [.row 216 3 []],fun _ _ h=>h,zL ⟨[(0,216,3)],tA,tA,tA,rfl,rfl,rfl⟩,rfl,rfl⟩
 ·refine⟨⟨rfl,by omega⟩,?_⟩;exact⟨.ow 0 l.length, .ow 0 l.length, [.row 216 3 (l.map DX)],fun _ _ h=>by rwa [Au] at h,zL ⟨[],tv,tA,⟨(congrArg (AB.row _ _) (Ge (d:=lz) DX l)).symm,tv⟩,rfl,rfl,rfl⟩,rfl,rfl⟩
theorem YN (x:Lck):SubL [iv x.lba, .sl 1 x.reads.length fun i=>(x.reads.map DC).getD i [],iv x.writer] (DX x):=⟨ri,(XY x.reads).1,ri,tv⟩
theorem Vd {l:List Lck} {k:Nat} {e:List AV} (hk:k<l.length) (h:SubL e (DX (l.getD k lz))) (i:Nat):SubL (((l.map DX).set k e).getD i []) ((l.map DX).getD i []):=by
 by_cases e:i=k
 ·subst e;rw [Ab,A3 (by simpa using hk),AP hk];exact h
 ·rw [Ab,A4 (Ne.symm e),<-Ab];exact SubL.refl _
theorem LE (l:List Lck) (hl:l.length<=1000) (hs:∀ x∈l,x.reads.length<=1000):ACalls Tryz.prog false 49 [BH l] [] fun r H=>r = .ow 0 l.length/\H=[.row 216 3 (l.map DX)]:=by
 refine zU tys_ok Tryz.func49 rfl rfl (Ae rfl) ?_;conv=>whnf
 refine zX (Nh l (by omega)) rfl ?_;rintro _ _ ⟨rfl,rfl⟩;conv=>whnf
 refine zR Nat (fun k=>([(0, .ow 0 l.length),(7,iv l.length),(8,iv k)], [.row 216 3 (l.map DX)])) (fun k=>k<=l.length) (fun k=>l.length - k) 0 (Aj _)
  (zQ (s:= [0]) tA) ?_
 rintro k hk;conv=>whnf
 refine AS (fun h2=>?_) (fun h2=>?_) <;> (repeat rw [Ac] at h2) <;> conv=>whnf
 ·have hk':k<l.length:=by omega
  have hE:(l.map DX).getD (k:Int).toNat []=DX (l.getD k lz):=by rw [Ac];exact AP hk'
  have hc:=IL (l.getD k lz).reads (by have:=hs _ (AC (d:=lz) hk');omega);refine⟨⟨by omega,by omega⟩,?_⟩;conv=>whnf
  refine Ai ⟨rfl,(Aa _).symm,by rw [Ac];exact hk'⟩ ?_;conv=>whnf
  rw [hE];conv=>whnf
  refine zX hc rfl ?_;rintro _ _ ⟨rfl,rfl⟩;refine⟨⟨by omega,by omega⟩,?_⟩;refine Ai (Aa _).symm ?_;conv=>whnf
  refine Ai ⟨rfl,(Aa _).symm,by rw [Ac];exact hk'⟩ ?_;conv=>whnf
  rw [hE];conv=>whnf
  exact⟨k+1,hk',by omega,zK (zO (zm (k:=0) rfl (es':=l.map DX) (by simp) fun i=>by rw [Ac];exact Vd hk' (YN _) i)) (s:= [0]) ⟨⟨rfl,rfl,AT (by omega),tv⟩,tA,rfl,rfl,rfl,rfl,rfl⟩⟩
 ·exact⟨.ow 0 l.length, .ow 0 l.length, [.row 216 3 (l.map DX)],fun _ _ h=>h,zQ (s:= [0]) tA,rfl,rfl⟩
theorem St (x:Lck) (y:Int) (h : -1000000<=x.lba - y/\x.lba - y<=1000000):Fn Tryz.prog 381 [.ag (DX x),iv y] fun r=>r = iv (x.lba - y):=by
 refine zT Tryz.func381 rfl ?_;exact⟨_,ri,by rw [wi (by omega)]⟩
def GE (l:List Lck) (y:Int):Bool:=decide (Ef (l.map Lck.lba) y<l.length)&&((l.getD (Ef (l.map Lck.lba) y) lz).lba == y)
theorem X4 (l:List Lck) (x:Int) (hl:l.length<=1000) (hr:KY (l.map Lck.lba)=true) (hb:∀ y∈l,0<=y.lba/\y.lba<=1000000) (hx:0<=x/\x<=1000000):Fn Tryz.prog 380 [BH l,iv x, .v (.func (.func 381) #[] #[])] fun r=>r = .tp [iv (Ef (l.map Lck.lba) x:Nat), .v (.bool (GE l x))]:=by
 have hL:∀ t,t<l.length->(l.map Lck.lba).getD t 0=(l.getD t lz).lba:=fun t ht=>AP ht
 have hB:∀ t,t<l.length-> -1000000<=(l.getD t lz).lba - x/\(l.getD t lz).lba - x<=1000000:=fun t ht=>by have:=hb _ (AC (d:=lz) ht);omega
 refine zT Tryz.func380 rfl ?_;conv=>whnf
 refine zP (Nat × Nat) (fun k=>([(0,BH l),(1,iv x),(2, .v (.func (.func 381) #[] #[])),(8,iv l.length),(9,iv k.1),(10,iv k.2)], [])) (fun k=>k.1<=k.2/\k.2<=l.length/\(∀ t,t<k.1->(l.map Lck.lba).getD t 0<x)/\(∀ t,k.2<=t->t<(l.map Lck.lba).length->x<=(l.map Lck.lba).getD t 0)) (fun k=>k.2 - k.1) (0,l.length) ⟨Aj _,Ag _,fun t ht=>absurd ht (Ap _),fun t h1 h2=>by rw [Aa] at h2;omega⟩ ⟨[],tv,tA,tv,rfl,rfl,rfl⟩ ?_;rintro⟨lo,hi⟩ ⟨h1,h2,h3,h4⟩;simp only at h1 h2 h3 h4;conv=>whnf
 refine Ak (fun h5=>?_) (fun h5=>?_) <;> simp only [decide_eq_true_eq,decide_eq_false_iff_not] at h5 <;> conv=>whnf
 ·refine⟨by decide,?_⟩;conv=>whnf
  have wm:IntKind.i64.wrap ((IntKind.u64.wrap (IntKind.i64.wrap ((lo:Int)+hi))).fdiv (2 ^ min (Int.toNat 1) IntKind.u64.bits))=(((lo+hi) / 2:Nat):Int):=by
   rw [wi (n:=(lo:Int)+hi) (by omega),show IntKind.u64.wrap ((lo:Int)+hi)=(lo:Int)+hi from IntWalk.u64_in _ (by omega),show (2 ^ min (Int.toNat 1) IntKind.u64.bits:Int)=2 by decide,Int.fdiv_eq_ediv_of_nonneg _ (by omega),wi (by omega)];omega
  rw [wm];refine⟨⟨by omega,by omega⟩,?_⟩;conv=>whnf
  rw [Ac];refine zx (St (l.getD ((lo+hi) / 2) lz) x (hB _ (by omega))) rfl ?_;rintro _ rfl;conv=>whnf
  refine Ak (fun h6=>?_) (fun h6=>?_) <;> simp only [decide_eq_true_eq,decide_eq_false_iff_not] at h6 <;> conv=>whnf
  ·exact⟨((lo+hi) / 2+1,hi),⟨by show (lo+hi) / 2+1<=hi;omega,h2,fun t ht=>by have:=NN hr (i:=t) (j:=(lo+hi) / 2) (by simp only at ht;omega) (by simp;omega);rw [hL _ (show (lo+hi) / 2<l.length by omega)] at this;omega,h4⟩,by show hi - ((lo+hi) / 2+1)<hi - lo;omega, [],tv,⟨rfl,rfl,rfl,rfl,by show AV.v (.int .i64 (IntKind.i64.wrap ((((lo+hi) / 2:Nat):Int)+1)))=_;exact AT (by omega),rfl,tv⟩,tv,rfl,rfl,rfl⟩
  ·exact⟨(lo,(lo+hi) / 2),⟨by show lo<=(lo+hi) / 2;omega,by show (lo+hi) / 2<=_;omega,h3,fun t ht ht2=>by have:=NN hr (i:=(lo+hi) / 2) (j:=t) ht ht2;rw [hL _ (show (lo+hi) / 2<l.length by omega)] at this;omega⟩,by show (lo+hi) / 2 - lo<hi - lo;omega, [],tv,tA,tv,rfl,rfl,rfl⟩
 ·have e:lo=hi:=by omega
  subst e;have el:=Yg (by simpa using h2) h3 h4;refine Ak (fun h6=>?_) (fun h6=>?_) <;> simp only [decide_eq_true_eq,decide_eq_false_iff_not] at h6 <;> conv=>whnf
  ·refine⟨⟨by omega,by omega⟩,?_⟩;conv=>whnf
   rw [Ac];refine zx (St (l.getD lo lz) x (hB _ (by omega))) rfl ?_;rintro _ rfl;exact⟨_,ri,by
    unfold GE;rw [el,decide_eq_true (show lo<l.length by omega),BB];rw [show ((l.getD lo lz).lba - x == 0)=((l.getD lo lz).lba == x) from by rw [Bool.eq_iff_iff];simp only [beq_iff_eq];omega]⟩
  ·exact⟨_,ri,by unfold GE;rw [el,decide_eq_false (show ¬lo<l.length by omega),Dd]⟩
theorem Vp (l:List Lck) (x:Int) (hl:l.length<=1000) (hr:KY (l.map Lck.lba)=true) (hb:∀ y∈l,0<=y.lba/\y.lba<=1000000) (hx:0<=x/\x<=1000000):Fn Tryz.prog 342 [BH l,iv x] fun r=>r = .tp [iv (Ef (l.map Lck.lba) x:Nat), .v (.bool (GE l x))]:=by
 have c:=X4 l x hl hr hb hx;refine zT Tryz.func342 rfl ?_;conv=>whnf
 refine zY c ?_;exact⟨_,ri,rfl⟩
def ak (P:Program) (f:FuncId) (t:TypeId) (sz:Nat):Prop:=∀ (v:Value) (n:Nat) (xs ys:List Value) (vb base:Nat) (w:World),w.ownsRow base t sz v n xs->∀ (vc:Nat) (vcur:Array Value),w.heap[vb]? = some (.cells vcur t (0,0))->vcur.toList.take sz=ys->ys.length=sz->
  (∀ u∈ys,u.oneCell'=true)->n<=1000000->base<=w.heap.size->
  Calls P f #[v, .int .i64 n, .slice (some ⟨vb,0,none⟩) 1 vc] w fun e w'=>∃ v',e = .returned v'/\w'.ownsRow base t sz v' (n+1) (xs ++ ys)/\w.grownBy w' v.ownBlock/\(v'.ownBlock=v.ownBlock\/v'.ownBlock=some w.heap.size)
theorem ACalls.insertE {P:Program} {f:FuncId} {t:TypeId} {sz:Nat} (hg:Q5 P f) (hc:ak P f t sz) (es:List (List AV)) (e:List AV) (n:Nat) (hi:n=es.length) (hn:es.length<=1000000) :
  ACalls P false f [.ow 0 n,iv n, .ow 1 1] [.row t sz es, .row t sz [e]] fun r H=>r = .ow 2 (n+1)/\H=[.dead, .row t sz [e], .row t sz (es ++ [e])]:=by
 subst hi;refine⟨hg,fun w0 M0 c us hs hr=>?_⟩;have hj:([.row t sz es, .row t sz [e]]:List AB)[0]? = some (.row t sz es):=rfl;have hk:([.row t sz es, .row t sz [e]]:List AB)[1]? = some (.row t sz [e]):=rfl;obtain⟨h1,h2,h3,xs,h4,h5,h6⟩:=hs.blk 0 _ hj;obtain⟨k1,k2,k3,ys,k4,k5,k6⟩:=hs.blk 1 _ hk;simp only [RdL] at hr;obtain⟨v,us1,rfl,r1,v1,us2,rfl,r2,v2,us3,rfl,r3,rfl⟩:=hr;simp only [Rd] at r1 r2 r3;have hv:=r1.2.2.2 h1.symm;have hv2:=r3.2.2.2 k1.symm;subst r2;have hob:=L4 h4;rcases k4.2 with ⟨_,h0⟩ | ⟨g2,vc,vcur,q1,q2,q3,q4,q5,q6,q7⟩
 ·cases h0
 have hys:ys.length=sz:=by rw [k4.1];simp
 have hbase:c.base<=c.w.heap.size:=by rw [hs.base];exact Aj _
 have:=hc v es.length xs ys g2 c.base c.w (by rw [hv];exact h4) vc vcur q3 (by rw [<-q7];simp) hys k6 hn hbase;rw [hv2,q1];refine this.mono ?_;rintro e' w' ⟨v',rfl,p1,p2,p3⟩;have hlen:(es ++ [e]).length=es.length+1:=by rw [Ah];try rfl
 have hob':=L4 p1;rw [hv,<-hob] at p2 p3;rw [<-hob'] at p3;obtain⟨s1,s2,s3⟩:=hs.rerow (es':=es ++ [e]) hj (by rw [hlen];exact p1) p2 (by rcases p3 with p | p;exact .inl p;exact .inr (.inl p)) h2 (fun x hx=>by
   rcases Az.1 hx with hx | hx
   ·exact h3 x hx
   ·exact k3 x hx) (by
   rw [AX];exact h5.append k5) (fun u hu=>by
   rcases Az.1 hu with hu | hu
   ·exact h6 u hu
   ·exact k6 u hu)
 exact⟨v',_,_,_,rfl,rfl,tA,s1,s2,by rw [<-hlen];exact s3,fun e=>by cases e⟩
def zn:=@ACalls.insertE
end
end Go.Proofs.YtpjkcgacjjbikaaGreatDoor.A
namespace Go.Proofs.YtpjkcgacjjbikaaGreatDoor
section
open Go.RowKit
attribute [local go_sem ↓] Go.wp_at_zero Go.wp_at_succ

theorem HY {L:Array Value} {ys:List Value} {n j:Nat} {u:Value} (h:L.toList.take n=ys) (hu:ys[j]? = some u):L[j]? = some u:=by
 rw [<-h,List.getElem?_take] at hu;split at hu
 ·simpa using hu
 ·cases hu
def QP {α:Type} (L:List α) (o:Nat) (cs:List α):List α:=L.take o ++ (cs ++ L.drop (o+cs.length))
theorem GC {α:Type} (L:List α) (o:Nat) (cs:List α) (h:o+cs.length<=L.length):(QP L o cs).length=L.length:=by simp [QP];omega
theorem P5 {α:Type} {L cs:List α} {o:Nat} (_:o+cs.length<=L.length):L.take o ++ cs ++ L.drop (o+cs.length)=QP L o cs:=by simp [QP]
theorem Vw (v:Value) (n:Nat) (xs ys:List Value) (vb base:Nat) (w:World) (ho:w.ownsRow base 3 1 v n xs) (vc:Nat) (vcur:Array Value) (hb:w.heap[vb]? = some (.cells vcur 3 (0,0))) (hbt:vcur.toList.take 1=ys) (hy:ys.length=1)
  (h1y:∀ u∈ys,u.oneCell'=true) (hn:n<=1000000) (hbase:base<=w.heap.size) :
  Calls Tryz.prog 281 #[v, .int .i64 n, .slice (some ⟨vb,0,none⟩) 1 vc] w fun e w'=>∃ v',e = .returned v'/\w'.ownsRow base 3 1 v' (n+1) (xs ++ ys)/\w.grownBy w' v.ownBlock/\
   (v'.ownBlock=v.ownBlock\/v'.ownBlock=some w.heap.size):=by
 obtain⟨i0,hi0,hz0,hz1,hz2⟩:=info_parts (show (Tryz.prog.info? 3).map (fun i=>(i.zero,i.size,i.bytes))=some (some (.int .i64 0),1,8) by kernel_rfl);obtain⟨v',w2,hrun,h2,h3,h4,h5⟩:=run_append_own_at (P:=Tryz.prog) w base 30 30 3 i0 _ 1 8 Tryz.underlying30 hi0 hz0 hz1 hz2 rfl (by omega) v n xs ho ⟨vb,0,none⟩ 1 vc ys (by omega)
  (fun j u hu=>by rw [Addr.add_lit,Au,cell_of_row w vb _ vcur 3 (0,0) hb];exact HY hbt hu) h1y (by unfold maxLen;omega) (by omega) hbase
 have H2:=Lib.hid (Ai h2 (Ai h3 h5));rcases ho.2 with ⟨rfl,rfl⟩ | ⟨g,c,cur,rfl,hbg,hg,hnc,hcm,hcs,ht⟩
 ·clear h2 h3 h4 h5 hz0 hz1 hz2 hi0 ho hb hbt hy h1y hbase
  go_enter Tryz.func281,Tryz.ntmps281
  go_wp2_with (at_builtin;refine Bn rfl _ _ _ _ rfl (by rfl) (by rfl) hrun ?_)
  go_ret
  exact⟨_,rfl,H2.out⟩
 ·unfold maxLen at hcm;have hg':=Lib.hid hg;have hn0:(0:Int)<=n:=by omega
  clear h2 h3 h4 h5 hz0 hz1 hz2 hi0 ho hb hbt hy h1y hbase hg hcs ht;by_cases hcn:c=n
  ·subst hcn
   go_enter Tryz.func281,Tryz.ntmps281
   go_wp2_with (at_builtin;refine Bn rfl _ _ _ _ rfl (by rfl) (by rfl) hrun ?_)
   go_ret
   exact⟨_,rfl,H2.out⟩
  ·go_enter Tryz.func281,Tryz.ntmps281
   go_wp2_with (at_builtin;refine Bn rfl _ _ _ _ rfl (by rfl) (by rfl) hrun ?_)
   go_ret
   exact⟨_,rfl,H2.out⟩

theorem Vy (v:Value) (n:Nat) (xs ys:List Value) (vb base:Nat) (w:World) (ho:w.ownsRow base 22 1 v n xs) (vc:Nat) (vcur:Array Value) (hb:w.heap[vb]? = some (.cells vcur 22 (0,0))) (hbt:vcur.toList.take 1=ys) (hy:ys.length=1)
  (h1y:∀ u∈ys,u.oneCell'=true) (hn:n<=1000000) (hbase:base<=w.heap.size) :
  Calls Tryz.prog 285 #[v, .int .i64 n, .slice (some ⟨vb,0,none⟩) 1 vc] w fun e w'=>∃ v',e = .returned v'/\w'.ownsRow base 22 1 v' (n+1) (xs ++ ys)/\w.grownBy w' v.ownBlock/\
   (v'.ownBlock=v.ownBlock\/v'.ownBlock=some w.heap.size):=by
 obtain⟨i0,hi0,hz0,hz1,hz2⟩:=info_parts (show (Tryz.prog.info? 22).map (fun i=>(i.zero,i.size,i.bytes))=some (some (.slice none 0 0),1,24) by kernel_rfl);obtain⟨v',w2,hrun,h2,h3,h4,h5⟩:=run_append_own_at (P:=Tryz.prog) w base 48 48 22 i0 _ 1 24 Tryz.underlying48 hi0 hz0 hz1 hz2 rfl (by omega) v n xs ho ⟨vb,0,none⟩ 1 vc ys (by omega)
  (fun j u hu=>by rw [Addr.add_lit,Au,cell_of_row w vb _ vcur 22 (0,0) hb];exact HY hbt hu) h1y (by unfold maxLen;omega) (by omega) hbase
 have H2:=Lib.hid (Ai h2 (Ai h3 h5));rcases ho.2 with ⟨rfl,rfl⟩ | ⟨g,c,cur,rfl,hbg,hg,hnc,hcm,hcs,ht⟩
 ·clear h2 h3 h4 h5 hz0 hz1 hz2 hi0 ho hb hbt hy h1y hbase
  go_enter Tryz.func285,Tryz.ntmps285
  go_wp2_with (at_builtin;refine Bn rfl _ _ _ _ rfl (by rfl) (by rfl) hrun ?_)
  go_ret
  exact⟨_,rfl,H2.out⟩
 ·unfold maxLen at hcm;have hg':=Lib.hid hg;have hn0:(0:Int)<=n:=by omega
  clear h2 h3 h4 h5 hz0 hz1 hz2 hi0 ho hb hbt hy h1y hbase hg hcs ht;by_cases hcn:c=n
  ·subst hcn
   go_enter Tryz.func285,Tryz.ntmps285
   go_wp2_with (at_builtin;refine Bn rfl _ _ _ _ rfl (by rfl) (by rfl) hrun ?_)
   go_ret
   exact⟨_,rfl,H2.out⟩
  ·go_enter Tryz.func285,Tryz.ntmps285
   go_wp2_with (at_builtin;refine Bn rfl _ _ _ _ rfl (by rfl) (by rfl) hrun ?_)
   go_ret
   exact⟨_,rfl,H2.out⟩

theorem Vx (v:Value) (n:Nat) (xs ys:List Value) (vb base:Nat) (w:World) (ho:w.ownsRow base 78 3 v n xs) (vc:Nat) (vcur:Array Value) (hb:w.heap[vb]? = some (.cells vcur 78 (0,0))) (hbt:vcur.toList.take 3=ys) (hy:ys.length=3)
  (h1y:∀ u∈ys,u.oneCell'=true) (hn:n<=1000000) (hbase:base<=w.heap.size) :
  Calls Tryz.prog 277 #[v, .int .i64 n, .slice (some ⟨vb,0,none⟩) 1 vc] w fun e w'=>∃ v',e = .returned v'/\w'.ownsRow base 78 3 v' (n+1) (xs ++ ys)/\w.grownBy w' v.ownBlock/\
   (v'.ownBlock=v.ownBlock\/v'.ownBlock=some w.heap.size):=by
 obtain⟨i0,hi0,hz0,hz1,hz2⟩:=info_parts (show (Tryz.prog.info? 78).map (fun i=>(i.zero,i.size,i.bytes))=some (some (.agg #[.int .i64 0, .slice none 0 0, .slice none 0 0]),3,56) by kernel_rfl);obtain⟨v',w2,hrun,h2,h3,h4,h5⟩:=run_append_own_at (P:=Tryz.prog) w base 73 73 78 i0 _ 3 56 Tryz.underlying73 hi0 hz0 hz1 hz2 rfl (by omega) v n xs ho ⟨vb,0,none⟩ 1 vc ys (by omega)
  (fun j u hu=>by rw [Addr.add_lit,Au,cell_of_row w vb _ vcur 78 (0,0) hb];exact HY hbt hu) h1y (by unfold maxLen;omega) (by omega) hbase
 have H2:=Lib.hid (Ai h2 (Ai h3 h5));rcases ho.2 with ⟨rfl,rfl⟩ | ⟨g,c,cur,rfl,hbg,hg,hnc,hcm,hcs,ht⟩
 ·clear h2 h3 h4 h5 hz0 hz1 hz2 hi0 ho hb hbt hy h1y hbase
  go_enter Tryz.func277,Tryz.ntmps277
  go_wp2_with (at_builtin;refine Bn rfl _ _ _ _ rfl (by rfl) (by rfl) hrun ?_)
  go_ret
  exact⟨_,rfl,H2.out⟩
 ·unfold maxLen at hcm;have hg':=Lib.hid hg;have hn0:(0:Int)<=n:=by omega
  clear h2 h3 h4 h5 hz0 hz1 hz2 hi0 ho hb hbt hy h1y hbase hg hcs ht;by_cases hcn:c=n
  ·subst hcn
   go_enter Tryz.func277,Tryz.ntmps277
   go_wp2_with (at_builtin;refine Bn rfl _ _ _ _ rfl (by rfl) (by rfl) hrun ?_)
   go_ret
   exact⟨_,rfl,H2.out⟩
  ·go_enter Tryz.func277,Tryz.ntmps277
   go_wp2_with (at_builtin;refine Bn rfl _ _ _ _ rfl (by rfl) (by rfl) hrun ?_)
   go_ret
   exact⟨_,rfl,H2.out⟩

theorem Vv (v:Value) (n:Nat) (xs ys:List Value) (vb base:Nat) (w:World) (ho:w.ownsRow base 216 3 v n xs) (vc:Nat) (vcur:Array Value) (hb:w.heap[vb]? = some (.cells vcur 216 (0,0))) (hbt:vcur.toList.take 3=ys) (hy:ys.length=3)
  (h1y:∀ u∈ys,u.oneCell'=true) (hn:n<=1000000) (hbase:base<=w.heap.size) :
  Calls Tryz.prog 343 #[v, .int .i64 n, .slice (some ⟨vb,0,none⟩) 1 vc] w fun e w'=>∃ v',e = .returned v'/\w'.ownsRow base 216 3 v' (n+1) (xs ++ ys)/\w.grownBy w' v.ownBlock/\
   (v'.ownBlock=v.ownBlock\/v'.ownBlock=some w.heap.size):=by
 obtain⟨i0,hi0,hz0,hz1,hz2⟩:=info_parts (show (Tryz.prog.info? 216).map (fun i=>(i.zero,i.size,i.bytes))=some (some (.agg #[.int .i64 0, .slice none 0 0, .int .i64 0]),3,40) by kernel_rfl);obtain⟨v',w2,hrun,h2,h3,h4,h5⟩:=run_append_own_at (P:=Tryz.prog) w base 74 74 216 i0 _ 3 40 Tryz.underlying74 hi0 hz0 hz1 hz2 rfl (by omega) v n xs ho ⟨vb,0,none⟩ 1 vc ys (by omega)
  (fun j u hu=>by rw [Addr.add_lit,Au,cell_of_row w vb _ vcur 216 (0,0) hb];exact HY hbt hu) h1y (by unfold maxLen;omega) (by omega) hbase
 have H2:=Lib.hid (Ai h2 (Ai h3 h5));rcases ho.2 with ⟨rfl,rfl⟩ | ⟨g,c,cur,rfl,hbg,hg,hnc,hcm,hcs,ht⟩
 ·clear h2 h3 h4 h5 hz0 hz1 hz2 hi0 ho hb hbt hy h1y hbase
  go_enter Tryz.func343,Tryz.ntmps343
  go_wp2_with (at_builtin;refine Bn rfl _ _ _ _ rfl (by rfl) (by rfl) hrun ?_)
  go_ret
  exact⟨_,rfl,H2.out⟩
 ·unfold maxLen at hcm;have hg':=Lib.hid hg;have hn0:(0:Int)<=n:=by omega
  clear h2 h3 h4 h5 hz0 hz1 hz2 hi0 ho hb hbt hy h1y hbase hg hcs ht;by_cases hcn:c=n
  ·subst hcn
   go_enter Tryz.func343,Tryz.ntmps343
   go_wp2_with (at_builtin;refine Bn rfl _ _ _ _ rfl (by rfl) (by rfl) hrun ?_)
   go_ret
   exact⟨_,rfl,H2.out⟩
  ·go_enter Tryz.func343,Tryz.ntmps343
   go_wp2_with (at_builtin;refine Bn rfl _ _ _ _ rfl (by rfl) (by rfl) hrun ?_)
   go_ret
   exact⟨_,rfl,H2.out⟩
end
end Go.Proofs.YtpjkcgacjjbikaaGreatDoor
namespace Go.Proofs.YtpjkcgacjjbikaaGreatDoor.A
section
open Go.RowKit
theorem Sr {l:List Nat} {m:Nat} (h:(l.all fun z=>Nat.ble (z+1) m)=true):∀ z∈l,z<m:=fun z hz=>Ae (Av.1 h z hz)
theorem PI (es:List (List AV)) (e:List AV) (n:Nat) (hl:n=es.length) (hn:n<=1000000) :
  ACalls Tryz.prog false 343 [.ow 0 n,iv n, .ow 1 1] [.row 216 3 es, .row 216 3 [e]] fun r H=>r = .ow 2 (n+1)/\H=[.dead, .row 216 3 [e], .row 216 3 (es ++ [e])]:=
 zn ⟨_,Tryz.func343,rfl,rfl⟩ (fun v n xs ys vb base w ho vc vcur hb hbt hy h1y hn hbase=>Vv v n xs ys vb base w ho vc vcur hb hbt hy h1y hn hbase) es e n hl (by omega)
structure LkI (l:List Lck) (y:Int):Prop where
 ok:Hy l=true
 len:l.length<64
 bd:∀ x∈l,0<=x.lba/\x.lba<=1000000
 yb:0<=y/\y<=1000000
 fin:GE l y=true\/Ef (l.map Lck.lba) y=l.length
theorem LkI.rs {l:List Lck} {y:Int} (h:LkI l y):KY (l.map Lck.lba)=true:=by
 have:=h.ok;simp only [Hy,Ad] at this;exact this.2.1
theorem LkI.one {l:List Lck} {y:Int} (h:LkI l y):∀ x∈l,x.reads.length<=8/\KY x.reads=true:=fun x hx=>by
 have:=h.ok;simp only [Hy,Ad] at this;have:=Av.1 this.2.2 x hx;simp only [GB,Ad,decide_eq_true_eq] at this;exact⟨this.1,this.2.1⟩
theorem Ld {l:List Lck} {y:Int} (h:GE l y=true):Ef (l.map Lck.lba) y<l.length:=by
 unfold GE at h;simp only [Ad,decide_eq_true_eq] at h;exact h.1
def P9 (l:List Lck) (y:Int):List (List AV):=if GE l y then l.map DX else l.map DX ++ [[iv y, .v (.slice none 0 0),iv (-1)]]
theorem F4 (l:List Lck) (y:Int) (h:LkI l y):ACalls Tryz.prog false 279 [BH l,iv y] [] fun r H=>r = .tp [.ow 0 (P9 l y).length,iv (Ef (l.map Lck.lba) y:Nat), .v (.bool true)]/\H=[.row 216 3 (P9 l y)]:=by
 have hlen:=h.len;have c1:=LE l (by omega) fun x hx=>by have:=(h.one x hx).1;omega
 have c2:=Vp l y (by omega) h.rs h.bd h.yb;have tsub:SubL [.sl 3 l.length fun i=>(l.map DX).getD i [],iv y] [BH l,iv y]:=⟨BY (f:=DX) l rfl rfl,ri,tv⟩;unfold P9;cases hh:GE l y with
 | true=>
  rw [hh] at c2;rw [if_pos rfl,Aa];refine zU tys_ok Tryz.func279 rfl rfl (Ae rfl) ?_;conv=>whnf
  refine zX c1 rfl ?_;rintro _ _ ⟨rfl,rfl⟩;conv=>whnf
  refine zq (args':= [.sl 3 l.length fun i=>(l.map DX).getD i [],iv y]) (c2.sub tsub) ⟨(Aa _).symm,rfl⟩ ?_;rintro _ rfl;refine⟨rfl,?_⟩;exact⟨_, .tp [.ow 0 l.length,iv (Ef (l.map Lck.lba) y:Nat), .v (.bool true)], [.row 216 3 (l.map DX)],fun _ _ h=>h,zQ (s:= [0]) tA,rfl,rfl⟩
 | false=>
  rw [hh] at c2;have hp:Ef (l.map Lck.lba) y=l.length:=h.fin.resolve_left (by rw [hh];decide);rw [hp] at c2 |-
  have c3:=PI (l.map DX) [iv y, .v (.slice none 0 0),iv (-1)] l.length (Aa _).symm (by omega);rw [if_neg (by decide),Ah,Aa];refine zU tys_ok Tryz.func279 rfl rfl (Ae rfl) ?_;conv=>whnf
  refine zX c1 rfl ?_;rintro _ _ ⟨rfl,rfl⟩;conv=>whnf
  refine zq (args':= [.sl 3 l.length fun i=>(l.map DX).getD i [],iv y]) (c2.sub tsub) ⟨(Aa _).symm,rfl⟩ ?_;rintro _ rfl;refine⟨rfl,?_⟩;conv=>whnf
  rw [decide_eq_false (show ¬(64:Int)<=(l.length:Nat) by omega)];conv=>whnf
  refine ze9 [0,1] c3 ?_;rintro _ _ ⟨rfl,rfl⟩;exact⟨_, .tp [.ow 0 (l.length+1),iv (l.length:Nat), .v (.bool true)], [.row 216 3 (l.map DX ++ [[iv y, .v (.slice none 0 0),iv (-1)]])],fun _ _ h=>h,zQ (s:= [2]) tA,rfl,rfl⟩
def Wa (c:Cel):Bool:=Dv c.state 0 2&&(decide (c.bytes.length<=200)&&decide (c.old.length<=200))
def Yu (n:Nat) (w:Wr):Bool:=Dv w.addr 0 ((n:Int) - 1)&&decide (w.bytes.length<=200)
def Xh (d:Dk):Bool:=(Dv d.cells.length 1 300&&(decide (d.cache.length<=2000)&&(Dv d.reqs 0 1048576&&Dv d.left (-1) 1048576)))&&(d.cells.all Wa&&d.cache.all (Yu d.cells.length))
theorem YW (n lo hi:Int):Fn Tryz.prog 30 [iv n,iv lo,iv hi] fun r=>r = .v (.bool (Dv n lo hi)):=by
 refine zT Tryz.func30 rfl ?_;conv=>whnf
 repeat' (first | (refine Ak (fun h=>?_) (fun h=>?_) <;> (try simp at h) <;> conv=>whnf) | (refine zH tys_ok mixed (by kernel_rfl) ?_;conv=>whnf) | (refine zZ ?_;conv=>whnf) | (refine Ai (by omega) ?_;conv=>whnf))
 all_goals exact⟨_,ri,by simp [Dv, *] <;> omega⟩

def cel0:List AV:= [iv 0, .v (.slice none 0 0), .v (.slice none 0 0)]
theorem VV (n:Nat) (hn:1<=n/\n<=300):ACalls Tryz.prog false 99 [iv n] [] fun r H=>r = .tp [.ag [.ow 0 n, .v (.slice none 0 0),iv 0,iv (-1)],iv 0]/\H=[.row 68 3 (List.replicate n cel0)]:=by
 have hi:=YW n 1 300;rw [show Dv (n:Int) 1 300=true by simp [Dv];omega] at hi;refine zU tys_ok Tryz.func99 rfl rfl (Ae rfl) ?_;conv=>whnf
 refine zY hi ?_;refine⟨⟨rfl,by omega,by omega⟩,?_⟩;conv=>whnf
 exact⟨_, .tp [.ag [.ow 0 n, .v (.slice none 0 0),iv 0,iv (-1)],iv 0], [.row 68 3 (List.replicate n cel0)],fun _ _ h=>h,zQ (s:= [1]) ⟨⟨by rw [Ac];try rfl,tv⟩,⟨by rw [Ac];try rfl,tv⟩,rfl,rfl,rfl,rfl,rfl⟩,rfl,rfl⟩
@[reducible] def dkG (d:Dk):List AB:= [.box 119 (Lg (.ow 1 d.cells.length) (.ow 3 d.cache.length) d.reqs d.left), .row 68 3 (d.cells.map Ci), .dead, .row 152 2 (d.cache.map GU)]
theorem YV (d:Dk):ConvH (dkH d) (dkG d):=zG (H:=dkH d) 0 2 (by decide) rfl rfl
theorem IV (d:Dk) (hl : -1<=d.left/\d.left<=1048576) (hc:d.cache.length<=2000) (ha:∀ w∈d.cache,0<=w.addr/\w.addr<d.cells.length) :
  ACalls Tryz.prog false 77 [.bp 0 0] (dkH d) fun r H=>r = iv (if d.left=0 then 8 else 0)/\H=dkG (if d.left=0 then d else d.flush):=by
 by_cases h0:d.left=0
 ·rw [if_pos h0,if_pos h0];exact(RA d hl h0).conv fun r H ⟨h1,h2⟩=>⟨_,h2 ▸ YV d,h1,rfl⟩
 ·rw [if_neg h0,if_neg h0];exact(TZ d hl h0 hc ha).conv fun r H ⟨h1,h2⟩=>⟨_,h2 ▸ zE _,h1,rfl⟩
@[reducible] def aR (d:Dk):List AB:= [.box 133 (Lg (.ow 1 d.cells.length) (.ow 2 d.cache.length) d.reqs d.left), .row 68 3 (d.cells.map Ci), .row 152 2 (d.cache.map GU)]
@[reducible] def aS (d:Dk):List AB:= [.box 133 (Lg (.ow 1 d.cells.length) (.ow 3 d.cache.length) d.reqs d.left), .row 68 3 (d.cells.map Ci), .dead, .row 152 2 (d.cache.map GU)]
structure DkOk (d:Dk):Prop where
 n:1<=d.cells.length/\d.cells.length<=300
 m:d.cache.length<=2000
 r:0<=d.reqs/\d.reqs<=1048576
 l : -1<=d.left/\d.left<=1048576
 c:∀ c∈d.cells,(0<=c.state/\c.state<=2)/\c.bytes.length<=200/\c.old.length<=200
 w:∀ w∈d.cache,(0<=w.addr/\w.addr<d.cells.length)/\w.bytes.length<=200
theorem UO {d:Dk}:Xh d=true↔DkOk d:=by
 constructor
 ·intro h;simp only [Xh,Ad,AK,decide_eq_true_eq,Av,Wa,Yu] at h;obtain⟨⟨h1,h2,h3,h4⟩,h5,h6⟩:=h;exact⟨by omega,h2,h3,h4,fun c hc=>h5 c hc,fun w hw=>⟨by have:=(h6 w hw).1;omega,(h6 w hw).2⟩⟩
 ·intro h;simp only [Xh,Ad,AK,decide_eq_true_eq,Av,Wa,Yu];exact⟨⟨by have:=h.n;omega,h.m,h.r,h.l⟩,fun c hc=>h.c c hc,fun w hw=>⟨by have:=(h.w w hw).1;omega,(h.w w hw).2⟩⟩
theorem DkOk.req {d:Dk} (h:DkOk d):DkOk d.req:=by
 have hr:=h.r;have hl:=h.l;refine⟨h.n,h.m,?_,?_,h.c,h.w⟩
 ·show 0<=(if 1048576<IntKind.i64.wrap (d.reqs+1) then 1048576 else IntKind.i64.wrap (d.reqs+1))/\(if 1048576<IntKind.i64.wrap (d.reqs+1) then 1048576 else IntKind.i64.wrap (d.reqs+1))<=1048576;rw [wi (by omega)];omega
 ·show -1<=(if d.left > 0 then d.left - 1 else d.left)/\(if d.left > 0 then d.left - 1 else d.left)<=1048576;omega
theorem TL {d:Dk} (h:DkOk d) (a:Int):(d.got a).1.length<=200:=by
 unfold Dk.got;cases hl:K7 d.cache a with
 | some w=>
  have:∀ (l:List Wr) (r:Option Wr),(∀ x∈l,x.bytes.length<=200)->(∀ x,r=some x->x.bytes.length<=200)->∀ x,l.foldl (fun r w=>if w.addr=a then some w else r) r=some x->x.bytes.length<=200:=by
   intro l;induction l with
   | nil=>intro r _ h2 x hx;exact h2 x hx
   | cons y l ih=>
    grind
  exact this d.cache none (fun x hx=>(h.w x hx).2) (fun x hx=>by cases hx) w hl
 | none=>
  simp only;split
  ·by_cases ha:a.toNat<d.cells.length
   ·exact(h.c _ (AC (d:=⟨0, [], []⟩) ha)).2.1
   ·grind
  ·simp
theorem DkOk.read {d:Dk} (h:DkOk d) (a:Int):DkOk (d.read a).1:=by
 unfold Dk.read;split
 ·exact h
 ·exact h.req
theorem DkOk.write {d:Dk} (h:DkOk d) {a:Int} {b:List UInt8} (ha:0<=a/\a<d.cells.length) (hb:b.length<=200):DkOk (d.write a b).1:=by
 unfold Dk.write;split
 ·exact h
 ·split
  ·exact h.req
  ·rename_i h1;have h2:=h.req;refine⟨h2.n,?_,h2.r,h2.l,h2.c,fun w hw=>?_⟩
   ·grind
   ·rcases Az.1 hw with hw | hw
    ·exact h.w w hw
    ·simp at hw;subst hw;exact⟨ha,hb⟩
theorem DkOk.fin {d:Dk} (h:DkOk d) {w:Wr} (hb:w.bytes.length<=200):DkOk (d.fin w):=by
 unfold Dk.fin;split
 ·exact h
 ·refine⟨by simpa using h.n,h.m,h.r,h.l,fun c hc=>?_,fun x hx=>by simpa using h.w x hx⟩;rcases Cd hc with hc | rfl
  ·exact h.c c hc
  ·refine⟨⟨CC _,show (0:Int)<=2 by decide⟩,hb,?_⟩;show (d.cells.getD w.addr.toNat cz).bytes.length<=200;by_cases ha:w.addr.toNat<d.cells.length
   ·exact(h.c _ (AC (d:=cz) ha)).2.1
   ·rw [Ab,AF (by omega)];simp [cz]
theorem DkOk.allFin (l:List Wr):∀ {d:Dk},DkOk d->(∀ w∈l,w.bytes.length<=200)->DkOk (d.allFin l):=by
 induction l with
 | nil=>intro d h _;exact h
 | cons w l ih=>intro d h hw;exact ih (h.fin (hw w (by simp))) fun x hx=>hw x (Bc _ hx)
theorem DkOk.flush {d:Dk} (h:DkOk d):DkOk d.flush:=by
 have h1:=h.req.allFin d.cache (fun w hw=>(h.w w hw).2);exact⟨h1.n,by simp [Dk.flush],h1.r,h1.l,h1.c,fun w hw=>by simp [Dk.flush] at hw⟩
theorem KR (d:Dk) (a:Int) (b:List UInt8):(d.write a b).1.cells.length=d.cells.length:=by
 unfold Dk.write;split
 ·rfl
 ·split <;> rfl
def Dk.adv:Nat->Dk->Dk
 | 0,d=>d
 | k+1,d=>let e:=Dk.adv k d;if e.left=0 then e else e.req
def Dk.live (k:Nat) (d:Dk):Prop:=d.left<0\/(k:Int)<=d.left
instance (k:Nat) (d:Dk):Decidable (d.live k):=by unfold Dk.live;infer_instance
theorem Fi (k:Nat) (d:Dk):(d.adv k).cells=d.cells/\(d.adv k).cache=d.cache:=by
 induction k with
 | zero=>exact tA
 | succ k ih=>show (if _ then _ else _:Dk).cells=_/\(if _ then _ else _:Dk).cache=_;split <;> exact ih
theorem Wy (k:Nat) (d:Dk) (h:d.live k):(d.adv k).left=if d.left<0 then d.left else d.left - k:=by
 induction k with
 | zero=>show d.left=_;simp
 | succ k ih=>
  have h':d.live k:=by unfold Dk.live at *;omega
  have ih:=ih h';have h0:¬(d.adv k).left=0:=by rw [ih];unfold Dk.live at h;split <;> omega
  show (if (d.adv k).left=0 then d.adv k else (d.adv k).req).left=_;rw [if_neg h0];show (if (d.adv k).left > 0 then (d.adv k).left - 1 else (d.adv k).left)=_;rw [ih];unfold Dk.live at h;omega
theorem M4 (k n:Nat) (d:Dk) (h:(d.adv k).left=0) (hn:k<=n):d.adv n=d.adv k:=by
 induction n with
 | zero=>rw [show k=0 by omega]
 | succ n ih=>
  by_cases e:k=n+1
  ·rw [e]
  ·have:=ih (by omega);show (if (d.adv n).left=0 then d.adv n else (d.adv n).req)=_
   grind
theorem Wx (k:Nat) (d:Dk) (h:¬(d.adv k).left=0):d.adv (k+1)=(d.adv k).req:=if_neg h
theorem M5 (k:Nat) (d:Dk) (hl : -1<=d.left) (h:d.live k):(d.adv k).left=0↔¬d.live (k+1):=by
 rw [Wy k d h];unfold Dk.live at *
 omega
theorem DkOk.adv {d:Dk} (h:DkOk d) (k:Nat):DkOk (d.adv k):=by
 induction k with
 | zero=>exact h
 | succ k ih=>show DkOk (if _ then _ else _);split;exact ih;exact ih.req
theorem XV (k:Nat) (d:Dk) (a:Int):(d.adv k).got a=d.got a:=by
 unfold Dk.got;rw [(Fi k d).1,(Fi k d).2]
def Ot (d:Dk) (a:Int):Gt:=⟨(d.got a).2,(d.got a).1⟩
theorem Oq (d:Dk) (a:Int):(d.got a).2=0\/(d.got a).2=6:=by
 unfold Dk.got
 grind
def Fj (s:Dk × Nat × Bool) (w:Wr):Dk × Nat × Bool:=
 if s.2.2 then s else
 match s.1.write w.addr w.bytes with
 | (d,e)=>if e=8 then (d,s.2.1,true) else (d,s.2.1+(if e=0 then 1 else 0),false)
def Dk.writes (d:Dk) (l:List Wr):Dk × Nat × Bool:=l.foldl Fj (d,0,false)
def Dk.putAll (d:Dk) (l:List Wr):Dk × Nat × Bool:=
 match d.writes l with
 | (d1,n,dead)=>if dead then (d1,n,true) else if d1.left=0 then (d1,n,true) else (d1.flush,n,false)
theorem FE (d:Dk) {l:List Wr} {k:Nat} (h:k<l.length):d.writes (l.take (k+1))=Fj (d.writes (l.take k)) (l.getD k ⟨0, []⟩):=by
 unfold Dk.writes;rw [Bh,Cb,Af h]
 grind
theorem OC {s:Dk × Nat × Bool} (w:Wr) (h:s.2.2=true):Fj s w=s:=by unfold Fj;rw [if_pos h]
theorem Kq (d:Dk) {l:List Wr} {k:Nat} (hk:k<=l.length) (h:(d.writes (l.take k)).2.2=true):d.writes l=d.writes (l.take k):=by
 have:∀ n,k<=n->n<=l.length->d.writes (l.take n)=d.writes (l.take k):=by
  intro n;induction n with
  | zero=>intro h1 _;rw [show k=0 by omega]
  | succ n ih=>
   intro h1 h2;by_cases e:k=n+1
   ·rw [e]
   ·rw [FE d (by omega),ih (by omega) (by omega),OC _ h]
 grind
theorem Q7 {P:Dk->Prop} (l:List Wr) (hw:∀ d,P d->∀ w∈l,P (d.write w.addr w.bytes).1) {d:Dk} (h:P d) (k:Nat):P (d.writes (l.take k)).1:=by
 induction k with
 | zero=>simpa [Dk.writes] using h
 | succ k ih=>
  by_cases hk:k<l.length
  ·rw [FE d hk];unfold Fj
   grind
  ·rw [At (by omega)];rwa [At (by omega)] at ih
def an0:An:=⟨0,0,0,0,0,⟨#[]⟩, []⟩
def Ho (g:Geo) (b:List UInt8):Int:=if Bq g=false then 1 else if (DM g b).isSome then 0 else 4
theorem an0_sub:SubL [iv 0,iv 0,iv 0,iv 0,iv 0, .v (.string ⟨#[]⟩), .v (.slice none 0 0)] (Fp an0):=
 ⟨fun _ _ h=>h,fun _ _ h=>h,fun _ _ h=>h,fun _ _ h=>h,fun _ _ h=>h,fun _ _ h=>h,Bv 3 _,tv⟩
theorem HR (e:Int):∀ (c:Ctx) (v:Value),Rd (.tp [.ag [iv 0,iv 0,iv 0,iv 0,iv 0, .v (.string ⟨#[]⟩), .v (.slice none 0 0)],iv e]) c v->Rd (.tp [.ag (Fp an0),iv e]) c v:=
 BV (m:= [.ag (Fp an0),iv e]) ⟨Bg an0_sub,ri,tv⟩
theorem Ws (g:Geo) (b:List UInt8) (hl:b.length<=100000):Fn Tryz.prog 375 [.ag (Bm g),bA b] fun r=>r = .tp [.ag (Fp (if Bq g then (DM g b).getD an0 else an0)),iv (Ho g b)]:=by
 have hG:Fn Tryz.prog 118 [.ag (Bm g)] fun r=>r = .v (Ew (Bq g)):=Ct g.z g.d g.sp g.sl g.an
 cases hg:Bq g with
 | false=>
  rw [hg] at hG;rw [show Ho g b=1 by rw [Ho,if_pos hg]];refine zT Tryz.func375 rfl ?_;conv=>whnf
  refine zY hG ?_;exact⟨_,HR 1,rfl⟩
 | true=>
  rw [hg] at hG;obtain⟨g1,g2,g3,g4,g5⟩:=A2.1 hg;have hE:∀ (h:DM g b=none),(if true=true then (DM g b).getD an0 else an0)=an0/\Ho g b=4:=fun h=>⟨by rw [h];try rfl,by rw [Ho,if_neg (by rw [hg];decide),h];try rfl⟩
  by_cases h17:b.length<17
  ·have hN:DM g b=none:=by rw [DM,if_pos h17]
   have hu:=He b szA (by decide) (by omega) (by decide) h17;rw [(hE hN).1,(hE hN).2];refine zT Tryz.func375 rfl ?_;conv=>whnf
   refine zY hG ?_;conv=>whnf
   refine zS hu.go ?_;refine⟨rfl,?_⟩;conv=>whnf
   refine zV [bA b,iA szA] ⟨ri,(Bi (l:=szA) rfl).1,tv⟩ ?_;refine zY hu ?_;exact⟨_,HR 4,rfl⟩
  ·have hu:=JH b szA (by decide) (by omega) (by decide) (by show 17<=_;omega);rw [show tot szA=17 from rfl] at hu;have hr:=Vg (b.drop 17) (by rw [Al];omega);cases hL:LL (b.drop 17) with
   | none=>
    have hN:DM g b=none:=by rw [DM,if_neg h17,hL]
    rw [LK,hL] at hr;rw [(hE hN).1,(hE hN).2];refine zT Tryz.func375 rfl ?_;conv=>whnf
    refine zY hG ?_;conv=>whnf
    refine zS hu.go ?_;refine⟨rfl,?_⟩;conv=>whnf
    refine zV [bA b,iA szA] ⟨ri,(Bi (l:=szA) rfl).1,tv⟩ ?_;refine zY hu ?_;conv=>whnf
    refine zY hr ?_;exact⟨_,HR 4,rfl⟩
   | some q=>
    obtain⟨s,u⟩:=q;obtain⟨u1,u2,u3,u4⟩:=Nj hL;rw [LK,hL] at hr;simp only at hr;have hlu:17+u<=b.length:=by rw [Al] at u1;omega
    have hh:=V8 g (b.drop (17+u)) hg (by rw [Al];omega);have hs24:=Hz u4;have hss:s.size=s.data.toList.length:=rfl;have hnl:(nums szA b).length=5:=by rw [nums_len];try rfl
    have hdl:(b.drop (17+u)).length=b.length - (17+u):=Al ..
    have hLs:s.size<=1000000:=by omega
    obtain⟨A,hA⟩:∃ A,A=MG (g.d.toNat+1) g.z.toNat b s u:=⟨_,rfl⟩;have hLA:A.label.size<=1000000:=by rw [hA];exact hLs
    by_cases hs:g.z.toNat*(g.d.toNat+6)<=(b.drop (17+u)).length
    ·rw [if_pos hs,if_pos hs] at hh;have hHA:A.homes.length<=1000000:=by
      rw [hA];show (Ez (g.d.toNat+1) g.z.toNat (b.drop (17+u))).length<=_;rw [Fu];omega
     have hB:=Ko g A hLA hHA;rw [hg,BB] at hB;have hR0:DM g b=if b.length≠17+u+g.z.toNat*(g.d.toNat+6) then none else if B7 g A then some A else none:=by rw [DM,if_neg h17,hL,hA]
     cases hok:B7 g A with
     | false=>
      have hN:DM g b=none:=by rw [hR0,hok];split <;> rfl
      rw [hok,if_neg (by decide)] at hB;rw [(hE hN).1,(hE hN).2];subst hA;refine zT Tryz.func375 rfl ?_;conv=>whnf
      refine zY hG ?_;conv=>whnf
      refine zS hu.go ?_;refine⟨rfl,?_⟩;conv=>whnf
      refine zV [bA b,iA szA] ⟨ri,(Bi (l:=szA) rfl).1,tv⟩ ?_;refine zY hu ?_;conv=>whnf
      refine zY hr ?_;conv=>whnf
      apply zW (0) tys_ok mixed (.o [0,1,2,3,4,5,6,7,8,9] .fin) (by kernel_rfl);conv=>whnf
      try (refine tI ?_;conv=>whnf)
      (refine zV [.ag (Bm g),bA (b.drop (17+u))] ⟨ri,fun c v h=>(by rw [<-AZ];exact DD (b:=b.drop 17) (by rw [Al];omega) c v h),tv⟩ ?_;refine zY hh ?_)
      conv=>whnf
      apply zW (0) tys_ok mixed (.o [0,1,2,3,4,5,6,7,8,9,10,11,12,13,14,15,16,17,18,19] .fin) (by kernel_rfl);conv=>whnf
      try (refine tI ?_;conv=>whnf)
      try (refine tI ?_;conv=>whnf)
      try (refine tI ?_;conv=>whnf)
      try (refine tI ?_;conv=>whnf)
      try (refine tI ?_;conv=>whnf)
      try (refine tS ?_;conv=>whnf)
      refine zY hB ?_;exact⟨_,HR 4,rfl⟩
     | true=>
      rw [hok,if_pos rfl] at hB;have hab:JE A=b.take (17+u+g.z.toNat*(g.d.toNat+6)):=by
       rw [hA,Q1 (g.d.toNat+1) g.z.toNat b s u (by omega) hL (by show 17+u+(g.d.toNat+6)*g.z.toNat<=_;rw [Nat.mul_comm];omega)];show List.take (17+u+(g.d.toNat+6)*g.z.toNat) b=_;rw [Nat.mul_comm]
      have hq:=J8 (JE A) b;by_cases hlen:b.length=17+u+g.z.toNat*(g.d.toNat+6)
      ·have hbb:JE A=b:=by rw [hab,<-hlen,A6]
       have hY:DM g b=some A:=by rw [hR0,if_neg (by omega),hok];try rfl
       have hT:=Wp A (by have:=hHA;rw [hA] at this |-;show (Ez (g.d.toNat+1) g.z.toNat (b.drop (17+u))).length<=_;rw [Fu];omega) (fun x hx=>by have:=(LT hg ((DE hg hok 0 (Aj _)).2.2.2.2 x hx)).1;omega);rw [show Ho g b=0 by rw [Ho,if_neg (by rw [hg];decide),hY];try rfl,hY];rw [decide_eq_true hbb] at hq;subst hA;refine zT Tryz.func375 rfl ?_;conv=>whnf
       refine zY hG ?_;conv=>whnf
       refine zS hu.go ?_;refine⟨rfl,?_⟩;conv=>whnf
       refine zV [bA b,iA szA] ⟨ri,(Bi (l:=szA) rfl).1,tv⟩ ?_;refine zY hu ?_;conv=>whnf
       refine zY hr ?_;conv=>whnf
       apply zW (0) tys_ok mixed (.o [0,1,2,3,4,5,6,7,8,9] .fin) (by kernel_rfl);conv=>whnf
       try (refine tI ?_;conv=>whnf)
       (refine zV [.ag (Bm g),bA (b.drop (17+u))] ⟨ri,fun c v h=>(by rw [<-AZ];exact DD (b:=b.drop 17) (by rw [Al];omega) c v h),tv⟩ ?_;refine zY hh ?_)
       conv=>whnf
       apply zW (0) tys_ok mixed (.o [0,1,2,3,4,5,6,7,8,9,10,11,12,13,14,15,16,17,18,19] .fin) (by kernel_rfl);conv=>whnf
       try (refine tI ?_;conv=>whnf)
       try (refine tI ?_;conv=>whnf)
       try (refine tI ?_;conv=>whnf)
       try (refine tI ?_;conv=>whnf)
       try (refine tI ?_;conv=>whnf)
       try (refine tS ?_;conv=>whnf)
       refine zY hB ?_;conv=>whnf
       refine zY hq ?_;conv=>whnf
       refine zY hT ?_;exact⟨_,ri,rfl⟩
      ·have hbb:JE A≠b:=fun h=>hlen (by rw [<-h,hab,Aq];omega)
       have hN:DM g b=none:=by rw [hR0,if_pos hlen]
       rw [decide_eq_false hbb] at hq;rw [(hE hN).1,(hE hN).2];subst hA;refine zT Tryz.func375 rfl ?_;conv=>whnf
       refine zY hG ?_;conv=>whnf
       refine zS hu.go ?_;refine⟨rfl,?_⟩;conv=>whnf
       refine zV [bA b,iA szA] ⟨ri,(Bi (l:=szA) rfl).1,tv⟩ ?_;refine zY hu ?_;conv=>whnf
       refine zY hr ?_;conv=>whnf
       apply zW (0) tys_ok mixed (.o [0,1,2,3,4,5,6,7,8,9] .fin) (by kernel_rfl);conv=>whnf
       try (refine tI ?_;conv=>whnf)
       (refine zV [.ag (Bm g),bA (b.drop (17+u))] ⟨ri,fun c v h=>(by rw [<-AZ];exact DD (b:=b.drop 17) (by rw [Al];omega) c v h),tv⟩ ?_;refine zY hh ?_)
       conv=>whnf
       apply zW (0) tys_ok mixed (.o [0,1,2,3,4,5,6,7,8,9,10,11,12,13,14,15,16,17,18,19] .fin) (by kernel_rfl);conv=>whnf
       try (refine tI ?_;conv=>whnf)
       try (refine tI ?_;conv=>whnf)
       try (refine tI ?_;conv=>whnf)
       try (refine tI ?_;conv=>whnf)
       try (refine tI ?_;conv=>whnf)
       try (refine tS ?_;conv=>whnf)
       refine zY hB ?_;conv=>whnf
       refine zY hq ?_;exact⟨_,HR 4,rfl⟩
    ·rw [if_neg hs,if_neg hs] at hh;have hB:=Ko g { MG (g.d.toNat+1) g.z.toNat b s u with homes:= [] } hLs (by simp);rw [hg,BB] at hB;have hN:DM g b=none:=by rw [DM,if_neg h17,hL];exact if_pos (by omega)
     rw [(hE hN).1,(hE hN).2];refine zT Tryz.func375 rfl ?_;conv=>whnf
     refine zY hG ?_;conv=>whnf
     refine zS hu.go ?_;refine⟨rfl,?_⟩;conv=>whnf
     refine zV [bA b,iA szA] ⟨ri,(Bi (l:=szA) rfl).1,tv⟩ ?_;refine zY hu ?_;conv=>whnf
     refine zY hr ?_;conv=>whnf
     apply zW (0) tys_ok mixed (.o [0,1,2,3,4,5,6,7,8,9] .fin) (by kernel_rfl);conv=>whnf
     try (refine tI ?_;conv=>whnf)
     (refine zV [.ag (Bm g),bA (b.drop (17+u))] ⟨ri,fun c v h=>(by rw [<-AZ];exact DD (b:=b.drop 17) (by rw [Al];omega) c v h),tv⟩ ?_;refine zY hh ?_)
     conv=>whnf
     apply zW (0) tys_ok mixed (.o [0,1,2,3,4,5,6,7,8,9,10,11,12,13,14,15,16,17,18,19] .fin) (by kernel_rfl);conv=>whnf
     try (refine tI ?_;conv=>whnf)
     try (refine tI ?_;conv=>whnf)
     try (refine tI ?_;conv=>whnf)
     try (refine tI ?_;conv=>whnf)
     try (refine tI ?_;conv=>whnf)
     try (refine tS ?_;conv=>whnf)
     refine zY hB ?_;exact⟨_,HR 4,rfl⟩
structure Stt where
 a:An
 txns:List Tx
 only:Bool
 cursor:Int
 found:Int
 fixed:Int
 moved:Int
 lost:List Int
 deriving DecidableEq
def aC (s:Stt):List AV:= [iv s.a.gen,iv s.a.epoch,iv s.a.pos,iv s.a.seq,iv s.a.last, .v (.string s.a.label),GW s.a.homes,Ej s.txns, .v (.bool s.only),iv s.cursor,iv s.found,iv s.fixed,iv s.moved,iA s.lost]
def st0:Stt:=⟨an0, [],false,0,0,0,0, []⟩
@[reducible] def Za (g:Geo) (x:AV) (s:Stt):List AV:= [iv g.z,iv g.d,iv g.sp,iv g.sl,iv g.an,x,iv s.a.gen,iv s.a.epoch,iv s.a.pos,iv s.a.seq,iv s.a.last, .v (.string s.a.label),GW s.a.homes,Ej s.txns, .v (.bool s.only),iv s.cursor,iv s.found,iv s.fixed,iv s.moved,iA s.lost]
@[reducible] def GJ (g:Geo) (s:Stt) (d:Dk):List AB:= [.box 99 (Za g (.bp 1 0) s), .box 119 (Lg (.ow 2 d.cells.length) (.ow 3 d.cache.length) d.reqs d.left), .row 68 3 (d.cells.map Ci), .row 152 2 (d.cache.map GU)]
@[reducible] def bwG (g:Geo) (s:Stt) (d:Dk):List AB:= [.box 99 (Za g (.bp 1 0) s), .box 119 (Lg (.ow 2 d.cells.length) (.ow 4 d.cache.length) d.reqs d.left), .row 68 3 (d.cells.map Ci), .dead, .row 152 2 (d.cache.map GU)]
theorem Y_ (g:Geo) (s:Stt) (d:Dk):ConvH (GJ g s d) (bwG g s d):=zG (H:=GJ g s d) 1 3 (by decide) rfl rfl
theorem Nf {m:Nat} (h:Nat.ble 4 m=true):∀ z∈ [1,2,3],z<m:=fun z hz=>by
 have:=Ae h;simp at hz;omega
theorem Eu {m:Nat} (h:Nat.ble 4 m=true):∀ z∈ [0,1,2,3],z<m:=fun z hz=>by
 have:=Ae h;simp at hz;omega
theorem Oo (g:Geo) (s:Stt) (d:Dk) (a:Int) (h:DkOk d) (ha:0<=a/\a<d.cells.length) :
  ACalls Tryz.prog false 162 [.bp 0 0,iv a] (GJ g s d) fun r H=>r = .ag (Eg ⟨(d.read a).2.2,(d.read a).2.1⟩)/\H=GJ g s (d.read a).1:=by
 have hr:=Qj BS d a h.l ha h.m (fun c hc=>by have:=(h.c c hc).2.1;omega) (fun w hw=>by have:=(h.w w hw).2;omega);refine zU tys_ok Tryz.func162 rfl rfl (Ae rfl) ?_;conv=>whnf
 refine ze9 [1,2,3] hr ?_;rintro _ _ ⟨rfl,rfl⟩;exact⟨_, .ag (Eg ⟨(d.read a).2.2,(d.read a).2.1⟩),GJ g s (d.read a).1,fun _ _ h=>h,zQ (s:= [0,1,2,3]) tA,rfl,rfl⟩
theorem S7 (g:Geo) (s:Stt) (d:Dk) (a:Int) (b:List UInt8) (h:DkOk d) (ha:0<=a/\a<d.cells.length) (hb:b.length<=200) :
  ACalls Tryz.prog false 149 [.bp 0 0,iv a,bA b] (GJ g s d) fun r H=>r = .tp [.v (.bool (decide ((d.write a b).2=0))),iv (if (d.write a b).2=8 then 8 else 0)]/\H=GJ g s (d.write a b).1:=by
 have hr:=N0 BS d a b h.l ha h.m (by omega);have he:(d.write a b).2=8\/(d.write a b).2=7\/(d.write a b).2=0:=by
  unfold Dk.write;split
  ·exact .inl rfl
  ·split
   ·exact .inr (.inl rfl)
   ·exact .inr (.inr rfl)
 generalize d.write a b=q at hr he |-
 obtain⟨d',e⟩:=q;simp only at hr he |-
 refine zU tys_ok Tryz.func149 rfl rfl (Ae rfl) ?_;conv=>whnf
 refine ze9 [1,2,3] hr ?_;rintro _ _ ⟨rfl,rfl⟩;rcases he with rfl | rfl | rfl
 all_goals
  exact⟨_,_,GJ g s d',fun _ _ h=>h,zQ (s:= [0,1,2,3]) tA,rfl,rfl⟩
@[reducible] def Yp (g:Geo) (s:Stt) (d:Dk) (l:List AB):List AB:= .box 99 (Za g (.bp 1 0) s):: .box 119 (Lg (.ow 2 d.cells.length) (.ow 3 d.cache.length) d.reqs d.left):: .row 68 3 (d.cells.map Ci):: .row 152 2 (d.cache.map GU)::l
def B8 (d:Dk) (ats:List Int):List Gt:=ats.map (Ot d)
def Do (g:Geo):List Int:=(List.range g.an.toNat).map Int.ofNat
theorem JO {d:Dk} {k:Nat} (a:Int) (h:¬(d.adv k).left=0):(d.adv k).read a=(d.adv (k+1),d.got a):=by
 rw [Dk.read,if_neg h,Wx k d h,XV]
theorem JP {d:Dk} {k:Nat} (a:Int) (h:(d.adv k).left=0):(d.adv k).read a=(d.adv k, [],8):=by rw [Dk.read,if_pos h]
theorem IP {d:Dk} {ats:List Int} {k:Nat} (h:k<ats.length):(B8 d (ats.take (k+1))).map Eg=(B8 d (ats.take k)).map Eg ++ [Eg (Ot d (ats.getD k 0))]:=by
 rw [B8,B8,AM h,A0,A0,Ab,Af h];try rfl
theorem E1 (g:Geo):(Do g).length=g.an.toNat:=by simp [Do]
theorem N9 {g:Geo} {k:Nat} (h:k<g.an.toNat):(Do g).getD k 0=k:=by
 rw [Do,AP (d:=0) (by simpa using h),Ab,BL h];try rfl
theorem DF (d:Dk) (ats:List Int):(B8 d ats).length=ats.length:=by simp [B8]
theorem RK (g:Geo) (s:Stt) (d:Dk) (hg:Bq g=true) (h:DkOk d) (hn:g.an<=d.cells.length) :
  ACalls Tryz.prog false 271 [.bp 0 0] (GJ g s d) fun r H=>
   (d.live g.an.toNat->r = .tp [.ow 4 g.an.toNat, .v (.bool false)]/\H=Yp g s (d.adv g.an.toNat) [.row 222 2 ((B8 d (Do g)).map Eg)])/\
   (¬d.live g.an.toNat->r = .tp [.v (.slice none 0 0), .v (.bool true)]/\H=GJ g s (d.adv g.an.toNat)):=by
 obtain⟨g1,g2,g3,g4,g5⟩:=A2.1 hg;have hl:=h.l;refine zU tys_ok Tryz.func271 rfl rfl (Ae rfl) ?_;conv=>whnf
 refine aLoop.ruleRR Nat (fun k=>([(0, .bp 0 0),(2, .ow 4 k),(12,iv g.an),(13,iv k)],Yp g s (d.adv k) [.row 222 2 ((B8 d ((Do g).take k)).map Eg)])) (fun k=>k<=g.an.toNat/\d.live k) (fun k=>g.an.toNat - k) 0 ⟨Aj _,by unfold Dk.live;omega⟩
  ⟨_,_,zo _ _, [(2,222,2)],tA, [0,1,2,3,4],tA⟩ ?_
 rintro k ⟨hk,hlv⟩;have hd:=h.adv k;have hs:=Fi k d;have hL:=M5 k d hl.1 hlv;conv=>whnf
 refine AS (fun h6=>?_) (fun h6=>?_) <;> (repeat rw [Ac] at h6) <;> conv=>whnf
 ·have hk':k<g.an.toNat:=by omega
  have ha:=F7 g k hg (by omega);have hgot:=Oo g s (d.adv k) k hd (by rw [hs.1];omega);refine zY ha ?_;conv=>whnf
  by_cases h0:(d.adv k).left=0
  ·rw [JP _ h0] at hgot;refine ze9 [0,1,2,3] hgot ?_;rintro _ _ ⟨rfl,rfl⟩;conv=>whnf
   have hnl:¬d.live g.an.toNat:=by have:=hL.1 h0;unfold Dk.live at *;omega
   have hst:=M4 k g.an.toNat d h0 hk;exact⟨_, .tp [.v (.slice none 0 0), .v (.bool true)],GJ g s (d.adv k),fun _ _ h=>h,zQ (s:= [0,1,2,3]) tA,fun hh=>absurd hh hnl,fun _=>⟨rfl,by rw [hst]⟩⟩
  ·rw [JO _ h0] at hgot;have hlv':d.live (k+1):=by
    by_cases e:d.live (k+1)
    ·exact e
    ·exact absurd (hL.2 e) h0
   have he:¬(d.got (k:Int)).2=8:=by have:=Oq d (k:Int);omega
   have hG:Ot d ((Do g).getD k 0)=⟨(d.got (k:Int)).2,(d.got (k:Int)).1⟩:=by rw [N9 hk'];try rfl
   generalize d.got (k:Int)=q at hgot he hG;obtain⟨bs,e⟩:=q;refine ze9 [0,1,2,3] hgot ?_;rintro _ _ ⟨rfl,rfl⟩;conv=>whnf
   refine Ak (fun h8=>absurd (by simpa using h8) he) (fun _=>?_);refine⟨rfl,?_⟩;conv=>whnf
   refine Ai ⟨by simp [DF,E1];omega,by omega⟩ ?_;conv=>whnf
   exact⟨k+1,⟨hk',hlv'⟩,by omega,zQ (s:= [0,1,2,3,4]) ⟨⟨rfl,rfl,rfl,AT (by omega),tv⟩,⟨rfl,rfl,rfl,rfl,congrArg (fun l=>some (AB.row _ _ l)) (by rw [IP (by rw [E1];exact hk'),hG];try rfl),tv⟩,rfl,rfl,rfl,rfl,rfl⟩⟩
 ·have ek:k=g.an.toNat:=by omega
  subst ek;exact⟨_, .tp [.ow 4 g.an.toNat, .v (.bool false)],Yp g s (d.adv g.an.toNat) [.row 222 2 ((B8 d (Do g)).map Eg)],fun _ _ h=>h,zQ (s:= [0,1,2,3,4]) ⟨tA,⟨rfl,rfl,rfl,rfl,by rw [show (Do g).take g.an.toNat=Do g from At (by rw [E1];exact Ag _)];try rfl,tv⟩,rfl,rfl,rfl,rfl,rfl⟩,fun _=>tA,fun hh=>absurd hlv hh⟩
def BI (g:Geo) (copy:Int):List Int:=(List.range g.sl.toNat).map fun i=>Ba g copy (i:Nat)
theorem D9 (g:Geo) (c:Int):(BI g c).length=g.sl.toNat:=by simp [BI]
theorem LH {g:Geo} {c:Int} {k:Nat} (h:k<g.sl.toNat):(BI g c).getD k 0=Ba g c k:=by
 rw [BI,AP (d:=0) (by simpa using h),Ab,BL h];try rfl
theorem En {g:Geo} (hg:Bq g=true):g.an+2*g.sl+2*g.z<=A7 g:=by
 obtain⟨g1,g2,g3,g4,g5⟩:=A2.1 hg;have hp:=Hs hg;have:0<=g.z*CK g:=Dc (by omega) (by omega);unfold A7;omega
theorem EA {g:Geo} {n:Nat} (hg:Bq g=true) (hn:(n:Int)=A7 g) {c s:Int} (hc:c=0\/c=1) (hs:0<=s/\s<g.sl):0<=Ba g c s/\Ba g c s<n:=by
 obtain⟨g1,g2,g3,g4,g5⟩:=A2.1 hg;have:=En hg;unfold Ba;rcases hc with rfl | rfl <;> omega
theorem Rn (g:Geo) (c s:Int) (hg:Bq g=true) (hc:c=0\/c=1) (hs:0<=s/\s<g.sl):Fn Tryz.prog 102 [.ag (Bm g),iv c,iv s] fun r=>r = .tp [iv (Ba g c s),iv 0]:=by
 have h:=LG g c s;have hl:IY g c s=true:=by simp only [IY,Ad,AK];omega
 rwa [hg,hl] at h
theorem XQ (g:Geo) (s:Stt) (d:Dk) (hg:Bq g=true) (h:DkOk d) (hn:(d.cells.length:Int)=A7 g) :
  ACalls Tryz.prog false 273 [.bp 0 0] (GJ g s d) fun r H=>
   (d.live (2*g.sl.toNat)->r = .tp [.ow 4 g.sl.toNat, .ow 5 g.sl.toNat, .v (.bool false)]/\H=Yp g s (d.adv (2*g.sl.toNat)) [.row 222 2 ((B8 d (BI g 0)).map Eg), .row 222 2 ((B8 d (BI g 1)).map Eg)])/\
   (¬d.live (2*g.sl.toNat)->r = .tp [.v (.slice none 0 0), .v (.slice none 0 0), .v (.bool true)]/\H=GJ g s (d.adv (2*g.sl.toNat))):=by
 obtain⟨g1,g2,g3,g4,g5⟩:=A2.1 hg;have hl:=h.l;refine zU tys_ok Tryz.func273 rfl rfl (Ae rfl) ?_;conv=>whnf
 refine aLoop.ruleRR Nat (fun k=>([(0, .bp 0 0),(2, .ow 4 k),(3, .ow 5 k),(14,iv g.sl),(15,iv k)],Yp g s (d.adv (2*k)) [.row 222 2 ((B8 d ((BI g 0).take k)).map Eg), .row 222 2 ((B8 d ((BI g 1).take k)).map Eg)])) (fun k=>k<=g.sl.toNat/\d.live (2*k)) (fun k=>g.sl.toNat - k) 0 ⟨Aj _,by unfold Dk.live;omega⟩
  ⟨_,_,zo _ _, [(2,222,2),(3,222,2)],tA, [0,1,2,3,4,5],tA⟩ ?_
 rintro k ⟨hk,hlv⟩;have hd:=h.adv (2*k);have hs:=Fi (2*k) d;have hL:=M5 (2*k) d hl.1 hlv;conv=>whnf
 refine AS (fun h6=>?_) (fun h6=>?_) <;> (repeat rw [Ac] at h6) <;> conv=>whnf
 ·have hk':k<g.sl.toNat:=by omega
  have ha:=Rn g 0 k hg (.inl rfl) (by omega);have ha1:=Rn g 1 k hg (.inr rfl) (by omega);have hgot:=Oo g s (d.adv (2*k)) (Ba g 0 k) hd (EA hg (by rw [hs.1];exact hn) (.inl rfl) (by omega));have stop:(d.adv (2*k)).left=0->¬d.live (2*g.sl.toNat)/\d.adv (2*g.sl.toNat)=d.adv (2*k):=fun h0=>⟨by have:=hL.1 h0;unfold Dk.live at *;omega,M4 _ _ d h0 (by omega)⟩
  refine zB 3 ?_;conv=>whnf
  refine zZ ?_;conv=>whnf
  refine zY ha ?_;conv=>whnf
  by_cases h0:(d.adv (2*k)).left=0
  ·rw [JP _ h0] at hgot;refine ze9 [0,1,2,3] hgot ?_;rintro _ _ ⟨rfl,rfl⟩;exact⟨_, .tp [.v (.slice none 0 0), .v (.slice none 0 0), .v (.bool true)],GJ g s (d.adv (2*k)),fun _ _ h=>h,zQ (s:= [0,1,2,3]) tA,fun hh=>absurd hh (stop h0).1,fun _=>⟨rfl,by rw [(stop h0).2]⟩⟩
  ·rw [JO _ h0] at hgot;have hlv':d.live (2*k+1):=by
    by_cases e:d.live (2*k+1)
    ·exact e
    ·exact absurd (hL.2 e) h0
   have hd1:=h.adv (2*k+1);have hs1:=Fi (2*k+1) d;have hL1:=M5 (2*k+1) d hl.1 hlv';have hgot1:=Oo g s (d.adv (2*k+1)) (Ba g 1 k) hd1 (EA hg (by rw [hs1.1];exact hn) (.inr rfl) (by omega));have stop1:(d.adv (2*k+1)).left=0->¬d.live (2*g.sl.toNat)/\d.adv (2*g.sl.toNat)=d.adv (2*k+1):=fun h0=>⟨by have:=hL1.1 h0;unfold Dk.live at *;omega,M4 _ _ d h0 (by omega)⟩
   have he:¬(d.got (Ba g 0 k)).2=8:=by have:=Oq d (Ba g 0 k);omega
   have hG:Ot d ((BI g 0).getD k 0)=⟨(d.got (Ba g 0 k)).2,(d.got (Ba g 0 k)).1⟩:=by rw [LH hk'];try rfl
   generalize d.got (Ba g 0 k)=q at hgot he hG;obtain⟨bs,e⟩:=q;refine ze9 [0,1,2,3] hgot ?_;rintro _ _ ⟨rfl,rfl⟩;conv=>whnf
   refine Ak (fun h8=>absurd (by simpa using h8) he) (fun _=>?_);refine⟨rfl,?_⟩;conv=>whnf
   refine Ai ⟨by simp [DF,D9];omega,by omega⟩ ?_;conv=>whnf
   repeat' (refine zZ ?_;conv=>whnf)
   refine zY ha1 ?_;conv=>whnf
   by_cases h1:(d.adv (2*k+1)).left=0
   ·rw [JP _ h1] at hgot1;refine ze9 [0,1,2,3] hgot1 ?_;rintro _ _ ⟨rfl,rfl⟩;exact⟨_, .tp [.v (.slice none 0 0), .v (.slice none 0 0), .v (.bool true)],GJ g s (d.adv (2*k+1)),fun _ _ h=>h,zQ (s:= [0,1,2,3]) tA,fun hh=>absurd hh (stop1 h1).1,fun _=>⟨rfl,by rw [(stop1 h1).2]⟩⟩
   ·rw [JO _ h1] at hgot1;have hlv1:d.live (2*(k+1)):=by
     by_cases e:d.live (2*k+1+1)
     ·exact e
     ·exact absurd (hL1.2 e) h1
    have he1:¬(d.got (Ba g 1 k)).2=8:=by have:=Oq d (Ba g 1 k);omega
    have hG1:Ot d ((BI g 1).getD k 0)=⟨(d.got (Ba g 1 k)).2,(d.got (Ba g 1 k)).1⟩:=by rw [LH hk'];try rfl
    generalize d.got (Ba g 1 k)=q1 at hgot1 he1 hG1;obtain⟨bs1,e1⟩:=q1;refine ze9 [0,1,2,3] hgot1 ?_;rintro _ _ ⟨rfl,rfl⟩;conv=>whnf
    refine Ak (fun h8=>absurd (by simpa using h8) he1) (fun _=>?_);refine⟨rfl,?_⟩;conv=>whnf
    refine Ai ⟨by simp [DF,D9];omega,by omega⟩ ?_;conv=>whnf
    repeat' (refine zZ ?_;conv=>whnf)
    exact⟨k+1,⟨hk',hlv1⟩,by omega,zQ (s:= [0,1,2,3,4,5]) ⟨⟨rfl,rfl,rfl,rfl,AT (by omega),tv⟩,⟨rfl,rfl,rfl,rfl,congrArg (fun l=>some (AB.row _ _ l)) (by rw [IP (by rw [D9];exact hk'),hG];try rfl),congrArg (fun l=>some (AB.row _ _ l)) (by rw [IP (by rw [D9];exact hk'),hG1];try rfl),tv⟩,rfl,rfl,rfl,rfl,rfl⟩⟩
 ·have ek:k=g.sl.toNat:=by omega
  subst ek;exact⟨_, .tp [.ow 4 g.sl.toNat, .ow 5 g.sl.toNat, .v (.bool false)],Yp g s (d.adv (2*g.sl.toNat)) [.row 222 2 ((B8 d (BI g 0)).map Eg), .row 222 2 ((B8 d (BI g 1)).map Eg)],fun _ _ h=>h,zQ (s:= [0,1,2,3,4,5]) ⟨tA,⟨rfl,rfl,rfl,rfl,by rw [show (BI g 0).take g.sl.toNat=BI g 0 from At (by rw [D9];exact Ag _)];try rfl,by rw [show (BI g 1).take g.sl.toNat=BI g 1 from At (by rw [D9];exact Ag _)];try rfl,tv⟩,rfl,rfl,rfl,rfl,rfl⟩,fun _=>tA,fun hh=>absurd hlv hh⟩
def W0 (n:Nat) (w:Wr):Prop:=(0<=w.addr/\w.addr<n)/\w.bytes.length<=200
theorem MI {d:Dk} (h:DkOk d) {l:List Wr} (hl:∀ w∈l,W0 d.cells.length w) (k:Nat):DkOk (d.writes (l.take k)).1/\(d.writes (l.take k)).1.cells.length=d.cells.length:=
 Q7 (P:=fun x=>DkOk x/\x.cells.length=d.cells.length) l (fun x hx w hw=>⟨hx.1.write (by rw [hx.2];exact(hl w hw).1) (hl w hw).2,by rw [KR,hx.2]⟩) ⟨h,rfl⟩ k
theorem MK (d:Dk) (a:Int) (b:List UInt8):(d.write a b).2=8\/(d.write a b).2=7\/(d.write a b).2=0:=by
 unfold Dk.write;split
 ·exact .inl rfl
 ·split
  ·exact .inr (.inl rfl)
  ·exact .inr (.inr rfl)
theorem KS {d:Dk} {l:List Wr} {k:Nat} (hk:k<l.length) (h:(d.writes (l.take k)).2.2=false) :
  d.writes (l.take (k+1))=(((d.writes (l.take k)).1.write (l.getD k ⟨0, []⟩).addr (l.getD k ⟨0, []⟩).bytes).1,(d.writes (l.take k)).2.1+(if ((d.writes (l.take k)).1.write (l.getD k ⟨0, []⟩).addr (l.getD k ⟨0, []⟩).bytes).2=0 then 1 else 0),decide (((d.writes (l.take k)).1.write (l.getD k ⟨0, []⟩).addr (l.getD k ⟨0, []⟩).bytes).2=8)):=by
 rw [FE d hk];unfold Fj;rw [if_neg (by rw [h];decide)];simp only;by_cases h8:((d.writes (l.take k)).1.write (l.getD k ⟨0, []⟩).addr (l.getD k ⟨0, []⟩).bytes).2=8
 ·rw [if_pos h8,h8];simp
 ·rw [if_neg h8,decide_eq_false h8]
theorem Hr {d:Dk} {l:List Wr} (h:(d.writes l).2.2=true):d.putAll l=((d.writes l).1,(d.writes l).2.1,true):=by
 unfold Dk.putAll;generalize d.writes l=q at h |-
 obtain⟨a,b,c⟩:=q;simp only at h |-
 rw [if_pos h]
theorem FJ {d:Dk} {l:List Wr} (h:(d.writes l).2.2=false):d.putAll l=if (d.writes l).1.left=0 then ((d.writes l).1,(d.writes l).2.1,true) else ((d.writes l).1.flush,(d.writes l).2.1,false):=by
 unfold Dk.putAll;generalize d.writes l=q at h |-
 obtain⟨a,b,c⟩:=q;simp only at h |-
 rw [if_neg (by rw [h];decide)]
def Dk.mend (d:Dk) (l:List Wr):Dk × Bool:=if l=[] then (d,false) else ((d.putAll l).1,(d.putAll l).2.2)
theorem UZ (g:Geo) (s:Stt) (d:Dk) (l:List Wr) (h:DkOk d) (hl:∀ w∈l,W0 d.cells.length w) (hn:l.length<=1000000) :
  ACalls Tryz.prog false 275 [.bp 0 0,NB l] (GJ g s d) fun r H=>r = iv (if (d.mend l).2 then 8 else 0)/\H=bwG g s (d.mend l).1:=by
 refine zU tys_ok Tryz.func275 rfl rfl (Ae rfl) ?_;conv=>whnf
 refine zR Nat (fun k=>([(0, .bp 0 0),(1,NB l),(9,NB l),(10,iv l.length),(11,iv k)],Yp g s (d.writes (l.take k)).1 [])) (fun k=>k<=l.length/\(d.writes (l.take k)).2.2=false) (fun k=>l.length - k) 0 ⟨Aj _,rfl⟩
  (zQ (s:= [0,1,2,3]) tA) ?_
 rintro k ⟨hk,hlv⟩;have hd:=MI h hl k;conv=>whnf
 refine AS (fun h6=>?_) (fun h6=>?_) <;> (repeat rw [Ac] at h6) <;> conv=>whnf
 ·have hk':k<l.length:=by omega
  have hm:=hl _ (AC (d:=(⟨0, []⟩:Wr)) hk');have hx:=KS hk' hlv;generalize hX:(d.writes (l.take k)).1=X at hd hx |-
  have hc:=S7 g s X (l.getD k ⟨0, []⟩).addr (l.getD k ⟨0, []⟩).bytes hd.1 (by rw [hd.2];exact hm.1) hm.2;refine⟨⟨by omega,by omega⟩,?_⟩;conv=>whnf
  rw [Ac];generalize hW:l.getD k ⟨0, []⟩=W at hc hx hm |-
  have hE:=MK X W.addr W.bytes;generalize hQ:X.write W.addr W.bytes=Q at hc hx hE;obtain⟨D,e⟩:=Q;simp only at hx hE hc;conv=>whnf
  refine ze9 [0,1,2,3] hc ?_;rintro _ _ ⟨rfl,rfl⟩;rcases hE with rfl | hE
  ·rw [if_pos rfl];conv=>whnf
   have hdd:(d.writes (l.take (k+1))).2.2=true:=by rw [hx];try rfl
   have hdl:d.writes l=d.writes (l.take (k+1)):=Kq d hk' hdd;have hne:l≠ []:=fun e=>by rw [e] at hk';simp at hk'
   have hp:d.mend l=(D,true):=by
    rw [Dk.mend,if_neg hne,Hr (by rw [hdl];exact hdd),hdl,hx]
   rw [hp];exact⟨_,iv 8,bwG g s D,fun _ _ h=>h,zK (zO (zG 1 3 (by decide) rfl rfl)) (s:= [0,1,2,3,5]) tA,rfl,rfl⟩
  ·rw [if_neg (by omega)];conv=>whnf
   have h1:(d.writes (l.take (k+1))).1=D:=by rw [hx]
   have h2:(d.writes (l.take (k+1))).2.2=false:=by rw [hx];exact decide_eq_false (by omega)
   refine⟨k+1,⟨hk',h2⟩,by omega,?_⟩;rw [h1];exact zQ (s:= [0,1,2,3]) ⟨⟨rfl,rfl,rfl,rfl,AT (by omega),tv⟩,tA,rfl,rfl,rfl,rfl,rfl⟩
 ·have ek:k=l.length:=by omega
  subst ek;rw [A6] at hlv hd;rw [A6];by_cases h0:l=[]
  ·have e:d.mend l=(d,false):=by rw [Dk.mend,if_pos h0]
   have e2:d.writes l=(d,0,false):=by rw [h0];try rfl
   rw [e,e2];rw [show ((l.length:Int) == 0)=true by rw [h0];try rfl];exact⟨_,iv 0,bwG g s d,fun _ _ h=>h,zK (zO (Y_ g s d)) (s:= [0,1,2,3,4]) tA,rfl,rfl⟩
  ·rw [show ((l.length:Int) == 0)=false by rw [beq_eq_false_iff_ne];intro e;exact h0 (AG.1 (by omega))];have hp:d.mend l=(if (d.writes l).1.left=0 then ((d.writes l).1,true) else ((d.writes l).1.flush,false)):=by
    rw [Dk.mend,if_neg h0,FJ hlv];split <;> rfl
   generalize (d.writes l).1=X at hp hd |-
   have hf:=IV X hd.1.l hd.1.m (fun w hw=>(hd.1.w w hw).1);rw [hp];conv=>whnf
   refine ze9 [1,2,3] hf ?_;rintro _ _ ⟨rfl,rfl⟩;by_cases hX:X.left=0;all_goals
    simp only [hX,if_true,if_false];exact⟨_,_,bwG g s _,fun _ _ h=>h,zQ (s:= [0,1,2,3,4]) tA,rfl,rfl⟩
end
end Go.Proofs.YtpjkcgacjjbikaaGreatDoor.A
namespace Go.Proofs.YtpjkcgacjjbikaaGreatDoor
section

theorem Ln {l m:List UInt8} {n:Nat} (h:l.length=n):(l ++ m).take n=l:=by subst h;simp
theorem Mu {l m:List UInt8} {n:Nat} (h:l.length=n):(l ++ m).drop n=m:=by subst h;simp
theorem Gz (a s:Int) (p:List UInt8):(Ek a s p).length=p.length+7:=by
 simp only [Ek,Ah,Ao,leB_len]
theorem EK (a s:Int) (p:List UInt8):(CF a s p).length=p.length+11:=by
 simp only [CF,Ah,Gz,leB_len]
theorem Ia {a s:Int} {p:List UInt8} (h:Yb a s p):DU (CF a s p)=0/\B_ (CF a s p)=a/\Cr (CF a s p)=s/\Cx (CF a s p)=p:=by
 obtain⟨h1,h2,h3,h4,h5⟩:=h;have hl:=EK a s p;have hs:=Jj (Ek a s p);have e1:CF a s p=Ek a s p ++ leB 4 (DG (Ek a s p)):=rfl;have e2:CF a s p=(UInt8.ofNat p.length::p) ++ (leB 2 a.toNat ++ (leB 4 s.toNat ++ leB 4 (DG (Ek a s p)))):=by rw [e1];simp only [Ek,AA]
 have e3:CF a s p=((UInt8.ofNat p.length::p) ++ leB 2 a.toNat) ++ (leB 4 s.toNat ++ leB 4 (DG (Ek a s p))):=by rw [e2,AA]
 have hpn:CL (CF a s p)=p.length:=by
  rw [e2];show (UInt8.ofNat p.length).toNat=p.length;rw [C8];exact Nat.lt_of_le_of_lt h5 (by decide)
 refine⟨?_,?_,?_,?_⟩
 ·unfold DU;rw [if_neg (by omega),if_neg,if_pos]
  ·refine⟨?_,by omega⟩;simp only [Fz,decide_eq_true_eq];omega
  ·rw [hl,show p.length+11 - 4=p.length+7 by omega,e1,Mu (Gz a s p),Ln (Gz a s p),leN_leB _ _ (by have:(256:Nat) ^ 4=4294967296:=rfl;omega)];simp
 ·unfold B_;rw [hl,show p.length+11 - 10=p.length+1 by omega,e2,Mu (by simp),Ln (leB_len 2 _),leN_leB _ _ (by have:(256:Nat) ^ 2=65536:=rfl;omega)];omega
 ·unfold Cr;rw [hl,show p.length+11 - 8=p.length+3 by omega,e3,Mu (by simp [leB_len]),Ln (leB_len 4 _),leN_leB _ _ (by have:(256:Nat) ^ 4=4294967296:=rfl;omega)];omega
 ·unfold Cx;rw [hl,show p.length+11 - 11=p.length by omega,e2];simp
end
end Go.Proofs.YtpjkcgacjjbikaaGreatDoor
namespace Go.Proofs.YtpjkcgacjjbikaaGreatDoor.A
section
open Go.RowKit
def AU (g:Geo) (a:An):List Wr:=(List.range g.an.toNat).map fun i=>⟨(i:Nat),Dt a (i:Nat)⟩
theorem Fh (g:Geo) (a:An):(AU g a).length=g.an.toNat:=by simp [AU]
theorem KH {g:Geo} {a:An} {k:Nat} (h:k<g.an.toNat):(AU g a).getD k ⟨0, []⟩=⟨(k:Nat),Dt a (k:Nat)⟩:=by
 rw [AU,AP (d:=0) (by simpa using h),Ab,BL h];try rfl
theorem Qw (g:Geo) (s:Stt) (d:Dk) (a:An) (hg:Bq g=true) (ha:B7 g a=true) (h:DkOk d) (hl:∀ w∈AU g a,W0 d.cells.length w) :
  ACalls Tryz.prog false 87 [.bp 0 0, .ag (Fp a)] (GJ g s d) fun r H=>r = .tp [iv (if (d.putAll (AU g a)).2.2 then 0 else ((d.putAll (AU g a)).2.1:Nat)),iv (if (d.putAll (AU g a)).2.2 then 8 else 0)]/\H=bwG g s (d.putAll (AU g a)).1:=by
 obtain⟨g1,g2,g3,g4,g5⟩:=A2.1 hg;have hlen:=Fh g a;refine zU tys_ok Tryz.func87 rfl rfl (Ae rfl) ?_;conv=>whnf
 refine zR Nat (fun k=>([(0, .bp 0 0),(3, .bp 4 0),(6, .v (.int .i64 (d.writes ((AU g a).take k)).2.1)),(19,iv g.an),(20,iv k)],Yp g s (d.writes ((AU g a).take k)).1 [.box 28 (Fp a)])) (fun k=>k<=(AU g a).length/\(d.writes ((AU g a).take k)).2.2=false/\(d.writes ((AU g a).take k)).2.1<=k) (fun k=>(AU g a).length - k) 0 ⟨Aj _,rfl,Ag _⟩
  (zQ (s:= [0,1,2,3,4]) tA) ?_
 rintro k ⟨hk,hlv,hnk⟩;have hd:=MI h hl k;conv=>whnf
 refine AS (fun h6=>?_) (fun h6=>?_) <;> (repeat rw [Ac] at h6) <;> conv=>whnf
 ·have hk':k<(AU g a).length:=by omega
  have hm:=hl _ (AC (d:=(⟨0, []⟩:Wr)) hk');have hx:=KS hk' hlv;rw [KH (by omega)] at hx hm;generalize hX:(d.writes ((AU g a).take k)).1=X at hd hx |-
  generalize hN:(d.writes ((AU g a).take k)).2.1=N at hx hnk |-
  have hga:=F7 g k hg (by omega);have hnc:=PD g a k hg ha (by omega);have hc:=S7 g s X k (Dt a k) hd.1 (by rw [hd.2];exact hm.1) hm.2;repeat' (refine zZ ?_;conv=>whnf)
  refine zY hga ?_;conv=>whnf
  apply zW (0) tys_ok mixed (.o [0,1,2,3,4,5,6,7,8,9,10,11] .fin) (by kernel_rfl);conv=>whnf
  refine zY hnc ?_;conv=>whnf
  have hE:=MK X k (Dt a k);generalize hQ:X.write k (Dt a k)=Q at hc hx hE;obtain⟨D,e⟩:=Q;simp only at hx hE hc;refine ze9 [0,1,2,3] hc ?_;rintro _ _ ⟨rfl,rfl⟩;rcases hE with rfl | hE
  ·rw [if_pos rfl];conv=>whnf
   have hdd:(d.writes ((AU g a).take (k+1))).2.2=true:=by rw [hx];try rfl
   have hdl:d.writes (AU g a)=d.writes ((AU g a).take (k+1)):=Kq d hk' hdd;have hp:(d.putAll (AU g a)).1=D/\(d.putAll (AU g a)).2.2=true:=by
    rw [Hr (by rw [hdl];exact hdd),hdl,hx];exact tA
   rw [hp.1,hp.2];exact⟨_, .tp [iv 0,iv 8],bwG g s D,fun _ _ h=>h,zK (zO (zG 1 3 (by decide) rfl rfl)) (s:= [0,1,2,3,5]) tA,rfl,rfl⟩
  ·rw [if_neg (by omega)];have h1:(d.writes ((AU g a).take (k+1))).1=D:=by rw [hx]
   have h2:(d.writes ((AU g a).take (k+1))).2.2=false:=by rw [hx];exact decide_eq_false (by omega)
   have h3:(d.writes ((AU g a).take (k+1))).2.1=N+if e=0 then 1 else 0:=by rw [hx]
   rcases hE with rfl | rfl
   all_goals
    conv=>whnf
    repeat' (refine zZ ?_;conv=>whnf)
    refine⟨k+1,⟨hk',h2,by rw [h3];simp;omega⟩,by omega,?_⟩;rw [h1,h3]
   ·exact zQ (s:= [0,1,2,3,4]) ⟨⟨rfl,rfl,rfl,rfl,AT (by omega),tv⟩,tA,rfl,rfl,rfl,rfl,rfl⟩
   ·exact zQ (s:= [0,1,2,3,4]) ⟨⟨rfl,rfl,AT (by omega),rfl,AT (by omega),tv⟩,tA,rfl,rfl,rfl,rfl,rfl⟩
 ·have ek:k=(AU g a).length:=by omega
  subst ek;rw [A6] at hlv hd hnk;rw [A6];have hp:=FJ hlv;generalize (d.writes (AU g a)).1=X at hp hd |-
  generalize (d.writes (AU g a)).2.1=N at hp |-
  have hf:=IV X hd.1.l hd.1.m (fun w hw=>(hd.1.w w hw).1);rw [hp];refine ze9 [1,2,3] hf ?_;rintro _ _ ⟨rfl,rfl⟩;by_cases hX:X.left=0
  ·simp only [hX,if_true];exact⟨_, .tp [iv 0,iv 8],bwG g s _,fun _ _ h=>h,zQ (s:= [0,1,2,3,5]) tA,rfl,rfl⟩
  ·simp only [hX,if_false];exact⟨_, .tp [iv (N:Nat),iv 0],bwG g s _,fun _ _ h=>h,zQ (s:= [0,1,2,3,5]) tA,rfl,rfl⟩
theorem M3 {g:Geo} {a:An} {n:Nat} (hg:Bq g=true) (ha:B7 g a=true) (hn:(n:Int)=A7 g):∀ w∈AU g a,W0 n w:=by
 obtain⟨g1,g2,g3,g4,g5⟩:=A2.1 hg;have hc:=En hg;intro w hw;simp only [AU,AI,AJ] at hw;obtain⟨i,hi,rfl⟩:=hw;refine⟨⟨by show (0:Int)<=(i:Nat);omega,by show ((i:Nat):Int)<n;omega⟩,?_⟩;show (CF (i:Nat) a.gen (JE a)).length<=200;rw [EK];have:=Kn hg ha;omega
def DK (g:Geo) (x:Gt) (addr:Int):Option An:=
 if x.err=0/\DU x.bytes=0/\B_ x.bytes=addr then
  match DM g (Cx x.bytes) with
  | some a=>if a.gen=Cr x.bytes then some a else none
  | none=>none
 else none
theorem JF (e:Value):∀ (c:Ctx) (v:Value),Rd (.tp [.ag [iv 0,iv 0,iv 0,iv 0,iv 0, .v (.string ⟨#[]⟩), .v (.slice none 0 0)], .v e]) c v->Rd (.tp [.ag (Fp an0), .v e]) c v:=
 BV (m:= [.ag (Fp an0), .v e]) ⟨Bg an0_sub,ri,tv⟩
theorem QR (b:List UInt8):(Cx b).length<=b.length:=by simp [Cx];omega
theorem UR (g:Geo) (x:Gt) (addr:Int) (hg:Bq g=true) (hx:x.bytes.length<=100000) (ha:0<=addr/\addr<=65535):Fn Tryz.prog 330 [.ag (Bm g), .ag (Eg x),iv addr] fun r=>r = .tp [.ag (Fp ((DK g x addr).getD an0)), .v (.bool (DK g x addr).isSome)]:=by
 have hG:Fn Tryz.prog 118 [.ag (Bm g)] fun r=>r = .v (Ew (Bq g)):=Ct g.z g.d g.sp g.sl g.an
 rw [hg] at hG;have ho:=Lr x.bytes hx;by_cases h1:x.err=0
 ·by_cases h2:DU x.bytes=0
  ·rw [if_pos h2,h2] at ho;by_cases h3:B_ x.bytes=addr
   ·have hr:=Ws g (Cx x.bytes) (by have:=QR x.bytes;omega);have hS:DK g x addr=match DM g (Cx x.bytes) with | some a=>if a.gen=Cr x.bytes then some a else none | none=>none:=by rw [DK,if_pos ⟨h1,h2,h3⟩]
    simp only [Ho,hg,if_true,Bool.true_eq_false,if_false] at hr;cases hR:DM g (Cx x.bytes) with
    | none=>
     rw [hR] at hr hS;rw [hS];refine zT Tryz.func330 rfl ?_;conv=>whnf
     repeat' (first | (refine Ak (fun h=>?_) (fun h=>?_) <;> (try simp at h) <;> conv=>whnf) | (refine zH tys_ok mixed (by kernel_rfl) ?_;conv=>whnf) | (refine zZ ?_;conv=>whnf) | (refine zY hG ?_;conv=>whnf) | (refine zY ho ?_;conv=>whnf) | (refine zY hr ?_;conv=>whnf) | (refine Ai (by omega) ?_;conv=>whnf))
     all_goals first | exact⟨_,JF _,rfl⟩ | (exfalso;first | omega | (simp_all;done) | (simp_all;omega))
    | some a=>
     rw [hR] at hr hS;by_cases h4:a.gen=Cr x.bytes
     ·have hS:DK g x addr=some a:=hS.trans (if_pos h4);rw [hS];refine zT Tryz.func330 rfl ?_;conv=>whnf
      repeat' (first | (refine Ak (fun h=>?_) (fun h=>?_) <;> (try simp at h) <;> conv=>whnf) | (refine zH tys_ok mixed (by kernel_rfl) ?_;conv=>whnf) | (refine zZ ?_;conv=>whnf) | (refine zY hG ?_;conv=>whnf) | (refine zY ho ?_;conv=>whnf) | (refine zY hr ?_;conv=>whnf) | (refine Ai (by omega) ?_;conv=>whnf))
      all_goals first | exact⟨_,ri,rfl⟩ | (exfalso;first | omega | (simp_all;done) | (simp_all;omega))
     ·have hS:DK g x addr=none:=hS.trans (if_neg h4);rw [hS];refine zT Tryz.func330 rfl ?_;conv=>whnf
      repeat' (first | (refine Ak (fun h=>?_) (fun h=>?_) <;> (try simp at h) <;> conv=>whnf) | (refine zH tys_ok mixed (by kernel_rfl) ?_;conv=>whnf) | (refine zZ ?_;conv=>whnf) | (refine zY hG ?_;conv=>whnf) | (refine zY ho ?_;conv=>whnf) | (refine zY hr ?_;conv=>whnf) | (refine Ai (by omega) ?_;conv=>whnf))
      all_goals first | exact⟨_,JF _,rfl⟩ | (exfalso;first | omega | (simp_all;done) | (simp_all;omega))
   ·have hS:DK g x addr=none:=by rw [DK,if_neg (fun h=>h3 h.2.2)]
    rw [hS];refine zT Tryz.func330 rfl ?_;conv=>whnf
    repeat' (first | (refine Ak (fun h=>?_) (fun h=>?_) <;> (try simp at h) <;> conv=>whnf) | (refine zH tys_ok mixed (by kernel_rfl) ?_;conv=>whnf) | (refine zZ ?_;conv=>whnf) | (refine zY hG ?_;conv=>whnf) | (refine zY ho ?_;conv=>whnf) | (refine Ai (by omega) ?_;conv=>whnf))
    all_goals first | exact⟨_,JF _,rfl⟩ | (exfalso;first | omega | (simp_all;done) | (simp_all;omega))
  ·have hS:DK g x addr=none:=by rw [DK,if_neg (fun h=>h2 h.2.1)]
   rw [if_neg h2] at ho;obtain⟨e,he⟩:∃ e,DU x.bytes=e:=⟨_,rfl⟩;rw [he] at ho h2;rw [hS];refine zT Tryz.func330 rfl ?_;conv=>whnf
   repeat' (first | (refine Ak (fun h=>?_) (fun h=>?_) <;> (try simp at h) <;> conv=>whnf) | (refine zH tys_ok mixed (by kernel_rfl) ?_;conv=>whnf) | (refine zZ ?_;conv=>whnf) | (refine zY hG ?_;conv=>whnf) | (refine zY ho ?_;conv=>whnf) | (refine Ai (by omega) ?_;conv=>whnf))
   all_goals first | exact⟨_,JF _,rfl⟩ | (exfalso;first | omega | (simp_all;done) | (simp_all;omega))
 ·have hS:DK g x addr=none:=by rw [DK,if_neg (fun h=>h1 h.1)]
  rw [hS];refine zT Tryz.func330 rfl ?_;conv=>whnf
  repeat' (first | (refine Ak (fun h=>?_) (fun h=>?_) <;> (try simp at h) <;> conv=>whnf) | (refine zH tys_ok mixed (by kernel_rfl) ?_;conv=>whnf) | (refine zZ ?_;conv=>whnf) | (refine zY hG ?_;conv=>whnf) | (refine Ai (by omega) ?_;conv=>whnf))
  all_goals first | exact⟨_,JF _,rfl⟩ | (exfalso;first | omega | (simp_all;done) | (simp_all;omega))
theorem ConvH.subBox {H:List AB} (k:Nat) {t:TypeId} {cs cs':List AV} (hk:H[k]? = some (.box t cs)) (h:SubL cs cs'):ConvH H (H.set k (.box t cs')):=fun _ _ c hs=>
 ⟨c,rfl,hs.recell hk rfl fun⟨g,xs,h1,h2,h3,h4⟩=>⟨g,xs,h1,h2,h.rdl h3,h4⟩,zM c⟩
def z6:=@ConvH.subBox
def P1 (g:Geo) (l:List Gt) (st:Option (An × Nat)) (i:Nat):Option (An × Nat):=
 match DK g (l.getD i ⟨0, []⟩) (i:Nat) with
 | none=>st
 | some b=>match st with
  | none=>some (b,i)
  | some (a,j)=>if a.gen<b.gen then some (b,i) else some (a,j)
def EF (g:Geo) (l:List Gt) (k:Nat):Option (An × Nat):=(List.range k).foldl (P1 g l) none
def Gf (g:Geo) (l:List Gt):Option (An × Nat):=EF g l l.length
theorem ID (g:Geo) (l:List Gt) (k:Nat):EF g l (k+1)=P1 g l (EF g l k) k:=by rw [EF,By,Cb];try rfl
def ax (p:Option (An × Nat)):An:=match p with | some (a,_)=>a | none=>an0
def ZX (p:Option (An × Nat)):Nat:=match p with | some (_,i)=>i | none=>0
def aw (p:Option (An × Nat)):Int:=match p with | some _=>0 | none=>11
theorem Xa (g:Geo) (l:List Gt) (hg:Bq g=true) (hl:(l.length:Int)=g.an) (hb:∀ x∈l,x.bytes.length<=100000):Fn Tryz.prog 272 [.ag (Bm g),F6 l] fun r=>r = .tp [.ag (Fp (ax (Gf g l))),iv (ZX (Gf g l):Nat),iv (aw (Gf g l))]:=by
 have hG:Fn Tryz.prog 118 [.ag (Bm g)] fun r=>r = .v (Ew (Bq g)):=Ct g.z g.d g.sp g.sl g.an
 rw [hg] at hG;obtain⟨g1,g2,g3,g4,g5⟩:=A2.1 hg;refine zT Tryz.func272 rfl ?_;conv=>whnf
 refine zY hG ?_;conv=>whnf
 refine AS (fun hq=>absurd hl hq) (fun _=>?_);conv=>whnf
 refine zR Nat (fun k=>([(1,F6 l),(2, .bp 0 0),(4, .bp 1 0),(5,iv (ZX (EF g l k):Nat)),(6,iv (aw (EF g l k))),(25,F6 l),(26,iv l.length),(27,iv k)], [.box 24 (Bm g), .box 28 (Fp (ax (EF g l k)))])) (fun k=>k<=l.length) (fun k=>l.length - k) 0 (Aj _)
  (zK (zO (z6 1 rfl an0_sub)) (s:= [0,1]) tA) ?_
 intro k hk;have hsucc:=ID g l k;conv=>whnf
 refine AS (fun h6=>?_) (fun h6=>?_) <;> (repeat rw [Ac] at h6) <;> conv=>whnf
 ·have hk':k<l.length:=by omega
  have hx:=hb _ (AC (d:=(⟨0, []⟩:Gt)) hk');have h1:=F7 g k hg (by omega);have h2:=UR g (l.getD k ⟨0, []⟩) k hg hx (by omega);rw [P1] at hsucc;repeat' (refine zZ ?_;conv=>whnf)
  refine⟨⟨by omega,by omega⟩,?_⟩;conv=>whnf
  repeat' (refine zZ ?_;conv=>whnf)
  refine zY h1 ?_;conv=>whnf
  rw [Ac];refine zY h2 ?_;conv=>whnf
  generalize DK g (l.getD k ⟨0, []⟩) (k:Nat)=S at hsucc |-
  generalize EF g l k=P at hsucc |-
  cases S with
  | none=>
   conv=>whnf
   repeat' (refine zZ ?_;conv=>whnf)
   refine⟨k+1,hk',by omega,?_⟩;rw [show EF g l (k+1)=P from hsucc];exact zQ (s:= [0,1]) ⟨⟨rfl,rfl,rfl,rfl,rfl,rfl,rfl,AT (by omega),tv⟩,tA,rfl,rfl,rfl,rfl,rfl⟩
  | some b=>
   cases P with
   | none=>
    conv=>whnf
    repeat' (refine zZ ?_;conv=>whnf)
    refine⟨k+1,hk',by omega,?_⟩;rw [show EF g l (k+1)=some (b,k) from hsucc];exact zQ (s:= [0,1]) ⟨⟨rfl,rfl,rfl,rfl,rfl,rfl,rfl,AT (by omega),tv⟩,tA,rfl,rfl,rfl,rfl,rfl⟩
   | some q=>
    obtain⟨a,j⟩:=q;by_cases h5:a.gen<b.gen
    ·have e:EF g l (k+1)=some (b,k):=hsucc.trans (if_pos h5);conv=>whnf
     refine AS (fun h7=>?_) (fun h7=>absurd h5 (Int.not_lt.2 (show b.gen<=a.gen from h7)));conv=>whnf
     repeat' (refine zZ ?_;conv=>whnf)
     refine⟨k+1,hk',by omega,?_⟩;rw [e];exact zQ (s:= [0,1]) ⟨⟨rfl,rfl,rfl,rfl,rfl,rfl,rfl,AT (by omega),tv⟩,tA,rfl,rfl,rfl,rfl,rfl⟩
    ·have e:EF g l (k+1)=some (a,j):=hsucc.trans (if_neg h5);conv=>whnf
     refine AS (fun h7=>absurd (show a.gen<b.gen from h7) h5) (fun h7=>?_);conv=>whnf
     repeat' (refine zZ ?_;conv=>whnf)
     refine⟨k+1,hk',by omega,?_⟩;rw [e];exact zQ (s:= [0,1]) ⟨⟨rfl,rfl,rfl,rfl,rfl,rfl,rfl,AT (by omega),tv⟩,tA,rfl,rfl,rfl,rfl,rfl⟩
 ·have ek:k=l.length:=by omega
  subst ek;exact⟨_,ri,rfl⟩



def zero8:List UInt8:= [0,0,0,0,0,0,0,0]
def ent0:Ent:=⟨0,(DG zero8:Nat),false⟩
def EE (g:Geo):List Ent:=List.replicate (g.d+1).toNat ent0


theorem Fn.subA {P:Program} {f:FuncId} {args args':List AV} {K:AV->Prop} (h:Fn P f args' K) (hs:SubL args args'):Fn P f args K:=
 ⟨h.go,fun c us hd hM hg hr=>h.calls c us hd hM hg (hs.rdl hr)⟩



def D7 (x:Gt) (addr:Int):Option Sec:=if x.err=0/\DU x.bytes=0/\B_ x.bytes=addr then some ⟨B_ x.bytes,Cr x.bytes,Cx x.bytes⟩ else none
theorem Zr (g:Geo) (x:Gt) (copy slot:Int) (hg:Bq g=true) (hL:IY g copy slot=true):CQ g x copy slot=match D7 x (Ba g copy slot) with | none=>none | some s=>match DL g s.pay with | some r=>if r.seq=s.stamp then some r else none | none=>none:=by
 unfold CQ D7;rw [hg,hL];by_cases h1:x.err=0 <;> by_cases h2:DU x.bytes=0 <;> by_cases h3:B_ x.bytes=Ba g copy slot <;> simp [h1,h2,h3] <;> rfl
def JT (o:Option Rc) (a:An) (seq at_ of_ left:Int):Bool:=match o with | some r=>Fo r a seq at_ of_ left | none=>false
def FK (p q:Option Rc) (b1 b2:Bool):Rc × List Int × Int:=
 if b1&&b2 then (p.getD zeroC, [],1) else if b1 then (p.getD zeroC, [1],1) else if b2 then (q.getD zeroC, [0],1) else if p.isSome || q.isSome then (zeroC, [],2) else (zeroC, [],3)
def EH (g:Geo) (a:An) (x y:Gt) (slot seq at_ of_ left:Int):Rc × List Int × Int:=
 FK (CQ g x 0 slot) (CQ g y 1 slot) (JT (CQ g x 0 slot) a seq at_ of_ left) (JT (CQ g y 1 slot) a seq at_ of_ left)
theorem Gi (c:Ctx) (u:Value) (how e:Int) (h:Rd (.tp [.ag [iv 0,iv 0,iv 0,iv 0,iv 0,iv 0,iv 0, .v (.slice none 0 0)], .v (.slice none 0 0),iv how,iv e]) c u):Rd (.tp [.ag (Hq zeroC),iA [],iv how,iv e]) c u:=by
 refine BV ?_ c u h;exact⟨Bg ⟨ri,ri,ri,ri,ri,ri,ri,Bv _ _,tv⟩,Bv _ _,ri,ri,tv⟩

theorem Xc {x:Int} (c:Ctx) (u:Value) (h:Rd (.sl 1 1 fun i=> [[AV.v (.int .i64 x)]].getD i []) c u):Rd (iA [x]) c u:=
 z7 (n:=1) (n':= [x].length) rfl (fun i hi=>by
  have:i=0:=by simp at hi;omega
  subst this;rfl) h
theorem YK (r:Rc) (c:Ctx) (u:Value) (h:Rd (.tp [.ag (Hq r), .v (.slice none 0 0),iv 1,iv 0]) c u):Rd (.tp [.ag (Hq r),iA [],iv 1,iv 0]) c u:=by
 refine BV ?_ c u h;exact⟨fun _ _ h=>h,Bv _ _,fun _ _ h=>h,fun _ _ h=>h,tv⟩
theorem YJ (r:Rc) (x:Int) (c:Ctx) (u:Value) (h:Rd (.tp [.ag (Hq r), .sl 1 1 fun i=> [[AV.v (.int .i64 x)]].getD i [],iv 1,iv 0]) c u):Rd (.tp [.ag (Hq r),iA [x],iv 1,iv 0]) c u:=by
 refine BV ?_ c u h;exact⟨fun _ _ h=>h,Xc,fun _ _ h=>h,fun _ _ h=>h,tv⟩
theorem Xt (g:Geo) (a:An) (x y:Gt) (slot seq at_ of_ left:Int) (hl:a.label.size<=1000000) (hh:a.homes.length<=1000000) (hx:x.bytes.length<=100000) (hy:y.bytes.length<=100000) :
  Fn Tryz.prog 401 [.ag (Bm g), .ag (Fp a), .ag (Eg x), .ag (Eg y),iv slot,iv seq,iv at_,iv of_,iv left]
   fun r=>r=if Bq g&&B7 g a&&Dv slot 0 (g.sl - 1) then .tp [.ag (Hq (EH g a x y slot seq at_ of_ left).1),iA (EH g a x y slot seq at_ of_ left).2.1, .v (.int .i64 (EH g a x y slot seq at_ of_ left).2.2),iv 0] else .tp [.ag (Hq zeroC),iA [],iv 0,iv 1]:=by
 have s1:=Gu g a hl hh;cases hA:Bq g&&B7 g a with
 | false=>
  rw [hA] at s1;refine zT Tryz.func401 rfl ?_;conv=>whnf
  refine zY s1 ?_;exact⟨_,fun c u h=>Gi c u 0 1 h,rfl⟩
 | true=>
  rw [hA] at s1;have s2:=RY g x 0 slot hx;have s3:=RY g y 1 slot hy;unfold EH;generalize CQ g x 0 slot=p at s2 |-
  generalize CQ g y 1 slot=q at s3 |-
  have i1:∀ r,p=some r->Fn Tryz.prog 394 [.ag (Hq r), .ag (Fp a),iv seq,iv at_,iv of_,iv left] fun x=>x = .v (.bool (JT p a seq at_ of_ left)):=by
   rintro r rfl;exact Yh r a seq at_ of_ left
  have i2:∀ r,q=some r->Fn Tryz.prog 394 [.ag (Hq r), .ag (Fp a),iv seq,iv at_,iv of_,iv left] fun x=>x = .v (.bool (JT q a seq at_ of_ left)):=by
   rintro r rfl;exact Yh r a seq at_ of_ left
  have n1:p=none->JT p a seq at_ of_ left=false:=by rintro rfl;rfl
  have n2:q=none->JT q a seq at_ of_ left=false:=by rintro rfl;rfl
  generalize JT p a seq at_ of_ left=b1 at i1 n1 |-
  generalize JT q a seq at_ of_ left=b2 at i2 n2 |-
  by_cases hs:0<=slot/\slot<g.sl
  ·rw [show Dv slot 0 (g.sl - 1)=true from AK.2 (by omega)];rcases p with _ | p <;> rcases q with _ | q <;> cases b1 <;> cases b2
   all_goals first
    | exact absurd (n1 rfl) (by decide)
    | exact absurd (n2 rfl) (by decide)
    | skip
   all_goals
    refine zT Tryz.func401 rfl ?_;conv=>whnf
    refine zY s1 ?_;conv=>whnf
    refine AS (fun t1=>?_) (fun t1=>?_) <;> (repeat rw [Ac] at t1) <;> conv=>whnf
    ·exfalso;omega
    refine AS (fun t2=>?_) (fun t2=>?_) <;> (repeat rw [Ac] at t2) <;> conv=>whnf
    ·exfalso;omega
    refine zB 3 ?_;conv=>whnf
    repeat' (first | (refine zZ ?_;conv=>whnf) | (refine AS (fun _=>?_) (fun _=>?_) <;> conv=>whnf) | (refine zY s2 ?_;conv=>whnf) | (refine zY s3 ?_;conv=>whnf) | (refine zY (i1 _ rfl) ?_;conv=>whnf) | (refine zY (i2 _ rfl) ?_;conv=>whnf) | (refine Ai (by first | omega | exact of_decide_eq_true rfl) ?_;conv=>whnf) | fail)
    first
     | exact⟨_,fun c u h=>Gi c u 2 0 h,rfl⟩
     | exact⟨_,fun c u h=>Gi c u 3 0 h,rfl⟩
     | exact⟨_,fun c u h=>YK _ c u h,rfl⟩
     | exact⟨_,fun c u h=>YJ _ _ c u h,rfl⟩
  ·rw [show Dv slot 0 (g.sl - 1)=false by rw [Bool.eq_false_iff];intro h;have:=AK.1 h;omega];refine zT Tryz.func401 rfl ?_;conv=>whnf
   refine zY s1 ?_;conv=>whnf
   refine AS (fun t1=>?_) (fun t1=>?_) <;> (repeat rw [Ac] at t1) <;> conv=>whnf
   ·exact⟨_,fun c u h=>Gi c u 0 1 h,rfl⟩
   refine AS (fun t2=>?_) (fun t2=>?_) <;> (repeat rw [Ac] at t2) <;> conv=>whnf
   ·exact⟨_,fun c u h=>Gi c u 0 1 h,rfl⟩
   ·exfalso;omega
def KO (x:Int) (n:Int):Int:=IntKind.i64.wrap ((IntKind.u64.wrap x).tmod n)
theorem EY {x n:Int} (h:0<n) (h2:n<=4611686018427387904):0<=KO x n/\KO x n<n:=by
 have h0:0<=IntKind.u64.wrap x:=by rw [IntKind.wrap_u64];omega
 have h1:=BF n h0;have h3:=Bz (IntKind.u64.wrap x) h;unfold KO;rw [wi (by omega)];exact⟨h1,h3⟩
def F_ (z d sp sl an:Int):Geo:=⟨1+KO z 4,1+KO d 4,KO sp 3,14+KO sl 17,1+KO an 3⟩
theorem Pg (z d sp sl an:Int):Bq (F_ z d sp sl an)=true:=by
 have h1:=EY (x:=z) (n:=4) (by decide) (by decide);have h2:=EY (x:=d) (n:=4) (by decide) (by decide);have h3:=EY (x:=sp) (n:=3) (by decide) (by decide);have h4:=EY (x:=sl) (n:=17) (by decide) (by decide);have h5:=EY (x:=an) (n:=3) (by decide) (by decide);refine A2.2 ?_;simp only [F_];omega
theorem RV (z d sp sl an:Int):Fn Tryz.prog 10 [iv z,iv d,iv sp,iv sl,iv an] fun r=>r = .ag (Bm (F_ z d sp sl an)):=by
 have h1:=EY (x:=z) (n:=4) (by decide) (by decide);have h2:=EY (x:=d) (n:=4) (by decide) (by decide);have h4:=EY (x:=sl) (n:=17) (by decide) (by decide);have h5:=EY (x:=an) (n:=3) (by decide) (by decide);refine zT Tryz.func10 rfl ?_;conv=>whnf
 repeat' (refine Ai (by decide) ?_;conv=>whnf)
 refine⟨_,fun _ _ h=>h,?_⟩;simp only [Bm,F_];rw [<-wi (n:=1+KO z 4) (by omega),<-wi (n:=1+KO d 4) (by omega),<-wi (n:=14+KO sl 17) (by omega),<-wi (n:=1+KO an 3) (by omega)];try rfl
def BN (g:Geo) (s:ByteArray):An:=⟨1,0,0,1,0,s,List.replicate g.z.toNat ⟨(List.range (g.d+1).toNat).map Int.ofNat,g.d+1,0⟩⟩
def G4 (n:Nat):List (List AV):=(List.range n).map fun i=> [iv (i:Nat)]
theorem K3 (n:Nat):G4 (n+1)=G4 n ++ [[iv (n:Nat)]]:=by simp [G4,By]
theorem Re {n i:Nat} (h:i<n):(G4 n).getD i []=[iv (i:Nat)]:=IR h
def LR (g:Geo):List AV:= [.sl 1 (g.d+1).toNat fun i=>(G4 (g.d+1).toNat).getD i [],iv (g.d+1),iv 0]
theorem TE (g:Geo):SubL (LR g) (M8 ⟨(List.range (g.d+1).toNat).map Int.ofNat,g.d+1,0⟩):=
 ⟨fun _ _ h=>z7 (by simp) (fun i hi=>by rw [Re hi,IR hi];try rfl) h,fun _ _ h=>h,fun _ _ h=>h,tv⟩
theorem JM {g:Geo} {r:Rc} {copy slot:Int} (hg:Bq g=true) (hok:EN g r=true) (hl:IY g copy slot=true):CQ g ⟨0,B5 g r copy slot⟩ copy slot=some r:=by
 have hb:=GA hg hl;have hs:=N_ hok;have hn:=EL hok;obtain⟨h1,h2,h3,h4⟩:=Ia (a:=Ba g copy slot) (s:=r.seq) (p:=Et r) ⟨hb.1,hb.2,hs.1,hs.2,by omega⟩;unfold CQ;rw [hg,hl];simp only [B5,h1,h2,h3,h4,Q_ hok];rfl
theorem Xs {g:Geo} {a:An} {x y:Gt} {slot seq at_ of_ left:Int} {q:Rc × List Int × Int} (hl:a.label.size<=1000000) (hh:a.homes.length<=1000000) (hx:x.bytes.length<=100000) (hy:y.bytes.length<=100000) (hg:Bq g=true) (ha:B7 g a=true) (hs:Dv slot 0 (g.sl - 1)=true)
  (h:EH g a x y slot seq at_ of_ left=q) :
  Fn Tryz.prog 401 [.ag (Bm g), .ag (Fp a), .ag (Eg x), .ag (Eg y),iv slot,iv seq,iv at_,iv of_,iv left]
   fun r=>r = .tp [.ag (Hq q.1),iA q.2.1,iv q.2.2,iv 0]:=by
 have s:=Xt g a x y slot seq at_ of_ left hl hh hx hy;rw [hg,ha,hs,h] at s;exact s
theorem Kg {g:Geo} {s:ByteArray} (hg:Bq g=true) (hs:Ev s.data.toList=0):B7 g (BN g s)=true:=by
 obtain⟨h1,h2,h3,h4,h5⟩:=A2.1 hg;have hp:Tm ((List.range (g.d+1).toNat).map Int.ofNat) (g.d+1)=true:=by
  rcases(show g.d=1\/g.d=2\/g.d=3\/g.d=4 by omega) with h | h | h | h <;> rw [h] <;> decide
 have hh:EP g ⟨(List.range (g.d+1).toNat).map Int.ofNat,g.d+1,0⟩=true:=by
  simp [EP,hp,Dv];omega
 simp [B7,BN,hs,Dv];exact⟨by omega,by omega, .inr hh⟩
theorem IW (b:List UInt8) (h:b.length<=100000000000):Fn Tryz.prog 17 [bA b,bA b] fun x=>x = .v (.bool true):=by
 have:=Wc b b h;rw [decide_eq_true rfl] at this;exact this


end
end Go.Proofs.YtpjkcgacjjbikaaGreatDoor.A
namespace Go.Proofs.YtpjkcgacjjbikaaGreatDoor
section
open Go.ChangeShapes Go.WideShapes Go.ChangeAt Go.RowKit Go.Deep
variable {H:Type} {enc:TypeId × Value->H}

theorem SX {w:World} {a:Addr} {u:Value} (h:w.cell? a=some u):a.spot=none:=by
 unfold World.cell? at h;split at h
 ·split at h
  ·cases h
  ·rename_i hn;cases hs:a.spot with
   | none=>rfl
   | some x=>rw [hs] at hn;exact absurd rfl hn
 ·cases h

theorem Zo {k:Int} (h:(Lit.int .u8 k).wf=true):∃ x:UInt8,k=x.toNat:=by
 have h2:0<=k/\k<256:=by
  simp only [Lit.wf,Ad,decide_eq_true_eq] at h;have e1:IntKind.u8.min=0:=by decide
  have e2:IntKind.u8.max=255:=by decide
  omega
 obtain⟨j,rfl⟩:=Int.eq_ofNat_of_zero_le h2.1;exact⟨UInt8.ofNat j,by rw [C8 (show j<256 by omega)]⟩
instance:Rp Geo where
 sz:=5
 agg:=true
 pos:=by omega
 E:=fun _ _ cs g=>cs=[.int .i64 g.z, .int .i64 g.d, .int .i64 g.sp, .int .i64 g.sl, .int .i64 g.an]
 len:=fun h=>by rw [h];try rfl
 one:=fun h u hu=>by rw [h] at hu;simp at hu;rcases hu with rfl | rfl | rfl | rfl | rfl <;> rfl
 mono:=fun _ h=>h
end
end Go.Proofs.YtpjkcgacjjbikaaGreatDoor
namespace Go.Proofs.YtpjkcgacjjbikaaGreatDoor.A
section
open Go.RowKit
def Ki (w:World):Ctx:={ w:=w,M:=noM,base:=w.heap.size,dom:=0,len:=fun _=>0,rho:=fun _=>undef }
theorem Fn.any {P:Program} {f:FuncId} {args:List AV} {a:AV} (h:Fn P f args fun r=>r=a) (w:World) (hg:globOk w) (us:List Value) (hr:RdL args (Ki w) us) :
  Calls P f us.toArray w fun e w'=>∃ v,e = .returned v/\Below w.heap.size w w'/\Rd a { Ki w with w:=w' } v:=by
 refine(h.calls (Ki w) us rfl (fun _ h=>h.elim) hg hr).mono ?_;rintro e w' ⟨v,r,rfl,rfl,h1,h2⟩;exact⟨v,rfl,h1,h2⟩
theorem Fn.anyV {P:Program} {f:FuncId} {args:List AV} {a:Value} (h:Fn P f args fun r=>r = .v a) (w:World) (hg:globOk w) (us:List Value) (hr:RdL args (Ki w) us) :
  Calls P f us.toArray w fun e w'=>e = .returned a/\Below w.heap.size w w':=by
 refine(h.any w hg us hr).mono ?_;rintro e w' ⟨v,rfl,h1,h2⟩;simp only [Rd] at h2;exact⟨by rw [h2],h1⟩
end
section
open Go.RowKit Go.ChangeShapes Go.WideShapes Go.ChangeAt Go.Deep
open Go.ChangeMaps (open_string)

section
variable {H:Type} {enc:TypeId × Value->H} {w:World}
def OpenE (enc:TypeId × Value->H) (w:World) (t:TypeId) (sz:Nat) (G:List AV->Prop):Prop:=
 Tryz.prog.cellsOf t=sz/\∀ n cs x,DataW.trod enc Tryz.prog w 0 (fun _=>true) true n t cs=some x->∃ L,G L/\RdL L (Ki w) cs/\(∀ u∈cs,u.oneCell'=true)/\L.length=sz
theorem OpenE.mono {t sz:Nat} {G G':List AV->Prop} (h:OpenE enc w t sz G) (hg:∀ L,G L->G' L):OpenE enc w t sz G':=
 ⟨h.1,fun n cs x hx=>let ⟨L,h1,h2⟩:=h.2 n cs x hx;⟨L,hg L h1,h2⟩⟩
def aD (L:List AV):Prop:=∃ k:UInt8,L=[.v (.int .u8 k.toNat)]
theorem Zx {t:Nat} (ht:Tryz.prog.underlying t=some (.int .u8)) (hc:Tryz.prog.cellsOf t=1):OpenE enc w t 1 aD:=⟨hc,fun n cs x h=>by
 obtain⟨k,rfl, -,hw⟩:=DataW.trod_int ht h;obtain⟨y,rfl⟩:=Zo hw;exact⟨_,⟨y,rfl⟩,by simp only [RdL,Rd];exact⟨_,_,rfl,rfl,rfl⟩,by simp [Value.oneCell'],rfl⟩⟩
def aE {α:Type} (sz:Nat) (f:α->List AV) (d:α) (L:List AV):Prop:=∃ l:List α,L=[.sl sz l.length fun i=>f (l.getD i d)]
theorem Zy {α:Type} {t e sz:Nat} {f:α->List AV} {d:α} (ht:Tryz.prog.underlying t=some (.slice e)) (hc:Tryz.prog.cellsOf t=1) (hsz:0<sz) (he:OpenE enc w e sz fun L=>∃ a,L=f a):OpenE enc w t 1 (aE sz f d):=⟨hc,fun n cs x h=>by
 have hnil:∀ (u:Value),Rd (.v (.slice none 0 0)) (Ki w) u->Rd (.sl sz ([]:List α).length fun i=>f (([]:List α).getD i d)) (Ki w) u:=fun u h=>by
  simp only [Rd] at h |-
  exact⟨none,0,h,by simp,by simp [maxLen], .inl rfl⟩
 rcases open_slice ht h with ⟨rfl, -⟩ | ⟨a,len,cap,m,n',D,Pl,rfl, -,hlc,hcm,hm, -,hel'⟩
 ·exact⟨_,⟨[],rfl⟩,by simp only [RdL];exact⟨_,_,rfl,hnil _ (by simp [Rd]),rfl⟩,by simp [Value.oneCell'],rfl⟩
 ·simp only [if_true] at hm;subst hm;obtain⟨b,off,spot⟩:=a;by_cases h0:len=0
  ·subst h0;refine⟨_,⟨[],rfl⟩,?_,by simp [Value.oneCell'],rfl⟩;simp only [RdL,Rd];exact⟨_,_,rfl,⟨_,m,rfl,by simp,hcm, .inl rfl⟩,rfl⟩
  ·have hsp:spot=none:=by
    obtain⟨cs',hc',htr⟩:=hel' 0 (by omega);obtain⟨L,⟨a,rfl⟩,hR,h1,hl⟩:=he.2 n' cs' _ htr;obtain⟨-,hl2,hcell⟩:=World.cells?_some hc';have hlen:=hR.length;have:=hcell 0 (by rw [he.1];omega);rw [Af (by omega)] at this;simp only [Addr.add,Nat.zero_mul,if_true] at this;exact SX this
   subst hsp;have key:∀ i,i<len->∃ cs,∃ a:α,RdL (f a) (Ki w) cs/\(∀ u∈cs,u.oneCell'=true)/\(f a).length=sz/\∀ j u,cs[j]? = some u->w.cell? ⟨b,off+(i*sz+j),none⟩=some u:=fun i hi=>by
    obtain⟨cs',hc',htr⟩:=hel' i (by omega);obtain⟨L,⟨a,rfl⟩,hR,h1,hl⟩:=he.2 n' cs' _ htr;refine⟨cs',a,hR,h1,hl,fun j u hu=>?_⟩;obtain⟨-,hl2,hcell⟩:=World.cells?_some hc';have hj:j<Tryz.prog.cellsOf e:=by rw [<-hl2];exact(Ar.1 hu).1
    have h3:=(hcell j hj).trans hu;rw [he.1,Addr.add_lit,Addr.add_lit,Nat.add_assoc] at h3;exact h3
   have hex:∀ k,k<=len->∃ l:List α,l.length=k/\∀ i,i<k->(f (l.getD i d)).length=sz/\RdAt (f (l.getD i d)) (Ki w) b (off+i*sz):=by
    intro k;induction k with
    | zero=>exact fun _=>⟨[],rfl,fun i hi=>absurd hi (Ap i)⟩
    | succ k ih=>
     intro hk;obtain⟨l,hl,hr⟩:=ih (by omega);obtain⟨cs',a,hR,h1,hla,h2⟩:=key k (by omega);refine⟨l ++ [a],by simp [hl],fun i hi=>?_⟩;by_cases hik:i<k
     ·have e:(l ++ [a]).getD i d=l.getD i d:=by rw [Ab,Ab,AD (by omega)]
      rw [e];exact hr i hik
     ·have e2:i=k:=by omega
      subst e2;have e:(l ++ [a]).getD i d=a:=by rw [Ab,AL (by omega),hl];simp
      rw [e];refine⟨hla,RdAt.of hR h1 fun j u hu=>?_⟩;have:=h2 j u hu;rw [Nat.add_assoc];exact this
   obtain⟨l,hl,hr⟩:=hex len (Ag _);refine⟨_,⟨l,rfl⟩,?_,by simp [Value.oneCell'],rfl⟩;simp only [RdL,Rd];refine⟨_,_,rfl,⟨_,m,by rw [hl],by omega,hcm, .inr ⟨b,off,rfl,fun h=>h,?_,fun i hi=>hr i (by omega)⟩⟩,rfl⟩;obtain⟨cs',a,hR,h1,hla,h2⟩:=key 0 (by omega);have hlen:=hR.length;have h3:=h2 0 cs'[0] (Af (by omega));exact World.block_lt_of_cell? _ _ h3⟩
structure FieldE (enc:TypeId × Value->H) (w:World) where
 t:TypeId
 sz:Nat
 G:List AV->Prop
 ok:OpenE enc w t sz G
end
section
variable {H:Type} {enc:TypeId × Value->H} {w:World}
def aF (L:List AV):Prop:=∃ b:List UInt8,L=[bA b]
theorem oBy:OpenE enc w 22 1 aF:=
 (Zy (α:=UInt8) (sz:=1) (f:=fun k=> [.v (.int .u8 k.toNat)]) (d:=0) Tryz.underlying22 (by kernel_rfl) (by decide) ((Zx Tryz.underlying5 (by kernel_rfl)).mono fun _ h=>h)).mono fun L ⟨l,h⟩=>⟨l,h⟩
theorem XT {t:Nat} {G:List AV->Prop} {v:Value} {d:DataW H} {ps:List MemPlace} (ho:OpenE enc w t 1 G) (hv:v.cells.toList=[v]) (h:DataW.Trod enc Tryz.prog w 0 (fun _=>true) true t v d ps):∃ L,G L/\RdL L (Ki w) [v]:=by
 obtain⟨n,hn⟩:=h;obtain⟨L,h1,h2,_⟩:=ho.2 n _ _ hn;rw [hv] at h2;exact⟨L,h1,h2⟩
theorem WY {a:AV} {c:Ctx} {v:Value} (h:RdL [a] c [v]):Rd a c v:=by
 simp only [RdL] at h;obtain⟨y,ys,e,h1,_⟩:=h;injection e with e _
 subst e;exact h1
end
end
section
open Go.RowKit
theorem QT {g:Geo} {x:Gt} {copy slot:Int} (h:(Bq g&&IY g copy slot)=false):CQ g x copy slot=none:=by
 unfold CQ;rw [h];try rfl
theorem U7 {g:Geo} {x:Gt} {copy slot:Int} {r:Rc} (h:CQ g x copy slot=some r):EN g r=true/\IY g copy slot=true/\r.img.bytes.length<=59:=by
 unfold CQ at h;split at h
 ·rename_i hc;simp only [Ad] at hc;split at h
  ·rename_i r' hr;split at h
   ·injection h with h
    subst h;obtain⟨h1,h2⟩:=QZ hr;have h3:=EL h1;have h4:=Pw h1;refine⟨h1,hc.1.1.1.2,?_⟩;by_cases hk:r'.kind=1
    ·rw [if_pos hk] at h4;omega
    ·have:r'.img.bytes.length=0:=by
      unfold EN Fg at h1;simp only [Ad] at h1;have h5:=h1.2;split at h5
      ·simp only [I1,Ad,beq_iff_eq] at h5;omega
      ·split at h5
       ·simp only [I1,Ad,beq_iff_eq] at h5;omega
       ·cases h5
     omega
   ·cases h
  ·cases h
 ·cases h
theorem PF {p q:Option Rc} {b1 b2:Bool} {Q:Rc->Prop} (h1:b1=true->∃ r,p=some r/\Q r) (h2:b2=true->∃ r,q=some r/\Q r) :
  ((FK p q b1 b2).2.2=1/\Q (FK p q b1 b2).1/\(FK p q b1 b2).2.1.length<=1/\∀ c∈(FK p q b1 b2).2.1,c=0\/c=1)\/(((FK p q b1 b2).2.2=2\/(FK p q b1 b2).2.2=3)/\(FK p q b1 b2).2.1=[]/\(FK p q b1 b2).1=zeroC):=by
 unfold FK;cases b1 <;> cases b2
 ·by_cases h:(p.isSome || q.isSome)=true
  ·simp [h]
  ·simp [h]
 ·obtain⟨r,rfl,hr⟩:=h2 rfl;exact .inl ⟨rfl,hr,by simp,by simp⟩
 ·obtain⟨r,rfl,hr⟩:=h1 rfl;exact .inl ⟨rfl,hr,by simp,by simp⟩
 ·obtain⟨r,rfl,hr⟩:=h1 rfl;exact .inl ⟨rfl,hr,by simp,by simp⟩
theorem PB {g:Geo} {a:An} {x:Gt} {c slot seq at_ of_ left:Int} (h:JT (CQ g x c slot) a seq at_ of_ left=true):∃ r,CQ g x c slot=some r/\EN g r=true/\r.img.bytes.length<=59/\Fo r a seq at_ of_ left=true:=by
 cases hp:CQ g x c slot with
 | none=>rw [hp] at h;cases h
 | some r=>
  rw [hp] at h;obtain⟨e1, -,e3⟩:=U7 hp;exact⟨r,rfl,e1,e3,h⟩
theorem PG {g:Geo} {a:An} {x y:Gt} {slot seq at_ of_ left:Int} (hs:0<=slot/\slot<g.sl) :
  ((EH g a x y slot seq at_ of_ left).2.2=1/\(EN g (EH g a x y slot seq at_ of_ left).1=true/\(EH g a x y slot seq at_ of_ left).1.img.bytes.length<=59/\Fo (EH g a x y slot seq at_ of_ left).1 a seq at_ of_ left=true)/\(EH g a x y slot seq at_ of_ left).2.1.length<=1/\∀ c∈(EH g a x y slot seq at_ of_ left).2.1,IY g c slot=true)\/
  (((EH g a x y slot seq at_ of_ left).2.2=2\/(EH g a x y slot seq at_ of_ left).2.2=3)/\(EH g a x y slot seq at_ of_ left).2.1=[]/\(EH g a x y slot seq at_ of_ left).1=zeroC):=by
 have hi:Dv slot 0 (g.sl - 1)=true:=AK.2 (by omega);have o0:IY g 0 slot=true:=by rw [IY,hi];try rfl
 have o1:IY g 1 slot=true:=by rw [IY,hi];try rfl
 refine(PF (Q:=fun r=>EN g r=true/\r.img.bytes.length<=59/\Fo r a seq at_ of_ left=true) PB PB).imp (fun h=>⟨h.1,h.2.1,h.2.2.1,fun c hc=>?_⟩) id;rcases h.2.2.2 c hc with rfl | rfl
 ·exact o0
 ·exact o1
def gz:Gt:=⟨0, []⟩
def E8 (g:Geo) (pos at_:Int):Int:=(IntKind.i64.wrap (pos+at_)).tmod g.sl
def D_ (g:Geo) (a:An) (x y:List Gt) (pos seq left at_ of_:Int):Rc × Int × List Wr:=
 let s:=E8 g pos at_;let q:=EH g a (x.getD s.toNat gz) (y.getD s.toNat gz) s seq at_ of_ left
 (q.1,q.2.2,q.2.1.map fun c=>⟨Ba g c s,B5 g q.1 c s⟩)
def DB (look:Int->Rc × Int × List Wr):Nat->Int->Rc->List Img->List Wr->Int × List Img × List Wr
 | 0,_,r,im,w=>(1,if r.kind=1 then im ++ [r.img] else im,w)
 | f+1,at_,r,im,w=>
  let q:=look at_
  if q.2.1≠1 then (q.2.1, [], []) else DB look f (at_+1) q.1 (if r.kind=1 then im ++ [r.img] else im) (w ++ q.2.2)
def Ip (g:Geo) (a:An) (x y:List Gt) (pos seq left:Int):Int × Int × List Img × List Wr:=
 let q:=D_ g a x y pos seq left 0 0
 if q.2.1≠1 then (q.2.1,0, [], []) else
  let t:=DB (fun k=>D_ g a x y pos seq left k q.1.of_) (q.1.of_ - 1).toNat 1 q.1 [] q.2.2
  if t.1≠1 then (t.1,0, [], []) else (1,q.1.of_,t.2.1,t.2.2)
def Hi (g:Geo) (a:An) (x y:List Gt):Nat->Int->Int->Int->List Tx->List Wr->Option (List Tx × List Wr × Int)
 | 0,_,seq,_,l,w=>some (l,w,seq)
 | f+1,pos,seq,left,l,w=>
  if 0<left/\seq<=4294967295 then
   let t:=Ip g a x y pos seq left
   if t.1=3 then none else if t.1≠1 then some (l,w,seq)
   else Hi g a x y f ((pos+t.2.1).tmod g.sl) (seq+1) (left - t.2.1) (l ++ [⟨seq,pos,t.2.1,t.2.2.1⟩]) (w ++ t.2.2.2)
  else some (l,w,seq)
def damaged:Int:=12
def VR (a:An):Option (List Tx × List Wr × Int)->List Tx × List Wr × Int
 | none=>([], [],damaged)
 | some (l,w,seq)=>if seq - 1<a.last then ([], [],damaged) else (l,w,0)
theorem VQ {a:An} {l:List Tx} {w:List Wr} {seq:Int} (h:seq - 1<a.last):VR a (some (l,w,seq))=([], [],damaged):=if_pos h
theorem Mp {a:An} {l:List Tx} {w:List Wr} {seq:Int} (h:¬seq - 1<a.last):VR a (some (l,w,seq))=(l,w,0):=if_neg h
def Hh (g:Geo) (a:An) (x y:List Gt):List Tx × List Wr × Int:=VR a (Hi g a x y g.sl.toNat a.pos a.seq g.sl [] [])
theorem Ph {g:Geo} {pos at_:Int} (hg:Bq g=true) (hp:0<=pos/\pos<g.sl) (hat:0<=at_/\at_<=1000):0<=E8 g pos at_/\E8 g pos at_<g.sl:=by
 obtain⟨h1,h2,h3,h4,h5⟩:=A2.1 hg;have hw:IntKind.i64.wrap (pos+at_)=pos+at_:=by rw [IntKind.wrap_i64];omega
 exact⟨BF _ (by rw [hw];omega),Bz _ (by omega)⟩
theorem G3 {g:Geo} {a:An} {x y:List Gt} {pos seq left at_ of_:Int} (hg:Bq g=true) (hp:0<=pos/\pos<g.sl) (hat:0<=at_/\at_<=1000) :
  ((D_ g a x y pos seq left at_ of_).2.1=1/\(EN g (D_ g a x y pos seq left at_ of_).1=true/\(D_ g a x y pos seq left at_ of_).1.img.bytes.length<=59/\Fo (D_ g a x y pos seq left at_ of_).1 a seq at_ of_ left=true)/\(D_ g a x y pos seq left at_ of_).2.2.length<=1)\/
  (((D_ g a x y pos seq left at_ of_).2.1=2\/(D_ g a x y pos seq left at_ of_).2.1=3)/\(D_ g a x y pos seq left at_ of_).2.2=[]/\(D_ g a x y pos seq left at_ of_).1=zeroC):=by
 refine(PG (a:=a) (x:=x.getD (E8 g pos at_).toNat gz) (y:=y.getD (E8 g pos at_).toNat gz) (seq:=seq) (at_:=at_) (of_:=of_) (left:=left) (Ph hg hp hat)).imp (fun h=>⟨h.1,h.2.1,?_⟩) (fun h=>⟨h.1,?_,h.2.2⟩)
 ·simp only [D_,Aa];exact h.2.2.1
 ·simp only [D_,h.2.1,Bp]
theorem Rh {r:Rc} {g:Geo} {a:An} {seq at_ of_ left:Int} (hk:EN g r=true) (h:Fo r a seq at_ of_ left=true):2<=r.of_/\r.of_<=30/\r.at_=at_/\r.at_<=r.of_ - 1/\(of_=0->r.of_<=left)/\(of_≠0->r.of_=of_):=by
 have h:=of_decide_eq_true h;unfold EN Fg at hk;simp only [Ad] at hk;have h2:=hk.2;rw [if_neg h.1] at h2;split at h2
 ·simp only [Iz,Ad,AK] at h2;refine⟨by omega,by omega,h.2.2.1,by omega,h.2.2.2.1,h.2.2.2.2.1⟩
 ·split at h2
  ·simp only [Iz,Ad,AK,beq_iff_eq] at h2;refine⟨by omega,by omega,h.2.2.1,by omega,h.2.2.2.1,h.2.2.2.2.1⟩
  ·cases h2
@[reducible] def Zg (g:Geo) (a:An) (x y:List Gt) (pos seq left:Int) (w:AV):List AV:=
 [iv g.z,iv g.d,iv g.sp,iv g.sl,iv g.an,iv a.gen,iv a.epoch,iv a.pos,iv a.seq,iv a.last, .v (.string a.label),GW a.homes,F6 x,F6 y,iv pos,iv seq,iv left,w]
theorem Rr (seq epoch of_:Int) {k:Nat} {l:List Img} (hk:k<l.length):(IK seq epoch of_ (k+1) l).map Hq=(IK seq epoch of_ k l).map Hq ++ [Hq ⟨1,seq,epoch,(k:Nat),of_,l.getD k ⟨0,0, []⟩⟩]:=by
 rw [T9 seq epoch of_ hk,A0,Ab,Af hk];try rfl

def Vq (seq epoch n:Int):List AV:= [iv 2,iv seq,iv epoch,iv n,iv (n+1),iv 0,iv 0, .v (.slice none 0 0)]
theorem UF (seq epoch:Int) (l:List Img) (i:Nat) (hi:i<l.length+1) :
  SubL ((List.map Hq (IK seq epoch (l.length+1) l.length l) ++ [Vq seq epoch l.length]).getD i [])
   (Hq ((Fk seq epoch l).getD i ⟨0,0,0,0,0,⟨0,0, []⟩⟩)):=by
 have hlk:(IK seq epoch (l.length+1) l.length l).length=l.length:=by rw [Jz];omega
 rcases BT i l.length with h | h
 ·have e1:(List.map Hq (IK seq epoch (l.length+1) l.length l) ++ [Vq seq epoch l.length]).getD i []=Hq ((Fk seq epoch l).getD i ⟨0,0,0,0,0,⟨0,0, []⟩⟩):=by
   unfold Fk;rw [EB (by rw [Aa,hlk];exact h),EB (by rw [hlk];exact h)];exact AP (by rw [hlk];exact h)
  rw [e1];exact SubL.refl _
 ·obtain rfl:i=l.length:=by omega
  unfold Fk;rw [Dj (by rw [Aa,hlk];omega),Dj (by rw [hlk];omega),Aa,hlk,B9];simp only [List.getD_cons_zero,Hq,noImg,Vq];exact⟨fun _ _ h=>h,fun _ _ h=>h,fun _ _ h=>h,fun _ _ h=>h,fun _ _ h=>h,fun _ _ h=>h,fun _ _ h=>h,Bv _ _,tv⟩
theorem L0 (seq epoch:Int) (l:List Img):(Fk seq epoch l).length=l.length+1:=by
 unfold Fk;rw [Ah,Jz];simp

theorem Wt {g:Geo} {a:An} (h:B7 g a=true):(0<=a.seq/\a.seq<=4294967296)/\0<=a.pos/\a.pos<g.sl:=by
 simp only [B7,AR,Ad,AK] at h;omega
theorem KA {look:Int->Rc × Int × List Wr}:∀ (f:Nat) (k:Int) (r:Rc) (im:List Img) (w:List Wr),(∀ i,k<=i->i<k+f->(look i).2.2.length<=1)->(DB look f k r im w).2.2.length<=w.length+f
 | 0,_,_,_,_,_=>by simp [DB]
 | f+1,k,r,im,w,h=>by
  have h1:=h k (by omega) (by omega);unfold DB;simp only;split
  ·simp
  ·have:=KA f (k+1) (look k).1 (if r.kind=1 then im ++ [r.img] else im) (w ++ (look k).2.2) fun i h2 h3=>h i (by omega) (by omega)
   rw [Ah] at this;omega
theorem KB {look:Int->Rc × Int × List Wr}:∀ (f:Nat) (k:Int) (r:Rc) (im:List Img) (w:List Wr),(∀ i,k<=i->i<k+f->(look i).2.1=1\/(look i).2.1=2\/(look i).2.1=3)->(DB look f k r im w).1=1\/(DB look f k r im w).1=2\/(DB look f k r im w).1=3
 | 0,_,_,_,_,_=> .inl rfl
 | f+1,k,r,im,w,h=>by
  have h1:=h k (by omega) (by omega);unfold DB;simp only;split
  ·exact h1
  ·exact KB f (k+1) (look k).1 (if r.kind=1 then im ++ [r.img] else im) (w ++ (look k).2.2) fun i h2 h3=>h i (by omega) (by omega)
theorem QH {g:Geo} {a:An} {x y:List Gt} {pos seq left:Int} (hg:Bq g=true) (hp:0<=pos/\pos<g.sl) :
  ((Ip g a x y pos seq left).1=1/\(2<=(Ip g a x y pos seq left).2.1/\(Ip g a x y pos seq left).2.1<=left/\(Ip g a x y pos seq left).2.1<=30)/\(Ip g a x y pos seq left).2.2.2.length<=30)\/((Ip g a x y pos seq left).1=2\/(Ip g a x y pos seq left).1=3):=by
 have r0:=G3 (a:=a) (x:=x) (y:=y) (seq:=seq) (left:=left) (of_:=0) (at_:=0) hg hp (by omega);unfold Ip;simp only;rcases r0 with ⟨e1,⟨e2, -,e3⟩,e4⟩ | ⟨e1, -, -⟩
 ·rw [if_neg (by omega)];have hN:=Rh e2 e3;have hA:=fun(i:Int) (h1:1<=i) (h2:i<1+((D_ g a x y pos seq left 0 0).1.of_ - 1).toNat)=>G3 (a:=a) (x:=x) (y:=y) (seq:=seq) (left:=left) (of_:=(D_ g a x y pos seq left 0 0).1.of_) (at_:=i) hg hp (by omega)
  have hH:=KB (look:=fun k=>D_ g a x y pos seq left k (D_ g a x y pos seq left 0 0).1.of_) ((D_ g a x y pos seq left 0 0).1.of_ - 1).toNat 1 (D_ g a x y pos seq left 0 0).1 [] (D_ g a x y pos seq left 0 0).2.2 fun i h1 h2=>(hA i h1 h2).imp (fun h=>h.1) fun h=>h.1
  split
  ·exact .inr (hH.resolve_left ‹_›)
  ·refine .inl ⟨rfl,⟨hN.1,hN.2.2.2.2.1 rfl,hN.2.1⟩,?_⟩;have:=KA (look:=fun k=>D_ g a x y pos seq left k (D_ g a x y pos seq left 0 0).1.of_) ((D_ g a x y pos seq left 0 0).1.of_ - 1).toNat 1 (D_ g a x y pos seq left 0 0).1 [] (D_ g a x y pos seq left 0 0).2.2 fun i h1 h2=>by
    rcases hA i h1 h2 with ⟨_,_,h⟩ | ⟨_,h,_⟩
    ·exact h
    ·rw [h];simp
   exact AW this (by omega)
 ·rw [if_pos (by omega)];exact .inr e1
def Zn (g:Geo) (t:Tx) (s:Int):Int:=(IntKind.i64.wrap (IntKind.i64.wrap (s - t.pos)+g.sl)).tmod g.sl
def Zm (g:Geo) (t:Tx) (s:Int):Bool:=Dv t.pos 0 (g.sl - 1)&&Dv t.n 0 g.sl&&decide (Zn g t s<t.n)
def Yx (g:Geo) (s:Int):List Tx->Nat->Option (Nat × Int)
 | [],_=>none
 | t::r,i=>if Zm g t s then some (i,Zn g t s) else Yx g s r (i+1)
end
end Go.Proofs.YtpjkcgacjjbikaaGreatDoor.A
namespace Go.Proofs.YtpjkcgacjjbikaaGreatDoor
section

def rc0:Rc:=⟨0,0,0,0,0,⟨0,0, []⟩⟩
theorem Th (seq epoch:Int) (l:List Img) {k:Nat} (hk:k<l.length+1):(Fk seq epoch l).getD k rc0=if k<l.length then ⟨1,seq,epoch,(k:Nat),l.length+1,l.getD k ⟨0,0, []⟩⟩ else ⟨2,seq,epoch,(k:Nat),l.length+1,noImg⟩:=by
 have hlen:(IK seq epoch (l.length+1) l.length l).length=l.length:=by rw [Jz];omega
 unfold Fk;rw [Ab];by_cases h:k<l.length
 ·rw [if_pos h,AD (by omega)];have h2:(IK seq epoch (l.length+1) l.length l)[k]? = some ⟨1,seq,epoch,(k:Nat),l.length+1,l[k]⟩:=by
   unfold IK;rw [A6,Bd,List.getElem?_zipIdx,Af h];simp
  rw [h2,Ab,Af h];try rfl
 ·have e:k=l.length:=by omega
  subst e;rw [if_neg h,AL (by omega),hlen];simp
structure RecAt (g:Geo) (seq epoch:Int) (l:List Img) (k:Nat) (r:Rc):Prop where
 ok:EN g r=true
 seq:r.seq=seq
 epoch:r.epoch=epoch
 at_:r.at_=(k:Nat)
 of_:r.of_=l.length+1
 kind:r.kind≠0
 img:(r.kind=1↔k<l.length)/\(k<l.length->r.img=l.getD k ⟨0,0, []⟩)
end
end Go.Proofs.YtpjkcgacjjbikaaGreatDoor
namespace Go.Proofs.YtpjkcgacjjbikaaGreatDoor.A
section
open Go.RowKit
def tz:Tx:=⟨0,0,0, []⟩
def UG (g:Geo) (l:List Tx) (epoch s:Int):Rc:=match Yx g s l 0 with
 | none=>zeroC
 | some (i,k)=>(Fk (l.getD i tz).seq epoch (l.getD i tz).images).getD k.toNat zeroC
def FX (g:Geo) (l:List Tx) (epoch copy:Int) (n:Nat):List Gt:=(List.range n).map fun s=>⟨0,B5 g (UG g l epoch (s:Nat)) copy (s:Nat)⟩
structure LogOk (g:Geo) (l:List Tx) (epoch:Int):Prop where
 len:l.length<=1000
 img:∀ t∈l,t.images.length<=1000/\∀ x∈t.images,x.bytes.length<=1000000
 who:∀ s i k,0<=s/\s<g.sl->Yx g s l 0=some (i,k)->i<l.length/\0<=k/\k.toNat<(l.getD i tz).images.length+1
 ok:∀ s,0<=s/\s<g.sl->EN g (UG g l epoch s)=true
def SubLL:List (List AV)->List (List AV)->Prop
 | [], []=>True
 | a::r,b::s=>SubL a b/\SubLL r s
 | _,_=>False
theorem SubLL.get:∀ {es fs:List (List AV)} {i:Nat},SubLL es fs->i<es.length->SubL (es.getD i []) (fs.getD i [])
 | [],_,_,_,h=>by simp at h
 | a::r,b::s,0,h,_=>by simpa using h.1
 | a::r,b::s,i+1,h,hi=>by
  have:=SubLL.get (i:=i) h.2 (by simpa using hi);simpa using this
 | _::_, [],_,h,_=>h.elim
theorem NC {g:Geo} {l:List Tx} {epoch:Int} (hg:Bq g=true) (h:LogOk g l epoch) {copy:Int} (hc:copy=0\/copy=1) {s:Nat} (hs:(s:Int)<g.sl):CQ g ((FX g l epoch copy g.sl.toNat).getD s gz) copy (s:Nat)=some (UG g l epoch (s:Nat)):=by
 have hin:(0:Int)<=(s:Nat)/\((s:Nat):Int)<g.sl:=by omega
 have e:(FX g l epoch copy g.sl.toNat).getD s gz=⟨0,B5 g (UG g l epoch (s:Nat)) copy (s:Nat)⟩:=by
  unfold FX;rw [AP (d:=0) (by rw [CH];omega)];rw [Ab,BL (by omega)];try rfl
 rw [e];refine JM hg (h.ok s hin) ?_;rw [IY,AK.2 (show 0<=((s:Nat):Int)/\((s:Nat):Int)<=g.sl - 1 by omega)];rcases hc with rfl | rfl <;> rfl
theorem Tb {g:Geo} {x:Gt} {copy s:Int} (h:¬(0<=s/\s<g.sl)):CQ g x copy s=none:=by
 refine QT ?_;have:Dv s 0 (g.sl - 1)=false:=by
  rw [<-CU];intro e;have:=AK.1 e;omega
 rw [IY,this];simp
def Z2 (a:An) (p q:Int->Option Rc) (slot seq at_ of_ left:Int):Rc × List Int × Int:=
 FK (p slot) (q slot) (JT (p slot) a seq at_ of_ left) (JT (q slot) a seq at_ of_ left)
def YA (g:Geo) (a:An) (p q:Int->Option Rc) (pos seq left at_ of_:Int):Rc × Int × List Wr:=
 let s:=E8 g pos at_;let z:=Z2 a p q s seq at_ of_ left
 (z.1,z.2.2,z.2.1.map fun c=>⟨Ba g c s,B5 g z.1 c s⟩)
def WE (g:Geo) (a:An) (p q:Int->Option Rc) (pos seq left:Int):Int × Int × List Img × List Wr:=
 let z:=YA g a p q pos seq left 0 0
 if z.2.1≠1 then (z.2.1,0, [], []) else
  let t:=DB (fun k=>YA g a p q pos seq left k z.1.of_) (z.1.of_ - 1).toNat 1 z.1 [] z.2.2
  if t.1≠1 then (t.1,0, [], []) else (1,z.1.of_,t.2.1,t.2.2)
def Lx (g:Geo) (a:An) (p q:Int->Option Rc):Nat->Int->Int->Int->List Tx->List Wr->Option (List Tx × List Wr × Int)
 | 0,_,seq,_,l,w=>some (l,w,seq)
 | f+1,pos,seq,left,l,w=>
  if 0<left/\seq<=4294967295 then
   let t:=WE g a p q pos seq left
   if t.1=3 then none else if t.1≠1 then some (l,w,seq)
   else Lx g a p q f ((pos+t.2.1).tmod g.sl) (seq+1) (left - t.2.1) (l ++ [⟨seq,pos,t.2.1,t.2.2.1⟩]) (w ++ t.2.2.2)
  else some (l,w,seq)
def U6 (g:Geo) (a:An) (p q:Int->Option Rc):List Tx × List Wr × Int:=VR a (Lx g a p q g.sl.toNat a.pos a.seq g.sl [] [])
def Ky (g:Geo) (x:List Gt) (copy:Int):Int->Option Rc:=fun s=>CQ g (x.getD s.toNat gz) copy s
theorem RX (g:Geo) (a:An) (x y:List Gt):∀ (f:Nat) (pos seq left:Int) (l:List Tx) (w:List Wr),Hi g a x y f pos seq left l w=Lx g a (Ky g x 0) (Ky g y 1) f pos seq left l w
 | 0,_,_,_,_,_=>rfl
 | f+1,pos,seq,left,l,w=>by
  unfold Hi Lx;have e:Ip g a x y pos seq left=WE g a (Ky g x 0) (Ky g y 1) pos seq left:=rfl;rw [e];simp only [RX g a x y f]
theorem WN (g:Geo) (a:An) (x y:List Gt):Hh g a x y=U6 g a (Ky g x 0) (Ky g y 1):=by
 unfold Hh U6;rw [RX]
def GQ (g:Geo) (l:List Tx) (epoch:Int) (bad:Int->Bool):Int->Option Rc:=fun s=>if 0<=s/\s<g.sl then (if bad s then none else some (UG g l epoch s)) else none
theorem RZ {g:Geo} {l:List Tx} {epoch:Int} (hg:Bq g=true) (h:LogOk g l epoch) {copy:Int} (hc:copy=0\/copy=1):Ky g (FX g l epoch copy g.sl.toNat) copy=GQ g l epoch fun _=>false:=by
 funext s;unfold Ky GQ;by_cases hs:0<=s/\s<g.sl
 ·rw [if_pos hs,if_neg (Bool.false_ne_true)];obtain⟨k,rfl⟩:=Int.eq_ofNat_of_zero_le hs.1;rw [Ac];exact NC hg h hc hs.2
 ·rw [if_neg hs];exact Tb hs
theorem RdL.split {c:Ctx}:∀ {l m:List AV} {xs:List Value},RdL (l ++ m) c xs->∃ a b,xs=a ++ b/\RdL l c a/\RdL m c b
 | [],m,xs,h=>⟨[],xs,rfl,by simp only [RdL],h⟩
 | x::l,m,xs,h=>by
  simp only [Bj,RdL] at h;obtain⟨y,ys,rfl,h1,h2⟩:=h;obtain⟨a,b,rfl,h3,h4⟩:=RdL.split h2;exact⟨y::a,b,rfl,by simp only [RdL];exact⟨y,a,rfl,h1,h3⟩,h4⟩
theorem SubLL.len:∀ {es fs:List (List AV)},SubLL es fs->es.length=fs.length
 | [], [],_=>rfl
 | _::_,_::_,h=>by simp [SubLL.len h.2]
 | [],_::_,h=>h.elim
 | _::_, [],h=>h.elim
theorem SubLL.flat:∀ {es fs:List (List AV)} {c:Ctx} {xs:List Value},SubLL es fs->RdL es.flatten c xs->RdL fs.flatten c xs
 | [], [],_,_,_,h=>h
 | a::r,b::s,c,xs,h,hr=>by
  rw [A8] at hr |-
  obtain⟨x1,x2,rfl,h1,h2⟩:=RdL.split hr;exact RdL.append (h.1.rdl h1) (SubLL.flat h.2 h2)
 | [],_::_,_,_,h,_=>h.elim
 | _::_, [],_,_,h,_=>h.elim
theorem SubLL.sz:∀ {es fs:List (List AV)} {sz:Nat},SubLL es fs->(∀ e∈es,e.length=sz)->∀ e∈fs,e.length=sz
 | [], [],_,_,_=>by simp
 | a::r,b::s,sz,h,hs=>by
  intro e he;rcases AQ.1 he with rfl | he
  ·rw [<-h.1.len];exact hs a (by simp)
  ·exact SubLL.sz h.2 (fun e he=>hs e (Bc _ he)) e he
 | [],_::_,_,h,_=>h.elim
 | _::_, [],_,h,_=>h.elim
def ABSub:AB->AB->Prop
 | .row t sz es, .row t' sz' es'=>t=t'/\sz=sz'/\SubLL es es'
 | x,y=>x=y
def HSub:List AB->List AB->Prop
 | [], []=>True
 | x::r,y::s=>ABSub x y/\HSub r s
 | _,_=>False
theorem HSub.len:∀ {H H':List AB},HSub H H'->H.length=H'.length
 | [], [],_=>rfl
 | _::_,_::_,h=>by simp [HSub.len h.2]
 | [],_::_,h=>h.elim
 | _::_, [],h=>h.elim
theorem HSub.get:∀ {H H':List AB} {k:Nat} {y:AB},HSub H H'->H'[k]? = some y->∃ x,H[k]? = some x/\ABSub x y
 | [], [],k,y,_,h=>by simp at h
 | x::r,y::s,0,z,h,hz=>by
  simp at hz;subst hz;exact⟨x,by simp,h.1⟩
 | x::r,y::s,k+1,z,h,hz=>by
  obtain⟨w,h1,h2⟩:=HSub.get (k:=k) h.2 (by simpa using hz);exact⟨w,by simpa using h1,h2⟩
 | [],_::_,_,_,h,_=>h.elim
 | _::_, [],_,_,_,hz=>by simp at hz
theorem ABSub.live:∀ {x y:AB},ABSub x y->x.live=y.live:=by
 intro x y h;cases x <;> cases y <;> simp only [ABSub] at h <;> first | rfl | cases h
theorem ABSub.blk {c:Ctx} {k:Nat}:∀ {x y:AB},ABSub x y->BlkOk c k x->BlkOk c k y
 | .row t sz es, .row t' sz' es',h,hb=>by
  obtain⟨rfl,rfl,h⟩:=h;obtain⟨h1,h2,h3,xs,h4,h5,h6⟩:=hb;refine⟨h1.trans h.len,h2,h.sz h3,xs,?_,h.flat h5,h6⟩;rw [<-h.len];exact h4
 | .row _ _ _, .box _ _,h,_=>by cases h
 | .row _ _ _, .iter _ _,h,_=>by cases h
 | .row _ _ _, .dead,h,_=>by cases h
 | .row _ _ _, .rowo _ _ _ _,h,_=>by cases h
 | .rowo t sz es m,y,h,hb=>by
  have h:AB.rowo t sz es m=y:=h;subst h;exact hb
 | .box t cs,y,h,hb=>by
  have h:AB.box t cs=y:=h;subst h;exact hb
 | .iter a b,y,h,hb=>by
  have h:AB.iter a b=y:=h;subst h;exact hb
 | .dead,y,h,hb=>by
  have h:AB.dead=y:=h;subst h;exact hb
theorem HS.hsub {w0:Fl} {M0:Ms} {c:Ctx} {H H':List AB} (hs:HS w0 M0 c H) (h:HSub H H'):HS w0 M0 c H':=by
 refine⟨hs.low,hs.base,hs.dom.trans h.len,hs.foreign,hs.lt,fun k y hy=>?_,fun k y g hy hl ho=>?_,fun j k y z g hj hk hy hz ho ho'=>?_⟩
 ·obtain⟨x,h1,h2⟩:=h.get hy;exact h2.blk (hs.blk k x h1)
 ·obtain⟨x,h1,h2⟩:=h.get hy;exact hs.own k x g h1 (h2.live.trans hl) ho
 ·obtain⟨x1,h1,h2⟩:=h.get hj;obtain⟨x2,h3,h4⟩:=h.get hk;exact hs.dis j k x1 x2 g h1 h3 (h2.live.trans hy) (h4.live.trans hz) ho ho'
theorem ACalls.hsub {P:Program} {q:Bool} {f:FuncId} {args:List AV} {H:List AB} {k:AV->List AB->Prop} (H':List AB) (hs:HSub H H') (h:ACalls P q f args H' k):ACalls P q f args H k:=
 ⟨h.go,fun w0 M0 c us hs0 hr=>h.calls w0 M0 c us (hs0.hsub hs) hr⟩
theorem SubLL.refl:∀ l,SubLL l l
 | []=>trivial
 | _::l=>⟨SubL.refl _,SubLL.refl l⟩
theorem SubLL.set {a b:List AV} (h:SubL a b):∀ {l m:List (List AV)} (k:Nat),SubLL l m->SubLL (l.set k a) (m.set k b)
 | [], [],_,h=>h
 | _::_,_::_,0,h2=>⟨h,h2.2⟩
 | _::_,_::_,k+1,h2=>⟨h2.1,SubLL.set h k h2.2⟩
 | [],_::_,_,h=>h.elim
 | _::_, [],_,h=>h.elim
def YL (g:Geo) (fill:UInt8) (i k:Nat):Img:=
 if (i+k) % 4=3 then ⟨((i+k:Nat):Int).tmod g.z,255,Di (EE g)⟩ else ⟨((i+k:Nat):Int).tmod g.z,((i+2*k:Nat):Int).tmod (g.d+1) - 1, [fill,UInt8.ofNat i,UInt8.ofNat k,1,2,3,4,5]⟩
def Z3 (g:Geo) (a:An) (fill:UInt8) (i:Nat) (pos:Int) (n:Nat):Tx:=⟨a.seq+i,pos,n+1,(List.range n).map fun k=>YL g fill i k⟩
theorem SubLL.app {e f:List AV} (h:SubL e f):∀ {a b:List (List AV)},SubLL a b->SubLL (a ++ [e]) (b ++ [f])
 | [], [],_=>⟨h,tv⟩
 | _::_,_::_,h2=>⟨h2.1,SubLL.app h h2.2⟩
 | [],_::_,h=>h.elim
 | _::_, [],h=>h.elim
end
end Go.Proofs.YtpjkcgacjjbikaaGreatDoor.A
namespace Go.Proofs.YtpjkcgacjjbikaaGreatDoor
section

def Yl (b:List UInt8) (k:Nat):List UInt8:=b.modify (k / 8) fun x=>x ^^^ UInt8.ofNat (2 ^ (k % 8))
theorem O1 (b:List UInt8) (k:Nat):(Yl b k).length=b.length:=List.length_modify _ _ _
def P_ (p:Nat->Bool) (a:Nat) (b:List UInt8):Nat->List UInt8
 | 0=>b
 | i+1=>if p i&&decide (a+i<8*b.length) then Yl (P_ p a b i) (a+i) else P_ p a b i
theorem O0 (p:Nat->Bool) (a:Nat) (b:List UInt8) (i:Nat):(P_ p a b i).length=b.length:=by
 induction i with
 | zero=>rfl
 | succ i ih=>unfold P_;split;rw [O1,ih];exact ih
def fX (bs:Int):Nat:=if (bs % 4294967296).toNat % 2=0 then (bs % 4294967296).toNat+1 else (bs % 4294967296).toNat
def Yk (b:List UInt8) (bit bs:Int):List UInt8:=P_ (fun i=>decide (fX bs / 2 ^ i % 2=1)) (bit % (8*(b.length:Int))).toNat b 32
theorem Oz (b:List UInt8) (bit bs:Int):(Yk b bit bs).length=b.length:=O0 _ _ _ _
end
end Go.Proofs.YtpjkcgacjjbikaaGreatDoor
namespace Go.Proofs.YtpjkcgacjjbikaaGreatDoor.A
section
open Go.RowKit
theorem Y0 (x:UInt8) (z:Nat) (hz:z<256):IntKind.u8.wrap (BitVec.ofInt IntKind.u8.bits (x.toNat:Int) ^^^ BitVec.ofInt IntKind.u8.bits (z:Int)).toNat=((x ^^^ UInt8.ofNat z).toNat:Int):=by
 show IntKind.u8.wrap (BitVec.ofInt 8 (x.toNat:Int) ^^^ BitVec.ofInt 8 (z:Int)).toNat=((x ^^^ UInt8.ofNat z).toNat:Int);have hx:=x.toNat_lt;have h1:(BitVec.ofInt 8 (x.toNat:Int))=BitVec.ofNat 8 x.toNat:=BitVec.ofInt_natCast _ _;have h2:(BitVec.ofInt 8 (z:Int))=BitVec.ofNat 8 z:=BitVec.ofInt_natCast _ _;have h3:x.toNat ^^^ z<256:=Nat.xor_lt_two_pow (n:=8) hx hz;rw [h1,h2,BitVec.toNat_xor,BitVec.toNat_ofNat,BitVec.toNat_ofNat,Nat.mod_eq_of_lt hx,Nat.mod_eq_of_lt hz,UInt8.toNat_xor,C8 hz,IntKind.wrap_u8];omega

structure TxIn (g:Geo) (a:An) (fill:UInt8) (i0:Nat) (l:List Tx):Prop where
 at_:∀ j,j<l.length->∃ pos n,l.getD j tz=Z3 g a fill (i0+j) pos n/\1<=n/\n<=5/\0<=pos/\pos<g.sl


def GI (g:Geo):List Tx->Int->Int->Prop
 | [],_,_=>True
 | t::r,seq,pos=>(t.seq=seq/\t.pos=pos/\t.n=t.images.length+1/\2<=t.n)/\GI g r (seq+1) ((pos+t.n).tmod g.sl)
def usedM:List Tx->Int
 | []=>0
 | t::r=>t.n+usedM r
def Tl (g:Geo):List Tx->Int->Int
 | [],pos=>pos
 | t::r,pos=>Tl g r ((pos+t.n).tmod g.sl)
theorem N4 (g:Geo):∀ (l:List Tx) (seq pos:Int) (t:Tx),GI g l seq pos->(t.seq=seq+l.length/\t.pos=Tl g l pos/\t.n=t.images.length+1/\2<=t.n)->GI g (l ++ [t]) seq pos
 | [],seq,pos,t,_,h=>⟨⟨by have:=h.1;simpa using this,h.2.1,h.2.2.1,h.2.2.2⟩,tv⟩
 | x::r,seq,pos,t,h,ht=>by
  refine⟨h.1,N4 g r (seq+1) _ t h.2 ⟨?_,ht.2⟩⟩;rw [ht.1];simp only [Ao];omega
theorem used_app:∀ (l:List Tx) (t:Tx),usedM (l ++ [t])=usedM l+t.n
 | [],t=>by simp [usedM]
 | x::r,t=>by simp only [Bj,usedM,used_app r t];omega
theorem Se (g:Geo):∀ (l:List Tx) (pos:Int) (t:Tx),Tl g (l ++ [t]) pos=((Tl g l pos)+t.n).tmod g.sl
 | [],pos,t=>rfl
 | x::r,pos,t=>by simp only [Bj,Tl];exact Se g r _ t
theorem K9 {g:Geo} {a:An} {seq left n:Int} {look:Int->Rc × Int × List Wr} (hlook:∀ i,1<=i->i<n->(look i).2.1=1->EN g (look i).1=true/\Fo (look i).1 a seq i n left=true):∀ (f:Nat) (k:Int) (r:Rc) (im:List Img) (w:List Wr),1<=k->k+f=n->EN g r=true->r.at_=k - 1->r.of_=n->r.kind≠0->(im.length:Int)=k - 1->(DB look f k r im w).1=1->((DB look f k r im w).2.1.length:Int)+1=n
 | 0,k,r,im,w,hk,hn,hr,ha,ho,h0,hi,_=>by
  have hk1:r.kind≠1:=by
   intro e;unfold EN Fg at hr;simp only [Ad] at hr;have h2:=hr.2;rw [if_neg h0,if_pos e] at h2;simp only [Ad,AK] at h2;omega
  unfold DB;simp only [if_neg hk1];omega
 | f+1,k,r,im,w,hk,hn,hr,ha,ho,h0,hi,hG=>by
  have hk1:r.kind=1:=by
   unfold EN Fg at hr;simp only [Ad] at hr;have h2:=hr.2;rw [if_neg h0] at h2;split at h2
   ·assumption
   ·split at h2
    ·simp only [Ad,beq_iff_eq] at h2;omega
    ·cases h2
  unfold DB at hG |-
  simp only [if_pos hk1] at hG |-
  by_cases hq:(look k).2.1≠1
  ·rw [if_pos hq] at hG;exact absurd hG hq
  ·rw [if_neg hq] at hG |-
   have hl:=hlook k hk (by omega) (by omega);have h1:=Rh hl.1 hl.2;have h2:=(of_decide_eq_true hl.2).1;refine K9 hlook f (k+1) (look k).1 _ _ (by omega) (by omega) hl.1 (by omega) ?_ h2 ?_ hG
   ·exact h1.2.2.2.2.2 (by omega)
   ·rw [Ah];simp only [Ao,AN];omega
theorem SP {g:Geo} {a:An} {x y:List Gt} {pos seq left:Int} (hg:Bq g=true) (hp:0<=pos/\pos<g.sl) (h:(Ip g a x y pos seq left).1=1):((Ip g a x y pos seq left).2.2.1.length:Int)+1=(Ip g a x y pos seq left).2.1:=by
 have r0:=G3 (a:=a) (x:=x) (y:=y) (seq:=seq) (left:=left) (of_:=0) (at_:=0) hg hp (by omega);unfold Ip at h |-
 simp only at h |-
 rcases r0 with ⟨e1,⟨e2, -,e3⟩,e4⟩ | ⟨e1, -, -⟩
 ·rw [if_neg (by omega)] at h |-
  have hN:=Rh e2 e3;have h0:=(of_decide_eq_true e3).1;by_cases hq:(DB (fun k=>D_ g a x y pos seq left k (D_ g a x y pos seq left 0 0).1.of_) ((D_ g a x y pos seq left 0 0).1.of_ - 1).toNat 1 (D_ g a x y pos seq left 0 0).1 [] (D_ g a x y pos seq left 0 0).2.2).1≠1
  ·rw [if_pos hq] at h;exact absurd h hq
  ·rw [if_neg hq];refine K9 (g:=g) (a:=a) (seq:=seq) (left:=left) (n:=(D_ g a x y pos seq left 0 0).1.of_) (look:=fun k=>D_ g a x y pos seq left k (D_ g a x y pos seq left 0 0).1.of_) (fun i h1 h2 h3=>?_) _ 1 _ [] _ (by omega) (by omega) e2 (by omega) rfl h0 (by simp) (by omega);rcases G3 (a:=a) (x:=x) (y:=y) (seq:=seq) (left:=left) (of_:=(D_ g a x y pos seq left 0 0).1.of_) (at_:=i) hg hp (by omega) with ⟨_,⟨q1,_,q2⟩,_⟩ | ⟨q,_⟩
   ·exact⟨q1,q2⟩
   ·omega
 ·rw [if_pos (by omega)] at h;simp only at h;omega
theorem Kx {g:Geo} {a:An} {x y:List Gt} (hg:Bq g=true):∀ (f:Nat) (pos seq left:Int) (l:List Tx) (w:List Wr) {l':List Tx} {w':List Wr} {seq':Int},GI g l a.seq a.pos->pos=Tl g l a.pos->seq=a.seq+l.length->usedM l+left=g.sl->0<=left->(0<=pos/\pos<g.sl)->Hi g a x y f pos seq left l w=some (l',w',seq')->
  GI g l' a.seq a.pos/\seq'=a.seq+l'.length/\usedM l'<=g.sl
 | 0,pos,seq,left,l,w,l',w',seq',h1,h2,h3,h4,h5,h6,h=>by
  unfold Hi at h;injection h with h
  injection h with e1 h
  injection h with e2 e3
  subst e1;subst e3;exact⟨h1,h3,by omega⟩
 | f+1,pos,seq,left,l,w,l',w',seq',h1,h2,h3,h4,h5,h6,h=>by
  unfold Hi at h;have fin:some (l,w,seq)=some (l',w',seq')->GI g l' a.seq a.pos/\seq'=a.seq+l'.length/\usedM l'<=g.sl:=fun h=>by
   injection h with h
   injection h with e1 h
   injection h with e2 e3
   subst e1;subst e3;exact⟨h1,h3,by omega⟩
  by_cases hc:0<left/\seq<=4294967295
  ·rw [if_pos hc] at h;simp only at h;have tf:=QH (a:=a) (x:=x) (y:=y) (seq:=seq) (left:=left) hg h6;have ti:=fun e=>SP (a:=a) (x:=x) (y:=y) (seq:=seq) (left:=left) hg h6 e
   generalize Ip g a x y pos seq left=q at tf ti h;obtain⟨how,n,im,ws⟩:=q;simp only at tf ti h;rcases tf with ⟨rfl,t1,t2⟩ | tf
   ·rw [if_neg (by decide),if_neg (by decide)] at h;have hi:=ti rfl;obtain⟨g1,g2,g3,g4,g5⟩:=A2.1 hg;have hm:=Bz (pos+n) (show 0<g.sl by omega);have hm0:=BF g.sl (show 0<=pos+n by omega);refine Kx hg f _ _ _ _ _ (N4 g l a.seq a.pos ⟨seq,pos,n,im⟩ h1 ⟨h3,h2,by simp only;omega,t1.1⟩) ?_ ?_ ?_ (by omega) ⟨hm0,hm⟩ h
    ·rw [Se,<-h2]
    ·rw [Ah];simp only [Ao,AN];omega
    ·rw [used_app];simp only;omega
   ·by_cases h3':how=3
    ·rw [if_pos h3'] at h;cases h
    ·rw [if_neg h3',if_pos (by omega)] at h;exact fin h
  ·rw [if_neg hc] at h;exact fin h






section
variable {g:Geo} {a:An} {fill:UInt8} {sizes:List Int}
end
section
variable {g:Geo} {a:An} {fill:UInt8} {sizes:List Int}
end
section
variable {g:Geo} {a:An} {fill:UInt8} {sizes:List Int}
end
theorem L8 {g:Geo} {c s:Int} (hc:c=0\/c=1) (hs:0<=s/\s<g.sl):IY g c s=true:=by
 rw [IY,AK.2 (show 0<=s/\s<=g.sl - 1 by omega)];rcases hc with rfl | rfl <;> rfl
theorem Cc {g:Geo} {r:Rc} (h:EN g r=true) (copy slot:Int):(B5 g r copy slot).length<=200:=by
 have:=EL h;rw [B5,EK];omega
section
variable {g:Geo} {a:An} {p q:Int->Option Rc} {p0:Int}
end

theorem FB {g:Geo} {a:An} (h:B7 g a=true):(0<=a.gen/\a.gen<=4294967295)/\(0<=a.epoch/\a.epoch<=4294967295)/\(1<=a.seq/\a.seq<=4294967295)/\(0<=a.last/\a.last<=4294967295/\a.seq - 1<=a.last)/\(0<=a.pos/\a.pos<g.sl)/\(a.homes.length:Int)=g.z/\∀ x∈a.homes,EP g x=true:=by
 simp only [B7,AR,BA,Ad,AK,decide_eq_true_eq,Av] at h;obtain⟨⟨q1,q2,q3,q4, -⟩,q5,q6,q7,q8,q9,q10⟩:=h;exact⟨q1,q2,⟨q5,q3.2⟩,⟨q4.1,q4.2,q6⟩,⟨q7.1,by omega⟩,q9,q10⟩
theorem KG {g:Geo} {a:An} (hg:Bq g=true) (h:B7 g a=true):∀ x∈a.homes,x.places.length<=1000000:=by
 obtain⟨h1,h2,h3,h4,h5⟩:=A2.1 hg;intro x hx;have:=(FB h).2.2.2.2.2.2 x hx;simp only [EP,Ad,decide_eq_true_eq] at this;omega

theorem MU {g:Geo} {a:An} {x y:List Gt}:∀ (f:Nat) (pos seq left:Int) (l:List Tx) (w:List Wr) {l':List Tx} {w':List Wr} {seq':Int},seq<=4294967296->Hi g a x y f pos seq left l w=some (l',w',seq')->seq'<=4294967296
 | 0,pos,seq,left,l,w,l',w',seq',h1,h=>by
  unfold Hi at h
  grind
 | f+1,pos,seq,left,l,w,l',w',seq',h1,h=>by
  unfold Hi at h;have fin:some (l,w,seq)=some (l',w',seq')->seq'<=4294967296:=fun h=>by
   grind
  by_cases hc:0<left/\seq<=4294967295
  ·rw [if_pos hc] at h;simp only at h;generalize Ip g a x y pos seq left=q at h;split at h
   ·cases h
   ·split at h
    ·grind
    ·exact MU f _ _ _ _ _ (by omega) h
  ·grind
theorem QS {g:Geo} {a:An} {x y:List Gt} (hg:Bq g=true) (ha:B7 g a=true) (h:(Hh g a x y).2.2=0):a.last<=a.seq+(Hh g a x y).1.length - 1/\a.seq+(Hh g a x y).1.length - 1<=4294967295:=by
 obtain⟨g1,g2,g3,g4,g5⟩:=A2.1 hg;have hq:=Wt ha;have hp:=FB ha;unfold Hh at h |-
 cases hR:Hi g a x y g.sl.toNat a.pos a.seq g.sl [] [] with
 | none=>rw [hR] at h;simp [VR,damaged] at h
 | some q=>
  obtain⟨l,w,seq⟩:=q;rw [hR] at h;obtain⟨c1,c2,c3⟩:=Kx hg _ _ _ _ _ _ (l':=l) (w':=w) (seq':=seq) (show GI g [] a.seq a.pos from trivial) rfl (by simp) (by simp [usedM]) (by omega) hq.2 hR;have hm:=MU _ _ _ _ _ _ (by omega) hR;by_cases hl:seq - 1<a.last
  ·rw [VQ hl] at h;simp [damaged] at h
  ·rw [Mp hl]
   grind
def Ec (a:An) (n:Nat):An:={ a with gen:=a.gen+1,epoch:=a.epoch+1,last:=a.seq+n - 1 }
theorem PC {g:Geo} {a:An} {n:Nat} (ha:B7 g a=true) (h1:a.gen≠4294967295) (h2:a.epoch≠4294967295) (h3:a.seq+n - 1<=4294967295):B7 g (Ec a n)=true:=by
 have hp:=FB ha;simp only [B7,AR,BA,Ad,AK,decide_eq_true_eq] at ha;simp only [B7,AR,BA,Ad,AK,decide_eq_true_eq];obtain⟨⟨q1,q2,q3,q4,q11⟩,q5,q6,q7,q8,q9,q10⟩:=ha;refine⟨⟨?_,?_,q3,?_,q11⟩,q5,?_,q7,q8,q9,q10⟩
 ·show 0<=a.gen+1/\a.gen+1<=4294967295;omega
 ·show 0<=a.epoch+1/\a.epoch+1<=4294967295;omega
 ·show 0<=a.seq+n - 1/\a.seq+n - 1<=4294967295;omega
 ·show a.seq - 1<=a.seq+n - 1;omega
def AO (a:An) (t:List Tx):Stt:=⟨a,t,false,0,0,0,0, []⟩
def Rj (g:Geo) (a:An) (t:List Tx) (d:Dk):Dk × Int × Stt:=
 if a.gen=4294967295\/a.epoch=4294967295 then (d,14,st0) else
 let q:=d.putAll (AU g (Ec a t.length))
 if q.2.2 then (q.1,8,st0) else if q.2.1=0 then (q.1,14,st0) else (q.1,0,AO (Ec a t.length) t)
def Rk (g:Geo) (a:An) (q:List Tx × List Wr × Int) (d:Dk):Dk × Int × Stt:=
 if q.2.2≠0 then (d,q.2.2,st0) else
 if (d.mend q.2.1).2 then ((d.mend q.2.1).1,8,st0) else Rj g a q.1 (d.mend q.2.1).1
def Rl (g:Geo) (a:An) (d:Dk):Dk × Int × Stt:=
 if d.live (2*g.sl.toNat) then Rk g a (Hh g a (B8 d (BI g 0)) (B8 d (BI g 1))) (d.adv (2*g.sl.toNat)) else (d.adv (2*g.sl.toNat),8,st0)
def JV (g:Geo) (d:Dk):Dk × Int × Stt:=
 if d.live g.an.toNat then
  match Gf g (B8 d (Do g)) with
  | none=>(d.adv g.an.toNat,11,st0)
  | some (a,_)=>Rl g a (d.adv g.an.toNat)
 else (d.adv g.an.toNat,8,st0)
theorem U8 {g:Geo} {x:Gt} {i:Int} {a:An} (hg:Bq g=true) (h:DK g x i=some a):B7 g a=true:=by
 unfold DK at h;split at h
 ·cases hR:DM g (Cx x.bytes) with
  | none=>rw [hR] at h;cases h
  | some b=>
   rw [hR] at h;simp only at h;split at h
   ·cases h;exact(Ra hg hR).1
   ·cases h
 ·cases h
theorem K_ {g:Geo} {l:List Gt} (hg:Bq g=true):∀ (k:Nat) {a:An} {j:Nat},EF g l k=some (a,j)->B7 g a=true
 | 0,a,j,h=>by cases h
 | k+1,a,j,h=>by
  rw [ID,P1] at h;cases hS:DK g (l.getD k ⟨0, []⟩) (k:Nat) with
  | none=>rw [hS] at h;exact K_ hg k h
  | some b=>
   have hb:=U8 hg hS;rw [hS] at h;cases hP:EF g l k with
   | none=>rw [hP] at h;cases h;exact hb
   | some q=>
    obtain⟨c,i⟩:=q;rw [hP] at h;simp only at h;split at h
    ·grind
    ·cases h;exact K_ hg k hP
theorem PV {d:Dk} (h:DkOk d) (l:List Int):∀ x∈B8 d l,x.bytes.length<=100000:=by
 intro x hx;simp only [B8,AI] at hx;obtain⟨a,_,rfl⟩:=hx;have:=TL h a;show (d.got a).1.length<=_;omega
theorem YH {m:Nat} {i:Nat} (hi:Nat.blt i m=true) (h:Nat.ble 3 m=true):∀ z∈ [0,1,2,i],z<m:=fun z hz=>by
 have:=Ae h;have:=Ae hi;simp at hz;omega
structure StSm (s:Stt):Prop where
 h:s.a.homes.length<=4/\∀ h∈s.a.homes,h.places.length<=1000000
 l:s.a.label.size<=24
 t:s.txns.length<=30/\∀ t∈s.txns,t.images.length<=30/\∀ i∈t.images,i.bytes.length<=59
 o:s.lost.length<=1000000
@[reducible] def bwD (g:Geo) (s:Stt) (d:Dk):List AB:= [.box 99 (Za g (.bp 1 0) s), .box 119 (Lg (.ow 2 d.cells.length) (.ow 4 d.cache.length) d.reqs d.left), .dead, .dead, .dead]
def dk0:Dk:=⟨[], [],0,0⟩
def ze (n:Int):AV:= iv n
def nilV:AV:= .v (.slice none 0 0)
theorem ConvF.cap {fr:Fr} {H H':List AB} (i k:Nat) {y:AV} (hx:fget fr i = .bp k 0) (h:capK [.bp k 0] H fun l H2=>l=[y]/\H2=H'):ConvF fr H ((i,y)::fr) H':=fun _ _ c _ a hs hf=>by
 have hr:RdL [.bp k 0] c [a.tmps.getD i undef]:=by
  simp only [RdL];exact⟨_,_,rfl,hx ▸ hf.get i,rfl⟩
 obtain⟨l',H1,c1,⟨rfl,rfl⟩,e1,s1,x1,r⟩:=capK_sound hs hr h;simp only [RdL] at r;obtain⟨u,us,e,r1,rfl⟩:=r;injection e with e _
 subst e;exact⟨c1,e1,s1,(hf.ext x1).cons i _ r1,x1⟩
def zg:=@ConvF.cap
def CO (g:Geo):List Tx->Int->Int->Int->Bool
 | [],_,_,_=>true
 | t::r,seq,pos,left=>(decide (t.seq=seq)&&(decide (t.seq<=4294967295)&&(decide (t.pos=pos)&&(decide (2<=t.n)&&(decide (t.n<=left)&&(decide (t.n=t.images.length+1)&&t.images.all (BW g)))))))&&CO g r (seq+1) ((pos+t.n).tmod g.sl) (left - t.n)
theorem UB (g:Geo) (x:Img) (hx:x.bytes.length<=100000):Fn Tryz.prog 224 [.ag (GV x), .rp (Bm g)] fun r=>r = .v (.bool (!BW g x)):=by
 have h:=Ka g x hx;refine zT Tryz.func224 rfl ?_;conv=>whnf
 refine zY h ?_;conv=>whnf
 cases BW g x with
 | true=>exact⟨_,ri,rfl⟩
 | false=>exact⟨_,ri,rfl⟩
theorem Y8 (l:List Img) (g:Geo) (hb:∀ x∈l,x.bytes.length<=100000) (hl:l.length<=1000000):Fn Tryz.prog 305 [Fb l, .fn 224 [.rp (Bm g)]] fun r=>r = iv (Nk (fun x=>!BW g x) l):=by
 refine zT Tryz.func305 rfl ?_;conv=>whnf
 refine zP Nat (fun k=>([(0,Fb l),(1, .fn 224 [.rp (Bm g)]),(7,iv l.length),(8,iv k)], [])) (fun k=>k<=l.length/\(l.take k).any (fun x=>!BW g x)=false) (fun k=>l.length - k) 0 ⟨Aj _,by simp⟩ ⟨[],tv,tA,tv,rfl,rfl,rfl⟩ ?_;rintro k ⟨hk,hI⟩;conv=>whnf
 refine Ak (fun h2=>?_) (fun h2=>?_) <;> simp at h2 <;> conv=>whnf
 ·refine⟨by first | omega | (refine⟨rfl,?_,?_⟩ <;> first | omega | (simp only [Aa];done) | (simp only [Aa];omega)) | (simp only [Aa];omega),?_⟩;conv=>whnf
  refine zx (UB g (l.getD k ⟨0,0, []⟩) (hb _ (AC h2))) rfl ?_;rintro _ rfl;conv=>whnf
  refine Ak (fun h3=>?_) (fun h3=>?_) <;> conv=>whnf
  ·exact⟨_,ri,by rw [Er (d:=⟨0,0, []⟩) h2 hI (by first | exact h3 | (rw [Ac] at h3;exact h3) | simpa using h3)]⟩
  ·refine⟨k+1,⟨by omega,Cj (d:=⟨0,0, []⟩) h2 hI (by first | exact h3 | (rw [Ac] at h3;exact h3) | simpa using h3)⟩,by omega, [],tv,⟨rfl,rfl,rfl,AT (by omega),tv⟩,tv,rfl,rfl,rfl⟩
 ·exact⟨_,ri,by rw [At h2] at hI;rw [Dz hI]⟩
theorem Y9 (l:List Img) (g:Geo) (hb:∀ x∈l,x.bytes.length<=100000) (hl:l.length<=1000000):Fn Tryz.prog 225 [Fb l, .fn 224 [.rp (Bm g)]] fun r=>r = .v (.bool (l.any (fun x=>!BW g x))):=by
 refine zT Tryz.func225 rfl ?_;conv=>whnf
 refine zY (Y8 l g hb hl) ?_;exact⟨_,ri,by rw [FQ]⟩

theorem NO (g:Geo) (a:An) (l:List Tx) (hl:a.label.size<=1000000) (hh:a.homes.length<=1000000) (hn:l.length<=1000000) (hi:∀ t∈l,t.images.length<=1000000/\∀ x∈t.images,x.bytes.length<=100000):Fn Tryz.prog 140 [.ag (Bm g), .ag (Fp a),Ej l] fun r=>r = .v (Ew ((Bq g&&B7 g a)&&CO g l a.seq a.pos g.sl)):=by
 have hA:=Gu g a hl hh;cases hga:Bq g&&B7 g a with
 | false=>
  rw [hga] at hA;rw [Dd];refine zT Tryz.func140 rfl ?_;conv=>whnf
  refine zY hA ?_;exact⟨_,ri,rfl⟩
 | true=>
  rw [hga] at hA;rw [BB];obtain⟨hg,ha⟩:=Bool.and_eq_true_iff.1 hga;obtain⟨g1,g2,g3,g4,g5⟩:=A2.1 hg;have hp:=FB ha;refine zT Tryz.func140 rfl ?_;conv=>whnf
  refine zY hA ?_;conv=>whnf
  refine zH tys_ok mixed (by kernel_rfl) ?_;conv=>whnf
  refine zR (Nat × Int × Int × Int) (fun x=>([(2,Ej l),(3, .rp (Bm g)),(8,iv x.2.1),(9,iv x.2.2.1),(10,iv x.2.2.2),(26,Ej l),(27,iv l.length),(28,iv x.1)], []))
   (fun x=>x.1<=l.length/\(0<=x.2.1/\x.2.1<g.sl)/\(0<=x.2.2.1/\x.2.2.1<=4294967296)/\(0<=x.2.2.2/\x.2.2.2<=30)/\CO g l a.seq a.pos g.sl=CO g (l.drop x.1) x.2.2.1 x.2.1 x.2.2.2) (fun x=>l.length - x.1) (0,a.pos,a.seq,g.sl) ⟨Aj _,by show 0<=a.pos/\a.pos<g.sl;omega,by show 0<=a.seq/\a.seq<=4294967296;omega,by show 0<=g.sl/\g.sl<=30;omega,rfl⟩
   ?_ ?_
  ·exact zK (zg 3 0 (y:= .rp (Bm g)) rfl (by (conv=>whnf);exact tA)) (s:= []) tA
  rintro⟨k,pos,seq,left⟩ ⟨hk,b1,b2,b3,hI⟩;simp only at hk b1 b2 b3 hI |-
  conv=>whnf
  refine AS (fun h6=>?_) (fun h6=>?_) <;> (repeat rw [Ac] at h6) <;> conv=>whnf
  ·have hk':k<l.length:=by omega
   have hm:=hi _ (AC (d:=(⟨0,0,0, []⟩:Tx)) hk');have hdr:l.drop k=l.getD k ⟨0,0,0, []⟩::l.drop (k+1):=by
    rw [Ab,Af hk'];exact BE hk'
   rw [hdr,CO] at hI;repeat' (refine zZ ?_;conv=>whnf)
   refine⟨⟨by omega,by omega⟩,?_⟩;conv=>whnf
   rw [Ac];generalize l.getD k ⟨0,0,0, []⟩=t at hm hI |-
   have hcf:=Y9 t.images g hm.2 hm.1;rw [show (t.images.any fun x=>!BW g x) = !t.images.all (BW g) by rw [Bx,Bool.not_not]] at hcf;have wn:IntKind.i64.wrap ((t.images.length:Int)+1)=t.images.length+1:=wi (by omega);generalize hAll:t.images.all (BW g)=Q at hcf hI;generalize hC:(decide (t.seq=seq)&&(decide (t.seq<=4294967295)&&(decide (t.pos=pos)&&(decide (2<=t.n)&&(decide (t.n<=left)&&(decide (t.n=t.images.length+1)&&Q))))))=C at hI;clear hAll hm hi hdr hA;conv=>whnf
   repeat' (refine zZ ?_;conv=>whnf)
   repeat' (first | (refine Ak (fun h=>?_) (fun h=>?_) <;> (try simp at h) <;> conv=>whnf) | (refine zZ ?_;conv=>whnf) | (refine zY hcf ?_;conv=>whnf))
   all_goals try (exact⟨_,ri,by rw [hI,show C=false by (rw [<-hC,<-CU];clear hI hC hcf;simp [*] <;> omega)];try rfl⟩)
   have hC1:C=true:=by rw [<-hC];clear hI hC hcf;simp [*] <;> omega
   rw [hC1,BB] at hI;have wn':t.n=t.images.length+1:=by omega
   have w1:IntKind.i64.wrap (pos+t.n)=pos+t.n:=wi (by omega);have w2:IntKind.i64.wrap (seq+1)=seq+1:=wi (by omega);have w3:IntKind.i64.wrap (left - t.n)=left - t.n:=wi (by omega);apply zW (0) tys_ok mixed (.o [0,1,2,3,4,5,6,7,8,9,10,11,12,13,14,15] .fin) (by kernel_rfl);conv=>whnf
   try (refine tI ?_;conv=>whnf)
   rw [w1,w2,w3];have hq1:=BF g.sl (show 0<=pos+t.n by omega);have hq2:=Bz (pos+t.n) (show 0<g.sl by omega);exact⟨(k+1,(pos+t.n).tmod g.sl,seq+1,left - t.n),⟨hk',⟨hq1,hq2⟩,(show 0<=seq+1/\seq+1<=4294967296 by omega),(show 0<=left - t.n/\left - t.n<=30 by omega),hI⟩,(show l.length - (k+1)<l.length - k by omega),zQ (s:= []) ⟨⟨rfl,rfl,rfl,rfl,rfl,rfl,rfl,AT (by omega),tv⟩,tv,rfl,rfl,rfl,rfl,rfl⟩⟩
  ·have ek:k=l.length:=by omega
   subst ek;exact⟨_,ri,by rw [hI,List.drop_length];try rfl⟩
theorem Xq (n id:Int):Fn Tryz.prog 283 [iv n, .rp [iv id]] fun r=>r = .v (.bool (n != id)):=by
 refine zT Tryz.func283 rfl ?_;exact⟨_,ri,rfl⟩
theorem YG (l:List Int) (id:Int) (hl:l.length<=1000000):Fn Tryz.prog 152 [iA l, .fn 283 [.rp [iv id]]] fun r=>r = iv (Nk (fun n=>n != id) l):=by
 refine zT Tryz.func152 rfl ?_;conv=>whnf
 refine zP Nat (fun k=>([(0,iA l),(1, .fn 283 [.rp [iv id]]),(7,iv l.length),(8,iv k)], [])) (fun k=>k<=l.length/\(l.take k).any (fun n=>n != id)=false) (fun k=>l.length - k) 0 ⟨Aj _,by simp⟩ ⟨[],tv,tA,tv,rfl,rfl,rfl⟩ ?_;rintro k ⟨hk,hI⟩;conv=>whnf
 refine Ak (fun h2=>?_) (fun h2=>?_) <;> simp at h2 <;> conv=>whnf
 ·refine⟨by first | omega | (refine⟨rfl,?_,?_⟩ <;> first | omega | (simp only [Aa];done) | (simp only [Aa];omega)) | (simp only [Aa];omega),?_⟩;conv=>whnf
  refine zY (Xq (l.getD k 0) id) ?_;conv=>whnf
  refine Ak (fun h3=>?_) (fun h3=>?_) <;> conv=>whnf
  ·exact⟨_,ri,by rw [Er (d:=0) h2 hI (by first | exact h3 | (rw [Ac] at h3;exact h3) | simpa using h3)]⟩
  ·refine⟨k+1,⟨by omega,Cj (d:=0) h2 hI (by first | exact h3 | (rw [Ac] at h3;exact h3) | simpa using h3)⟩,by omega, [],tv,⟨rfl,rfl,rfl,AT (by omega),tv⟩,tv,rfl,rfl,rfl⟩
 ·exact⟨_,ri,by rw [At h2] at hI;rw [Dz hI]⟩
theorem Rm (l:List Int) (id:Int) (hl:l.length<=1000000):Fn Tryz.prog 284 [iA l, .fn 283 [.rp [iv id]]] fun r=>r = .v (.bool (l.any (fun n=>n != id))):=by
 refine zT Tryz.func284 rfl ?_;conv=>whnf
 refine zY (YG l id hl) ?_;exact⟨_,ri,by rw [FQ]⟩

def ZR (l:List Lck) (y id:Int):List Lck:=if GE l y then l.set (Ef (l.map Lck.lba) y) ⟨(l.getD (Ef (l.map Lck.lba) y) lz).lba, [],id⟩ else l ++ [⟨y, [],id⟩]
def VH (l:List Lck) (y id:Int):Bool:=!GE l y || (((l.getD (Ef (l.map Lck.lba) y) lz).writer == -1 || (l.getD (Ef (l.map Lck.lba) y) lz).writer == id)&&!(l.getD (Ef (l.map Lck.lba) y) lz).reads.any (fun n=>n != id))
theorem Tt {l:List Lck} {p:Nat} {qb id:Int} (hp:p<l.length) (c:Ctx) (u:Value) (h:Rd (.sl 3 l.length fun i=>((l.map DX).set p [iv qb, .v (.slice none 0 0),iv id]).getD i []) c u):Rd (BH (l.set p ⟨qb, [],id⟩)) c u:=by
 refine yW (Bl).symm (fun i hi=>?_) h;rw [<-AP (f:=DX) (d:=lz) (e:= []) (by rw [Bl];omega),List.map_set];by_cases e:i=p
 ·subst e;rw [BK (by rw [Aa];exact hp),BK (by rw [Aa];exact hp)];exact⟨fun _ _ h=>h,Bv 1 _,fun _ _ h=>h,tv⟩
 ·rw [DQ (Ne.symm e),DQ (Ne.symm e)];exact SubL.refl _
theorem Tu {l:List Lck} {y id:Int} (c:Ctx) (u:Value) (h:Rd (.sl 3 (l.length+1) fun i=>(l.map DX ++ [[AV.v (.int .i64 y),AV.v (.slice none 0 0),AV.v (.int .i64 id)]]).getD i []) c u):Rd (BH (l ++ [⟨y, [],id⟩])) c u:=by
 refine yW (by rw [Ah];try rfl) (fun i hi=>?_) h;rw [<-AP (f:=DX) (d:=lz) (e:= []) (by rw [Ah];exact hi),A0];by_cases e:i<l.length
 ·rw [EB (by rw [Aa];exact e),EB (by rw [Aa];exact e)];exact SubL.refl _
 ·obtain rfl:i=l.length:=by omega
  rw [Dj (by rw [Aa];omega),Dj (by rw [Aa];omega),Aa,B9];exact⟨fun _ _ h=>h,Bv 1 _,fun _ _ h=>h,tv⟩
theorem JX (l:List Lck) (y id:Int) (h:LkI l y) (hid:0<=id) (hf:VH l y id=true):Fn Tryz.prog 202 [BH l,iv id,iv y] fun r=>r = .tp [BH (ZR l y id),iv 0]:=by
 have c1:=DW l h.ok;have c2:=F4 l y h;have hlen:=h.len;have hy:=h.yb;have hc:=Rm (l.getD (Ef (l.map Lck.lba) y) lz).reads id;unfold ZR;unfold VH at hf;unfold P9 at c2;cases hh:GE l y with
 | true=>
  have hp:=Ld hh;obtain⟨p,hpe⟩:∃ p,p=Ef (l.map Lck.lba) y:=⟨_,rfl⟩;rw [hh,if_pos rfl,Aa] at c2;rw [hh] at hf;rw [if_pos rfl];rw [<-hpe] at c2 hf hp hc |-
  have hE:(l.map DX).getD p []=DX (l.getD p lz):=AP hp;have hrd:=(h.one _ (AC (d:=lz) hp)).1;replace hc:=hc (by omega);obtain⟨q,hq⟩:∃ q,q=l.getD p lz:=⟨_,rfl⟩;rw [<-hq] at hE hrd hf hc |-
  simp only [Bool.not_true,Bool.false_or,Ad,Cf,Bool.or_eq_true,beq_iff_eq] at hf;obtain⟨hf1,hf2⟩:=hf;rw [hf2] at hc;refine zT Tryz.func202 rfl ?_;conv=>whnf
  refine zY c1 ?_;conv=>whnf
  rw [decide_eq_false (show ¬id<0 by omega)];conv=>whnf
  rw [decide_eq_false (show ¬y<0 by omega)];conv=>whnf
  refine zX c2 rfl ?_;rintro _ _ ⟨rfl,rfl⟩;conv=>whnf
  refine y_ Unit (fun _=>([(4, .rp [iv id]),(8, .ow 0 l.length),(11, .ep 0 l.length p 3 0)], [.row 216 3 (l.map DX)])) (fun _=>True) ?_ ?_
  ·refine⟨⟨by omega,by omega⟩,?_⟩;conv=>whnf
   exact⟨(),tv,zK (zg 4 0 (y:= .rp [iv id]) rfl (by (conv=>whnf);exact tA)) (s:= [1]) tA⟩
  rintro _ -
  have hib:(id != -1)=true:=bne_iff_ne.2 (by omega);have hii:(id != id)=false:=by simp
  obtain⟨qb,qr,qw⟩:=q;simp only at hf1 hf2 hrd hc;have hD:∀ e,((l.map DX).set p e).getD p []=e:=fun e=>BK (by rw [Aa];exact hp)
  have hfin:SubL [.sl 3 l.length fun i=>((l.map DX).set p [iv qb, .v (.slice none 0 0),iv id]).getD i [],iv 0] [BH (l.set p ⟨qb, [],id⟩),iv 0]:=⟨Tt hp,ri,tv⟩;rcases hf1 with e | e
  ·subst e;conv=>whnf
   apply zW (0) tys_ok mixed (.o [0,1,2,3,4,5,6,7,8,9,10,11,12,13,14,15,16,17,18,19,20] .fin) (by kernel_rfl);conv=>whnf
   try (first | (refine Ai ⟨rfl,(Aa _).symm,hp⟩ ?_;(conv=>whnf);rw [hE]) | skip;conv=>whnf)
   try (first | (refine Ai ⟨rfl,(Aa _).symm,hp⟩ ?_;(conv=>whnf);rw [hE]) | skip;conv=>whnf)
   try (first | (refine Ai ⟨rfl,(Aa _).symm,hp⟩ ?_;(conv=>whnf);rw [hE]) | skip;conv=>whnf)
   try (first | (refine Ai ⟨rfl,(Aa _).symm,hp⟩ ?_;(conv=>whnf);rw [hE]) | skip;conv=>whnf)
   refine zY hc ?_;conv=>whnf
   apply zW (4) tys_ok mixed (.o [0,1,3,4] (.two 2 (.o [5,6,7,8] .fin) 5 (.o [2,6,7,8] .fin))) (by kernel_rfl);refine Ai ?_ ?_;conv=>whnf
   try (refine tS ?_;conv=>whnf)
   (first | rw [hE] | rw [hD] | skip)
   conv=>whnf
   try (refine tS ?_;conv=>whnf)
   (first | rw [hE] | rw [hD] | skip)
   conv=>whnf
   rotate_left 1;conv=>whnf
   try (refine tS ?_;conv=>whnf)
   (first | rw [hE] | rw [hD] | skip)
   conv=>whnf
   try (refine tS ?_;conv=>whnf)
   (first | rw [hE] | rw [hD] | skip)
   conv=>whnf
   rotate_left 1;all_goals
    refine⟨(by rw [Bl,Bl,Aa]),?_⟩;conv=>whnf
    rw [List.set_set];exact⟨_,BV hfin,rfl⟩
  ·have e2:=e.symm;subst e2;conv=>whnf
   apply zW (0) tys_ok mixed (.o [0,1,2,3,4,5,6,7,8,9,10,11,12,13,14,15,16,17,18,19,20] .fin) (by kernel_rfl);conv=>whnf
   try (first | (refine Ai ⟨rfl,(Aa _).symm,hp⟩ ?_;(conv=>whnf);rw [hE];(conv=>whnf);first | rw [hib] | rw [hii] | skip) | (rw [hii]) | skip;conv=>whnf)
   try (first | (refine Ai ⟨rfl,(Aa _).symm,hp⟩ ?_;(conv=>whnf);rw [hE];(conv=>whnf);first | rw [hib] | rw [hii] | skip) | (rw [hii]) | skip;conv=>whnf)
   try (first | (refine Ai ⟨rfl,(Aa _).symm,hp⟩ ?_;(conv=>whnf);rw [hE];(conv=>whnf);first | rw [hib] | rw [hii] | skip) | (rw [hii]) | skip;conv=>whnf)
   try (first | (refine Ai ⟨rfl,(Aa _).symm,hp⟩ ?_;(conv=>whnf);rw [hE];(conv=>whnf);first | rw [hib] | rw [hii] | skip) | (rw [hii]) | skip;conv=>whnf)
   refine zY hc ?_;conv=>whnf
   apply zW (4) tys_ok mixed (.o [0,1,3,4] (.two 2 (.o [5,6,7,8] .fin) 5 (.o [2,6,7,8] .fin))) (by kernel_rfl);refine Ai ?_ ?_;conv=>whnf
   try (refine tS ?_;conv=>whnf)
   (first | rw [hE] | rw [hD] | skip)
   conv=>whnf
   try (refine tS ?_;conv=>whnf)
   (first | rw [hE] | rw [hD] | skip)
   conv=>whnf
   rotate_left 1;conv=>whnf
   try (refine tS ?_;conv=>whnf)
   (first | rw [hE] | rw [hD] | skip)
   conv=>whnf
   try (refine tS ?_;conv=>whnf)
   (first | rw [hE] | rw [hD] | skip)
   conv=>whnf
   rotate_left 1;all_goals
    refine⟨(by rw [Bl,Bl,Aa]),?_⟩;conv=>whnf
    rw [List.set_set];exact⟨_,BV hfin,rfl⟩
 | false=>
  have hp:=h.fin.resolve_left (by rw [hh];decide);have hc0:=Rm [] id (Aj _);rw [hh,if_neg (by decide),hp,Ah,Aa,C6] at c2;rw [if_neg (by decide)];have hib:(id != -1)=true:=bne_iff_ne.2 (by omega);have hE:∀ e,(l.map DX ++ [e]).getD l.length []=e:=fun e=>by rw [Dj (by rw [Aa];omega),Aa,B9];try rfl
  have hS:∀ e e',(l.map DX ++ [e]).set l.length e'=l.map DX ++ [e']:=fun e e'=>by
   rw [C5 _ _ (by rw [Aa];omega),Aa,B9];try rfl
  have hN:∀ e:List AV,l.length+1=(l.map DX ++ [e]).length:=fun e=>by rw [Ah,Aa];try rfl
  refine zT Tryz.func202 rfl ?_;conv=>whnf
  refine zY c1 ?_;conv=>whnf
  rw [decide_eq_false (show ¬id<0 by omega)];conv=>whnf
  rw [decide_eq_false (show ¬y<0 by omega)];conv=>whnf
  refine zX c2 rfl ?_;rintro _ _ ⟨rfl,rfl⟩;conv=>whnf
  refine y_ Unit (fun _=>([(4, .rp [iv id]),(8, .ow 0 (l.length+1)),(11, .ep 0 (l.length+1) l.length 3 0)], [.row 216 3 (l.map DX ++ [[iv y, .v (.slice none 0 0),iv (-1)]])])) (fun _=>True) ?_ ?_
  ·refine⟨⟨by omega,by omega⟩,?_⟩;conv=>whnf
   exact⟨(),tv,zK (zg 4 0 (y:= .rp [iv id]) rfl (by (conv=>whnf);exact tA)) (s:= [1]) tA⟩
  rintro _ -
  conv=>whnf
  apply zW (0) tys_ok mixed (.o [0,1,2,3,4,5,6,7,8,9,10,11,12,13,14,15,16,17,18,19,20] .fin) (by kernel_rfl);conv=>whnf
  try (first | (refine Ai ⟨rfl,hN _,Br _⟩ ?_;(conv=>whnf);rw [hE]) | skip;conv=>whnf)
  try (first | (refine Ai ⟨rfl,hN _,Br _⟩ ?_;(conv=>whnf);rw [hE]) | skip;conv=>whnf)
  try (first | (refine Ai ⟨rfl,hN _,Br _⟩ ?_;(conv=>whnf);rw [hE]) | skip;conv=>whnf)
  try (first | (refine Ai ⟨rfl,hN _,Br _⟩ ?_;(conv=>whnf);rw [hE]) | skip;conv=>whnf)
  (refine zV [iA [], .fn 283 [.rp [iv id]]] ⟨Bv 1 _,ri,tv⟩ ?_;refine zY hc0 ?_)
  conv=>whnf
  apply zW (4) tys_ok mixed (.o [0,1,3,4] (.two 2 (.o [5,6,7,8] .fin) 5 (.o [2,6,7,8] .fin))) (by kernel_rfl);refine Ai ?_ ?_;conv=>whnf
  try (refine tS ?_;conv=>whnf)
  (first | rw [hE] | rw [hS,hE] | skip)
  conv=>whnf
  try (refine tS ?_;conv=>whnf)
  (first | rw [hE] | rw [hS,hE] | skip)
  conv=>whnf
  rotate_left 1;conv=>whnf
  try (refine tS ?_;conv=>whnf)
  (first | rw [hE] | rw [hS,hE] | skip)
  conv=>whnf
  try (refine tS ?_;conv=>whnf)
  (first | rw [hE] | rw [hS,hE] | skip)
  conv=>whnf
  rotate_left 1;all_goals
   refine⟨by simp,?_⟩;conv=>whnf
   repeat rw [hS]
   exact⟨_,BV (m:= [BH (l ++ [⟨y, [],id⟩]),iv 0]) ⟨Tu,ri,tv⟩,rfl⟩
end
end Go.Proofs.YtpjkcgacjjbikaaGreatDoor.A
namespace Go.Proofs.YtpjkcgacjjbikaaGreatDoor
section
open Go.RowKit
attribute [local go_sem ↓] Go.wp_at_zero Go.wp_at_succ

theorem NK {P:Program} (w:World) (g o:Nat) (t:TypeId) (cur:Array Value) (vs:List Value) (hg:w.heap[g]? = some (.cells cur t (0,0))) (hl:o+vs.length<=cur.size) (h1:∀ u∈vs,u.oneCell'=true) :
  w.setCells g o vs=w.setRow g (QP cur.toList o vs).toArray:=by
 have a:=run_storeCells_at P g o t vs 0 cur w hg (by simpa using hl) h1;have b:=run_storeCells_cells (P:=P) g o vs 0 w (fun j hj=>by rw [Ca,cell_of_row w g _ cur t (0,0) hg,Ce (by omega)];try rfl) (fun j hj=>frozen_of_row w g _ cur t hg) h1;rw [a] at b;simp only [Ca] at b;injection b with _ b
 rw [<-b,P5 (by simpa using hl)]
theorem K0 {P:Program} (w:World) (t e ty:TypeId) (z:Value) (sz:Nat) (ht:P.underlying t=some (.slice e)) (hv:∀ w,(zeroValue e).run P w = .ok z w) (hz:z.cells.size=sz) (h1:∀ u∈z.cells.toList,u.oneCell'=true) (g o c:Nat) (et:TypeId) (cur:Array Value)
  (hg:w.heap[g]? = some (.cells cur et (0,0))) (hl:o+sz<=cur.size) :
  (Builtin.clear_ #[t] ty #[.slice (some ⟨g,o,none⟩) 1 c]).run P w = .ok (.tuple #[]) (w.setRow g (QP cur.toList o z.cells.toList).toArray):=by
 have hzc:(Builtin.zeroCells z.cells 1).toList=z.cells.toList:=by
  simp [Builtin.zeroCells];apply List.ext_getElem
  ·simp
  ·intro i h1 h2;simp at h1;simp [Nat.mod_eq_of_lt h1,h1]
 have hst:=run_storeCells_at P g o et z.cells.toList 0 cur w hg (by simp;omega) h1;simp only [Ca] at hst;rw [P5 (by simp;omega)] at hst;simp [Builtin.clear_,run_underlying ht,hv,hzc,hst]
theorem T_ {xs cur:List Value} {n i sz:Nat} {z:List Value} (hx:xs.length=n*sz) (hi:i<n) (hz:z.length=sz) (hc:n*sz<=cur.length) (ht:cur.take (n*sz)=xs) :
  (QP (QP cur (i*sz) (xs.drop ((i+1)*sz))) ((n - 1)*sz) z).take ((n - 1)*sz)=xs.take (i*sz) ++ xs.drop ((i+1)*sz):=by
 have e1:(i+1)*sz=i*sz+sz:=by rw [Bb,Nat.one_mul]
 have e2:n*sz=(n - 1)*sz+sz:=by rw [<-Nat.succ_mul,show (n - 1).succ=n by omega]
 have e3:i*sz<=(n - 1)*sz:=BR _ (by omega);have hl:(xs.drop ((i+1)*sz)).length=(n - 1)*sz - i*sz:=by rw [Al,hx];omega
 have hs:(QP cur (i*sz) (xs.drop ((i+1)*sz))).length=cur.length:=GC _ _ _ (by rw [hl];omega);rw [QP,List.take_left' (by rw [Aq,hs];omega)];have ha:(cur.take (i*sz)).length=i*sz:=by rw [Aq];omega
 rw [QP,<-AA,List.take_left' (by rw [Ah,ha,hl];omega)];congr 1;rw [<-ht,List.take_take];congr 1;omega

theorem ac (g c n i:Nat) (xs:List Value) (base:Nat) (w:World) (ho:w.ownsRow base 78 3 (.slice (some ⟨g,0,none⟩) n c) n xs) (h1x:∀ u∈xs,u.oneCell'=true) (hi:i<n) (hn:n<=1000000) :
  Calls Tryz.prog 352 #[.slice (some ⟨g,0,none⟩) n c, .int .i64 i, .int .i64 (i+1:Nat)] w fun e w'=>∃ v',e = .returned v'/\w'.ownsRow base 78 3 v' (n - 1) (xs.take (i*3) ++ xs.drop ((i+1)*3))/\w.grownBy w' (some g)/\v'.ownBlock=some g:=by
 obtain⟨i0,hi0,hz0,hz1,hz2⟩:=info_parts (show (Tryz.prog.info? 78).map (fun i=>(i.zero,i.size,i.bytes))=some (some (.agg #[.int .i64 0, .slice none 0 0, .slice none 0 0]),3,56) by kernel_rfl);rcases ho.2 with ⟨e,_⟩ | ⟨g',c',cur,e,hbg,hg,hnc,hcm,hcs,ht⟩
 ·cases e
 cases e;have hxl:=ho.1;unfold maxLen at hcm;have hzv:∀ w,(zeroValue 78).run Tryz.prog w = .ok (.agg #[.int .i64 0, .slice none 0 0, .slice none 0 0]) w:=fun w=>by
  kernel_rfl
 obtain⟨news,hnews⟩:∃ news,news=xs.drop ((i+1)*3):=⟨_,rfl⟩;have hnl:news.length=(n - (i+1))*3:=by rw [hnews,Al,hxl];omega
 obtain⟨L1,hL1⟩:∃ L1,L1=QP cur.toList (i*3) news:=⟨_,rfl⟩;have hL1l:L1.length=c*3:=by rw [hL1,GC _ _ _ (by rw [hnl,BC,hcs];omega),BC,hcs]
 have h1n:∀ u∈news,u.oneCell'=true:=fun u hu=>h1x u (BG (by rw [<-hnews];exact hu))
 have hsc:∀ W:World,W.heap=w.heap->W.setCells g (0+i*3) news=W.setRow g L1.toArray:=fun W hW=>by
  rw [Au,NK (P:=Tryz.prog) W g (i*3) 78 cur news (by rw [hW];exact hg) (by rw [hnl,hcs];omega) h1n,hL1]
 obtain⟨A,hA,hsrc⟩:∃ A:Addr,(if c=i+1 then some (⟨g,0,none⟩:Addr) else some ⟨g,(i+1)*3,none⟩)=some A/\Hid (∀ W:World,W.heap=w.heap->∀ t u,news[t]? = some u->W.cell? (A.add t)=some u):=by
  by_cases h:c=i+1
  ·refine⟨⟨g,0,none⟩,by simp [h],fun W hW t u hu=>?_⟩;have h0:news.length=0:=by rw [hnl];omega
   rw [AG.1 h0] at hu;simp at hu
  ·refine⟨⟨g,(i+1)*3,none⟩,by simp [h],fun W hW t u hu=>?_⟩;rw [hnews,Cq,<-ht,List.getElem?_take] at hu;split at hu
   ·rw [Addr.add_lit,cell_of_row W g _ cur 78 (0,0) (by rw [hW];exact hg)];simpa using hu
   ·cases hu
 have hspare:Hid (∀ W:World,W.heap=w.heap->∀ t,t<news.length->(W.cell? ⟨g,0+i*3+t,none⟩).isSome=true/\W.frozen? ⟨g,0+i*3+t,none⟩=false):=fun W hW t htl=>by
  rw [hnl] at htl;have hg':W.heap[g]? = some (.cells cur 78 (0,0)):=by rw [hW];exact hg
  refine⟨?_,frozen_of_row W g _ cur _ hg'⟩;rw [cell_of_row W g _ cur _ (0,0) hg',Ce (by rw [hcs];omega)];try rfl
 have hcl:Hid (∀ W:World,W.heap[g]? = some (.cells L1.toArray 78 (0,0))->∀ ty cc,(Builtin.clear_ #[73] ty #[.slice (some ⟨g,(i+(n - (i+1)))*3,none⟩) (n - (i+(n - (i+1)))) cc]).run Tryz.prog W = .ok (.tuple #[]) (W.setRow g (QP L1 ((n - 1)*3) [.int .i64 0, .slice none 0 0, .slice none 0 0]).toArray)):=fun W hW ty cc=>by
  rw [show i+(n - (i+1))=n - 1 by omega,show n - (n - 1)=1 by omega];exact K0 W _ _ ty _ 3 Tryz.underlying73 hzv rfl (by simp [Value.cells,Value.oneCell']) g _ cc 78 L1.toArray hW (by rw [Bw,hL1l];omega)
 have hfin:Hid (∀ (W:World),W.heap[g]? = some (.cells L1.toArray 78 (0,0))->(W.setRow g (QP L1 ((n - 1)*3) [.int .i64 0, .slice none 0 0, .slice none 0 0]).toArray).ownsRow base 78 3 (.slice (some ⟨g,0,none⟩) (n - 1) c) (n - 1) (xs.take (i*3) ++ xs.drop ((i+1)*3))):=fun W hW=>by
  refine⟨by simp only [Ah,Aq,Al,hxl];omega, .inr ⟨g,c,_,rfl,hbg,setRow_heap W g _ _ 78 _ hW,by omega,by unfold maxLen;omega,?_,?_⟩⟩
  ·rw [Bw,GC _ _ _ (by rw [hL1l];simp;omega),hL1l]
  ·rw [hL1,hnews];exact T_ hxl hi rfl (by rw [BC,hcs];omega) ht
 have hgw:=Lib.hid hg;have hnl':=Lib.hid hnl;have h1n':=Lib.hid h1n;have hsc':=Lib.hid hsc;have hne:¬((i:Int)=(i+1:Nat)):=by omega
 have Yi:(i:Int)<=n:=by omega
 have hb2:((i+1:Nat):Int)<=n:=by omega
 have hb3:((i+1:Nat):Int)<=c:=by omega
 have hb4:(i:Int)<=c:=by omega
 have hb5:(i:Int)<=((i+1:Nat):Int):=by omega
 have hb6:(n:Int)<=c:=by omega
 have hb7:(0:Int)<=(i:Int)+1:=by omega
 have hb8:(i:Int)+1<=n:=by omega
 have mixed:Tryz.prog.follows .mixedOrders=true:=by kernel_rfl
 clear ho hnews hL1 hL1l hnl h1n h1x hsc hg hcs ht hxl hbg hz0 hzv
 go_enter Tryz.func352,Tryz.ntmps352
 go_wp2_with fail
 go_region_law_o (refine step_append_room rfl (.tmp 22) (.tmp 25) 73 rfl 78 i0 3 Tryz.underlying73 hi0 hz1 g 0 i c (by simp [Act.eval,Act.put]) A (n - (i+1)) (c - (i+1)) news (by simp [Act.eval,Act.put]) hnl'.out (hsrc.out w.drew rfl) h1n'.out (by omega) (hspare.out w.drew rfl) ?_;rw [hsc'.out w.drew rfl])
 have hg1:=setRow_heap w.drew g cur L1.toArray 78 (0,0) hgw.out;have hcv:=hcl.out _ hg1 0 (c - (i+(n - (i+1))));have HG:=Lib.hid hg1;clear hg1
 go_wp2_with (simp only [hcv])
 go_ret
 refine⟨_,rfl,?_,((show w.grownBy w.drew (some g) from ⟨rfl,rfl,rfl,Ag _,fun _ _ _=>rfl⟩).trans (D6 rfl)).trans (D6 rfl),rfl⟩;have:=hfin.out _ HG.out;rw [show i+(n - (i+1))=n - 1 by omega];exact this
end
end Go.Proofs.YtpjkcgacjjbikaaGreatDoor
namespace Go.Proofs.YtpjkcgacjjbikaaGreatDoor.A
section
open Go.RowKit
def freeId:List Hd->Int->Int
 | [],id=>id
 | h::l,id=>freeId l (if h.id=id then id+1 else id)
theorem Ry (l m:List Hd) (id:Int):freeId (l ++ m) id=freeId m (freeId l id):=by
 induction l generalizing id with
 | nil=>rfl
 | cons h l ih=>exact ih _
theorem TO (l:List Hd) (id:Int):id<=freeId l id/\freeId l id<=id+l.length:=by
 induction l generalizing id with
 | nil=>simp [freeId]
 | cons h l ih=>
  have:=ih (if h.id=id then id+1 else id);simp only [freeId,Ao];split <;> rename_i e <;> simp only [e,if_true,if_false] at this <;> omega
def DT (l:List Hd):List Hd × Int × Int:=
 if !DO l then ([],0,1) else if 3<=l.length then ([],0,19) else (l.take (freeId l 0).toNat ++ [⟨freeId l 0, [], []⟩] ++ l.drop (freeId l 0).toNat,freeId l 0,0)
theorem FA {s:List Nat} {m:Nat} (h:s.all (fun x=>Nat.blt x m)=true):∀ x∈s,x<m:=fun x hx=>by
 have:=Av.1 h x hx;simpa using this
theorem PR (es:List (List AV)) (e:List AV) (n:Nat) (hl:n=es.length) (hn:n<=1000000) :
  ACalls Tryz.prog false 277 [.ow 0 n,iv n, .ow 1 1] [.row 78 3 es, .row 78 3 [e]] fun r H=>r = .ow 2 (n+1)/\H=[.dead, .row 78 3 [e], .row 78 3 (es ++ [e])]:=
 zn ⟨_,Tryz.func277,rfl,rfl⟩ (fun v n xs ys vb base w ho vc vcur hb hbt hy h1y hn hbase=>Vx v n xs ys vb base w ho vc vcur hb hbt hy h1y hn hbase) es e n hl (by omega)
theorem Xp {A B:List (List AV)} {e e':List AV} (h:SubL e e') (i:Nat):SubL ((A ++ [e] ++ B).getD i []) ((A ++ [e'] ++ B).getD i []):=by
 have e1:∀ x:List AV,(A ++ [x] ++ B).getD i []=if i<A.length then A.getD i [] else (x::B).getD (i - A.length) []:=fun x=>by
  rw [AA];split
  ·rename_i h1;exact EB h1
  ·rename_i h1;exact Dj (by omega)
 rw [e1,e1];split
 ·exact SubL.refl _
 ·cases i - A.length with
  | zero=>exact h
  | succ j=>exact SubL.refl _
theorem La (c:Ctx) (u:Value) (h:Rd (.v (.slice none 0 0)) c u):Rd (CJ []) c u:=Bv 3 _ c u h
theorem V6 (l:List Hd) (hl:l.length<=1000) (hs:∀ h∈l,I4 h) (hend:freeId l 0=l.length):Fn Tryz.prog 195 [CJ l] fun r=>r = .tp [CJ (DT l).1, .v (.int .i64 (DT l).2.1), .v (.int .i64 (DT l).2.2)]:=by
 have hc:=Gl l hl (fun h hh=>⟨(hs h hh).1,(hs h hh).2.1⟩);cases hok:DO l with
 | false=>
  rw [hok] at hc;refine zT Tryz.func195 rfl ?_;conv=>whnf
  refine zY hc ?_;conv=>whnf
  exact⟨.tp [CJ [],iv 0,iv 1],BV ⟨La,ri,ri,tv⟩,by rw [DT,hok];try rfl⟩
 | true=>
  rw [hok] at hc;refine zT Tryz.func195 rfl ?_;conv=>whnf
  refine zY hc ?_;conv=>whnf
  refine Ak (fun h3=>?_) (fun h3=>?_) <;> simp only [decide_eq_true_eq,decide_eq_false_iff_not] at h3 <;> conv=>whnf
  ·exact⟨.tp [CJ [],iv 0,iv 19],BV ⟨La,ri,ri,tv⟩,by rw [DT,hok,if_neg (by simp),if_pos (by omega)]⟩
  refine zP Nat (fun k=>([(0,CJ l),(3,iv (freeId (l.take k) 0)),(15,CJ l),(16,iv l.length),(17,iv k)], [])) (fun k=>k<=l.length) (fun k=>l.length - k) 0 (Aj _) ⟨[],tv,tA,tv,rfl,rfl,rfl⟩ ?_;rintro k hk;conv=>whnf
  refine AS (fun h2=>?_) (fun h2=>?_) <;> (repeat rw [Ac] at h2) <;> conv=>whnf
  ·have hk':k<l.length:=by omega
   have hst:freeId (l.take (k+1)) 0=if (l.getD k (⟨0, [], []⟩:Hd)).id=freeId (l.take k) 0 then freeId (l.take k) 0+1 else freeId (l.take k) 0:=by
    rw [AM hk',Ry];simp only [freeId,Ab,Af hk',BO]
   have hbd:=TO (l.take k) 0;rw [Aq] at hbd;refine zZ ?_;conv=>whnf
   refine⟨by first | omega | (refine⟨rfl,?_,?_⟩ <;> first | omega | (simp only [Aa];done) | (simp only [Aa];omega)) | (simp only [Aa];omega),?_⟩;conv=>whnf
   refine Ak (fun h4=>?_) (fun h4=>?_) <;> (repeat rw [Ac] at h4) <;> conv=>whnf
   ·refine⟨k+1,by omega,by omega, [],tv,⟨rfl,?_,rfl,rfl,AT (by omega),tv⟩,tv,rfl,rfl,rfl⟩;rw [hst,if_pos (by simpa using h4)];show AV.v (.int .i64 (IntKind.i64.wrap (freeId (l.take k) 0+1)))=_;rw [wi (by omega)]
   ·refine⟨k+1,by omega,by omega, [],tv,⟨rfl,?_,rfl,rfl,AT (by omega),tv⟩,tv,rfl,rfl,rfl⟩;rw [hst,if_neg (by simpa using h4)];try rfl
  ·have e:k=l.length:=by omega
   subst e;rw [A6];rw [hend];conv=>whnf
   refine zX (LQ l hl hs) rfl ?_;rintro _ _ ⟨rfl,rfl⟩;conv=>whnf
   refine z_ [0,1] (PR (l.map Eh) [iv l.length, .v (.slice none 0 0), .v (.slice none 0 0)] l.length (by simp) (by omega)) rfl rfl rfl rfl (by decide) (FA rfl) tA ?_;rintro _ _ ⟨rfl,rfl⟩;conv=>whnf
   have e2:(DT l)=(l ++ [⟨l.length, [], []⟩],(l.length:Int),0):=by rw [DT,hok,if_neg (by simp),if_neg (by omega),hend,Ac,A6,List.drop_length,AE]
   have hlen:(l ++ [(⟨l.length, [], []⟩:Hd)]).length=l.length+1:=by simp only [Ah,Ao,AN]
   refine⟨(by simp only [Ah,Ao,AN,Aa]),?_⟩;refine⟨.tp [CJ (l ++ [⟨l.length, [], []⟩]),iv l.length,iv 0],BV ⟨fun c u h=>yW hlen.symm (fun i hi=>?_) h,ri,ri,tv⟩,by rw [e2]⟩;rw [<-AP (f:=Eh) (d:=⟨0, [], []⟩) (e:= []) (by omega),A0];have:=Xp (A:=l.map Eh) (B:= []) (e:= [iv l.length, .v (.slice none 0 0), .v (.slice none 0 0)]) (e':=Eh ⟨l.length, [], []⟩) ⟨fun _ _ h=>h,fun c u h=>Bv 1 _ c u h,fun c u h=>Bv 1 _ c u h,tv⟩ i;rw [AE,AE] at this;exact this
def Eb (l:List Hd) (id:Int):Nat:=l.findIdx fun h=>h.id == id
def E3 (l:List Hd) (id:Int):Bool:=l.any fun h=>h.id == id
theorem LY (l:List Hd) (id:Int) (hl:l.length<=1000000):Fn Tryz.prog 282 [CJ l,iv id] fun r=>r = .tp [iv (if E3 l id then (Eb l id:Nat) else 0:Int), .v (.bool (E3 l id))]:=by
 refine(ZE l id hl).mono ?_;rintro _ rfl;congr 4;cases h:E3 l id with
 | true=>rw [(Vu h).1];simp only [if_true];exact Int.max_eq_left (by omega)
 | false=>rw [Dz h];rfl
theorem HP {l:List Hd} {id:Int} (h:E3 l id=true):Eb l id<l.length:=(Vu h).2
def Ds (l:List Hd) (id:Int):List Hd × Hd × Int:=
 if !DO l then ([],(⟨0, [], []⟩:Hd),1) else if !E3 l id then ([],(⟨0, [], []⟩:Hd),18) else (l.take (Eb l id) ++ l.drop (Eb l id+1),l.getD (Eb l id) (⟨0, [], []⟩:Hd),0)
theorem K8 (es:List (List AV)) (n i:Nat) (hl:n=es.length) (hi:i<n) (hn:n<=1000000) :
  ACalls Tryz.prog false 352 [.ow 0 n,iv i,iv (i+1:Nat)] [.row 78 3 es] fun r H=>r = .ow 1 (n - 1)/\H=[.dead, .row 78 3 (es.take i ++ es.drop (i+1))]:=by
 subst hl;exact ACalls.delete ⟨_,Tryz.func352,rfl,rfl⟩ (fun g c n i xs base w ho h1x hi hn=>ac g c n i xs base w ho h1x hi hn) es i hi hn
theorem TI (l:List Hd) (id:Int) (hl:l.length<=1000) (hs:∀ h∈l,I4 h):Fn Tryz.prog 286 [CJ l,iv id] fun r=>r = .tp [CJ (Ds l id).1, .ag (Eh (Ds l id).2.1), .v (.int .i64 (Ds l id).2.2)]:=by
 have hc:=Gl l hl (fun h hh=>⟨(hs h hh).1,(hs h hh).2.1⟩);have z0:SubL [iv 0, .v (.slice none 0 0), .v (.slice none 0 0)] (Eh (⟨0, [], []⟩:Hd)):=⟨ri,fun c u h=>Bv 1 _ c u h,fun c u h=>Bv 1 _ c u h,tv⟩;cases hok:DO l with
 | false=>
  rw [hok] at hc;refine zT Tryz.func286 rfl ?_;conv=>whnf
  refine zY hc ?_;conv=>whnf
  exact⟨.tp [CJ [], .ag (Eh (⟨0, [], []⟩:Hd)),iv 1],BV ⟨La,Bg z0,ri,tv⟩,by rw [Ds,hok];try rfl⟩
 | true=>
  rw [hok] at hc;have ha:=LY l id (by omega);cases hh:E3 l id with
  | false=>
   rw [hh] at ha;refine zT Tryz.func286 rfl ?_;conv=>whnf
   refine zY hc ?_;conv=>whnf
   refine zY ha ?_;conv=>whnf
   exact⟨.tp [CJ [], .ag (Eh (⟨0, [], []⟩:Hd)),iv 18],BV ⟨La,Bg z0,ri,tv⟩,by rw [Ds,hok,hh];try rfl⟩
  | true=>
   rw [hh,if_pos rfl] at ha;have hlt:=HP hh;obtain⟨p,hp⟩:∃ p,p=Eb l id:=⟨_,rfl⟩;rw [<-hp] at ha hlt;have hE:(l.map Eh).getD p []=Eh (l.getD p (⟨0, [], []⟩:Hd)):=AP hlt;refine zT Tryz.func286 rfl ?_;conv=>whnf
   refine zY hc ?_;conv=>whnf
   refine zY ha ?_;conv=>whnf
   refine zX (LQ l hl hs) rfl ?_;rintro _ _ ⟨rfl,rfl⟩;refine⟨⟨by simp,by simpa using hlt⟩,?_⟩;refine⟨⟨rfl,by simp,by simpa using hlt⟩,?_⟩;conv=>whnf
   rw [Ac,hE];conv=>whnf
   have w1:IntKind.i64.wrap ((p:Int)+1)=((p+1:Nat):Int):=by rw [wi (by omega)];try rfl
   apply zf (32+2 ^ 132) tys_ok mixed (.o [0,1,2,3] (.two 4 (.o [6,5,7,8] .fin) 5 (.o [4,6,7,8] .fin))) [4,6,28,29,30,31,32,33] (by kernel_rfl)
   ·refine Ai ?_ ?_
    ·conv=>whnf
     (rw [w1];refine z_ [1] (K8 (l.map Eh) l.length p (by simp) hlt (by omega)) rfl rfl rfl rfl (by decide) (FA rfl) tA ?_;rintro _ _ ⟨rfl,rfl⟩)
     conv=>whnf
     try (refine tS ?_;conv=>whnf)
     exact tA
    ·conv=>whnf
     (rw [w1];refine z_ [1] (K8 (l.map Eh) l.length p (by simp) hlt (by omega)) rfl rfl rfl rfl (by decide) (FA rfl) tA ?_;rintro _ _ ⟨rfl,rfl⟩)
     conv=>whnf
     try (refine tS ?_;conv=>whnf)
     exact tA
   conv=>whnf
   refine Ai (by simp only [Ah,Aq,Al,Aa];omega) ?_;conv=>whnf
   have hlen:(l.take p ++ l.drop (p+1)).length=l.length - 1:=by simp only [Ah,Aq,Al];omega
   refine⟨.tp [CJ (l.take p ++ l.drop (p+1)), .ag (Eh (l.getD p (⟨0, [], []⟩:Hd))),iv 0],BV ⟨fun c u h=>yW hlen.symm (fun i hi=>?_) h,ri,ri,tv⟩,by rw [Ds,hok,hh,<-hp];try rfl⟩;rw [<-AP (f:=Eh) (d:=⟨0, [], []⟩) (e:= []) (by omega),A0,List.map_take,List.map_drop];exact SubL.refl _
def Fd (l:List Hd) (id lba:Int):List UInt8 × Bool × Int:=
 if !DO l then ([],false,1) else if !E3 l id then ([],false,18) else
  let h:=l.getD (Eb l id) (⟨0, [], []⟩:Hd)
  if decide (Ef h.lbas lba<h.lbas.length)&&(h.lbas.getD (Ef h.lbas lba) 0 == lba) then (h.blocks.getD (Ef h.lbas lba) [],true,0) else ([],false,0)
theorem IQ {l:List Hd} {id lba:Int} (hok:DO l=true) (hh:E3 l id=true):Fd l id lba=if decide (Ef (l.getD (Eb l id) (⟨0, [], []⟩:Hd)).lbas lba<(l.getD (Eb l id) (⟨0, [], []⟩:Hd)).lbas.length)&&((l.getD (Eb l id) (⟨0, [], []⟩:Hd)).lbas.getD (Ef (l.getD (Eb l id) (⟨0, [], []⟩:Hd)).lbas lba) 0 == lba) then ((l.getD (Eb l id) (⟨0, [], []⟩:Hd)).blocks.getD (Ef (l.getD (Eb l id) (⟨0, [], []⟩:Hd)).lbas lba) [],true,0) else ([],false,0):=by
 simp only [Fd,hok,hh];rfl
theorem Om {l:List Hd} (hok:DO l=true) {k:Nat} (hk:k<l.length):IM (l.getD k (⟨0, [], []⟩:Hd))=true:=by
 simp only [DO,Ad] at hok;exact Av.1 hok.2.2.2 _ (AC hk)
theorem LW {h:Hd}:IM h=true↔h.lbas.length=h.blocks.length/\h.lbas.length<=4/\KY h.lbas=true/\∀ b∈h.blocks,b.length=8:=by
 simp [IM,Av]
theorem TH (l:List Hd) (id lba:Int) (hl:l.length<=1000) (hs:∀ h∈l,I4 h) (hno:(Fd l id lba).2.1=false):Fn Tryz.prog 199 [CJ l,iv id,iv lba] fun r=>
  r = .tp [.v (.slice none 0 0), .v (.bool false), .v (.int .i64 (Fd l id lba).2.2)]:=by
 have hc:=Gl l hl (fun h hh=>⟨(hs h hh).1,(hs h hh).2.1⟩);cases hok:DO l with
 | false=>
  rw [hok] at hc;refine zT Tryz.func199 rfl ?_;conv=>whnf
  refine zY hc ?_;conv=>whnf
  exact⟨_,ri,by rw [Fd,hok];try rfl⟩
 | true=>
  rw [hok] at hc;have ha:=LY l id (by omega);cases hh:E3 l id with
  | false=>
   rw [hh] at ha;refine zT Tryz.func199 rfl ?_;conv=>whnf
   refine zY hc ?_;conv=>whnf
   refine zY ha ?_;conv=>whnf
   exact⟨_,ri,by rw [Fd,hok,hh];try rfl⟩
  | true=>
   rw [hh,if_pos rfl] at ha;have hlt:=HP hh;rw [IQ hok hh] at hno |-
   obtain⟨p,hp⟩:∃ p,p=Eb l id:=⟨_,rfl⟩;rw [<-hp] at ha hlt hno |-
   have ho:=LW.1 (Om hok hlt);obtain⟨b,hb⟩:∃ b,b=(decide (Ef (l.getD p (⟨0, [], []⟩:Hd)).lbas lba<(l.getD p (⟨0, [], []⟩:Hd)).lbas.length)&&((l.getD p (⟨0, [], []⟩:Hd)).lbas.getD (Ef (l.getD p (⟨0, [], []⟩:Hd)).lbas lba) 0 == lba)):=⟨_,rfl⟩;have hbs:=Mx (l.getD p (⟨0, [], []⟩:Hd)).lbas lba (by omega) ho.2.2.1;rw [<-hb] at hbs hno |-
   cases b with
   | true=>cases hno
   | false=>
    refine zT Tryz.func199 rfl ?_;conv=>whnf
    refine zY hc ?_;conv=>whnf
    refine zY ha ?_;conv=>whnf
    refine⟨by first | omega | (refine⟨rfl,?_,?_⟩ <;> first | omega | (simp only [Aa];done) | (simp only [Aa];omega)) | (simp only [Aa];omega),?_⟩;conv=>whnf
    rw [Ac];refine zY hbs ?_;exact⟨_,ri,rfl⟩
theorem RI (b:List UInt8) (hb:b.length<=1000000000):ACalls Tryz.prog false 33 [bA b] [] fun r H=>r = .ow 0 b.length/\H=[.row 5 1 (b.map EI)]:=by
 refine zJ tys_ok Tryz.func33 rfl rfl (Ae rfl) ?_;refine Ai (fun h=>?_) ?_
 ·conv=>whnf
  have h0:=AG.1 h;subst h0;exact⟨_, .ow 0 0, [.row 5 1 []],fun _ _ h=>h,zL ⟨[(0,5,1)],tA,tA,tA,rfl,rfl,rfl⟩,rfl,rfl⟩
 ·refine⟨⟨rfl,by omega⟩,?_⟩;exact⟨.ow 0 b.length, .ow 0 b.length, [.row 5 1 (b.map EI)],fun _ _ h=>by rwa [Au] at h,zL ⟨[],tv,tA,⟨(congrArg (AB.row _ _) (Ge (d:=0) EI b)).symm,tv⟩,rfl,rfl,rfl⟩,rfl,rfl⟩
theorem VB (l:List Hd) (id lba:Int) (hl:l.length<=1000) (hs:∀ h∈l,I4 h) (hyes:(Fd l id lba).2.1=true):ACalls Tryz.prog false 199 [CJ l,iv id,iv lba] [] fun r H=>
  r = .tp [.ow 0 (Fd l id lba).1.length, .v (.bool true),iv 0]/\H=[.row 5 1 ((Fd l id lba).1.map EI)]:=by
 have hc:=Gl l hl (fun h hh=>⟨(hs h hh).1,(hs h hh).2.1⟩);cases hok:DO l with
 | false=>rw [Fd,hok] at hyes;cases hyes
 | true=>
  rw [hok] at hc;have ha:=LY l id (by omega);cases hh:E3 l id with
  | false=>rw [Fd,hok,hh] at hyes;cases hyes
  | true=>
   rw [hh,if_pos rfl] at ha;have hlt:=HP hh;rw [IQ hok hh] at hyes |-
   obtain⟨p,hp⟩:∃ p,p=Eb l id:=⟨_,rfl⟩;rw [<-hp] at ha hlt hyes |-
   have ho:=LW.1 (Om hok hlt);obtain⟨b,hb⟩:∃ b,b=(decide (Ef (l.getD p (⟨0, [], []⟩:Hd)).lbas lba<(l.getD p (⟨0, [], []⟩:Hd)).lbas.length)&&((l.getD p (⟨0, [], []⟩:Hd)).lbas.getD (Ef (l.getD p (⟨0, [], []⟩:Hd)).lbas lba) 0 == lba)):=⟨_,rfl⟩;have hbs:=Mx (l.getD p (⟨0, [], []⟩:Hd)).lbas lba (by omega) ho.2.2.1;rw [<-hb] at hbs hyes |-
   cases b with
   | false=>cases hyes
   | true=>
    have hq:Ef (l.getD p (⟨0, [], []⟩:Hd)).lbas lba<(l.getD p (⟨0, [], []⟩:Hd)).blocks.length:=by
     have:=hb.symm;simp only [Ad,decide_eq_true_eq] at this;omega
    obtain⟨q,hq2⟩:∃ q,q=Ef (l.getD p (⟨0, [], []⟩:Hd)).lbas lba:=⟨_,rfl⟩;rw [<-hq2] at hbs hq |-
    refine zJ tys_ok Tryz.func199 rfl rfl (Ae rfl) ?_;conv=>whnf
    refine zY hc ?_;conv=>whnf
    refine zY ha ?_;conv=>whnf
    refine⟨by first | omega | (refine⟨rfl,?_,?_⟩ <;> first | omega | (simp only [Aa];done) | (simp only [Aa];omega)) | (simp only [Aa];omega),?_⟩;conv=>whnf
    rw [Ac];refine zY hbs ?_;conv=>whnf
    refine⟨by first | omega | (refine⟨rfl,?_,?_⟩ <;> first | omega | (simp only [Aa];done) | (simp only [Aa];omega)) | (simp only [Aa];omega),?_⟩;conv=>whnf
    rw [Ac];conv=>whnf
    refine⟨by first | omega | (refine⟨rfl,?_,?_⟩ <;> first | omega | (simp only [Aa];done) | (simp only [Aa];omega)) | (simp only [Aa];omega),?_⟩;conv=>whnf
    rw [Ac];conv=>whnf
    have h8:((l.getD p (⟨0, [], []⟩:Hd)).blocks.getD q []).length=8:=ho.2.2.2 _ (AC hq);refine zX (RI ((l.getD p (⟨0, [], []⟩:Hd)).blocks.getD q []) (by omega)) rfl ?_;rintro _ _ ⟨rfl,rfl⟩;exact⟨_, .tp [.ow 0 ((l.getD p (⟨0, [], []⟩:Hd)).blocks.getD q []).length, .v (.bool true),iv 0], [.row 5 1 (((l.getD p (⟨0, [], []⟩:Hd)).blocks.getD q []).map EI)],fun _ _ h=>h,zL ⟨[],tv,tA,tA,rfl,rfl,rfl⟩,rfl,rfl⟩
def W6 (h:Hd) (lba:Int) (b:List UInt8):Hd:=
 if decide (Ef h.lbas lba<h.lbas.length)&&(h.lbas.getD (Ef h.lbas lba) 0 == lba) then ⟨h.id,h.lbas,h.blocks.set (Ef h.lbas lba) b⟩
 else ⟨h.id,h.lbas.take (Ef h.lbas lba) ++ [lba] ++ h.lbas.drop (Ef h.lbas lba),h.blocks.take (Ef h.lbas lba) ++ [b] ++ h.blocks.drop (Ef h.lbas lba)⟩
def KC (h:Hd) (lba:Int):Bool:=decide (4<=h.lbas.length)&&!h.lbas.any fun y=>lba == y
theorem Fc (es:List (List AV)) (e:List AV) (n i:Nat) (hl:n=es.length) (hi:i=n) (hn:n<=1000000) :
  ACalls Tryz.prog false 281 [.ow 0 n,iv i, .ow 1 1] [.row 3 1 es, .row 3 1 [e]] fun r H=>r = .ow 2 (n+1)/\H=[.dead, .row 3 1 [e], .row 3 1 (es ++ [e])]:=by
 subst hi;exact zn ⟨_,Tryz.func281,rfl,rfl⟩ (fun v n xs ys vb base w ho vc vcur hb hbt hy h1y hn hbase=>Vw v n xs ys vb base w ho vc vcur hb hbt hy h1y hn hbase) es e i hl (by omega)
theorem Ff (es:List (List AV)) (e:List AV) (n i:Nat) (hl:n=es.length) (hi:i=n) (hn:n<=1000000) :
  ACalls Tryz.prog false 285 [.ow 0 n,iv i, .ow 1 1] [.row 22 1 es, .row 22 1 [e]] fun r H=>r = .ow 2 (n+1)/\H=[.dead, .row 22 1 [e], .row 22 1 (es ++ [e])]:=by
 subst hi;exact zn ⟨_,Tryz.func285,rfl,rfl⟩ (fun v n xs ys vb base w ho vc vcur hb hbt hy h1y hn hbase=>Vy v n xs ys vb base w ho vc vcur hb hbt hy h1y hn hbase) es e i hl (by omega)
theorem aA {t:TypeId} {sz:Nat} {es:List (List AV)} {H:List AB} (h:H[0]? = some (.row t sz es)):wkH [.row t sz es] H:=by
 cases H with
 | nil=>cases h
 | cons y r=>simp at h;subst h;exact tA
theorem XB {H:List AB} {l:List Hd} {p:Nat} {h':Hd} {a b m:Nat} (hp:p<l.length) (hab:¬b=a) (hb0:¬0=b) (h0:H[0]? = some (.rowo 78 3 ((l.map Eh).set p (To h' a b)) m))
  (ha:H[a]? = some (.row 3 1 (h'.lbas.map DC))) (hb:H[b]? = some (.row 22 1 (h'.blocks.map My))):∃ H',ConvH H H'/\H'[0]? = some (.row 78 3 ((l.set p h').map Eh)):=by
 have hl0:0<H.length:=(Ar.1 h0).1;have c1:=zz 0 a h0 ha rfl;have g1:∀ {x:AB},((H.set a .dead).set 0 x)[0]? = some x:=fun {x}=>by rw [A3 (by simpa using hl0)]
 have g2:∀ {x:AB},((H.set a .dead).set 0 x)[b]? = some (.row 22 1 (h'.blocks.map My)):=fun {x}=>by
  rw [A4 hb0,A4 (Ne.symm hab)];exact hb
 have g3:∀ {x y:AB},((((H.set a .dead).set 0 x).set b .dead).set 0 y)[0]? = some y:=fun {x y}=>by rw [A3 (by simpa using hl0)]
 have hM:(l.set p h').map Eh=(l.map Eh).set p (Eh h'):=List.map_set;refine⟨_,c1.trans (zC (zz 0 b g1 g2 rfl) (zC (zr g3 (es':=(l.set p h').map Eh) (m':=0) (by simp) (fun j=>?_) (Sw _)) (ConvH.row (k:=0) (A3 (by simpa using hl0)) (Sw _)))),A3 (by simpa using hl0)⟩
 ·rw [hM,<-List.set_set (a:=Eh h') (b:=To h' a b)];refine Lw (by simpa using hp) (fun j hj=>?_) ?_ j
  ·rw [DQ (Ne.symm hj)];by_cases hj2:j<l.length
   ·rw [AP (d:=⟨0, [], []⟩) hj2];exact SubL.refl _
   ·rw [show (l.map Eh).getD j []=[] by rw [Ab,AF (by simpa using hj2)];try rfl];trivial
  ·rw [BK (by simpa using hp)];exact Ol hab h'
theorem ND {H:List AB} {y:AV} {t:TypeId} {sz:Nat} {es:List (List AV)} (h:∃ H',ConvH H H'/\H'[0]? = some (.row t sz es)) (hy:y.lt 1=true):WkC 0 [(0,y)] H [(0,y)] [.row t sz es]:=by
 obtain⟨H',c1,c2⟩:=h;exact⟨H',c1, [],tv,tA,wkH_o (aA c2),by show (y.lt 1&&true)=true;rw [hy];try rfl,rfl,rfl⟩
theorem V5 (l:List Hd) (id lba:Int) (b:List UInt8) (hl:l.length<=1000) (hs:∀ h∈l,I4 h) (hok:DO l=true) (hh:E3 l id=true) (h0:¬lba<0) (h8:b.length=8) (hf:KC (l.getD (Eb l id) ⟨0, [], []⟩) lba=false) (hend:Ef (l.getD (Eb l id) ⟨0, [], []⟩).lbas lba=(l.getD (Eb l id) ⟨0, [], []⟩).lbas.length) :
  ACalls Tryz.prog false 203 [CJ l,iv id,iv lba,bA b] [] fun r H=>r = .tp [.ow 0 l.length,iv 0]/\H=[.row 78 3 ((l.set (Eb l id) (W6 (l.getD (Eb l id) ⟨0, [], []⟩) lba b)).map Eh)]:=by
 have hc:=Gl l hl (fun h hh=>⟨(hs h hh).1,(hs h hh).2.1⟩);rw [hok] at hc;have ha:=LY l id (by omega);rw [hh,if_pos rfl] at ha;have hlt:=HP hh;obtain⟨p,hp⟩:∃ p,p=Eb l id:=⟨_,rfl⟩;rw [<-hp] at ha hlt hf |-
 have ho:=LW.1 (Om hok hlt);have hfu:=Ow (l.getD p ⟨0, [], []⟩) lba (by omega);rw [show (decide (4<=(l.getD p ⟨0, [], []⟩).lbas.length)&&!(l.getD p ⟨0, [], []⟩).lbas.any fun y=>lba == y)=false from hf] at hfu;obtain⟨d,hd⟩:∃ d,d=(decide (Ef (l.getD p ⟨0, [], []⟩).lbas lba<(l.getD p ⟨0, [], []⟩).lbas.length)&&((l.getD p ⟨0, [], []⟩).lbas.getD (Ef (l.getD p ⟨0, [], []⟩).lbas lba) 0 == lba)):=⟨_,rfl⟩;have hbs:=Mx (l.getD p ⟨0, [], []⟩).lbas lba (by omega) ho.2.2.1;have hq:Ef (l.getD p ⟨0, [], []⟩).lbas lba<=(l.getD p ⟨0, [], []⟩).lbas.length:=List.countP_le_length;rw [<-hd] at hbs;have hbs:=hbs.sub (args:= [.sl 1 (l.getD p ⟨0, [], []⟩).lbas.length fun i=>((l.getD p ⟨0, [], []⟩).lbas.map DC).getD i [],iv lba]) ⟨(XY _).1,fun _ _ h=>h,tv⟩;rw [W6,<-hd];obtain⟨q,hq2⟩:∃ q,q=Ef (l.getD p ⟨0, [], []⟩).lbas lba:=⟨_,rfl⟩;rw [<-hq2] at hbs hq |-
 have hE:((l.map Eh).set p (To (l.getD p ⟨0, [], []⟩) 4 5)).getD p []=To (l.getD p ⟨0, [], []⟩) 4 5:=BK (by simpa using hlt);have hL:l.length=((l.map Eh).set p (To (l.getD p ⟨0, [], []⟩) 4 5)).length:=by simp
 have hlen:=ho.1;rw [<-hp,<-hq2] at hend;have hdf:d=false:=by rw [hd,<-hq2,hend,decide_eq_false (Nat.lt_irrefl _),Dd]
 subst hdf;simp only [BU,if_false];have e1:(l.getD p ⟨0, [], []⟩).lbas.take q=(l.getD p ⟨0, [], []⟩).lbas:=At (by omega);have e2:(l.getD p ⟨0, [], []⟩).lbas.drop q=[]:=A9 (by omega);have e3:(l.getD p ⟨0, [], []⟩).blocks.take q=(l.getD p ⟨0, [], []⟩).blocks:=At (by omega);have e4:(l.getD p ⟨0, [], []⟩).blocks.drop q=[]:=A9 (by omega);rw [e1,e2,e3,e4,AE,AE];refine zJ tys_ok Tryz.func203 rfl rfl (Ae rfl) ?_;conv=>whnf
 refine zY hc ?_;conv=>whnf
 refine zY ha ?_;conv=>whnf
 refine Ak (fun h3=>?_) (fun h3=>?_) <;> simp only [decide_eq_true_eq,decide_eq_false_iff_not] at h3 <;> conv=>whnf
 ·omega
 refine Ak (fun h4=>?_) (fun h4=>?_) <;> conv=>whnf
 ·rw [h8] at h4;cases h4
 refine⟨by first | omega | (refine⟨rfl,?_,?_⟩ <;> first | omega | (simp only [Aa];done) | (simp only [Aa];omega)) | (simp only [Aa];omega),?_⟩;conv=>whnf
 rw [Ac];refine zY hfu ?_;conv=>whnf
 refine ACalls.mono (PP l p hlt hl hs) ?_;rintro _ _ ⟨rfl,rfl⟩;conv=>whnf
 repeat' (refine zZ ?_;conv=>whnf)
 refine⟨⟨by simp,by simpa using hlt⟩,?_⟩;refine⟨⟨rfl,hL,by simpa using hlt⟩,?_⟩;conv=>whnf
 rw [Ac,hE];conv=>whnf
 refine zq hbs ⟨by simp,rfl⟩ ?_;rintro _ rfl;refine⟨rfl,?_⟩;conv=>whnf
 apply zf (8192+2 ^ 137+2 ^ 146) tys_ok mixed (.o [0,1,2,3,4,5,6,7,10,11,12,14,15] (.two 8 (.two 9 (.two 13 (.o [16,17,18,19,20,21,22,23,24] .fin) 16 (.two 13 (.o [17,18,19,20,21,22,23,24] .fin) 17 (.o [13,18,19,20,21,22,23,24] .fin))) 13 (.o [9,16,17,18,19,20,21,22,23,24] .fin)) 13 (.o [8,9,16,17,18,19,20,21,22,23,24] .fin))) [66,67,68,69,70,71,72,73,74,75,76,77,78,79,80,81,82,83,84,85,86,87,88] (by kernel_rfl)
 ·conv=>whnf
  try (refine Ai ⟨rfl,hL,by simpa using hlt⟩ ?_;conv=>whnf;(try rw [Ac]);rw [hE];conv=>whnf)
  refine Ai ?_ ?_
  ·refine Ai ?_ ?_
   ·conv=>whnf
    (refine z_ [4,6] (Fc ((l.getD p ⟨0, [], []⟩).lbas.map DC) [iv lba] _ q (by simp) hend (by omega)) rfl rfl rfl rfl (by decide) (FA rfl) tA ?_;rintro _ _ ⟨rfl,rfl⟩)
    refine Ai ?_ ?_
    ·conv=>whnf
     try (refine Ai ⟨rfl,hL,by simpa using hlt⟩ ?_;conv=>whnf;(try rw [Ac]);rw [hE];conv=>whnf)
     refine zY (BS b (by omega)) ?_;conv=>whnf
     (refine z_ [5,8] (Ff ((l.getD p ⟨0, [], []⟩).blocks.map My) [bA b] _ q (by simp) (by omega) (by omega)) rfl rfl rfl rfl (by decide) (FA rfl) tA ?_;rintro _ _ ⟨rfl,rfl⟩)
     conv=>whnf
     try (refine tS ?_;conv=>whnf)
     (first | rw [hE] | rw [BK (by simpa using hlt)])
     conv=>whnf
     try (refine tS ?_;conv=>whnf)
     (first | rw [hE] | rw [BK (by simpa using hlt)])
     exact tA
    ·conv=>whnf
     refine zY (BS b (by omega)) ?_;refine Ai ?_ ?_
     ·conv=>whnf
      try (refine Ai ⟨rfl,hL,by simpa using hlt⟩ ?_;conv=>whnf;(try rw [Ac]);rw [hE];conv=>whnf)
      (refine z_ [5,8] (Ff ((l.getD p ⟨0, [], []⟩).blocks.map My) [bA b] _ q (by simp) (by omega) (by omega)) rfl rfl rfl rfl (by decide) (FA rfl) tA ?_;rintro _ _ ⟨rfl,rfl⟩)
      conv=>whnf
      try (refine tS ?_;conv=>whnf)
      (first | rw [hE] | rw [BK (by simpa using hlt)])
      conv=>whnf
      try (refine tS ?_;conv=>whnf)
      (first | rw [hE] | rw [BK (by simpa using hlt)])
      exact tA
     ·conv=>whnf
      try (refine Ai ⟨rfl,hL,by simpa using hlt⟩ ?_;conv=>whnf;(try rw [Ac]);rw [hE];conv=>whnf)
      (refine z_ [5,8] (Ff ((l.getD p ⟨0, [], []⟩).blocks.map My) [bA b] _ q (by simp) (by omega) (by omega)) rfl rfl rfl rfl (by decide) (FA rfl) tA ?_;rintro _ _ ⟨rfl,rfl⟩)
      conv=>whnf
      try (refine tS ?_;conv=>whnf)
      (first | rw [hE] | rw [BK (by simpa using hlt)])
      conv=>whnf
      try (refine tS ?_;conv=>whnf)
      (first | rw [hE] | rw [BK (by simpa using hlt)])
      exact tA
   ·conv=>whnf
    try (refine Ai ⟨rfl,hL,by simpa using hlt⟩ ?_;conv=>whnf;(try rw [Ac]);rw [hE];conv=>whnf)
    (refine z_ [4,6] (Fc ((l.getD p ⟨0, [], []⟩).lbas.map DC) [iv lba] _ q (by simp) hend (by omega)) rfl rfl rfl rfl (by decide) (FA rfl) tA ?_;rintro _ _ ⟨rfl,rfl⟩)
    conv=>whnf
    refine zY (BS b (by omega)) ?_;conv=>whnf
    (refine z_ [5,8] (Ff ((l.getD p ⟨0, [], []⟩).blocks.map My) [bA b] _ q (by simp) (by omega) (by omega)) rfl rfl rfl rfl (by decide) (FA rfl) tA ?_;rintro _ _ ⟨rfl,rfl⟩)
    conv=>whnf
    try (refine tS ?_;conv=>whnf)
    (first | rw [hE] | rw [BK (by simpa using hlt)])
    conv=>whnf
    try (refine tS ?_;conv=>whnf)
    (first | rw [hE] | rw [BK (by simpa using hlt)])
    exact tA
  ·conv=>whnf
   try (refine Ai ⟨rfl,hL,by simpa using hlt⟩ ?_;conv=>whnf;(try rw [Ac]);rw [hE];conv=>whnf)
   (refine z_ [4,6] (Fc ((l.getD p ⟨0, [], []⟩).lbas.map DC) [iv lba] _ q (by simp) hend (by omega)) rfl rfl rfl rfl (by decide) (FA rfl) tA ?_;rintro _ _ ⟨rfl,rfl⟩)
   conv=>whnf
   refine zY (BS b (by omega)) ?_;conv=>whnf
   (refine z_ [5,8] (Ff ((l.getD p ⟨0, [], []⟩).blocks.map My) [bA b] _ q (by simp) (by omega) (by omega)) rfl rfl rfl rfl (by decide) (FA rfl) tA ?_;rintro _ _ ⟨rfl,rfl⟩)
   conv=>whnf
   try (refine tS ?_;conv=>whnf)
   (first | rw [hE] | rw [BK (by simpa using hlt)])
   conv=>whnf
   try (refine tS ?_;conv=>whnf)
   (first | rw [hE] | rw [BK (by simpa using hlt)])
   exact tA
 refine⟨_, .tp [.ow 0 l.length,iv 0],_,fun _ _ h=>h,ND (XB (h':=⟨(l.getD p ⟨0, [], []⟩).id,(l.getD p ⟨0, [], []⟩).lbas ++ [lba],(l.getD p ⟨0, [], []⟩).blocks ++ [b]⟩) (a:=7) (b:=9) hlt (by decide) (by decide) (by
  rw [List.set_set,List.set_set];refine congrArg (fun e=>some (AB.rowo _ _ ((l.map Eh).set p e) _)) ?_;show [_,AV.ow 7 _,AV.ow 9 _]=[_,_,_];congr 3
  ·congr 1;simp only [Ah,Ao,AN]
  ·congr 2;simp only [Ah,Ao,AN]) (by
  rw [A0];try rfl) (by
  rw [A0];try rfl)) rfl,rfl,rfl⟩
theorem X8 (l:List Hd) (id lba:Int) (b:List UInt8) (hl:l.length<=1000) (hs:∀ h∈l,I4 h) (hok:DO l=true) (hh:E3 l id=true) (h0:¬lba<0) (h8:b.length=8) (hf:KC (l.getD (Eb l id) ⟨0, [], []⟩) lba=false) (hend:Ef (l.getD (Eb l id) ⟨0, [], []⟩).lbas lba=(l.getD (Eb l id) ⟨0, [], []⟩).lbas.length):Fn Tryz.prog 203 [CJ l,iv id,iv lba,bA b] fun r=>r = .tp [CJ (l.set (Eb l id) (W6 (l.getD (Eb l id) ⟨0, [], []⟩) lba b)),iv 0]:=by
 refine(V5 l id lba b hl hs hok hh h0 h8 hf hend).fn ?_;rintro r H ⟨rfl,rfl⟩;refine⟨_,zE _,?_⟩;refine⟨by simp,?_⟩;refine⟨.tp [CJ (l.set (Eb l id) (W6 (l.getD (Eb l id) ⟨0, [], []⟩) lba b)),iv 0],BV ⟨fun c u h=>?_,ri,tv⟩,rfl⟩;exact E6 (f:=Eh) (d:=⟨0, [], []⟩) (by simp) c u h
def iz:Img:=⟨0,0, []⟩
def D0 (l:List Img) (z w:Int):Nat->Option Img
 | 0=>none
 | k+1=>if (l.getD k iz).zone=z/\(l.getD k iz).what=w then some (l.getD k iz) else D0 l z w k
def F8 (l:List Tx) (z w:Int):Nat->Option (Img × Int)
 | 0=>none
 | k+1=>match D0 (l.getD k tz).images z w (l.getD k tz).images.length with
  | some x=>some (x,(l.getD k tz).seq)
  | none=>F8 l z w k
def CG (l:List Tx) (z w:Int):Option (Img × Int):=F8 l z w l.length
theorem Nt {l:List Img} {z w:Int}:∀ {k:Nat} {x:Img},k<=l.length->D0 l z w k=some x->x∈l/\x.zone=z/\x.what=w
 | k+1,x,hk,h=>by
  rw [D0] at h;split at h
  ·rename_i hc;obtain rfl:=Option.some.inj h;exact⟨AC (by omega),hc⟩
  ·exact Nt (by omega) h
theorem Ns {l:List Tx} {z w:Int}:∀ {k:Nat} {x:Img} {s:Int},k<=l.length->F8 l z w k=some (x,s)->∃ t∈l,t.seq=s/\x∈t.images/\x.zone=z/\x.what=w
 | k+1,x,s,hk,h=>by
  rw [F8] at h;split at h
  ·rename_i y hy;obtain⟨rfl,rfl⟩:=Prod.mk.inj (Option.some.inj h);exact⟨l.getD k tz,AC (by omega),rfl,Nt (Ag _) hy⟩
  ·exact Ns (by omega) h
def Dy (a:An) (l:List Tx) (z:Int):Int:=match CG l z 255 with
 | some p=>p.2
 | none=>(a.homes.getD z.toNat ⟨[],0,0⟩).root
def Jc (n:Int):Int:=if 0<=n/\n<=30 then n else 0
def GN (l:List Tx):Nat->Int
 | 0=>0
 | k+1=>GN l k+Jc (l.getD k tz).n
def Ei (l:List Tx):Int:=GN l l.length
theorem OZ (n:Int):0<=Jc n/\Jc n<=30:=by
 unfold Jc;split <;> omega
theorem Hb (l:List Tx):∀ k:Nat,0<=GN l k/\GN l k<=30*k
 | 0=>by simp [GN]
 | k+1=>by
  have:=Hb l k;have:=OZ (l.getD k tz).n;rw [GN];omega
def E4 (g:Geo) (w:Int):Int:=if w = -1 then g.d else w
def D3 (g:Geo) (a:An) (z w:Int):Int:=Cw g z ((a.homes.getD z.toNat ⟨[],0,0⟩).places.getD (E4 g w).toNat 0)
def Cv (g:Geo) (x:Gt) (addr root:Int):Option (List Ent):=match D7 x addr with
 | some s=>if s.stamp=root then CV g s.pay else none
 | none=>none
def DJ (x:Gt) (addr:Int) (e:Ent):Option (List UInt8):=match D7 x addr with
 | some s=>if s.stamp=e.stamp/\s.pay.length=8/\((DG s.pay:Nat):Int)=e.sum then some s.pay else none
 | none=>none
def GT (a b:List UInt8):List UInt8:=List.zipWith (fun x y=>x ^^^ y) a b
def ez:Ent:=⟨0,0,false⟩
def Ie (t:List Ent) (had:List (List UInt8)) (at_:Nat):Nat->Option (List UInt8)
 | 0=>some zero8
 | k+1=>match Ie t had at_ k with
  | none=>none
  | some b=>if k=at_\/(t.getD k ez).lost=true then some b else if (had.getD k []).length=0 then none else some (GT b (had.getD k []))
def FP (g:Geo) (t:List Ent) (had:List (List UInt8)) (at_:Nat):List UInt8:=
 if (t.getD at_ ez).lost then []
 else if 0<(had.getD at_ []).length then had.getD at_ []
 else match Ie t had at_ (g.d.toNat+1) with
  | none=> []
  | some b=>if ((DG b:Nat):Int)=(t.getD at_ ez).sum then b else []
end
end Go.Proofs.YtpjkcgacjjbikaaGreatDoor.A
