/-
Several texts in one.
-/
import Derived.Test.YtldngmdpiifamaaGreatDoorPPB4P2
import Derived.Test.YtldngmdpiifamaaGreatDoorPPB4P0
import Derived.Test.YtldngmdpiifamaaGreatDoorPPB4P1
import Derived.Lib.Overlaps
import Derived.Laws.Externs
import Derived.ProofKit
import Derived.Deep.Slices
import Derived.OpenShut
section
namespace Go.Proofs.YtldngmdpiifamaaGreatDoor.A
open Go.RowKit
def perG (g:Geo):Int:=g.d+1+g.sp
def cellsN (g:Geo):Int:=g.an+2*g.sl+2*g.z+g.z*perG g
def tabAt (g:Geo) (z k:Int):Int:=g.an+2*g.sl+2*z+k
def slotAt (g:Geo) (z s:Int):Int:=g.an+2*g.sl+2*g.z+z*perG g+s
theorem per_bd {g:Geo} (hg:okG g=true):2≤perG g∧perG g≤7:=by
 obtain⟨h1,h2,h3,h4,h5⟩:=okG_iff.1 hg
 unfold perG;omega
theorem zper_bd {g:Geo} (hg:okG g=true) {z:Int} (hz:0≤z∧z≤4):0≤z*perG g∧z*perG g≤28:=by
 obtain⟨p1,p2⟩:=per_bd hg
 rcases(show z=0∨z=1∨z=2∨z=3∨z=4 by omega) with rfl | rfl | rfl | rfl | rfl <;> omega
theorem cells_bd {g:Geo} (hg:okG g=true):32≤cellsN g∧cellsN g≤99:=by
 obtain⟨h1,h2,h3,h4,h5⟩:=okG_iff.1 hg
 obtain⟨p1,p2⟩:=per_bd hg
 have:=zper_bd hg (z:=g.z) (by omega)
 unfold cellsN
 rcases(show g.z=1∨g.z=2∨g.z=3∨g.z=4 by omega) with h | h | h | h <;> rw [h] at this ⊢ <;> omega
theorem gtables_fn (g:Geo) (hg:okG g=true):Fn Tryz.prog 136 [.ag (geoC g)] fun r=>r = .v (.int .i64 (g.an+2*g.sl)):=by
 obtain⟨h1,h2,h3,h4,h5⟩:=okG_iff.1 hg
 refine Fn.of tys_ok Tryz.func136 rfl rfl (Nat.le_of_ble_eq_true rfl) ?_
 conv=>whnf
 exact⟨_,fun _ _ h=>h,by rw [wi (n:=2*g.sl) (by omega),wi (by omega)]⟩
theorem gSlots_fn (g:Geo) (hg:okG g=true):Fn Tryz.prog 74 [.ag (geoC g)] fun r=>r = .v (.int .i64 (perG g)):=by
 obtain⟨h1,h2,h3,h4,h5⟩:=okG_iff.1 hg
 refine Fn.of tys_ok Tryz.func74 rfl rfl (Nat.le_of_ble_eq_true rfl) ?_
 conv=>whnf
 exact⟨_,fun _ _ h=>h,by rw [wi (n:=g.d+1) (by omega),wi (by omega)];rfl⟩
theorem gslots1_fn (g:Geo) (hg:okG g=true):Fn Tryz.prog 139 [.ag (geoC g)] fun r=>r = .v (.int .i64 (g.an+2*g.sl+2*g.z)):=by
 obtain⟨h1,h2,h3,h4,h5⟩:=okG_iff.1 hg
 refine Fn.of tys_ok Tryz.func139 rfl rfl (Nat.le_of_ble_eq_true rfl) ?_
 conv=>whnf
 apply aDraw.tree tys_ok mixed (.one 0 (.one 2 (.one 3 (.one 4 (.one 1 (.one 5 (.one 6 .fin))))))) [2,3,4,5,6,7,8] (by kernel_rfl)
 ·conv=>whnf
  refine Fn.closed (gtables_fn g hg) rfl ?_
  rintro _ rfl
  conv=>whnf
  exact⟨rfl,rfl⟩
 conv=>whnf
 exact⟨_,fun _ _ h=>h,by rw [wi (n:=2*g.z) (by omega),wi (by omega)]⟩
theorem gcells1_fn (g:Geo) (hg:okG g=true):Fn Tryz.prog 129 [.ag (geoC g)] fun r=>r = .v (.int .i64 (cellsN g)):=by
 obtain⟨h1,h2,h3,h4,h5⟩:=okG_iff.1 hg
 have hz:=zper_bd hg (z:=g.z) (by omega)
 have hc:=cells_bd hg
 refine Fn.of tys_ok Tryz.func129 rfl rfl (Nat.le_of_ble_eq_true rfl) ?_
 conv=>whnf
 apply aDraw.tree tys_ok mixed (.one 0 (.one 2 (.one 3 (.one 4 (.one 1 (.one 5 (.one 6 (.one 7 (.one 8 .fin))))))))) [2,3,4,5,6,7,8,9,10] (by kernel_rfl)
 ·conv=>whnf
  refine Fn.closed (gslots1_fn g hg) rfl ?_
  rintro _ rfl
  conv=>whnf
  refine Fn.closed (gSlots_fn g hg) rfl ?_
  rintro _ rfl
  conv=>whnf
  exact⟨rfl,rfl⟩
 conv=>whnf
 exact⟨_,fun _ _ h=>h,by rw [wi (n:=g.z*perG g) (by omega),wi (by omega)];rfl⟩
theorem gcells_fn (g:Geo) (hg:okG g=true):Fn Tryz.prog 64 [.ag (geoC g)] fun r=>r = .tp [.v (.int .i64 (cellsN g)), .v (.int .i64 0)]:=by
 have ht:=told_fn g (cellsN g) true
 rw [hg] at ht
 refine Fn.of tys_ok Tryz.func64 rfl rfl (Nat.le_of_ble_eq_true rfl) ?_
 conv=>whnf
 apply aDraw.tree tys_ok mixed (.one 0 (.one 1 (.one 2 (.one 3 (.one 4 (.one 5 (.one 6 (.one 7 .fin)))))))) [2,3,4,5,6,7,8,9] (by kernel_rfl)
 ·conv=>whnf
  refine Fn.closed (gcells1_fn g hg) rfl ?_
  rintro _ rfl
  conv=>whnf
  refine Fn.closed (ht) rfl ?_
  rintro _ rfl
  conv=>whnf
  exact⟨rfl,rfl⟩
 conv=>whnf
 exact⟨_,fun _ _ h=>h,rfl⟩
theorem ganchor_fn (g:Geo) (i:Int) (hg:okG g=true) (hi:0≤i∧i<g.an):Fn Tryz.prog 66 [.ag (geoC g), .v (.int .i64 i)] fun r=>r = .tp [.v (.int .i64 i), .v (.int .i64 0)]:=by
 obtain⟨h1,h2,h3,h4,h5⟩:=okG_iff.1 hg
 have ht:=told_fn g i true
 rw [hg] at ht
 have hw:IntKind.i64.wrap (g.an - 1)=g.an - 1:=wi (by omega)
 have hn:=gin_fn i 0 (IntKind.i64.wrap (g.an - 1))
 rw [show inB i 0 (IntKind.i64.wrap (g.an - 1))=true from inB_iff.2 (by rw [hw];omega)] at hn
 refine Fn.of tys_ok Tryz.func66 rfl rfl (Nat.le_of_ble_eq_true rfl) ?_
 conv=>whnf
 apply aDraw.tree tys_ok mixed (.one 0 (.one 1 (.one 2 (.one 3 (.one 4 (.one 5 (.one 6 (.one 7 (.one 8 (.one 9 (.one 10 (.one 11 .fin)))))))))))) [4,5,6,7,8,9,10,11,12,13,14,15] (by kernel_rfl)
 ·conv=>whnf
  refine Fn.closed (hn) rfl ?_
  rintro _ rfl
  conv=>whnf
  refine Fn.closed (ht) rfl ?_
  rintro _ rfl
  conv=>whnf
  exact⟨rfl,rfl⟩
 conv=>whnf
 exact⟨_,fun _ _ h=>h,rfl⟩
theorem gtable_fn (g:Geo) (z k:Int) (hg:okG g=true) (hz:0≤z∧z<g.z) (hk:0≤k∧k≤1):Fn Tryz.prog 72 [.ag (geoC g), .v (.int .i64 z), .v (.int .i64 k)] fun r=>r = .tp [.v (.int .i64 (tabAt g z k)), .v (.int .i64 0)]:=by
 obtain⟨h1,h2,h3,h4,h5⟩:=okG_iff.1 hg
 have e:IntKind.i64.wrap (IntKind.i64.wrap (g.an+2*g.sl+IntKind.i64.wrap (2*z))+k)=tabAt g z k:=by
  rw [wi (n:=2*z) (by omega),wi (n:=g.an+2*g.sl+2*z) (by omega),wi (by omega)];rfl
 have ht:=told_fn g (IntKind.i64.wrap (IntKind.i64.wrap (g.an+2*g.sl+IntKind.i64.wrap (2*z))+k)) true
 rw [hg] at ht
 have hw:IntKind.i64.wrap (g.z - 1)=g.z - 1:=wi (by omega)
 have hn:=gin_fn z 0 (IntKind.i64.wrap (g.z - 1))
 rw [show inB z 0 (IntKind.i64.wrap (g.z - 1))=true from inB_iff.2 (by rw [hw];omega)] at hn
 have hn2:=gin_fn k 0 1
 rw [show inB k 0 1=true from inB_iff.2 hk] at hn2
 refine Fn.of tys_ok Tryz.func72 rfl rfl (Nat.le_of_ble_eq_true rfl) ?_
 conv=>whnf
 apply aDraw.tree tys_ok mixed (.one 0 (.one 1 (.one 3 (.one 4 (.one 6 (.one 8 (.one 9 (.one 10 (.one 11 (.one 2 (.one 5 (.one 7 (.one 12 (.one 13 (.one 14 (.one 15 (.one 16 (.one 17 (.one 18 (.one 19 (.one 20 (.one 21 .fin)))))))))))))))))))))) [6,7,8,9,10,11,12,13,14,15,16,17,18,19,20,21,22,23,24,25,26,27] (by kernel_rfl)
 ·conv=>whnf
  refine Fn.closed (gtables_fn g hg) rfl ?_
  rintro _ rfl
  conv=>whnf
  refine Fn.closed (hn) rfl ?_
  rintro _ rfl
  conv=>whnf
  refine Fn.closed (hn2) rfl ?_
  rintro _ rfl
  conv=>whnf
  refine Fn.closed (ht) rfl ?_
  rintro _ rfl
  conv=>whnf
  exact⟨rfl,rfl⟩
 conv=>whnf
 exact⟨_,fun _ _ h=>h,by simp only [Bool.and_self,if_true];rw [e]⟩
theorem gslot_fn (g:Geo) (z s:Int) (hg:okG g=true) (hz:0≤z∧z<g.z) (hs:0≤s∧s<perG g):Fn Tryz.prog 75 [.ag (geoC g), .v (.int .i64 z), .v (.int .i64 s)] fun r=>r = .tp [.v (.int .i64 (slotAt g z s)), .v (.int .i64 0)]:=by
 obtain⟨h1,h2,h3,h4,h5⟩:=okG_iff.1 hg
 have hzp:=zper_bd hg (z:=z) (by omega)
 have hp:=per_bd hg
 have e:IntKind.i64.wrap (IntKind.i64.wrap (g.an+2*g.sl+2*g.z+IntKind.i64.wrap (z*perG g))+s)=slotAt g z s:=by
  rw [wi (n:=z*perG g) (by omega),wi (n:=g.an+2*g.sl+2*g.z+z*perG g) (by omega),wi (by omega)];rfl
 have ht:=told_fn g (IntKind.i64.wrap (IntKind.i64.wrap (g.an+2*g.sl+2*g.z+IntKind.i64.wrap (z*perG g))+s)) true
 rw [hg] at ht
 have hw:IntKind.i64.wrap (g.z - 1)=g.z - 1:=wi (by omega)
 have hn:=gin_fn z 0 (IntKind.i64.wrap (g.z - 1))
 rw [show inB z 0 (IntKind.i64.wrap (g.z - 1))=true from inB_iff.2 (by rw [hw];omega)] at hn
 have hw2:IntKind.i64.wrap (perG g - 1)=perG g - 1:=wi (by omega)
 have hn2:=gin_fn s 0 (IntKind.i64.wrap (perG g - 1))
 rw [show inB s 0 (IntKind.i64.wrap (perG g - 1))=true from inB_iff.2 (by rw [hw2];omega)] at hn2
 refine Fn.of tys_ok Tryz.func75 rfl rfl (Nat.le_of_ble_eq_true rfl) ?_
 conv=>whnf
 apply aDraw.tree tys_ok mixed (.one 0 (.one 1 (.one 3 (.one 4 (.one 8 (.one 10 (.one 11 (.one 12 (.one 13 (.one 2 (.one 5 (.one 6 (.one 7 (.one 9 (.one 14 (.one 15 (.one 16 (.one 17 (.one 18 (.one 19 (.one 20 (.one 21 (.one 22 (.one 23 (.one 24 (.one 25 (.one 26 .fin))))))))))))))))))))))))))) [6,7,8,9,10,11,12,13,14,15,16,17,18,19,20,21,22,23,24,25,26,27,28,29,30,31,32] (by kernel_rfl)
 ·conv=>whnf
  refine Fn.closed (gslots1_fn g hg) rfl ?_
  rintro _ rfl
  conv=>whnf
  refine Fn.closed (gSlots_fn g hg) rfl ?_
  rintro _ rfl
  conv=>whnf
  refine Fn.closed (hn) rfl ?_
  rintro _ rfl
  conv=>whnf
  refine Fn.closed (gSlots_fn g hg) rfl ?_
  rintro _ rfl
  conv=>whnf
  refine Fn.closed (hn2) rfl ?_
  rintro _ rfl
  conv=>whnf
  refine Fn.closed (ht) rfl ?_
  rintro _ rfl
  conv=>whnf
  exact⟨rfl,rfl⟩
 conv=>whnf
 exact⟨_,fun _ _ h=>h,by simp only [Bool.and_self,if_true];rw [e]⟩
theorem rper_fn (g:Geo) (hg:okG g=true):Fn Tryz.prog 85 [.ag (geoC g)] fun r=>r = .v (.int .i64 (perG g)):=by
 obtain⟨h1,h2,h3,h4,h5⟩:=okG_iff.1 hg
 refine Fn.of tys_ok Tryz.func85 rfl rfl (Nat.le_of_ble_eq_true rfl) ?_
 conv=>whnf
 exact⟨_,fun _ _ h=>h,by rw [wi (n:=g.d+1) (by omega),wi (by omega)];rfl⟩
theorem rcellsN_fn (g:Geo) (hg:okG g=true):Fn Tryz.prog 79 [.ag (geoC g)] fun r=>r = .v (.int .i64 (cellsN g)):=by
 obtain⟨h1,h2,h3,h4,h5⟩:=okG_iff.1 hg
 have hz:=zper_bd hg (z:=g.z) (by omega)
 have hc:=cells_bd hg
 refine Fn.of tys_ok Tryz.func79 rfl rfl (Nat.le_of_ble_eq_true rfl) ?_
 conv=>whnf
 apply aDraw.tree tys_ok mixed (.one 0 (.one 1 (.one 2 (.one 3 (.one 4 (.one 5 (.one 6 (.one 7 (.one 8 (.one 9 (.one 10 (.one 11 (.one 12 (.one 13 (.one 14 (.one 15 (.one 16 .fin))))))))))))))))) [2,3,4,5,6,7,8,9,10,11,12,13,14,15,16,17,18] (by kernel_rfl)
 ·conv=>whnf
  refine Fn.closed (rper_fn g hg) rfl ?_
  rintro _ rfl
  conv=>whnf
  exact⟨rfl,rfl⟩
 conv=>whnf
 exact⟨_,fun _ _ h=>h,by rw [wi (n:=g.z*perG g) (by omega),wi (n:=2*g.sl) (by omega),wi (n:=2*g.z) (by omega),wi (n:=g.an+2*g.sl) (by omega),wi (n:=g.an+2*g.sl+2*g.z) (by omega),wi (by omega)];rfl⟩
theorem rtable_fn (g:Geo) (z k:Int) (hg:okG g=true) (hz:0≤z∧z<g.z) (hk:0≤k∧k≤1):Fn Tryz.prog 83 [.ag (geoC g), .v (.int .i64 z), .v (.int .i64 k)] fun r=>r = .v (.int .i64 (tabAt g z k)):=by
 obtain⟨h1,h2,h3,h4,h5⟩:=okG_iff.1 hg
 refine Fn.of tys_ok Tryz.func83 rfl rfl (Nat.le_of_ble_eq_true rfl) ?_
 conv=>whnf
 exact⟨_,fun _ _ h=>h,by rw [wi (n:=2*g.sl) (by omega),wi (n:=2*z) (by omega),wi (n:=g.an+2*g.sl) (by omega),wi (n:=g.an+2*g.sl+2*z) (by omega),wi (by omega)];rfl⟩
theorem rslot_fn (g:Geo) (z s:Int) (hg:okG g=true) (hz:0≤z∧z<g.z) (hs:0≤s∧s<perG g):Fn Tryz.prog 86 [.ag (geoC g), .v (.int .i64 z), .v (.int .i64 s)] fun r=>r = .v (.int .i64 (slotAt g z s)):=by
 obtain⟨h1,h2,h3,h4,h5⟩:=okG_iff.1 hg
 have hzp:=zper_bd hg (z:=z) (by omega)
 have hp:=per_bd hg
 refine Fn.of tys_ok Tryz.func86 rfl rfl (Nat.le_of_ble_eq_true rfl) ?_
 conv=>whnf
 apply aDraw.tree tys_ok mixed (.one 0 (.one 1 (.one 2 (.one 3 (.one 4 (.one 5 (.one 6 (.one 7 (.one 8 (.one 9 (.one 10 (.one 11 (.one 15 (.one 12 (.one 13 (.one 14 (.one 16 (.one 17 .fin)))))))))))))))))) [6,7,8,9,10,11,12,13,14,15,16,17,18,19,20,21,22,23] (by kernel_rfl)
 ·conv=>whnf
  refine Fn.closed (rper_fn g hg) rfl ?_
  rintro _ rfl
  conv=>whnf
  exact⟨rfl,rfl⟩
 conv=>whnf
 exact⟨_,fun _ _ h=>h,by rw [wi (n:=z*perG g) (by omega),wi (n:=2*g.sl) (by omega),wi (n:=2*g.z) (by omega),wi (n:=g.an+2*g.sl) (by omega),wi (n:=g.an+2*g.sl+2*g.z) (by omega),wi (n:=g.an+2*g.sl+2*g.z+z*perG g) (by omega),wi (by omega)];rfl⟩
theorem anN_rows (a:An):rowB (anN a) szA=leB 4 a.gen.toNat ++ (leB 4 a.epoch.toNat ++ (leB 4 a.seq.toNat ++ (leB 4 a.last.toNat ++ leB 1 a.pos.toNat))):=by
 simp [rowB,anN,szA]
set_option maxRecDepth 100000 in
theorem ranB_fn (g:Geo) (a:An) (hg:okG g=true) (ha:anOk g a=true):Fn Tryz.prog 147 [.ag (anC a)] fun r=>r=bA (anB a):=by
 obtain⟨g1,g2,g3,g4,g5⟩:=okG_iff.1 hg
 obtain⟨q1,q2,q3,q4,q5⟩:=anBk_len hg ha 0 (Nat.zero_le _)
 have ha0:=ha
 simp only [anOk,Bool.and_eq_true,decide_eq_true_eq,List.all_cons,List.all_nil,Bool.and_true,inB_iff,List.all_eq_true] at ha
 obtain⟨⟨w1,w2,w3,w4⟩,_,_,w5,_,_,_⟩:=ha
 have p1:=rput_int [] a.gen 4 (by simp) w1 (by decide)
 have p2:=rput_int (leB 4 a.gen.toNat) a.epoch 4 (by rw [leB_len];decide) w2 (by decide)
 have p3:=rput_int (leB 4 a.gen.toNat ++ leB 4 a.epoch.toNat) a.seq 4 (by simp [leB_len]) w3 (by decide)
 have p4:=rput_int (leB 4 a.gen.toNat ++ leB 4 a.epoch.toNat ++ leB 4 a.seq.toNat) a.last 4 (by simp [leB_len]) w4 (by decide)
 have p5:=rput_own (leB 4 a.gen.toNat ++ leB 4 a.epoch.toNat ++ leB 4 a.seq.toNat ++ leB 4 a.last.toNat) a.pos 1 (by simp [leB_len]) (by omega) (by decide)
 have hlb:=rlblB_fn a.label (by omega)
 refine Fn.of tys_ok Tryz.func147 rfl rfl (Nat.le_of_ble_eq_true rfl) ?_
 conv=>whnf
 refine ACalls.sub [bA [], .v (.int .i64 a.gen), .v (.int .i64 4)] ⟨nil_sl 1 _,fun _ _ h=>h,fun _ _ h=>h,trivial⟩ ?_
 refine Fn.closed (p1) rfl ?_
 rintro _ rfl
 conv=>whnf
 refine Fn.closed (p2) rfl ?_
 rintro _ rfl
 conv=>whnf
 refine Fn.closed (p3) rfl ?_
 rintro _ rfl
 conv=>whnf
 refine Fn.closed (p4) rfl ?_
 rintro _ rfl
 conv=>whnf
 apply aDraw.treeK (0) tys_ok mixed (.one 0 (.one 1 (.one 2 (.one 4 (.one 5 (.one 3 (.one 6 (.one 7 (.one 8 .fin))))))))) (by kernel_rfl)
 conv=>whnf
 (refine ACalls.beside p5 rfl ?_;rintro _ _ ⟨rfl,rfl⟩)
 conv=>whnf
 refine Fn.closed (hlb) rfl ?_
 rintro _ rfl
 conv=>whnf
 try (refine And.intro (by first | rfl | omega) ?_;conv=>whnf)
 try (refine And.intro (by first | omega | exact⟨by first | rfl | (simp;done) | (simp;omega),by omega⟩) ?_;conv=>whnf)
 have eR:leB 4 a.gen.toNat ++ leB 4 a.epoch.toNat ++ leB 4 a.seq.toNat ++ leB 4 a.last.toNat ++ leB 1 a.pos.toNat=rowB (anN a) szA:=by rw [anN_rows];simp
 rw [eR]
 have hr17:(rowB (anN a) szA).length=17:=tot_rowB _ _ rfl
 refine And.intro ⟨by simp,by rw [hr17,lblB_len];omega⟩ ?_
 conv=>whnf
 have e0:(rowB (anN a) szA).map by1 ++ ((List.range (lblB a.label).length).map fun i=> [AV.v (Value.int IntKind.u8 (((lblB a.label).getD i 0).toNat:Int))])=(anBk a 0).map by1:=by
  rw [by_range,←List.map_append];simp [anBk]
 have e1:(rowB (anN a) szA).length+(lblB a.label).length=(anBk a 0).length:=by simp [anBk]
 refine aLoop.ruleR Nat (fun k=>([(1, .bp 0 0),(3, .ow 1 (anBk a k).length),(4, .v (.int .i64 k))], [.box 40 (anC a), .row 5 1 ((anBk a k).map by1)])) (fun k=>k≤a.homes.length) (fun k=>a.homes.length - k) 0 (Nat.zero_le _)
  (Wk.conv ⟨[],trivial,⟨rfl,congrArg (AV.ow 1) e1,rfl,trivial⟩,⟨rfl,congrArg (AB.row _ _) e0.symm,trivial⟩,rfl,rfl,rfl⟩) ?_
 intro k hk
 conv=>whnf
 refine boolI (fun h6=>?_) (fun h6=>?_) <;> (repeat rw [Int.toNat_natCast] at h6) <;> conv=>whnf
 ·have hk':k<a.homes.length:=by omega
  have hh4:=q5 _ (getD_mem (d:=(⟨[],0,0⟩:Hm)) hk')
  obtain⟨f1,f2,f3,f4,f5⟩:=hm_fit hg hh4
  have hst:=anBk_step a k hk'
  have hB:=(anBk_len hg ha0 k hk).1
  have hB2:=(anBk_len hg ha0 (k+1) hk').1
  obtain⟨h,hh⟩:∃ h,h=a.homes.getD k ⟨[],0,0⟩:=⟨_,rfl⟩
  rw [←hh] at hh4 f1 f2 f3 f4 f5 hst
  generalize hX:anBk a k=X at hst hB ⊢
  have hlm:(hmB h).length=h.places.length+5:=by rw [hmB_row,tot_rowB _ _ (by rw [List.length_append,szH_len];rfl),tot_szH]
  rw [hst,List.length_append,hlm] at hB2
  refine aLoop.ruleR Nat (fun j=>([(1, .bp 0 0),(3, .ow 1 (X ++ plB (h.places.take j)).length),(4, .v (.int .i64 k)),(5, .v (.int .i64 j))], [.box 40 (anC a), .row 5 1 ((X ++ plB (h.places.take j)).map by1)])) (fun j=>j≤h.places.length) (fun j=>h.places.length - j) 0 (Nat.zero_le _)
   (Wk.conv ⟨[],trivial,⟨rfl,congrArg (fun l=>AV.ow 1 (List.length l)) (List.append_nil X).symm,rfl,rfl,trivial⟩,⟨rfl,congrArg (fun l=>AB.row _ _ (List.map by1 l)) (List.append_nil X),trivial⟩,rfl,rfl,rfl⟩) ?_
  intro j hj
  conv=>whnf
  have hgk:a.homes.getD (k:Int).toNat ⟨[],0,0⟩=h:=by rw [Int.toNat_natCast,hh]
  refine⟨by first | omega | (refine⟨rfl,?_,?_⟩ <;> first | omega | (simp only [List.length_map];done) | (simp only [List.length_map];omega)) | (simp only [List.length_map];omega),?_⟩
  conv=>whnf
  rw [hgk]
  refine boolI (fun h7=>?_) (fun h7=>?_) <;> (repeat rw [Int.toNat_natCast] at h7) <;> conv=>whnf
  ·refine⟨by first | omega | (refine⟨rfl,?_,?_⟩ <;> first | omega | (simp only [List.length_map];done) | (simp only [List.length_map];omega)) | (simp only [List.length_map];omega),?_⟩
   conv=>whnf
   rw [hgk]
   refine⟨by first | omega | (refine⟨rfl,?_,?_⟩ <;> first | omega | (simp only [List.length_map];done) | (simp only [List.length_map];omega)) | (simp only [List.length_map];omega),?_⟩
   conv=>whnf
   rw [Int.toNat_natCast]
   have hj':j<h.places.length:=by omega
   have hp:=f2 _ (getD_mem (d:=(0:Int)) hj')
   have hpl:=plB_len (h.places.take j)
   have hps:=plB_step h.places j hj'
   have hput:=rput_own (X ++ plB (h.places.take j)) (h.places.getD j 0) 1 (by rw [List.length_append,hpl,List.length_take];omega) (by omega) (by decide)
   rw [List.append_assoc,←hps] at hput
   refine ACalls.shut (hput).go ?_
   conv=>whnf
   repeat' (refine And.intro (by first | rfl | omega | (simp;done) | (simp only [List.length_map];omega) | (simp;omega)) ?_;conv=>whnf)
   refine ACalls.sub [bA (X ++ plB (h.places.take j)), .v (.int .i64 (h.places.getD j 0)), .v (.int .i64 1)] ⟨by_sub rfl rfl,fun _ _ h=>h,fun _ _ h=>h,trivial⟩ ?_
   refine ACalls.beside (hput) rfl ?_
   rintro _ _ ⟨rfl,rfl⟩
   conv=>whnf
   refine⟨j+1,by omega,by omega,WkN.r (s:= [0,2]) ⟨⟨rfl,rfl,rfl,wsucc (by omega),trivial⟩,⟨rfl,rfl,trivial⟩,rfl,rfl,rfl,rfl,rfl⟩⟩
  ·have ej:j=h.places.length:=by omega
   subst ej
   have hpl:=plB_len (h.places.take h.places.length)
   rw [List.take_length] at hpl ⊢
   have hp1:=rput_int (X ++ plB h.places) h.next 1 (by rw [List.length_append,hpl];omega) (by omega) (by decide)
   have hp2:=rput_own (X ++ plB h.places ++ leB 1 h.next.toNat) h.root 4 (by rw [List.length_append,List.length_append,hpl,leB_len];omega) (by omega) (by decide)
   have eY:X ++ plB h.places ++ leB 1 h.next.toNat ++ leB 4 h.root.toNat=X ++ hmB h:=by simp [hmB,rowB]
   rw [eY] at hp2
   apply aDraw.treeK (0) tys_ok mixed (.one 0 (.one 1 (.one 2 (.one 3 (.one 4 (.one 5 (.one 6 (.one 8 (.one 9 (.one 10 (.one 11 (.one 12 (.one 13 (.one 7 (.one 14 (.one 15 .fin)))))))))))))))) (by kernel_rfl)
   conv=>whnf
   try (refine And.intro (by first | omega | (simp;done)) ?_;conv=>whnf)
   try (refine And.intro (by first | omega | (simp;done)) ?_;conv=>whnf)
   (rw [hgk];refine ACalls.shut hp1.go ?_;(conv=>whnf);refine And.intro (by simp) ?_;(conv=>whnf);refine ACalls.sub [bA (X ++ plB h.places), .v (.int .i64 h.next), .v (.int .i64 1)] ⟨by_sub rfl rfl,fun _ _ h=>h,fun _ _ h=>h,trivial⟩ ?_;refine Fn.closed hp1 rfl ?_;rintro _ rfl)
   conv=>whnf
   (refine ACalls.beside hp2 rfl ?_;rintro _ _ ⟨rfl,rfl⟩)
   conv=>whnf
   refine⟨k+1,hk',by omega,WkN.r (s:= [0,2]) ⟨⟨rfl,congrArg (AV.ow 2) (by rw [hst]),wsucc (by omega),trivial⟩,⟨rfl,congrArg (fun l=>some (AB.row _ _ l)) (by rw [hst]),trivial⟩,rfl,rfl,rfl,rfl,rfl⟩⟩
 ·have ek:k=a.homes.length:=by omega
  subst ek
  rw [anBk_all]
  refine And.intro (by simp) ?_
  conv=>whnf
  exact⟨bA (anB a),by_sub rfl rfl,rfl⟩
def anCell (a:An) (i:Int):List UInt8:=sealB i a.gen (anB a)
theorem anB_short {g:Geo} {a:An} (hg:okG g=true) (ha:anOk g a=true):(anB a).length≤82:=by
 obtain⟨g1,g2,g3,g4,g5⟩:=okG_iff.1 hg
 have hz:=ha
 simp only [anOk,Bool.and_eq_true,decide_eq_true_eq,List.all_cons,List.all_nil,Bool.and_true,inB_iff,List.all_eq_true] at hz
 obtain⟨_,_,_,_,q6,q7,q8⟩:=hz
 have h24:=labE_len q6
 have hs:a.label.size=a.label.data.toList.length:=rfl
 have hr:(rowB (anN a) szA).length=17:=tot_rowB _ _ rfl
 have hm:=(hmsOf_B hg a.homes q8).2
 have hmul:a.homes.length*(g.d.toNat+6)≤4*10:=Nat.mul_le_mul (by omega) (by omega)
 rw [anB,List.length_append,List.length_append,hr,lblB_len,hm]
 omega
theorem anOk_gen {g:Geo} {a:An} (ha:anOk g a=true):0≤a.gen∧a.gen≤4294967295:=by
 simp only [anOk,Bool.and_eq_true,decide_eq_true_eq,List.all_cons,List.all_nil,Bool.and_true,inB_iff,List.all_eq_true] at ha
 exact ha.1.1
theorem anCell_ok {g:Geo} {a:An} (hg:okG g=true) (ha:anOk g a=true) {i:Int} (hi:0≤i∧i≤65535):okS i a.gen (anB a):=
 ⟨hi.1,hi.2,(anOk_gen ha).1,(anOk_gen ha).2,by have:=anB_short hg ha;omega⟩
theorem rancell_fn (g:Geo) (a:An) (i:Int) (hg:okG g=true) (ha:anOk g a=true) (hi:0≤i∧i≤65535):Fn Tryz.prog 80 [.ag (anC a), .v (.int .i64 i)] fun r=>r=bA (anCell a i):=by
 have h1:=ranB_fn g a hg ha
 have h2:=rcellB_fn i a.gen (anB a) (anCell_ok hg ha hi)
 refine Fn.of tys_ok Tryz.func80 rfl rfl (Nat.le_of_ble_eq_true rfl) ?_
 conv=>whnf
 apply aDraw.tree tys_ok mixed (.one 0 (.one 1 (.one 2 (.one 3 (.one 4 (.one 5 (.one 6 .fin))))))) [4,5,6,7,8,9,10] (by kernel_rfl)
 ·conv=>whnf
  refine Fn.closed (h1) rfl ?_
  rintro _ rfl
  conv=>whnf
  refine Fn.closed (h2) rfl ?_
  rintro _ rfl
  conv=>whnf
  exact⟨rfl,rfl⟩
 conv=>whnf
 exact⟨_,fun _ _ h=>h,rfl⟩
theorem ncell_fn (g:Geo) (a:An) (i:Int) (hg:okG g=true) (ha:anOk g a=true) (hi:0≤i∧i<g.an):Fn Tryz.prog 67 [.ag (geoC g), .ag (anC a), .v (.int .i64 i)] fun r=>r = .tp [bA (anCell a i), .v (.int .i64 0)]:=by
 obtain⟨g1,g2,g3,g4,g5⟩:=okG_iff.1 hg
 obtain⟨q1,q2,q3,q4,q5⟩:=anBk_len hg ha 0 (Nat.zero_le _)
 have h1:=abytes_fn g a (by omega) (by omega)
 rw [hg,ha] at h1
 have h2:=ganchor_fn g i hg hi
 have h3:=smake_fn i a.gen (anB a) (anCell_ok hg ha (by omega))
 refine Fn.of tys_ok Tryz.func67 rfl rfl (Nat.le_of_ble_eq_true rfl) ?_
 conv=>whnf
 refine Fn.closed (h1) rfl ?_
 rintro _ rfl
 conv=>whnf
 refine Fn.closed (h2) rfl ?_
 rintro _ rfl
 conv=>whnf
 refine Fn.closed (h3) rfl ?_
 rintro _ rfl
 conv=>whnf
 exact⟨_,fun _ _ h=>h,rfl⟩
end Go.Proofs.YtldngmdpiifamaaGreatDoor.A
end
section
namespace Go.Proofs.YtldngmdpiifamaaGreatDoor
open Go.RowKit
attribute [local go_sem ↓] Go.wp_at_zero Go.wp_at_succ

theorem run_copy_K {P:Program} (w:World) (dT sT ty elem:TypeId) (g o dLen dCap:Nat) (a:Addr) (sLen sCap:Nat) (cur:Array Value) (t:TypeId) (cs:List Value) (sz:Nat)
  (hu:P.underlying dT=some (.slice elem)) (hs:(P.info? elem).map (·.size)=some sz)
  (hg:w.heap[g]? = some (.cells cur t (0,0))) (hn:cs.length=Nat.min sLen dLen*sz)
  (hsrc:∀ j v,cs[j]? = some v→w.cell? (a.add j)=some v) (hfit:o+cs.length≤cur.size) (h1:∀ v∈cs,v.oneCell'=true) :
  (Builtin.copy_ #[dT,sT] ty #[.slice (some ⟨g,o,none⟩) dLen dCap, .slice (some a) sLen sCap]).run P w =
   .ok (goInt (Nat.min sLen dLen)) (w.setRow g (cur.toList.take o ++ cs ++ cur.toList.drop (o+cs.length)).toArray):=by
 have hl:=run_loadCells_list (P:=P) w a cs hsrc
 have hst:=run_storeCells_at P g o t cs 0 cur w hg (by simpa using hfit) h1
 cases hq:P.info? elem with
 | none=>simp [hq] at hs
 | some i=>
  have hi:i.size=sz:=by simpa [hq] using hs
  have e':Nat.min sLen dLen*sz=cs.length:=hn.symm
  simp [Builtin.copy_,run_underlying hu,Builtin.lenOf,Builtin.firstCells,sizeOf,typeInfo,hq,hi,e',hl,hst]
theorem step_copy_R {P:Program} {ops:Array Oper} {o:Oper} {a:Act} {w:World} {K:Act→World→Prop} {Q:Exit→Act→World→Prop} {E:Prop}
  (hg:o.guard=none) (d x:Operand) (dT sT:TypeId) (hop:o.op=Op.call { callee:=Callee.builtin Builtin.copy,args:= #[d,x],argTypes:= #[dT,sT] })
  {v u:Value} (hd:a.eval d=v) (hx:a.eval x=u) {v':Value} {w':World} (hr:(Builtin.copy_ #[dT,sT] o.type #[v,u]).run P w = .ok v' w') (hK:K (a.put o.dst v') w') :
  if Region.wanted o (yielded ops a.tmps)=true then Oper.wp P o a w K Q else E:=by
 have hw:Region.wanted o (yielded ops a.tmps)=true:=by simp [Region.wanted,hg]
 rw [if_pos hw]
 unfold Oper.wp
 simp [execOp,hop,resolve,invoke,builtin,hd,hx,hr,Result.andThen]
 exact hK
theorem setRow_grown {w:World} {g:Nat} {cs:Array Value} {row:Option Nat} (h:row=some g):w.grownBy (w.setRow g cs) row:=
 ⟨rfl,rfl,rfl,by simp [World.setRow],fun k _ hne=>setRow_other w g k cs (fun e=>hne (by rw [h,e]))⟩
def repL (xs zs:List Value) (k m:Nat):List Value:=(List.replicate k xs).flatten ++ (List.replicate m zs).flatten
theorem rep_add {α:Type} (a b:Nat) (x:α):List.replicate (a+b) x=List.replicate a x ++ List.replicate b x:=(List.replicate_append_replicate).symm
theorem flat_len {n:Nat} {xs:List Value}:(List.replicate n xs).flatten.length=n*xs.length:=by simp
theorem repL_step {xs zs:List Value} {k m j:Nat} (h:xs.length=zs.length) (hm:j≤m) :
  (repL xs zs k m).take (k*xs.length) ++ (List.replicate j xs).flatten ++ (repL xs zs k m).drop (k*xs.length+(List.replicate j xs).flatten.length)=repL xs zs (k+j) (m - j):=by
 have e1:(repL xs zs k m).take (k*xs.length)=(List.replicate k xs).flatten:=by
  unfold repL;rw [List.take_left' (by simp)]
 have e2:(repL xs zs k m).drop (k*xs.length+(List.replicate j xs).flatten.length)=(List.replicate (m - j) zs).flatten:=by
  unfold repL
  rw [←List.drop_drop,List.drop_left' (by simp),flat_len,h,show m=j+(m - j) by omega,rep_add,List.flatten_append,List.drop_left' (by simp),show j+(m - j) - j=m - j by omega]
 rw [e1,e2]
 unfold repL
 rw [rep_add,List.flatten_append]
theorem rep_cell {xs zs:List Value} {k m j i:Nat} {v:Value} (hj:j≤k) (hv:(List.replicate j xs).flatten[i]? = some v):(repL xs zs k m)[i]? = some v:=by
 have e:repL xs zs k m=(List.replicate j xs).flatten ++ ((List.replicate (k - j) xs).flatten ++ (List.replicate m zs).flatten):=by
  unfold repL;rw [←List.append_assoc,←List.flatten_append (L₁:=List.replicate j xs),←rep_add,show j+(k - j)=k by omega]
 rw [e,List.getElem?_append_left (List.getElem?_eq_some_iff.1 hv).1,hv]

end Go.Proofs.YtldngmdpiifamaaGreatDoor
end
section
namespace Go.Proofs.YtldngmdpiifamaaGreatDoor
open Go.RowKit
attribute [local go_sem ↓] Go.wp_at_zero Go.wp_at_succ

set_option maxRecDepth 100000 in
set_option maxHeartbeats 4000000 in
theorem repeatI_any (a:Addr) (cap:Nat) (x:Int) (N:Nat) (w:World) (hN:2≤N∧N≤6) (hx:∀ j u, [Value.int .i64 x][j]? = some u→w.cell? (a.add j)=some u)
  (hmul:Calls Tryz.prog 185 #[.int .u64 1, .int .u64 N] w fun e w'=>e = .returned (.tuple #[.int .u64 0, .int .u64 N])∧Below w.heap.size w w') :
  Calls Tryz.prog 236 #[.slice (some a) 1 cap, .int .i64 N] w fun e w'=>∃ g,e = .returned (.slice (some ⟨g,0,none⟩) N N)∧w.heap.size≤g∧w'.heap[g]? = some (.cells (repL [Value.int .i64 x] [Value.int .i64 0] N 0).toArray 3 (0,0))∧Below w.heap.size w w':=by
 have hw1:IntKind.u64.wrap (N:Int)=N:=by rw [IntKind.wrap_u64];omega
 have hw2:IntKind.i64.wrap (N:Int)=N:=by rw [IntKind.wrap_i64];omega
 have h0:¬(N:Int)<0:=by omega
 have h9:¬(9223372036854775807:Int)<N:=by omega
 have hmk:∀ w:World,(Instr.makeSlice 24 (.int .i64 (N:Int)) (.int .i64 (N:Int))).run Tryz.prog w = .ok (.slice (some ⟨w.heap.size,0,none⟩) N N) (w.alloc (.cells (repL [Value.int .i64 x] [Value.int .i64 0] 0 N).toArray 3)):=by
  intro w
  obtain⟨i,h1,h2,h3,h4⟩:=info_parts (show (Tryz.prog.info? 3).map (fun i=>(i.zero,i.size,i.bytes))=some (some (.int .i64 0),1,8) by kernel_rfl)
  have hr:=run_make (P:=Tryz.prog) w 24 3 i (.int .i64 0) (by kernel_rfl) h1 h2 .i64 .i64 N N (by omega) (by omega) (by rw [h4];omega) (by omega)
  simp only [Int.toNat_natCast,h3] at hr
  rw [hr]
  congr 3
  rw [repL]
  rcases(show N=2∨N=3∨N=4∨N=5∨N=6 by omega) with rfl | rfl | rfl | rfl | rfl <;> kernel_rfl
 have HX:=Lib.hid hx
 have HM:=Lib.hid hmul
 have HN:=Lib.hid hN
 clear hx hmul hN
 go_enter Tryz.func236,Tryz.ntmps236
 go_wp2_with (go_at_call 185;go_must (with_reducible refine HM.out.mono ?_);rintro e w1 ⟨rfl,hB1⟩)
 have hn1:¬((some ⟨w1.heap.size,0,none⟩:Option Addr)=none):=by simp
 have hg1:(w1.alloc (.cells (repL [Value.int .i64 x] [Value.int .i64 0] 0 N).toArray 3)).heap[w1.heap.size]? = some (.cells (repL [Value.int .i64 x] [Value.int .i64 0] 0 N).toArray 3 (0,0)):=heap_alloc_new w1 _
 have hBA:=hB1.trans ((Below.refl w1.heap.size w1).alloc (Nat.le_refl _) (.cells (repL [Value.int .i64 x] [Value.int .i64 0] 0 N).toArray 3) |>.mono hB1.size)
 have hc1:=run_copy_K (P:=Tryz.prog) (w1.alloc (.cells (repL [Value.int .i64 x] [Value.int .i64 0] 0 N).toArray 3)) 24 24 3 3 w1.heap.size 0 N N a 1 cap _ 3 (List.replicate 1 [Value.int .i64 x]).flatten 1 Tryz.underlying24 (by kernel_rfl) hg1
  (by rw [show Nat.min 1 N=1 from Nat.min_eq_left (by have:=HN.out;omega)];rfl) (fun j v hv=>below_cell hBA (HX.out j v (by simpa using hv))) (by have:=HN.out;simp [repL];omega) (fun v hv=>by
    obtain⟨l,hl,hv⟩:=List.mem_flatten.1 hv
    rw [List.eq_of_mem_replicate hl] at hv
    simp at hv
    first | (subst hv;rfl) | (rcases hv with rfl | rfl | rfl <;> rfl))
 have hl1:=repL_step (xs:= [Value.int .i64 x]) (zs:= [Value.int .i64 0]) (k:=0) (m:=N) (j:=1) rfl (by have:=HN.out;omega)
 rw [show Nat.min 1 N=1 from Nat.min_eq_left (by have:=HN.out;omega)] at hc1
 rw [hc1]
 simp only [Nat.zero_mul] at hl1
 rw [show (repL [Value.int .i64 x] [Value.int .i64 0] 0 N).toArray.toList=repL [Value.int .i64 x] [Value.int .i64 0] 0 N from rfl,hl1]
 have hg2:=setRow_heap _ w1.heap.size _ (repL [Value.int .i64 x] [Value.int .i64 0] (0+1) (N - 1)).toArray 3 (0,0) hg1
 have hB2:=hBA.grown (setRow_grown (w:=w1.alloc (.cells (repL [Value.int .i64 x] [Value.int .i64 0] 0 N).toArray 3)) (g:=w1.heap.size) (cs:=(repL [Value.int .i64 x] [Value.int .i64 0] (0+1) (N - 1)).toArray) (row:=some w1.heap.size) rfl) (by simp;have:=hB1.size;omega) (fun b e=>by cases e;exact hB1.size)
 obtain⟨g,hg⟩:∃ g,g=w1.heap.size:=⟨_,rfl⟩
 have hgs:=hB1.size
 rw [←hg] at hg2 hB2 hgs ⊢
 clear hc1 hl1 hBA hg1 hn1
 generalize (w1.alloc (.cells (repL [Value.int .i64 x] [Value.int .i64 0] 0 N).toArray 3)).setRow g (repL [Value.int .i64 x] [Value.int .i64 0] (0+1) (N - 1)).toArray=w2 at hg2 hB2 ⊢
 have HH:=Lib.hid (And.intro hg2 (And.intro hB2 hgs))
 clear hg2 hB2 hgs hg hB1
 go_wp2_with fail
 go_loopg [8] N (fun gg s8 wr=>∃ k:Nat,s8 = .int .i64 k∧1≤k∧k≤N∧N - k≤gg∧Hid (wr.heap[g]? = some (.cells (repL [Value.int .i64 x] [Value.int .i64 0] k (N - k)).toArray 3 (0,0))∧Below w.heap.size w wr))
 case atStart=>exact⟨1,rfl,Nat.le_refl _,by have:=HN.out;omega,by omega,Lib.hid ⟨HH.out.1,HH.out.2.1⟩⟩
 case round=>
  obtain⟨k,rfl,hk1,hkl,hgg,hI⟩:=hrel
  obtain⟨w0,rfl⟩:∃ w0,w0=wr:=⟨_,rfl⟩
  by_cases hlt:k<N
  ·have hlt':(k:Int)<N:=by omega
   have hne:¬N=k:=by omega
   have hkN:(k:Int)≤N:=by omega
   have hk0:(0:Int)≤k:=by omega
   go_wp2_with fail
   refine rp_enter [] (fun _=>True) (by kernel_rfl) ?_
   apply rp_pure 0 rfl (by kernel_rfl) (fun _ _ _ h=>h) rfl
   ·(intro W;go_simp;try rfl)
   ·(go_simp;try rfl)
   apply rp_pure 1 rfl (by kernel_rfl) (fun _ _ _ h=>h) rfl
   ·(intro W;go_simp;try rfl)
   ·(go_simp;try rfl)
   apply rp_pure 2 rfl (by kernel_rfl) (fun _ _ _ h=>h) rfl
   ·(intro W;go_simp;try rfl)
   ·(go_simp;try rfl)
   apply rp_pure 3 rfl (by kernel_rfl) (fun _ _ _ h=>h) rfl
   ·(intro W;go_simp;try rfl)
   ·(go_simp;try rfl)
   apply rp_pure 4 rfl (by kernel_rfl) (fun _ _ _ h=>h) rfl
   ·(intro W;go_simp;try rfl)
   ·(go_simp;try rfl)
   apply rp_pure 5 rfl (by kernel_rfl) (fun _ _ _ h=>h) rfl
   ·(intro W;go_simp;try rfl)
   ·(go_simp;try rfl)
   apply rp_pure 6 rfl (by kernel_rfl) (fun _ _ _ h=>h) rfl
   ·(intro W;go_simp;try rfl)
   ·(go_simp;try rfl)
   refine rp_only 7 (by kernel_rfl) rfl (fun K hK=>?_)
   obtain⟨j,hj⟩:∃ j,j=Nat.min k (N - k):=⟨_,rfl⟩
   have hj':j≤k∧j≤N - k∧1≤j:=⟨by rw [hj];exact Nat.min_le_left _ _,by rw [hj];exact Nat.min_le_right _ _,by rw [hj];exact Nat.le_min.2 ⟨hk1,by omega⟩⟩
   have hst:=repL_step (xs:= [Value.int .i64 x]) (zs:= [Value.int .i64 0]) (k:=k) (m:=N - k) (j:=j) rfl hj'.2.1
   have hc2:=run_copy_K (P:=Tryz.prog) w0.drew 24 24 3 3 g (k*1) (N - k) (N - k) ⟨g,0,none⟩ k N _ 3 (List.replicate j [Value.int .i64 x]).flatten 1 Tryz.underlying24 (by kernel_rfl) (show w0.drew.heap[g]? = _ from hI.out.1)
    (by rw [←hj,flat_len];rfl) (fun i v hv=>by
     rw [Addr.add_lit,Nat.zero_add,cell_of_row w0.drew g _ _ 3 (0,0) hI.out.1]
     simpa using rep_cell hj'.1 hv) (by simp [repL];omega) (fun v hv=>by
    obtain⟨l,hl,hv⟩:=List.mem_flatten.1 hv
    rw [List.eq_of_mem_replicate hl] at hv
    simp at hv
    first | (subst hv;rfl) | (rcases hv with rfl | rfl | rfl <;> rfl))
   rw [show (repL [Value.int .i64 x] [Value.int .i64 0] k (N - k)).toArray.toList=repL [Value.int .i64 x] [Value.int .i64 0] k (N - k) from rfl] at hc2
   simp only [List.length_cons,List.length_nil,Nat.zero_add] at hst
   rw [hst,←hj] at hc2
   try simp only [Nat.mul_one] at hc2
   have hg2:=setRow_heap _ g _ (repL [Value.int .i64 x] [Value.int .i64 0] (k+j) (N - k - j)).toArray 3 (0,0) (show w0.drew.heap[g]? = _ from hI.out.1)
   have hB2:=(hI.out.2.trans ((below_drew w0).mono hI.out.2.size)).grown (setRow_grown (w:=w0.drew) (g:=g) (cs:=(repL [Value.int .i64 x] [Value.int .i64 0] (k+j) (N - k - j)).toArray) (row:=some g) rfl) (by have:=hI.out.2.size;simpa using this) (fun b e=>by cases e;exact HH.out.2.2)
   have HK:=Lib.hid (And.intro hj' (And.intro hg2 hB2))
   have hwj:IntKind.i64.wrap ((k:Int)+(j:Int))=((k+j:Nat):Int):=by have:=HN.out;rw [IntKind.wrap_i64];omega
   clear hst hg2 hB2 hj' hj hI
   refine step_copy_R rfl _ _ _ _ rfl (by rfl) (by rfl) hc2 ?_
   refine hK _ _ ⟨fun _ _=>trivial,?_⟩;clear hK K
   clear hc2
   apply rp_pure 8 rfl (by kernel_rfl) (fun _ _ _ h=>h) rfl
   ·(intro W;go_simp;try rfl)
   ·(go_simp;try rfl)
   apply rp_pure 9 rfl (by kernel_rfl) (fun _ _ _ h=>h) rfl
   ·(intro W;go_simp;try rfl)
   ·(go_simp;try rfl)
   refine rp_done (by kernel_rfl) ?_
   generalize w0.drew.setRow g (repL [Value.int .i64 x] [Value.int .i64 0] (k+j) (N - k - j)).toArray=w3 at HK ⊢
   clear hwj
   go_wp2_with fail
   go_roundg (N - (k+j))
   case measure=>have:=HK.out.1;omega
   case rel=>exact⟨k+j,by go_num,by omega,by have:=HK.out.1;omega,by omega,Lib.hid (by rw [Nat.sub_sub] at HK;exact HK.out.2)⟩
  ·obtain rfl:k=N:=by omega
   have HE:=Lib.hid (And.intro HH.out.2.2 hI.out)
   have hnl:¬(k:Int)<k:=by omega
   clear hI HH
   go_wp2
   go_ret
   rw [Nat.sub_self] at HE
   exact⟨g,rfl,HE.out.1,HE.out.2.1,HE.out.2.2⟩
end Go.Proofs.YtldngmdpiifamaaGreatDoor
end
section
namespace Go.Proofs.YtldngmdpiifamaaGreatDoor
open Go.RowKit
attribute [local go_sem ↓] Go.wp_at_zero Go.wp_at_succ

set_option maxRecDepth 100000 in
set_option maxHeartbeats 4000000 in
theorem repeatE_any (a:Addr) (cap:Nat) (x y:Int) (z:Bool) (N:Nat) (w:World) (hN:2≤N∧N≤6) (hx:∀ j u, [Value.int .i64 x, .int .i64 y, .bool z][j]? = some u→w.cell? (a.add j)=some u)
  (hmul:Calls Tryz.prog 185 #[.int .u64 1, .int .u64 N] w fun e w'=>e = .returned (.tuple #[.int .u64 0, .int .u64 N])∧Below w.heap.size w w') :
  Calls Tryz.prog 133 #[.slice (some a) 1 cap, .int .i64 N] w fun e w'=>∃ g,e = .returned (.slice (some ⟨g,0,none⟩) N N)∧w.heap.size≤g∧w'.heap[g]? = some (.cells (repL [Value.int .i64 x, .int .i64 y, .bool z] [Value.int .i64 0, .int .i64 0, .bool false] N 0).toArray 200 (0,0))∧Below w.heap.size w w':=by
 have hw1:IntKind.u64.wrap (N:Int)=N:=by rw [IntKind.wrap_u64];omega
 have hw2:IntKind.i64.wrap (N:Int)=N:=by rw [IntKind.wrap_i64];omega
 have h0:¬(N:Int)<0:=by omega
 have h9:¬(9223372036854775807:Int)<N:=by omega
 have hmk:∀ w:World,(Instr.makeSlice 145 (.int .i64 (N:Int)) (.int .i64 (N:Int))).run Tryz.prog w = .ok (.slice (some ⟨w.heap.size,0,none⟩) N N) (w.alloc (.cells (repL [Value.int .i64 x, .int .i64 y, .bool z] [Value.int .i64 0, .int .i64 0, .bool false] 0 N).toArray 200)):=by
  intro w
  obtain⟨i,h1,h2,h3,h4⟩:=info_parts (show (Tryz.prog.info? 200).map (fun i=>(i.zero,i.size,i.bytes))=some (some (.agg #[.int .i64 0, .int .i64 0, .bool false]),3,24) by kernel_rfl)
  have hr:=run_make (P:=Tryz.prog) w 145 200 i (.agg #[.int .i64 0, .int .i64 0, .bool false]) (by kernel_rfl) h1 h2 .i64 .i64 N N (by omega) (by omega) (by rw [h4];omega) (by omega)
  simp only [Int.toNat_natCast,h3] at hr
  rw [hr]
  congr 3
  rw [repL]
  rcases(show N=2∨N=3∨N=4∨N=5∨N=6 by omega) with rfl | rfl | rfl | rfl | rfl <;> kernel_rfl
 have HX:=Lib.hid hx
 have HM:=Lib.hid hmul
 have HN:=Lib.hid hN
 clear hx hmul hN
 go_enter Tryz.func133,Tryz.ntmps133
 go_wp2_with (go_at_call 185;go_must (with_reducible refine HM.out.mono ?_);rintro e w1 ⟨rfl,hB1⟩)
 have hn1:¬((some ⟨w1.heap.size,0,none⟩:Option Addr)=none):=by simp
 have hg1:(w1.alloc (.cells (repL [Value.int .i64 x, .int .i64 y, .bool z] [Value.int .i64 0, .int .i64 0, .bool false] 0 N).toArray 200)).heap[w1.heap.size]? = some (.cells (repL [Value.int .i64 x, .int .i64 y, .bool z] [Value.int .i64 0, .int .i64 0, .bool false] 0 N).toArray 200 (0,0)):=heap_alloc_new w1 _
 have hBA:=hB1.trans ((Below.refl w1.heap.size w1).alloc (Nat.le_refl _) (.cells (repL [Value.int .i64 x, .int .i64 y, .bool z] [Value.int .i64 0, .int .i64 0, .bool false] 0 N).toArray 200) |>.mono hB1.size)
 have hc1:=run_copy_K (P:=Tryz.prog) (w1.alloc (.cells (repL [Value.int .i64 x, .int .i64 y, .bool z] [Value.int .i64 0, .int .i64 0, .bool false] 0 N).toArray 200)) 145 145 3 200 w1.heap.size 0 N N a 1 cap _ 200 (List.replicate 1 [Value.int .i64 x, .int .i64 y, .bool z]).flatten 3 Tryz.underlying145 (by kernel_rfl) hg1
  (by rw [show Nat.min 1 N=1 from Nat.min_eq_left (by have:=HN.out;omega)];rfl) (fun j v hv=>below_cell hBA (HX.out j v (by simpa using hv))) (by have:=HN.out;simp [repL];omega) (fun v hv=>by
    obtain⟨l,hl,hv⟩:=List.mem_flatten.1 hv
    rw [List.eq_of_mem_replicate hl] at hv
    simp at hv
    first | (subst hv;rfl) | (rcases hv with rfl | rfl | rfl <;> rfl))
 have hl1:=repL_step (xs:= [Value.int .i64 x, .int .i64 y, .bool z]) (zs:= [Value.int .i64 0, .int .i64 0, .bool false]) (k:=0) (m:=N) (j:=1) rfl (by have:=HN.out;omega)
 rw [show Nat.min 1 N=1 from Nat.min_eq_left (by have:=HN.out;omega)] at hc1
 rw [hc1]
 simp only [Nat.zero_mul] at hl1
 rw [show (repL [Value.int .i64 x, .int .i64 y, .bool z] [Value.int .i64 0, .int .i64 0, .bool false] 0 N).toArray.toList=repL [Value.int .i64 x, .int .i64 y, .bool z] [Value.int .i64 0, .int .i64 0, .bool false] 0 N from rfl,hl1]
 have hg2:=setRow_heap _ w1.heap.size _ (repL [Value.int .i64 x, .int .i64 y, .bool z] [Value.int .i64 0, .int .i64 0, .bool false] (0+1) (N - 1)).toArray 200 (0,0) hg1
 have hB2:=hBA.grown (setRow_grown (w:=w1.alloc (.cells (repL [Value.int .i64 x, .int .i64 y, .bool z] [Value.int .i64 0, .int .i64 0, .bool false] 0 N).toArray 200)) (g:=w1.heap.size) (cs:=(repL [Value.int .i64 x, .int .i64 y, .bool z] [Value.int .i64 0, .int .i64 0, .bool false] (0+1) (N - 1)).toArray) (row:=some w1.heap.size) rfl) (by simp;have:=hB1.size;omega) (fun b e=>by cases e;exact hB1.size)
 obtain⟨g,hg⟩:∃ g,g=w1.heap.size:=⟨_,rfl⟩
 have hgs:=hB1.size
 rw [←hg] at hg2 hB2 hgs ⊢
 clear hc1 hl1 hBA hg1 hn1
 generalize (w1.alloc (.cells (repL [Value.int .i64 x, .int .i64 y, .bool z] [Value.int .i64 0, .int .i64 0, .bool false] 0 N).toArray 200)).setRow g (repL [Value.int .i64 x, .int .i64 y, .bool z] [Value.int .i64 0, .int .i64 0, .bool false] (0+1) (N - 1)).toArray=w2 at hg2 hB2 ⊢
 have HH:=Lib.hid (And.intro hg2 (And.intro hB2 hgs))
 clear hg2 hB2 hgs hg hB1
 go_wp2_with fail
 go_loopg [8] N (fun gg s8 wr=>∃ k:Nat,s8 = .int .i64 k∧1≤k∧k≤N∧N - k≤gg∧Hid (wr.heap[g]? = some (.cells (repL [Value.int .i64 x, .int .i64 y, .bool z] [Value.int .i64 0, .int .i64 0, .bool false] k (N - k)).toArray 200 (0,0))∧Below w.heap.size w wr))
 case atStart=>exact⟨1,rfl,Nat.le_refl _,by have:=HN.out;omega,by omega,Lib.hid ⟨HH.out.1,HH.out.2.1⟩⟩
 case round=>
  obtain⟨k,rfl,hk1,hkl,hgg,hI⟩:=hrel
  obtain⟨w0,rfl⟩:∃ w0,w0=wr:=⟨_,rfl⟩
  by_cases hlt:k<N
  ·have hlt':(k:Int)<N:=by omega
   have hne:¬N=k:=by omega
   have hkN:(k:Int)≤N:=by omega
   have hk0:(0:Int)≤k:=by omega
   go_wp2_with fail
   refine rp_enter [] (fun _=>True) (by kernel_rfl) ?_
   apply rp_pure 0 rfl (by kernel_rfl) (fun _ _ _ h=>h) rfl
   ·(intro W;go_simp;try rfl)
   ·(go_simp;try rfl)
   apply rp_pure 1 rfl (by kernel_rfl) (fun _ _ _ h=>h) rfl
   ·(intro W;go_simp;try rfl)
   ·(go_simp;try rfl)
   apply rp_pure 2 rfl (by kernel_rfl) (fun _ _ _ h=>h) rfl
   ·(intro W;go_simp;try rfl)
   ·(go_simp;try rfl)
   apply rp_pure 3 rfl (by kernel_rfl) (fun _ _ _ h=>h) rfl
   ·(intro W;go_simp;try rfl)
   ·(go_simp;try rfl)
   apply rp_pure 4 rfl (by kernel_rfl) (fun _ _ _ h=>h) rfl
   ·(intro W;go_simp;try rfl)
   ·(go_simp;try rfl)
   apply rp_pure 5 rfl (by kernel_rfl) (fun _ _ _ h=>h) rfl
   ·(intro W;go_simp;try rfl)
   ·(go_simp;try rfl)
   apply rp_pure 6 rfl (by kernel_rfl) (fun _ _ _ h=>h) rfl
   ·(intro W;go_simp;try rfl)
   ·(go_simp;try rfl)
   refine rp_only 7 (by kernel_rfl) rfl (fun K hK=>?_)
   obtain⟨j,hj⟩:∃ j,j=Nat.min k (N - k):=⟨_,rfl⟩
   have hj':j≤k∧j≤N - k∧1≤j:=⟨by rw [hj];exact Nat.min_le_left _ _,by rw [hj];exact Nat.min_le_right _ _,by rw [hj];exact Nat.le_min.2 ⟨hk1,by omega⟩⟩
   have hst:=repL_step (xs:= [Value.int .i64 x, .int .i64 y, .bool z]) (zs:= [Value.int .i64 0, .int .i64 0, .bool false]) (k:=k) (m:=N - k) (j:=j) rfl hj'.2.1
   have hc2:=run_copy_K (P:=Tryz.prog) w0.drew 145 145 3 200 g (k*3) (N - k) (N - k) ⟨g,0,none⟩ k N _ 200 (List.replicate j [Value.int .i64 x, .int .i64 y, .bool z]).flatten 3 Tryz.underlying145 (by kernel_rfl) (show w0.drew.heap[g]? = _ from hI.out.1)
    (by rw [←hj,flat_len];rfl) (fun i v hv=>by
     rw [Addr.add_lit,Nat.zero_add,cell_of_row w0.drew g _ _ 200 (0,0) hI.out.1]
     simpa using rep_cell hj'.1 hv) (by simp [repL];omega) (fun v hv=>by
    obtain⟨l,hl,hv⟩:=List.mem_flatten.1 hv
    rw [List.eq_of_mem_replicate hl] at hv
    simp at hv
    first | (subst hv;rfl) | (rcases hv with rfl | rfl | rfl <;> rfl))
   rw [show (repL [Value.int .i64 x, .int .i64 y, .bool z] [Value.int .i64 0, .int .i64 0, .bool false] k (N - k)).toArray.toList=repL [Value.int .i64 x, .int .i64 y, .bool z] [Value.int .i64 0, .int .i64 0, .bool false] k (N - k) from rfl] at hc2
   simp only [List.length_cons,List.length_nil,Nat.zero_add] at hst
   rw [hst,←hj] at hc2
   try simp only [Nat.mul_one] at hc2
   have hg2:=setRow_heap _ g _ (repL [Value.int .i64 x, .int .i64 y, .bool z] [Value.int .i64 0, .int .i64 0, .bool false] (k+j) (N - k - j)).toArray 200 (0,0) (show w0.drew.heap[g]? = _ from hI.out.1)
   have hB2:=(hI.out.2.trans ((below_drew w0).mono hI.out.2.size)).grown (setRow_grown (w:=w0.drew) (g:=g) (cs:=(repL [Value.int .i64 x, .int .i64 y, .bool z] [Value.int .i64 0, .int .i64 0, .bool false] (k+j) (N - k - j)).toArray) (row:=some g) rfl) (by have:=hI.out.2.size;simpa using this) (fun b e=>by cases e;exact HH.out.2.2)
   have HK:=Lib.hid (And.intro hj' (And.intro hg2 hB2))
   have hwj:IntKind.i64.wrap ((k:Int)+(j:Int))=((k+j:Nat):Int):=by have:=HN.out;rw [IntKind.wrap_i64];omega
   clear hst hg2 hB2 hj' hj hI
   refine step_copy_R rfl _ _ _ _ rfl (by rfl) (by rfl) hc2 ?_
   refine hK _ _ ⟨fun _ _=>trivial,?_⟩;clear hK K
   clear hc2
   apply rp_pure 8 rfl (by kernel_rfl) (fun _ _ _ h=>h) rfl
   ·(intro W;go_simp;try rfl)
   ·(go_simp;try rfl)
   apply rp_pure 9 rfl (by kernel_rfl) (fun _ _ _ h=>h) rfl
   ·(intro W;go_simp;try rfl)
   ·(go_simp;try rfl)
   refine rp_done (by kernel_rfl) ?_
   generalize w0.drew.setRow g (repL [Value.int .i64 x, .int .i64 y, .bool z] [Value.int .i64 0, .int .i64 0, .bool false] (k+j) (N - k - j)).toArray=w3 at HK ⊢
   clear hwj
   go_wp2_with fail
   go_roundg (N - (k+j))
   case measure=>have:=HK.out.1;omega
   case rel=>exact⟨k+j,by go_num,by omega,by have:=HK.out.1;omega,by omega,Lib.hid (by rw [Nat.sub_sub] at HK;exact HK.out.2)⟩
  ·obtain rfl:k=N:=by omega
   have HE:=Lib.hid (And.intro HH.out.2.2 hI.out)
   have hnl:¬(k:Int)<k:=by omega
   clear hI HH
   go_wp2
   go_ret
   rw [Nat.sub_self] at HE
   exact⟨g,rfl,HE.out.1,HE.out.2.1,HE.out.2.2⟩
end Go.Proofs.YtldngmdpiifamaaGreatDoor
end
section
namespace Go.Proofs.YtldngmdpiifamaaGreatDoor.A
open Go.RowKit
theorem mul_fn (N:Nat) (hN:2≤N∧N≤6):Fn Tryz.prog 185 [.v (.int .u64 1), .v (.int .u64 N)] fun r=>r = .tp [.v (.int .u64 0), .v (.int .u64 N)]:=by
 have h:∀ N,2≤N∧N≤6→Fn Tryz.prog 221 [.v (.int .u64 1), .v (.int .u64 (N:Nat))] fun r=>r = .tp [.v (.int .u64 0), .v (.int .u64 N)]:=by
  intro N hN
  rcases(show N=2∨N=3∨N=4∨N=5∨N=6 by omega) with rfl | rfl | rfl | rfl | rfl
  all_goals
   refine Fn.of tys_ok Tryz.func221 rfl rfl (Nat.le_of_ble_eq_true rfl) ?_
   conv=>whnf
   repeat' (first | (refine And.intro (by decide) ?_;conv=>whnf) | fail)
   exact⟨_,fun _ _ h=>h,rfl⟩
 have h:=h N hN
 refine Fn.of tys_ok Tryz.func185 rfl rfl (Nat.le_of_ble_eq_true rfl) ?_
 conv=>whnf
 refine Fn.closed (h) rfl ?_
 rintro _ rfl
 conv=>whnf
 exact⟨_,fun _ _ h=>h,rfl⟩
theorem rdl_rep {c:Ctx} {l:List AV} {xs:List Value}:∀ N,RdL l c xs→RdL (List.replicate N l).flatten c (List.replicate N xs).flatten
 | 0,_=>by simp [RdL]
 | N+1,h=>by
  rw [List.replicate_succ,List.replicate_succ,List.flatten_cons,List.flatten_cons]
  exact RdL.append h (rdl_rep N h)
theorem rep_own (N:Nat) (hN:2≤N∧N≤6) (x:Int) (get:Nat→List AV) (hget:get 0=[.v (.int .i64 x)]) :
  ACalls Tryz.prog false 236 [.sl 1 1 get, .v (.int .i64 N)] [] fun r H=>r = .ow 0 N∧H=[.row 3 1 (List.replicate N [.v (.int .i64 x)])]:=by
 refine⟨⟨_,Tryz.func236,rfl,by decide⟩,fun w0 M0 c us hs hr=>?_⟩
 obtain⟨u1,u2,rfl,h1,h2⟩:=rd2 hr
 simp only [Rd] at h1 h2
 subst h2
 obtain⟨a,k,rfl,_,_,h3⟩:=h1
 obtain⟨b,off,rfl,hm,hb,hc⟩:=h3.resolve_left (by decide)
 have hc0:=(hc 0 (by decide)).2
 rw [hget] at hc0
 simp only [RdAt,Rd,Nat.zero_mul,Nat.add_zero,and_true] at hc0
 obtain⟨u,q1,_,rfl⟩:=hc0
 have hmul:=(mul_fn N hN).calls (Ctx.closed { c with M:=fun _=>False }) [.int .u64 1, .int .u64 N] rfl (fun _ h=>h.elim) hs.glob (by simp [RdL,Rd])
 refine(repeatI_any ⟨b,off,none⟩ k x N c.w hN (fun j u hu=>?_) (hmul.mono ?_)).mono ?_
 ·cases j with
  | zero=>simp at hu;subst hu;exact q1
  | succ j=>simp at hu
 ·rintro e w' ⟨v,r,rfl,rfl,q2,q3⟩
  simp only [Rd,RdL] at q3
  obtain⟨_,rfl,y,ys,rfl,rfl,z,zs,rfl,rfl,rfl⟩:=q3
  exact⟨rfl,q2⟩
 ·rintro e w' ⟨g,rfl,hg,hh,hB⟩
  have hrow:=hs.newrow hB (t:=3) (sz:=1) (es:=List.replicate N [AV.v (.int .i64 x)]) (v:= .slice (some ⟨g,0,none⟩) N N) (xs:=(List.replicate N [Value.int .i64 x]).flatten) (by decide) (fun e he=>by rw [List.eq_of_mem_replicate he];rfl)
   ⟨by simp, .inr ⟨g,N,_,by simp,hg,hh,by simp,by unfold maxLen;omega,by simp [repL],by simp only [repL,List.replicate_zero,List.flatten_nil,List.append_nil];exact List.take_of_length_le (by simp)⟩⟩ (fun u hu=>by obtain⟨l,hl,hu⟩:=List.mem_flatten.1 hu;rw [List.eq_of_mem_replicate hl] at hu;simp at hu;subst hu;rfl) ?_
  ·rw [List.length_replicate] at hrow
   exact⟨_,_,_,_,rfl,rfl,⟨rfl,rfl⟩,hrow.1,hrow.2.1,hrow.2.2,fun e=>by cases e⟩
  ·exact rdl_rep N (l:= [AV.v (.int .i64 x)]) (xs:= [Value.int .i64 x]) (by simp [RdL,Rd])
theorem repE_own (N:Nat) (hN:2≤N∧N≤6) (x y:Int) (z:Bool) (get:Nat→List AV) (hget:get 0=[.v (.int .i64 x), .v (.int .i64 y), .v (.bool z)]) :
  ACalls Tryz.prog false 133 [.sl 3 1 get, .v (.int .i64 N)] [] fun r H=>r = .ow 0 N∧H=[.row 200 3 (List.replicate N [.v (.int .i64 x), .v (.int .i64 y), .v (.bool z)])]:=by
 refine⟨⟨_,Tryz.func133,rfl,by decide⟩,fun w0 M0 c us hs hr=>?_⟩
 obtain⟨u1,u2,rfl,h1,h2⟩:=rd2 hr
 simp only [Rd] at h1 h2
 subst h2
 obtain⟨a,k,rfl,_,_,h3⟩:=h1
 obtain⟨b,off,rfl,hm,hb,hc⟩:=h3.resolve_left (by decide)
 have hc0:=(hc 0 (by decide)).2
 rw [hget] at hc0
 simp only [RdAt,Rd,Nat.zero_mul,Nat.add_zero,and_true] at hc0
 obtain⟨⟨_,q1,_,rfl⟩,⟨_,q2,_,rfl⟩,⟨_,q3,_,rfl⟩⟩:=hc0
 have hmul:=(mul_fn N hN).calls (Ctx.closed { c with M:=fun _=>False }) [.int .u64 1, .int .u64 N] rfl (fun _ h=>h.elim) hs.glob (by simp [RdL,Rd])
 refine(repeatE_any ⟨b,off,none⟩ k x y z N c.w hN (fun j u hu=>?_) (hmul.mono ?_)).mono ?_
 ·match j,hu with
  | 0,hu=>simp at hu;subst hu;exact q1
  | 1,hu=>simp at hu;subst hu;exact q2
  | 2,hu=>simp at hu;subst hu;exact q3
  | j+3,hu=>simp at hu
 ·rintro e w' ⟨v,r,rfl,rfl,q2,q3⟩
  simp only [Rd,RdL] at q3
  obtain⟨_,rfl,y,ys,rfl,rfl,z,zs,rfl,rfl,rfl⟩:=q3
  exact⟨rfl,q2⟩
 ·rintro e w' ⟨g,rfl,hg,hh,hB⟩
  have hrow:=hs.newrow hB (t:=200) (sz:=3) (es:=List.replicate N [AV.v (.int .i64 x), .v (.int .i64 y), .v (.bool z)]) (v:= .slice (some ⟨g,0,none⟩) N N) (xs:=(List.replicate N [Value.int .i64 x, .int .i64 y, .bool z]).flatten) (by decide) (fun e he=>by rw [List.eq_of_mem_replicate he];rfl)
   ⟨by simp, .inr ⟨g,N,_,by simp,hg,hh,by simp,by unfold maxLen;omega,by simp [repL],by simp only [repL,List.replicate_zero,List.flatten_nil,List.append_nil];exact List.take_of_length_le (by simp)⟩⟩ (fun u hu=>by obtain⟨l,hl,hu⟩:=List.mem_flatten.1 hu;rw [List.eq_of_mem_replicate hl] at hu;simp at hu;rcases hu with rfl | rfl | rfl <;> rfl) ?_
  ·rw [List.length_replicate] at hrow
   exact⟨_,_,_,_,rfl,rfl,⟨rfl,rfl⟩,hrow.1,hrow.2.1,hrow.2.2,fun e=>by cases e⟩
  ·exact rdl_rep N (l:= [AV.v (.int .i64 x), .v (.int .i64 y), .v (.bool z)]) (xs:= [Value.int .i64 x, .int .i64 y, .bool z]) (by simp [RdL,Rd])
theorem row_sub {α:Type} {f:α→List AV} {d:α} {sz:Nat} {es:List (List AV)} {n:Nat} (l:List α) (hn:n=l.length) (he:es=l.map f) (c:Ctx) (u:Value) (h:Rd (.sl sz n fun i=>es.getD i []) c u):Rd (.sl sz l.length fun i=>f (l.getD i d)) c u:=
 Rd.congr hn (fun i hi=>by rw [he,map_getD (d:=d) (by omega)]) h
theorem bytes_sub {n:Nat} {es:List (List AV)} (l:List UInt8) (hn:n=l.length) (he:es=l.map fun x=> [.v (.int .u8 x.toNat)]) (c:Ctx) (u:Value) (hr:Rd (.sl 1 n fun i=>es.getD i []) c u):Rd (bA l) c u:=
 row_sub (f:=fun x:UInt8=> [.v (.int .u8 x.toNat)]) l hn he c u hr
theorem hmsOf_step (n k:Nat) (c:List UInt8):hmsOf n (k+1) c=hmsOf n k c ++ [hmOf n (c.drop ((n+5)*k))]:=by
 rw [hmsOf,hmsOf,List.range_succ,List.map_append];rfl
theorem hmsOf_len (n k:Nat) (c:List UInt8):(hmsOf n k c).length=k:=by simp [hmsOf]
theorem szH_ok (n:Nat):∀ s∈szH n,szOk s:=by
 intro s hs
 rw [szH,List.mem_append] at hs
 rcases hs with hs | hs
 ·rw [ones] at hs;rw [List.eq_of_mem_replicate hs];exact .inl rfl
 ·simp at hs;subst hs;exact .inr (.inr rfl)
theorem int_sub {L:List Int} {n:Nat} {es:List (List AV)} (hn:n=L.length) (he:es=L.map ic1) (c:Ctx) (v:Value) (h:Rd (.sl 1 n fun i=>es.getD i []) c v):Rd (iA L) c v:=by
 subst he
 exact Rd.congr hn (fun i hi=>map_getD (f:=ic1) (l:=L) (d:=0) (hn ▸ hi)) h
theorem unrowF_fn (b:List UInt8) (ss:List Int) (hss:∀ s∈ss,szOk s) (hl:b.length≤1000000) (hn:ss.length≤1000) (ht:tot ss≤b.length):Fn Tryz.prog 215 [bA b,iA ss] fun r=>r = .tp [iA (nums ss b),bA (b.drop (tot ss)), .v (.int .i64 0)]:=by
 refine ACalls.fn (unrow_yes b ss hss hl hn ht) ?_
 rintro _ _ ⟨rfl,rfl⟩
 refine⟨_,ConvH.refl _,?_⟩
 conv=>whnf
 refine And.intro (by rw [List.length_map,nums_len]) ?_
 conv=>whnf
 exact⟨.tp [iA (nums ss b),bA (b.drop (tot ss)), .v (.int .i64 0)],tp_sub ⟨int_sub (by rw [nums_len]) rfl,fun _ _ h=>h,fun _ _ h=>h,trivial⟩,rfl⟩
theorem hm_round {n:Nat} {c:List UInt8} {x y:Int} (hw1:x=(n:Int)) (hw2:y=((n+1:Nat):Int)) (hnl:(nums (szH n) c).length=n+2):SubL [AV.sl 1 (x.toNat - Int.toNat 0) fun i=>(fun i=> [AV.v (Value.int IntKind.i64 ((nums (szH n) c).getD i 0))]) (i+Int.toNat 0),AV.v (.int .i64 ((nums (szH n) c).getD x.toNat 0)),AV.v (.int .i64 ((nums (szH n) c).getD y.toNat 0))] (hmC (hmOf n c)):=by
 subst hw1 hw2
 rw [Int.toNat_natCast,Int.toNat_natCast]
 refine⟨fun c' u h=>?_,fun _ _ h=>h,fun _ _ h=>h,trivial⟩
 refine Rd.congr ?_ (fun i hi=>?_) h
 ·show n - 0=((nums (szH n) c).take n).length;rw [List.length_take];omega
 ·have hi':i<n:=hi
  show [AV.v (.int .i64 ((nums (szH n) c).getD (i+0) 0))]=[AV.v (.int .i64 (((nums (szH n) c).take n).getD i 0))]
  rw [List.getD_eq_getElem?_getD,List.getD_eq_getElem?_getD,List.getElem?_take_of_lt hi']
  rfl
set_option maxRecDepth 100000 in
theorem homes_fn (g:Geo) (b:List UInt8) (hg:okG g=true) (hb:b.length≤100000):Fn Tryz.prog 231 [.ag (geoC g),bA b] fun r=>r = .tp [hmsA (if g.z.toNat*(g.d.toNat+6)≤b.length then hmsOf (g.d.toNat+1) g.z.toNat b else []), .v (.int .i64 (if g.z.toNat*(g.d.toNat+6)≤b.length then 0 else 4))]:=by
 obtain⟨g1,g2,g3,g4,g5⟩:=okG_iff.1 hg
 obtain⟨n,hn⟩:∃ n:Nat,n=g.d.toNat+1:=⟨_,rfl⟩
 have hr:=rep_own (n+1) (by omega) 1 (fun i=> [[AV.v (Value.int IntKind.i64 1)]].getD i []) rfl
 have hw2:IntKind.i64.wrap (g.d+2)=((n+1:Nat):Int):=by rw [wi (by omega)];omega
 refine Fn.of tys_ok Tryz.func231 rfl rfl (Nat.le_of_ble_eq_true rfl) ?_
 conv=>whnf
 rw [hw2]
 refine ACalls.shut hr.go ?_
 conv=>whnf
 refine And.intro rfl ?_
 conv=>whnf
 refine ACalls.beside hr rfl ?_
 rintro _ _ ⟨rfl,rfl⟩
 conv=>whnf
 refine And.intro rfl ?_
 conv=>whnf
 refine And.intro ⟨by simp,by omega⟩ ?_
 conv=>whnf
 have es0:List.replicate (n+1) [AV.v (.int .i64 1)] ++ [[AV.v (.int .i64 4)]]=(szH n).map ic1:=by
  rw [szH,List.map_append,ones,List.map_replicate];rfl
 have el0:n+1+1=(List.replicate (n+1) [AV.v (.int .i64 1)] ++ [[AV.v (.int .i64 4)]]).length:=by simp
 have hst:=fun k=>hmsOf_step n k b
 by_cases hs:g.z.toNat*(g.d.toNat+6)≤b.length
 ·rw [if_pos hs,if_pos hs]
  refine aLoop.ruleRR Nat (fun k=>([(1,bA (b.drop ((n+5)*k))),(2, .bp 0 0),(6, .ow 1 k),(7,iA (szH n)),(19, .v (.int .i64 g.z)),(20, .v (.int .i64 k))], [.box 23 (geoC g), .row 132 3 ((hmsOf n k b).map hmC)])) (fun k=>k≤g.z.toNat) (fun k=>g.z.toNat - k) 0 (Nat.zero_le _) ?_ ?_
  ·refine⟨_,_,ConvF.trans (ConvF.shutF 7 2 (congrArg (AV.ow 2) el0) rfl) (ConvF.sub 7 rfl (int_sub (L:=szH n) (by rw [es0,List.length_map]) es0)), [(6,132,3)],⟨rfl,rfl,trivial⟩, [0,4],⟨rfl,rfl,rfl,rfl,rfl,rfl,trivial⟩,⟨rfl,rfl,trivial⟩,rfl,rfl,rfl,rfl,rfl⟩
  ·intro k hk
   conv=>whnf
   refine boolI (fun h6=>?_) (fun h6=>?_) <;> (repeat rw [Int.toNat_natCast] at h6) <;> conv=>whnf
   ·have hu:=unrowF_fn (b.drop ((n+5)*k)) (szH n) (szH_ok n) (by rw [List.length_drop];omega) (by rw [szH_len];omega) (by
     rw [tot_szH,List.length_drop]
     have:(n+5)*(k+1)≤(n+5)*g.z.toNat:=Nat.mul_le_mul_left _ (by omega)
     rw [Nat.mul_succ] at this
     have:(n+5)*g.z.toNat=g.z.toNat*(g.d.toNat+6):=by rw [hn,Nat.mul_comm]
     omega)
    rw [tot_szH] at hu
    refine Fn.closed (hu) rfl ?_
    rintro _ rfl
    conv=>whnf
    have hnl:(nums (szH n) (b.drop ((n+5)*k))).length=n+2:=by rw [nums_len,szH_len]
    have hw1:IntKind.i64.wrap (g.d+1)=(n:Int):=by rw [wi (by omega)];omega
    apply aDraw.treeK (0) tys_ok mixed (.one 0 (.one 1 (.one 2 (.one 3 (.one 4 (.one 5 (.one 6 (.one 7 (.one 8 (.one 9 (.one 10 (.one 11 (.one 12 (.one 13 (.one 14 (.one 15 (.one 16 (.one 17 (.one 18 (.one 19 (.one 20 (.one 21 (.one 22 (.one 23 (.one 24 .fin))))))))))))))))))))))))) (by kernel_rfl)
    conv=>whnf
    try (refine And.intro (by first | omega | (simp;done)) ?_;conv=>whnf)
    try (refine And.intro (by first | omega | (simp;done)) ?_;conv=>whnf)
    try (refine And.intro (by first | omega | (simp;done)) ?_;conv=>whnf)
    try (refine And.intro (by first | rfl | omega) ?_;conv=>whnf)
    try (refine And.intro (by first | omega | exact⟨by first | rfl | (simp;done) | (simp;omega),by omega⟩) ?_;conv=>whnf)
    refine And.intro ⟨by rw [List.length_map,hmsOf_len],by omega⟩ ?_
    conv=>whnf
    have e':=hm_round (n:=n) (c:=b.drop ((n+5)*k)) hw1 hw2 hnl
    refine⟨k+1,by omega,by omega,WkN.rc (ConvF.ofH (ConvH.last 1 rfl e')) (s:= [0,1]) ⟨⟨congrArg bA (by rw [List.drop_drop,Nat.mul_succ]),rfl,rfl,rfl,rfl,wsucc (by omega),trivial⟩,⟨rfl,congrArg (fun l=>some (AB.row _ _ l)) (by rw [hst k,List.map_append];rfl),trivial⟩,rfl,rfl,rfl,rfl,rfl⟩⟩
   ·have ek:k=g.z.toNat:=by omega
    subst ek
    refine And.intro (by rw [List.length_map,hmsOf_len]) ?_
    conv=>whnf
    exact⟨.tp [hmsA (hmsOf n g.z.toNat b), .v (.int .i64 0)],tp_sub ⟨row_sub (f:=hmC) (hmsOf n g.z.toNat b) (by rw [hmsOf_len]) rfl,fun _ _ h=>h,trivial⟩,by rw [hn]⟩
 ·rw [if_neg hs,if_neg hs]
  refine aLoop.ruleRR Nat (fun k=>([(1,bA (b.drop ((n+5)*k))),(2, .bp 0 0),(6, .ow 1 k),(7,iA (szH n)),(19, .v (.int .i64 g.z)),(20, .v (.int .i64 k))], [.box 23 (geoC g), .row 132 3 ((hmsOf n k b).map hmC)])) (fun k=>(n+5)*k≤b.length) (fun k=>g.z.toNat - k) 0 (Nat.zero_le _) ?_ ?_
  ·refine⟨_,_,ConvF.trans (ConvF.shutF 7 2 (congrArg (AV.ow 2) el0) rfl) (ConvF.sub 7 rfl (int_sub (L:=szH n) (by rw [es0,List.length_map]) es0)), [(6,132,3)],⟨rfl,rfl,trivial⟩, [0,4],⟨rfl,rfl,rfl,rfl,rfl,rfl,trivial⟩,⟨rfl,rfl,trivial⟩,rfl,rfl,rfl,rfl,rfl⟩
  ·intro k hk
   conv=>whnf
   refine boolI (fun h6=>?_) (fun h6=>?_) <;> (repeat rw [Int.toNat_natCast] at h6) <;> conv=>whnf
   ·by_cases h9:(n+5)*(k+1)≤b.length
    ·have hu:=unrowF_fn (b.drop ((n+5)*k)) (szH n) (szH_ok n) (by rw [List.length_drop];omega) (by rw [szH_len];omega) (by
      rw [tot_szH,List.length_drop]
      rw [Nat.mul_succ] at h9
      omega)
     rw [tot_szH] at hu
     refine Fn.closed (hu) rfl ?_
     rintro _ rfl
     conv=>whnf
     have hnl:(nums (szH n) (b.drop ((n+5)*k))).length=n+2:=by rw [nums_len,szH_len]
     have hw1:IntKind.i64.wrap (g.d+1)=(n:Int):=by rw [wi (by omega)];omega
     apply aDraw.treeK (0) tys_ok mixed (.one 0 (.one 1 (.one 2 (.one 3 (.one 4 (.one 5 (.one 6 (.one 7 (.one 8 (.one 9 (.one 10 (.one 11 (.one 12 (.one 13 (.one 14 (.one 15 (.one 16 (.one 17 (.one 18 (.one 19 (.one 20 (.one 21 (.one 22 (.one 23 (.one 24 .fin))))))))))))))))))))))))) (by kernel_rfl)
     conv=>whnf
     try (refine And.intro (by first | omega | (simp;done)) ?_;conv=>whnf)
     try (refine And.intro (by first | omega | (simp;done)) ?_;conv=>whnf)
     try (refine And.intro (by first | omega | (simp;done)) ?_;conv=>whnf)
     try (refine And.intro (by first | rfl | omega) ?_;conv=>whnf)
     try (refine And.intro (by first | omega | exact⟨by first | rfl | (simp;done) | (simp;omega),by omega⟩) ?_;conv=>whnf)
     refine And.intro ⟨by rw [List.length_map,hmsOf_len],by omega⟩ ?_
     conv=>whnf
     have e':=hm_round (n:=n) (c:=b.drop ((n+5)*k)) hw1 hw2 hnl
     refine⟨k+1,h9,by omega,WkN.rc (ConvF.ofH (ConvH.last 1 rfl e')) (s:= [0,1]) ⟨⟨congrArg bA (by rw [List.drop_drop,Nat.mul_succ]),rfl,rfl,rfl,rfl,wsucc (by omega),trivial⟩,⟨rfl,congrArg (fun l=>some (AB.row _ _ l)) (by rw [hst k,List.map_append];rfl),trivial⟩,rfl,rfl,rfl,rfl,rfl⟩⟩
    ·have hu:=unrow_no (b.drop ((n+5)*k)) (szH n) (szH_ok n) (by rw [List.length_drop];omega) (by rw [szH_len];omega) (by
      rw [tot_szH,List.length_drop]
      rw [Nat.mul_succ] at h9
      omega)
     refine Fn.closed (hu) rfl ?_
     rintro _ rfl
     conv=>whnf
     exact⟨.tp [hmsA [], .v (.int .i64 4)],tp_sub ⟨nil_sl 3 _,fun _ _ h=>h,trivial⟩,rfl⟩
   ·exfalso
    have:(n+5)*k=k*(g.d.toNat+6):=by rw [hn,Nat.mul_comm]
    have h2:g.z.toNat*(g.d.toNat+6)≤k*(g.d.toNat+6):=Nat.mul_le_mul_right _ (by omega)
    omega
theorem set_same {α:Type} {f:α→List AV} {d:α} {l:List α} {k:Nat} {e:List AV} (hk:k<l.length) (h:SubL e (f (l.getD k d))) (i:Nat):SubL (((l.map f).set k e).getD i []) ((l.map f).getD i []):=by
 by_cases hi:k=i
 ·subst hi
  rw [set_getD_eq (by simpa using hk),map_getD (d:=d) hk]
  exact h
 ·rw [set_getD_ne hi];exact SubL.refl _
theorem hm_set (h:Hm):SubL [.sl 1 h.places.length fun i=>(h.places.map ic1).getD i [], .v (.int .i64 h.next), .v (.int .i64 h.root)] (hmC h):=
 ⟨int_sub rfl rfl,fun _ _ h=>h,fun _ _ h=>h,trivial⟩
set_option maxRecDepth 100000 in
theorem atwin_fn (a:An) (hh:a.homes.length≤1000) (hp:∀ h∈a.homes,h.places.length≤1000000):Fn Tryz.prog 116 [.ag (anC a)] fun r=>r = .ag (anC a):=by
 have hc:=hmclo_own a.homes (by omega)
 refine Fn.of tys_ok Tryz.func116 rfl rfl (Nat.le_of_ble_eq_true rfl) ?_
 conv=>whnf
 refine ACalls.beside hc rfl ?_
 rintro _ _ ⟨rfl,rfl⟩
 conv=>whnf
 refine aLoop.ruleRR Nat (fun k=>([(1, .bp 0 0),(2, .bp 1 0),(10, .v (.int .i64 a.homes.length)),(11, .v (.int .i64 k))], [.box 40 [.v (.int .i64 a.gen), .v (.int .i64 a.epoch), .v (.int .i64 a.pos), .v (.int .i64 a.seq), .v (.int .i64 a.last), .v (.string a.label), .ow 2 a.homes.length], .box 40 [.v (.int .i64 0), .v (.int .i64 0), .v (.int .i64 0), .v (.int .i64 0), .v (.int .i64 0), .v (.string ⟨#[]⟩), .v (.slice none 0 0)], .row 132 3 (a.homes.map hmC)])) (fun k=>k≤a.homes.length) (fun k=>a.homes.length - k) 0 (Nat.zero_le _)
  (WkN.r (s:= [0,1,2]) ⟨⟨rfl,rfl,rfl,rfl,trivial⟩,⟨rfl,rfl,rfl,trivial⟩,rfl,rfl,rfl,rfl,rfl⟩) ?_
 intro k hk
 conv=>whnf
 refine boolI (fun h6=>?_) (fun h6=>?_) <;> (repeat rw [Int.toNat_natCast] at h6) <;> conv=>whnf
 ·have hk':k<a.homes.length:=by omega
  have hi:=iclo_own (a.homes.getD k ⟨[],0,0⟩).places (by have:=hp _ (getD_mem (d:=(⟨[],0,0⟩:Hm)) hk');omega)
  have hE:(a.homes.map hmC).getD (k:Int).toNat []=hmC (a.homes.getD k ⟨[],0,0⟩):=by rw [Int.toNat_natCast];exact map_getD hk'
  apply aDraw.treeK (0) tys_ok mixed (.one 0 (.one 1 (.one 2 (.one 3 (.one 4 (.one 5 (.one 6 (.one 7 (.one 8 (.one 9 (.one 10 (.one 11 (.one 12 .fin))))))))))))) (by kernel_rfl)
  conv=>whnf
  try (first | (refine And.intro ⟨rfl,(List.length_map _).symm,by omega⟩ ?_;(conv=>whnf);rw [hE]) | skip;conv=>whnf)
  try (first | (refine And.intro ⟨rfl,(List.length_map _).symm,by omega⟩ ?_;(conv=>whnf);rw [hE]) | skip;conv=>whnf)
  try (refine And.intro (by first | omega | (simp;done)) ?_;conv=>whnf)
  try (first | (refine And.intro ⟨rfl,(List.length_map _).symm,by omega⟩ ?_;(conv=>whnf);rw [hE]) | skip;conv=>whnf)
  (refine ACalls.beside hi rfl ?_;rintro _ _ ⟨rfl,rfl⟩)
  conv=>whnf
  try (refine And.intro (by first | omega | (simp;done)) ?_;conv=>whnf)
  try (refine And.intro ⟨rfl,by first | rfl | (simp;done) | (simp;omega),by first | omega | (simp;omega)⟩ ?_;conv=>whnf)
  (refine And.intro (List.length_map _).symm ?_;(conv=>whnf);refine And.intro ⟨rfl,(List.length_map _).symm,by omega⟩ ?_;(conv=>whnf);rw [hE])
  conv=>whnf
  refine⟨k+1,hk',by omega,WkN.rc (ConvF.ofH (ConvH.subRow (k:=2) rfl (es':=a.homes.map hmC) (by simp) ?_)) (s:= [0,1,2]) ⟨⟨rfl,rfl,rfl,wsucc (by omega),trivial⟩,⟨rfl,rfl,rfl,trivial⟩,rfl,rfl,rfl,rfl,rfl⟩⟩
  rw [Int.toNat_natCast]
  exact set_same (d:=(⟨[],0,0⟩:Hm)) hk' (hm_set _)
 ·have ek:k=a.homes.length:=by omega
  refine And.intro (List.length_map _).symm ?_
  conv=>whnf
  exact⟨.ag (anC a),ag_sub ⟨fun _ _ h=>h,fun _ _ h=>h,fun _ _ h=>h,fun _ _ h=>h,fun _ _ h=>h,fun _ _ h=>h,row_sub (f:=hmC) a.homes rfl rfl,trivial⟩,rfl⟩
def dkC (d:Dk):List AV:= [celsA d.cells,wrsA d.cache, .v (.int .i64 d.reqs), .v (.int .i64 d.left)]
set_option maxRecDepth 100000 in
theorem down_fn (d:Dk) (h1:d.cells.length≤1000000000) (h2:d.cache.length≤1000000000):ACalls Tryz.prog false 48 [.ag (dkC d)] [] fun r H=>r = .bp 0 0∧H=dkH d:=by
 have c1:=celclo_own d.cells h1
 have c2:=wrclo_own d.cache h2
 refine ACalls.ofR tys_ok Tryz.func48 rfl rfl (Nat.le_of_ble_eq_true rfl) ?_
 conv=>whnf
 apply aDraw.treeK (0) tys_ok mixed (.one 0 (.one 1 (.one 3 (.one 4 (.one 2 (.one 6 (.one 5 (.one 7 (.one 8 (.one 9 .fin)))))))))) (by kernel_rfl)
 conv=>whnf
 (refine ACalls.beside c1 rfl ?_;rintro _ _ ⟨rfl,rfl⟩)
 conv=>whnf
 (refine ACalls.beside c2 rfl ?_;rintro _ _ ⟨rfl,rfl⟩)
 conv=>whnf
 try (refine And.intro ⟨rfl,by first | rfl | (simp;done) | (simp;omega),by first | omega | (simp;omega)⟩ ?_;conv=>whnf)
 try (refine And.intro ⟨rfl,by first | rfl | (simp;done) | (simp;omega),by first | omega | (simp;omega)⟩ ?_;conv=>whnf)
 exact⟨_, .bp 0 0,dkH d,fun _ _ h=>h,WkN.r (s:= [3,1,2]) ⟨⟨rfl,trivial⟩,⟨rfl,rfl,rfl,trivial⟩,rfl,rfl,rfl,rfl,rfl⟩,rfl,rfl⟩
set_option maxRecDepth 100000 in
theorem dtwin_fn (d:Dk) (h1:d.cells.length≤1000000000) (h2:d.cache.length≤1000000000) (hb:∀ c∈d.cells,c.bytes.length≤1000000000∧c.old.length≤1000000000) (hw:∀ w∈d.cache,w.bytes.length≤1000000000):Fn Tryz.prog 99 [.ag (dkC d)] fun r=>r = .ag (dkC d):=by
 have c1:=celclo_own d.cells h1
 have c2:=wrclo_own d.cache h2
 refine Fn.of tys_ok Tryz.func99 rfl rfl (Nat.le_of_ble_eq_true rfl) ?_
 conv=>whnf
 apply aDraw.treeK (0) tys_ok mixed (.one 0 (.one 1 (.one 3 (.one 4 (.one 2 (.one 6 (.one 5 (.one 7 (.one 8 (.one 9 .fin)))))))))) (by kernel_rfl)
 conv=>whnf
 (refine ACalls.beside c1 rfl ?_;rintro _ _ ⟨rfl,rfl⟩)
 conv=>whnf
 (refine ACalls.beside c2 rfl ?_;rintro _ _ ⟨rfl,rfl⟩)
 conv=>whnf
 try (refine And.intro ⟨rfl,by first | rfl | (simp;done) | (simp;omega),by first | omega | (simp;omega)⟩ ?_;conv=>whnf)
 try (refine And.intro ⟨rfl,by first | rfl | (simp;done) | (simp;omega),by first | omega | (simp;omega)⟩ ?_;conv=>whnf)
 refine aLoop.ruleRR Nat (fun k=>([(1, .bp 0 0),(2, .bp 1 0),(16, .ow 2 d.cells.length),(17, .v (.int .i64 d.cells.length)),(18, .v (.int .i64 k))], [.box 32 (dkX (.ow 2 d.cells.length) (.ow 3 d.cache.length) d.reqs d.left), .box 32 [.v (.slice none 0 0), .v (.slice none 0 0), .v (.int .i64 0), .v (.int .i64 0)], .row 87 3 (d.cells.map celC), .row 130 2 (d.cache.map wrC)])) (fun k=>k≤d.cells.length) (fun k=>d.cells.length - k) 0 (Nat.zero_le _)
  (WkN.r (s:= [0,1,2,3]) ⟨⟨rfl,rfl,rfl,rfl,rfl,trivial⟩,⟨rfl,rfl,rfl,rfl,trivial⟩,rfl,rfl,rfl,rfl,rfl⟩) ?_
 intro k hk
 conv=>whnf
 refine boolI (fun h6=>?_) (fun h6=>?_) <;> (repeat rw [Int.toNat_natCast] at h6) <;> conv=>whnf
 ·have hk':k<d.cells.length:=by omega
  have hm:=hb _ (getD_mem (d:=(⟨0, [], []⟩:Cel)) hk')
  have b1:=bclone_fn (d.cells.getD k ⟨0, [], []⟩).bytes hm.1
  have b2:=bclone_fn (d.cells.getD k ⟨0, [], []⟩).old hm.2
  have hE:(d.cells.map celC).getD (k:Int).toNat []=celC (d.cells.getD k ⟨0, [], []⟩):=by rw [Int.toNat_natCast];exact map_getD hk'
  refine And.intro ⟨by omega,by omega⟩ ?_
  conv=>whnf
  refine And.intro ⟨rfl,(List.length_map _).symm,by rw [Int.toNat_natCast];exact hk'⟩ ?_
  conv=>whnf
  rw [hE]
  conv=>whnf
  apply aDraw.treeK (24) tys_ok mixed (.one 0 (.one 1 (.one 2 (.one 5 (.one 6 (.one 7 (.one 9 (.one 10 (.two 3 (.two 4 (.one 8 (.one 11 (.one 12 (.one 13 (.one 14 (.one 15 (.one 16 (.one 17 .fin)))))))) 8 (.two 4 (.one 11 (.one 12 (.one 13 (.one 14 (.one 15 (.one 16 (.one 17 .fin))))))) 11 (.one 12 (.one 13 (.two 4 (.one 14 (.one 15 (.one 16 (.one 17 .fin)))) 14 (.one 4 (.one 15 (.one 16 (.one 17 .fin))))))))) 8 (.two 3 (.two 4 (.one 11 (.one 12 (.one 13 (.one 14 (.one 15 (.one 16 (.one 17 .fin))))))) 11 (.one 12 (.one 13 (.two 4 (.one 14 (.one 15 (.one 16 (.one 17 .fin)))) 14 (.one 4 (.one 15 (.one 16 (.one 17 .fin)))))))) 11 (.one 12 (.one 13 (.two 3 (.two 4 (.one 14 (.one 15 (.one 16 (.one 17 .fin)))) 14 (.one 4 (.one 15 (.one 16 (.one 17 .fin))))) 14 (.one 3 (.one 4 (.one 15 (.one 16 (.one 17 .fin)))))))))))))))))) (by kernel_rfl)
  conv=>whnf
  refine And.intro ?_ ?_
  conv=>whnf
  refine And.intro ?_ ?_
  conv=>whnf
  refine Fn.closed (b1) rfl ?_
  rintro _ rfl
  conv=>whnf
  refine Fn.closed (b2) rfl ?_
  rintro _ rfl
  conv=>whnf
  try (refine And.intro (by first | omega | (simp;done)) ?_;conv=>whnf)
  try (refine And.intro ⟨rfl,by first | rfl | (simp;done) | (simp;omega),by first | omega | (simp;omega)⟩ ?_;conv=>whnf)
  (first | rw [hE] | rw [set_getD_eq (by rw [Int.toNat_natCast,List.length_map];exact hk')] | skip)
  conv=>whnf
  try (refine And.intro (by first | omega | (simp;done)) ?_;conv=>whnf)
  try (refine And.intro ⟨rfl,by first | rfl | (simp;done) | (simp;omega),by first | omega | (simp;omega)⟩ ?_;conv=>whnf)
  (first | rw [hE] | rw [set_getD_eq (by rw [Int.toNat_natCast,List.length_map];exact hk')] | skip)
  conv=>whnf
  rotate_left 1
  conv=>whnf
  refine Fn.closed (b1) rfl ?_
  rintro _ rfl
  conv=>whnf
  refine And.intro ?_ ?_
  conv=>whnf
  refine Fn.closed (b2) rfl ?_
  rintro _ rfl
  conv=>whnf
  try (refine And.intro (by first | omega | (simp;done)) ?_;conv=>whnf)
  try (refine And.intro ⟨rfl,by first | rfl | (simp;done) | (simp;omega),by first | omega | (simp;omega)⟩ ?_;conv=>whnf)
  (first | rw [hE] | rw [set_getD_eq (by rw [Int.toNat_natCast,List.length_map];exact hk')] | skip)
  conv=>whnf
  try (refine And.intro (by first | omega | (simp;done)) ?_;conv=>whnf)
  try (refine And.intro ⟨rfl,by first | rfl | (simp;done) | (simp;omega),by first | omega | (simp;omega)⟩ ?_;conv=>whnf)
  (first | rw [hE] | rw [set_getD_eq (by rw [Int.toNat_natCast,List.length_map];exact hk')] | skip)
  conv=>whnf
  rotate_left 1
  conv=>whnf
  refine Fn.closed (b2) rfl ?_
  rintro _ rfl
  conv=>whnf
  try (refine And.intro (by first | omega | (simp;done)) ?_;conv=>whnf)
  refine And.intro ?_ ?_
  conv=>whnf
  try (refine And.intro ⟨rfl,by first | rfl | (simp;done) | (simp;omega),by first | omega | (simp;omega)⟩ ?_;conv=>whnf)
  (first | rw [hE] | rw [set_getD_eq (by rw [Int.toNat_natCast,List.length_map];exact hk')] | skip)
  conv=>whnf
  try (refine And.intro (by first | omega | (simp;done)) ?_;conv=>whnf)
  try (refine And.intro ⟨rfl,by first | rfl | (simp;done) | (simp;omega),by first | omega | (simp;omega)⟩ ?_;conv=>whnf)
  (first | rw [hE] | rw [set_getD_eq (by rw [Int.toNat_natCast,List.length_map];exact hk')] | skip)
  conv=>whnf
  rotate_left 1
  conv=>whnf
  try (refine And.intro ⟨rfl,by first | rfl | (simp;done) | (simp;omega),by first | omega | (simp;omega)⟩ ?_;conv=>whnf)
  (first | rw [hE] | rw [set_getD_eq (by rw [Int.toNat_natCast,List.length_map];exact hk')] | skip)
  conv=>whnf
  try (refine And.intro (by first | omega | (simp;done)) ?_;conv=>whnf)
  try (refine And.intro ⟨rfl,by first | rfl | (simp;done) | (simp;omega),by first | omega | (simp;omega)⟩ ?_;conv=>whnf)
  (first | rw [hE] | rw [set_getD_eq (by rw [Int.toNat_natCast,List.length_map];exact hk')] | skip)
  conv=>whnf
  rotate_left 1
  conv=>whnf
  refine Fn.closed (b1) rfl ?_
  rintro _ rfl
  conv=>whnf
  refine And.intro ?_ ?_
  conv=>whnf
  refine And.intro ?_ ?_
  conv=>whnf
  refine Fn.closed (b2) rfl ?_
  rintro _ rfl
  conv=>whnf
  try (refine And.intro (by first | omega | (simp;done)) ?_;conv=>whnf)
  try (refine And.intro ⟨rfl,by first | rfl | (simp;done) | (simp;omega),by first | omega | (simp;omega)⟩ ?_;conv=>whnf)
  (first | rw [hE] | rw [set_getD_eq (by rw [Int.toNat_natCast,List.length_map];exact hk')] | skip)
  conv=>whnf
  try (refine And.intro (by first | omega | (simp;done)) ?_;conv=>whnf)
  try (refine And.intro ⟨rfl,by first | rfl | (simp;done) | (simp;omega),by first | omega | (simp;omega)⟩ ?_;conv=>whnf)
  (first | rw [hE] | rw [set_getD_eq (by rw [Int.toNat_natCast,List.length_map];exact hk')] | skip)
  conv=>whnf
  rotate_left 1
  conv=>whnf
  refine Fn.closed (b2) rfl ?_
  rintro _ rfl
  conv=>whnf
  try (refine And.intro (by first | omega | (simp;done)) ?_;conv=>whnf)
  refine And.intro ?_ ?_
  conv=>whnf
  try (refine And.intro ⟨rfl,by first | rfl | (simp;done) | (simp;omega),by first | omega | (simp;omega)⟩ ?_;conv=>whnf)
  (first | rw [hE] | rw [set_getD_eq (by rw [Int.toNat_natCast,List.length_map];exact hk')] | skip)
  conv=>whnf
  try (refine And.intro (by first | omega | (simp;done)) ?_;conv=>whnf)
  try (refine And.intro ⟨rfl,by first | rfl | (simp;done) | (simp;omega),by first | omega | (simp;omega)⟩ ?_;conv=>whnf)
  (first | rw [hE] | rw [set_getD_eq (by rw [Int.toNat_natCast,List.length_map];exact hk')] | skip)
  conv=>whnf
  rotate_left 1
  conv=>whnf
  try (refine And.intro ⟨rfl,by first | rfl | (simp;done) | (simp;omega),by first | omega | (simp;omega)⟩ ?_;conv=>whnf)
  (first | rw [hE] | rw [set_getD_eq (by rw [Int.toNat_natCast,List.length_map];exact hk')] | skip)
  conv=>whnf
  try (refine And.intro (by first | omega | (simp;done)) ?_;conv=>whnf)
  try (refine And.intro ⟨rfl,by first | rfl | (simp;done) | (simp;omega),by first | omega | (simp;omega)⟩ ?_;conv=>whnf)
  (first | rw [hE] | rw [set_getD_eq (by rw [Int.toNat_natCast,List.length_map];exact hk')] | skip)
  conv=>whnf
  rotate_left 1
  conv=>whnf
  refine Fn.closed (b2) rfl ?_
  rintro _ rfl
  conv=>whnf
  try (refine And.intro (by first | omega | (simp;done)) ?_;conv=>whnf)
  refine And.intro ?_ ?_
  conv=>whnf
  refine And.intro ?_ ?_
  conv=>whnf
  try (refine And.intro ⟨rfl,by first | rfl | (simp;done) | (simp;omega),by first | omega | (simp;omega)⟩ ?_;conv=>whnf)
  (first | rw [hE] | rw [set_getD_eq (by rw [Int.toNat_natCast,List.length_map];exact hk')] | skip)
  conv=>whnf
  try (refine And.intro (by first | omega | (simp;done)) ?_;conv=>whnf)
  try (refine And.intro ⟨rfl,by first | rfl | (simp;done) | (simp;omega),by first | omega | (simp;omega)⟩ ?_;conv=>whnf)
  (first | rw [hE] | rw [set_getD_eq (by rw [Int.toNat_natCast,List.length_map];exact hk')] | skip)
  conv=>whnf
  rotate_left 1
  conv=>whnf
  try (refine And.intro ⟨rfl,by first | rfl | (simp;done) | (simp;omega),by first | omega | (simp;omega)⟩ ?_;conv=>whnf)
  (first | rw [hE] | rw [set_getD_eq (by rw [Int.toNat_natCast,List.length_map];exact hk')] | skip)
  conv=>whnf
  try (refine And.intro (by first | omega | (simp;done)) ?_;conv=>whnf)
  try (refine And.intro ⟨rfl,by first | rfl | (simp;done) | (simp;omega),by first | omega | (simp;omega)⟩ ?_;conv=>whnf)
  (first | rw [hE] | rw [set_getD_eq (by rw [Int.toNat_natCast,List.length_map];exact hk')] | skip)
  conv=>whnf
  rotate_left 1
  conv=>whnf
  try (refine And.intro ⟨rfl,by first | rfl | (simp;done) | (simp;omega),by first | omega | (simp;omega)⟩ ?_;conv=>whnf)
  (first | rw [hE] | rw [set_getD_eq (by rw [Int.toNat_natCast,List.length_map];exact hk')] | skip)
  conv=>whnf
  try (refine And.intro (by first | omega | (simp;done)) ?_;conv=>whnf)
  try (refine And.intro ⟨rfl,by first | rfl | (simp;done) | (simp;omega),by first | omega | (simp;omega)⟩ ?_;conv=>whnf)
  (first | rw [hE] | rw [set_getD_eq (by rw [Int.toNat_natCast,List.length_map];exact hk')] | skip)
  conv=>whnf
  rotate_left 1
  all_goals refine⟨k+1,hk',by omega,WkN.rc (ConvF.ofH (ConvH.subRow (k:=2) rfl (es':=d.cells.map celC) (by simp) ?_)) (s:= [0,1,2,3]) ⟨⟨rfl,rfl,rfl,rfl,wsucc (by omega),trivial⟩,⟨rfl,rfl,rfl,rfl,trivial⟩,rfl,rfl,rfl,rfl,rfl⟩⟩
  all_goals
   intro i
   rw [List.set_set,Int.toNat_natCast]
   refine set_same (f:=celC) (d:=(⟨0, [], []⟩:Cel)) hk' ?_ i
   exact⟨fun _ _ h=>h,fun _ _ h=>h,fun _ _ h=>h,trivial⟩
 ·refine aLoop.ruleRR Nat (fun k=>([(1, .bp 0 0),(2, .bp 1 0),(41, .ow 3 d.cache.length),(42, .v (.int .i64 d.cache.length)),(43, .v (.int .i64 k))], [.box 32 (dkX (.ow 2 d.cells.length) (.ow 3 d.cache.length) d.reqs d.left), .box 32 [.v (.slice none 0 0), .v (.slice none 0 0), .v (.int .i64 0), .v (.int .i64 0)], .row 87 3 (d.cells.map celC), .row 130 2 (d.cache.map wrC)])) (fun k=>k≤d.cache.length) (fun k=>d.cache.length - k) 0 (Nat.zero_le _)
   (WkN.r (s:= [0,1,2,3]) ⟨⟨rfl,rfl,rfl,rfl,rfl,trivial⟩,⟨rfl,rfl,rfl,rfl,trivial⟩,rfl,rfl,rfl,rfl,rfl⟩) ?_
  intro k hk
  conv=>whnf
  refine boolI (fun h7=>?_) (fun h7=>?_) <;> (repeat rw [Int.toNat_natCast] at h7) <;> conv=>whnf
  ·have hk':k<d.cache.length:=by omega
   have hm:=hw _ (getD_mem (d:=(⟨0, []⟩:Wr)) hk')
   have b1:=bclone_fn (d.cache.getD k ⟨0, []⟩).bytes hm
   have hE:(d.cache.map wrC).getD (k:Int).toNat []=wrC (d.cache.getD k ⟨0, []⟩):=by rw [Int.toNat_natCast];exact map_getD hk'
   refine And.intro ⟨by omega,by omega⟩ ?_
   conv=>whnf
   refine And.intro ⟨rfl,(List.length_map _).symm,by rw [Int.toNat_natCast];exact hk'⟩ ?_
   conv=>whnf
   rw [hE]
   conv=>whnf
   apply aDraw.treeK (0) tys_ok mixed (.one 0 (.one 1 (.one 2 (.one 3 (.one 4 (.one 5 (.one 6 (.one 7 (.one 8 .fin))))))))) (by kernel_rfl)
   conv=>whnf
   refine Fn.closed (b1) rfl ?_
   rintro _ rfl
   conv=>whnf
   try (refine And.intro (by first | omega | (simp;done)) ?_;conv=>whnf)
   try (refine And.intro ⟨rfl,by first | rfl | (simp;done) | (simp;omega),by first | omega | (simp;omega)⟩ ?_;conv=>whnf)
   (first | rw [hE] | skip)
   conv=>whnf
   all_goals refine⟨k+1,hk',by omega,WkN.rc (ConvF.ofH (ConvH.subRow (k:=3) rfl (es':=d.cache.map wrC) (by simp) ?_)) (s:= [0,1,2,3]) ⟨⟨rfl,rfl,rfl,rfl,wsucc (by omega),trivial⟩,⟨rfl,rfl,rfl,rfl,trivial⟩,rfl,rfl,rfl,rfl,rfl⟩⟩
   all_goals
    intro i
    rw [Int.toNat_natCast]
    refine set_same (f:=wrC) (d:=(⟨0, []⟩:Wr)) hk' ?_ i
    exact⟨fun _ _ h=>h,fun _ _ h=>h,trivial⟩
  ·refine And.intro (List.length_map _).symm ?_
   conv=>whnf
   refine And.intro (List.length_map _).symm ?_
   conv=>whnf
   exact⟨.ag (dkC d),ag_sub ⟨row_sub (f:=celC) d.cells rfl rfl,row_sub (f:=wrC) d.cache rfl rfl,fun _ _ h=>h,fun _ _ h=>h,trivial⟩,rfl⟩
def celOk (c:Cel):Bool:=inB c.state 0 2&&(decide (c.bytes.length≤200)&&decide (c.old.length≤200))
def wrOk (n:Nat) (w:Wr):Bool:=inB w.addr 0 ((n:Int) - 1)&&decide (w.bytes.length≤200)
def okDk (d:Dk):Bool:=(inB d.cells.length 1 300&&(decide (d.cache.length≤2000)&&(inB d.reqs 0 1048576&&inB d.left (-1) 1048576)))&&(d.cells.all celOk&&d.cache.all (wrOk d.cells.length))
theorem din_fn (n lo hi:Int):Fn Tryz.prog 100 [.v (.int .i64 n), .v (.int .i64 lo), .v (.int .i64 hi)] fun r=>r = .v (.bool (inB n lo hi)):=by
 refine Fn.of tys_ok Tryz.func100 rfl rfl (Nat.le_of_ble_eq_true rfl) ?_
 conv=>whnf
 repeat' (first | (refine boolK_intro (fun h=>?_) (fun h=>?_) <;> (try simp at h) <;> conv=>whnf) | (refine aDraw.seq tys_ok mixed (by kernel_rfl) ?_;conv=>whnf) | (refine aSeq.go ?_;conv=>whnf) | (refine And.intro (by omega) ?_;conv=>whnf))
 all_goals exact⟨_,fun _ _ h=>h,by simp [inB, *] <;> omega⟩
theorem dcell_fn (c:Cel):Fn Tryz.prog 160 [.ag (celC c)] fun r=>r = .v (.bool (celOk c)):=by
 refine Fn.of tys_ok Tryz.func160 rfl rfl (Nat.le_of_ble_eq_true rfl) ?_
 conv=>whnf
 repeat' (first | (refine boolK_intro (fun h=>?_) (fun h=>?_) <;> (try simp at h) <;> conv=>whnf) | (refine aDraw.seq tys_ok mixed (by kernel_rfl) ?_;conv=>whnf) | (refine aSeq.go ?_;conv=>whnf) | (refine Fn.closed (din_fn _ _ _) rfl ?_;rintro _ rfl;conv=>whnf) | (refine And.intro (by omega) ?_;conv=>whnf))
 all_goals exact⟨_,fun _ _ h=>h,by congr 2;rw [Bool.eq_iff_iff];simp [celOk, *] <;> omega⟩
theorem dcell1_fn (c:Cel):Fn Tryz.prog 159 [.ag (celC c)] fun r=>r = .v (.bool (!celOk c)):=by
 refine Fn.of tys_ok Tryz.func159 rfl rfl (Nat.le_of_ble_eq_true rfl) ?_
 conv=>whnf
 refine Fn.closed (dcell_fn c) rfl ?_
 rintro _ rfl
 conv=>whnf
 exact⟨_,fun _ _ h=>h,rfl⟩
theorem dce_ix (l:List Cel)  (hl:l.length≤1000000):Fn Tryz.prog 204 [celsA l, .v (.func (.func 159) #[] #[])] fun r=>r = .v (.int .i64 (ixI (fun c=>!celOk c) l)):=by
 refine Fn.of tys_ok Tryz.func204 rfl rfl (Nat.le_of_ble_eq_true rfl) ?_
 conv=>whnf
 refine aLoop.rule Nat (fun k=>([(0,celsA l),(1, .v (.func (.func 159) #[] #[])),(7, .v (.int .i64 l.length)),(8, .v (.int .i64 k))], [])) (fun k=>k≤l.length∧(l.take k).any (fun c=>!celOk c)=false) (fun k=>l.length - k) 0 ⟨Nat.zero_le _,by simp⟩ ⟨[],trivial,⟨rfl,rfl,rfl,rfl,trivial⟩,trivial,rfl,rfl,rfl⟩ ?_
 rintro k ⟨hk,hI⟩
 conv=>whnf
 refine boolK_intro (fun h2=>?_) (fun h2=>?_) <;> simp at h2 <;> conv=>whnf
 ·refine⟨by first | omega | (refine⟨rfl,?_,?_⟩ <;> first | omega | (simp only [List.length_map];done) | (simp only [List.length_map];omega)) | (simp only [List.length_map];omega),?_⟩
  conv=>whnf
  refine Fn.closed (dcell1_fn (l.getD k ⟨0, [], []⟩)) rfl ?_
  rintro _ rfl
  conv=>whnf
  refine boolK_intro (fun h3=>?_) (fun h3=>?_) <;> conv=>whnf
  ·exact⟨_,fun _ _ h=>h,by rw [ixI_hit (d:=⟨0, [], []⟩) h2 hI (by first | exact h3 | (rw [Int.toNat_natCast] at h3;exact h3) | simpa using h3)]⟩
  ·refine⟨k+1,⟨by omega,any_take_succ (d:=⟨0, [], []⟩) h2 hI (by first | exact h3 | (rw [Int.toNat_natCast] at h3;exact h3) | simpa using h3)⟩,by omega, [],trivial,⟨rfl,rfl,rfl,wsucc (by omega),trivial⟩,trivial,rfl,rfl,rfl⟩
 ·exact⟨_,fun _ _ h=>h,by rw [List.take_of_length_le h2] at hI;rw [ixI_none hI]⟩
theorem dce_cf (l:List Cel)  (hl:l.length≤1000000):Fn Tryz.prog 158 [celsA l, .v (.func (.func 159) #[] #[])] fun r=>r = .v (.bool (l.any (fun c=>!celOk c))):=by
 refine Fn.of tys_ok Tryz.func158 rfl rfl (Nat.le_of_ble_eq_true rfl) ?_
 conv=>whnf
 refine Fn.closed (dce_ix l  hl) rfl ?_
 rintro _ rfl
 conv=>whnf
 exact⟨_,fun _ _ h=>h,by rw [ixI_ge]⟩

theorem dcell2_fn (d:Dk) (w:Wr) (hn:d.cells.length≤1000000):Fn Tryz.prog 162 [.ag (wrC w), .rp (dkC d)] fun r=>r = .v (.bool (!wrOk d.cells.length w)):=by
 have w1:IntKind.i64.wrap ((d.cells.length:Int) - 1)=d.cells.length - 1:=wi (by omega)
 refine Fn.of tys_ok Tryz.func162 rfl rfl (Nat.le_of_ble_eq_true rfl) ?_
 conv=>whnf
 rw [w1]
 repeat' (first | (refine boolK_intro (fun h=>?_) (fun h=>?_) <;> (try simp at h) <;> conv=>whnf) | (refine aDraw.seq tys_ok mixed (by kernel_rfl) ?_;conv=>whnf) | (refine aSeq.go ?_;conv=>whnf) | (refine Fn.closed (din_fn _ _ _) rfl ?_;rintro _ rfl;conv=>whnf) | (refine And.intro (by omega) ?_;conv=>whnf))
 all_goals exact⟨_,fun _ _ h=>h,by congr 2;rw [Bool.eq_iff_iff];simp [wrOk, *] <;> omega⟩
theorem dwr_ix (l:List Wr) (d:Dk) (hn:d.cells.length≤1000000) (hl:l.length≤1000000):Fn Tryz.prog 205 [wrsA l, .fn 162 [.rp (dkC d)]] fun r=>r = .v (.int .i64 (ixI (fun w=>!wrOk d.cells.length w) l)):=by
 refine Fn.of tys_ok Tryz.func205 rfl rfl (Nat.le_of_ble_eq_true rfl) ?_
 conv=>whnf
 refine aLoop.rule Nat (fun k=>([(0,wrsA l),(1, .fn 162 [.rp (dkC d)]),(7, .v (.int .i64 l.length)),(8, .v (.int .i64 k))], [])) (fun k=>k≤l.length∧(l.take k).any (fun w=>!wrOk d.cells.length w)=false) (fun k=>l.length - k) 0 ⟨Nat.zero_le _,by simp⟩ ⟨[],trivial,⟨rfl,rfl,rfl,rfl,trivial⟩,trivial,rfl,rfl,rfl⟩ ?_
 rintro k ⟨hk,hI⟩
 conv=>whnf
 refine boolK_intro (fun h2=>?_) (fun h2=>?_) <;> simp at h2 <;> conv=>whnf
 ·refine⟨by first | omega | (refine⟨rfl,?_,?_⟩ <;> first | omega | (simp only [List.length_map];done) | (simp only [List.length_map];omega)) | (simp only [List.length_map];omega),?_⟩
  conv=>whnf
  refine Fn.closed (dcell2_fn d (l.getD k ⟨0, []⟩) hn) rfl ?_
  rintro _ rfl
  conv=>whnf
  refine boolK_intro (fun h3=>?_) (fun h3=>?_) <;> conv=>whnf
  ·exact⟨_,fun _ _ h=>h,by rw [ixI_hit (d:=⟨0, []⟩) h2 hI (by first | exact h3 | (rw [Int.toNat_natCast] at h3;exact h3) | simpa using h3)]⟩
  ·refine⟨k+1,⟨by omega,any_take_succ (d:=⟨0, []⟩) h2 hI (by first | exact h3 | (rw [Int.toNat_natCast] at h3;exact h3) | simpa using h3)⟩,by omega, [],trivial,⟨rfl,rfl,rfl,wsucc (by omega),trivial⟩,trivial,rfl,rfl,rfl⟩
 ·exact⟨_,fun _ _ h=>h,by rw [List.take_of_length_le h2] at hI;rw [ixI_none hI]⟩
theorem dwr_cf (l:List Wr) (d:Dk) (hn:d.cells.length≤1000000) (hl:l.length≤1000000):Fn Tryz.prog 161 [wrsA l, .fn 162 [.rp (dkC d)]] fun r=>r = .v (.bool (l.any (fun w=>!wrOk d.cells.length w))):=by
 refine Fn.of tys_ok Tryz.func161 rfl rfl (Nat.le_of_ble_eq_true rfl) ?_
 conv=>whnf
 refine Fn.closed (dwr_ix l d hn hl) rfl ?_
 rintro _ rfl
 conv=>whnf
 exact⟨_,fun _ _ h=>h,by rw [ixI_ge]⟩

set_option maxRecDepth 100000 in
theorem dcheck_fn (d:Dk) (h1:d.cells.length≤1000000) (h2:d.cache.length≤1000000):Fn Tryz.prog 97 [.ag (dkC d)] fun r=>r = .v (errV (okDk d)):=by
 have c1:=dce_cf d.cells h1
 have c2:=dwr_cf d.cache d h1 h2
 rw [show (d.cells.any fun c=>!celOk c) = !d.cells.all celOk by rw [List.all_eq_not_any_not,Bool.not_not]] at c1
 rw [show (d.cache.any fun w=>!wrOk d.cells.length w) = !d.cache.all (wrOk d.cells.length) by rw [List.all_eq_not_any_not,Bool.not_not]] at c2
 obtain⟨A,hA⟩:∃ A,A=d.cells.all celOk:=⟨_,rfl⟩
 obtain⟨B,hB⟩:∃ B,B=d.cache.all (wrOk d.cells.length):=⟨_,rfl⟩
 have hok:okDk d=((inB d.cells.length 1 300&&(decide (d.cache.length≤2000)&&(inB d.reqs 0 1048576&&inB d.left (-1) 1048576)))&&(A&&B)):=by rw [okDk,hA,hB]
 rw [←hA] at c1
 rw [←hB] at c2
 rw [hok]
 clear hok hA hB
 refine Fn.of tys_ok Tryz.func97 rfl rfl (Nat.le_of_ble_eq_true rfl) ?_
 conv=>whnf
 repeat' (first | (refine boolK_intro (fun h=>?_) (fun h=>?_) <;> (try simp at h) <;> conv=>whnf) | (refine aDraw.seq tys_ok mixed (by kernel_rfl) ?_;conv=>whnf) | (refine aSeq.go ?_;conv=>whnf) | (refine Fn.closed (din_fn _ _ _) rfl ?_;rintro _ rfl;conv=>whnf) | (refine Fn.closed (c1) rfl ?_;rintro _ rfl;conv=>whnf) | (refine Fn.closed (c2) rfl ?_;rintro _ rfl;conv=>whnf) | (refine And.intro (by omega) ?_;conv=>whnf))
 all_goals exact⟨_,fun _ _ h=>h,by
  first
   | (rw [show ((inB d.cells.length 1 300&&(decide (d.cache.length≤2000)&&(inB d.reqs 0 1048576&&inB d.left (-1) 1048576)))&&(A&&B))=false by rw [←Bool.not_eq_true];simp [*] <;> omega];rfl)
   | (rw [show ((inB d.cells.length 1 300&&(decide (d.cache.length≤2000)&&(inB d.reqs 0 1048576&&inB d.left (-1) 1048576)))&&(A&&B))=true by simp [*] <;> omega];rfl)⟩

def cel0:List AV:= [.v (.int .i64 0), .v (.slice none 0 0), .v (.slice none 0 0)]
set_option maxRecDepth 100000 in
theorem dnew_own (n:Nat) (hn:1≤n∧n≤300):ACalls Tryz.prog false 65 [.v (.int .i64 n)] [] fun r H=>r = .tp [.ag [.ow 0 n, .v (.slice none 0 0), .v (.int .i64 0), .v (.int .i64 (-1))], .v (.int .i64 0)]∧H=[.row 87 3 (List.replicate n cel0)]:=by
 have hi:=din_fn n 1 300
 rw [show inB (n:Int) 1 300=true by simp [inB];omega] at hi
 refine ACalls.ofR tys_ok Tryz.func65 rfl rfl (Nat.le_of_ble_eq_true rfl) ?_
 conv=>whnf
 refine Fn.closed (hi) rfl ?_
 rintro _ rfl
 conv=>whnf
 refine And.intro ⟨rfl,by omega,by omega⟩ ?_
 conv=>whnf
 exact⟨_, .tp [.ag [.ow 0 n, .v (.slice none 0 0), .v (.int .i64 0), .v (.int .i64 (-1))], .v (.int .i64 0)], [.row 87 3 (List.replicate n cel0)],fun _ _ h=>h,WkN.r (s:= [1]) ⟨⟨by rw [Int.toNat_natCast];rfl,trivial⟩,⟨by rw [Int.toNat_natCast];rfl,trivial⟩,rfl,rfl,rfl,rfl,rfl⟩,rfl,rfl⟩
set_option maxRecDepth 100000 in
theorem rnew_own (n:Nat) (hn:1≤n∧n≤300):ACalls Tryz.prog false 78 [.v (.int .i64 n)] [] fun r H=>r = .ag [.ow 0 n, .v (.slice none 0 0), .v (.int .i64 0), .v (.int .i64 (-1))]∧H=[.row 87 3 (List.replicate n cel0)]:=by
 refine ACalls.ofR tys_ok Tryz.func78 rfl rfl (Nat.le_of_ble_eq_true rfl) ?_
 conv=>whnf
 refine And.intro ⟨rfl,by omega,by omega⟩ ?_
 conv=>whnf
 exact⟨_, .ag [.ow 0 n, .v (.slice none 0 0), .v (.int .i64 0), .v (.int .i64 (-1))], [.row 87 3 (List.replicate n cel0)],fun _ _ h=>h,WkN.r (s:= [1]) ⟨⟨by rw [Int.toNat_natCast];rfl,trivial⟩,⟨by rw [Int.toNat_natCast];rfl,trivial⟩,rfl,rfl,rfl,rfl,rfl⟩,rfl,rfl⟩
@[reducible] def dkG (d:Dk):List AB:= [.box 164 (dkX (.ow 1 d.cells.length) (.ow 3 d.cache.length) d.reqs d.left), .row 87 3 (d.cells.map celC), .dead, .row 130 2 (d.cache.map wrC)]
theorem dkG_of (d:Dk):ConvH (dkH d) (dkG d):=ConvH.move (H:=dkH d) 0 2 (by decide) rfl rfl
theorem dflush_any (d:Dk) (hl : -1≤d.left∧d.left≤1048576) (hc:d.cache.length≤2000) (ha:∀ w∈d.cache,0≤w.addr∧w.addr<d.cells.length) :
  ACalls Tryz.prog false 146 [.bp 0 0] (dkH d) fun r H=>r = .v (.int .i64 (if d.left=0 then 8 else 0))∧H=dkG (if d.left=0 then d else d.flush):=by
 by_cases h0:d.left=0
 ·rw [if_pos h0,if_pos h0]
  exact(dflush0_fn d hl h0).conv fun r H ⟨h1,h2⟩=>⟨_,h2 ▸ dkG_of d,h1,rfl⟩
 ·rw [if_neg h0,if_neg h0]
  exact(dflush_fn d hl h0 hc ha).conv fun r H ⟨h1,h2⟩=>⟨_,h2 ▸ ConvH.refl _,h1,rfl⟩
theorem take_succ_map {α β:Type} {f:α→β} {d:α} {l:List α} {k:Nat} (h:k<l.length):(l.take (k+1)).map f=(l.take k).map f ++ [f (l.getD k d)]:=by
 rw [List.take_succ_eq_append_getElem h,List.map_append,List.getD_eq_getElem?_getD,List.getElem?_eq_getElem h];rfl
set_option maxRecDepth 100000 in
theorem ktwin_own (d:Dk) (h1:d.cells.length≤1000000) (h2:d.cache.length≤1000000) (hb:∀ c∈d.cells,c.bytes.length≤1000000000∧c.old.length≤1000000000) (hw:∀ w∈d.cache,w.bytes.length≤1000000000) :
  ACalls Tryz.prog false 23 [.ag (dkC d)] [] fun r H=>r = .ag (dkX (.ow 0 d.cells.length) (.ow 1 d.cache.length) d.reqs d.left)∧H=[.row 87 3 (d.cells.map celC), .row 130 2 (d.cache.map wrC)]:=by
 refine ACalls.ofR tys_ok Tryz.func23 rfl rfl (Nat.le_of_ble_eq_true rfl) ?_
 conv=>whnf
 refine aLoop.ruleRR Nat (fun k=>([(1, .bp 0 0),(2, .bp 1 0),(3, .bp 2 0),(4, .v (.int .i64 k))], [.box 32 (dkC d), .box 32 [.v (.slice none 0 0), .v (.slice none 0 0), .v (.int .i64 0), .v (.int .i64 0)], .box 32 [.ow 3 k, .v (.slice none 0 0), .v (.int .i64 d.reqs), .v (.int .i64 d.left)], .row 87 3 ((d.cells.take k).map celC)])) (fun k=>k≤d.cells.length) (fun k=>d.cells.length - k) 0 (Nat.zero_le _)
  ⟨_,_,ConvF.refl _ _, [(1002000,87,3)],⟨rfl,rfl,trivial⟩, [0,1,2,3],⟨⟨rfl,rfl,rfl,rfl,trivial⟩,⟨rfl,rfl,rfl,rfl,trivial⟩,rfl,rfl,rfl,rfl,rfl⟩⟩ ?_
 intro k hk
 conv=>whnf
 refine boolI (fun h6=>?_) (fun h6=>?_) <;> (repeat rw [Int.toNat_natCast] at h6) <;> conv=>whnf
 ·have hk':k<d.cells.length:=by omega
  obtain⟨c,hc⟩:∃ c,c=d.cells.getD k ⟨0, [], []⟩:=⟨_,rfl⟩
  have hm:=hb _ (getD_mem (d:=(⟨0, [], []⟩:Cel)) hk')
  rw [←hc] at hm
  have b1:=twin_fn c.bytes hm.1
  have b2:=twin_fn c.old hm.2
  rw [hc] at b1 b2
  have hl:k=((d.cells.take k).map celC).length:=by simp;omega
  apply aDraw.treeK (0) tys_ok mixed (.one 0 (.one 1 (.one 2 (.one 3 (.one 4 (.one 5 (.one 6 (.one 7 (.one 8 (.one 9 (.one 10 (.one 11 (.one 12 (.one 13 (.one 15 (.one 16 (.one 17 (.one 18 (.one 19 (.one 20 (.one 14 (.one 21 (.one 22 (.one 23 (.one 24 (.one 25 (.one 26 .fin))))))))))))))))))))))))))) (by kernel_rfl)
  conv=>whnf
  try (refine And.intro (by first | omega | (simp;done)) ?_;conv=>whnf)
  try (refine And.intro (by first | omega | (simp;done)) ?_;conv=>whnf)
  try (refine And.intro (by first | omega | (simp;done)) ?_;conv=>whnf)
  refine Fn.closed (b1) rfl ?_
  rintro _ rfl
  conv=>whnf
  refine Fn.closed (b2) rfl ?_
  rintro _ rfl
  conv=>whnf
  try (refine And.intro (by first | rfl | omega) ?_;conv=>whnf)
  try (refine And.intro (by first | omega | exact⟨by first | rfl | (simp;done) | (simp;omega),by omega⟩) ?_;conv=>whnf)
  try (refine And.intro ⟨rfl,by first | rfl | (simp;done) | (simp;omega),by first | omega | (simp;omega)⟩ ?_;conv=>whnf)
  exact⟨k+1,hk',by omega,WkN.r (s:= [0,1,2,3]) ⟨⟨rfl,rfl,rfl,wsucc (by omega),trivial⟩,⟨rfl,rfl,rfl,congrArg (fun l=>some (AB.row _ _ l)) (take_succ_map hk').symm,trivial⟩,rfl,rfl,rfl,rfl,rfl⟩⟩
 ·have ek:k=d.cells.length:=by omega
  subst ek
  refine aLoop.ruleRR Nat (fun k=>([(1, .bp 0 0),(2, .bp 1 0),(3, .bp 2 0),(5, .v (.int .i64 k))], [.box 32 (dkC d), .box 32 [.v (.slice none 0 0), .v (.slice none 0 0), .v (.int .i64 0), .v (.int .i64 0)], .box 32 [.ow 3 d.cells.length, .ow 4 k, .v (.int .i64 d.reqs), .v (.int .i64 d.left)], .row 87 3 (d.cells.map celC), .row 130 2 ((d.cache.take k).map wrC)])) (fun k=>k≤d.cache.length) (fun k=>d.cache.length - k) 0 (Nat.zero_le _)
   ⟨_,_,ConvF.refl _ _, [(1002001,130,2)],⟨rfl,rfl,trivial⟩, [0,1,2,3,4],⟨⟨rfl,rfl,rfl,rfl,trivial⟩,⟨rfl,rfl,rfl,by rw [List.take_length];rfl,rfl,trivial⟩,rfl,rfl,rfl,rfl,rfl⟩⟩ ?_
  intro k hk
  conv=>whnf
  refine boolI (fun h7=>?_) (fun h7=>?_) <;> (repeat rw [Int.toNat_natCast] at h7) <;> conv=>whnf
  ·have hk':k<d.cache.length:=by omega
   have hm:=hw _ (getD_mem (d:=(⟨0, []⟩:Wr)) hk')
   have b1:=twin_fn (d.cache.getD k ⟨0, []⟩).bytes hm
   have hl:k=((d.cache.take k).map wrC).length:=by simp;omega
   apply aDraw.treeK (0) tys_ok mixed (.one 0 (.one 1 (.one 2 (.one 3 (.one 4 (.one 5 (.one 6 (.one 7 (.one 8 (.one 9 (.one 10 (.one 11 (.one 12 (.one 13 (.one 14 (.one 15 (.one 16 (.one 17 (.one 18 (.one 19 .fin)))))))))))))))))))) (by kernel_rfl)
   conv=>whnf
   try (refine And.intro (by first | omega | (simp;done)) ?_;conv=>whnf)
   try (refine And.intro (by first | omega | (simp;done)) ?_;conv=>whnf)
   refine Fn.closed (b1) rfl ?_
   rintro _ rfl
   conv=>whnf
   try (refine And.intro (by first | rfl | omega) ?_;conv=>whnf)
   try (refine And.intro (by first | omega | exact⟨by first | rfl | (simp;done) | (simp;omega),by omega⟩) ?_;conv=>whnf)
   try (refine And.intro ⟨rfl,by first | rfl | (simp;done) | (simp;omega),by first | omega | (simp;omega)⟩ ?_;conv=>whnf)
   exact⟨k+1,hk',by omega,WkN.r (s:= [0,1,2,3,4]) ⟨⟨rfl,rfl,rfl,wsucc (by omega),trivial⟩,⟨rfl,rfl,rfl,rfl,congrArg (fun l=>some (AB.row _ _ l)) (take_succ_map hk').symm,trivial⟩,rfl,rfl,rfl,rfl,rfl⟩⟩
  ·have ek:k=d.cache.length:=by omega
   subst ek
   exact⟨_, .ag (dkX (.ow 0 d.cells.length) (.ow 1 d.cache.length) d.reqs d.left), [.row 87 3 (d.cells.map celC), .row 130 2 (d.cache.map wrC)],fun _ _ h=>h,WkN.r (s:= [3,4]) ⟨⟨rfl,trivial⟩,⟨rfl,by rw [List.take_length];rfl,trivial⟩,rfl,rfl,rfl,rfl,rfl⟩,rfl,rfl⟩
theorem ktwindisk_fn (d:Dk) (h1:d.cells.length≤1000000) (h2:d.cache.length≤1000000) (hb:∀ c∈d.cells,c.bytes.length≤1000000000∧c.old.length≤1000000000) (hw:∀ w∈d.cache,w.bytes.length≤1000000000) :
  Fn Tryz.prog 23 [.ag (dkC d)] fun r=>r = .ag (dkC d):=by
 refine ACalls.fn (ktwin_own d h1 h2 hb hw) ?_
 rintro _ _ ⟨rfl,rfl⟩
 refine⟨_,ConvH.refl _,?_⟩
 conv=>whnf
 refine And.intro (List.length_map _).symm ?_
 conv=>whnf
 refine And.intro (List.length_map _).symm ?_
 conv=>whnf
 exact⟨.ag (dkC d),ag_sub ⟨row_sub (f:=celC) d.cells rfl rfl,row_sub (f:=wrC) d.cache rfl rfl,fun _ _ h=>h,fun _ _ h=>h,trivial⟩,rfl⟩

structure DkOk (d:Dk):Prop where
 n:1≤d.cells.length∧d.cells.length≤300
 m:d.cache.length≤2000
 r:0≤d.reqs∧d.reqs≤1048576
 l : -1≤d.left∧d.left≤1048576
 c:∀ c∈d.cells,(0≤c.state∧c.state≤2)∧c.bytes.length≤200∧c.old.length≤200
 w:∀ w∈d.cache,(0≤w.addr∧w.addr<d.cells.length)∧w.bytes.length≤200
theorem okDk_iff {d:Dk}:okDk d=true↔DkOk d:=by
 constructor
 ·intro h
  simp only [okDk,Bool.and_eq_true,inB_iff,decide_eq_true_eq,List.all_eq_true,celOk,wrOk] at h
  obtain⟨⟨h1,h2,h3,h4⟩,h5,h6⟩:=h
  exact⟨by omega,h2,h3,h4,fun c hc=>h5 c hc,fun w hw=>⟨by have:=(h6 w hw).1;omega,(h6 w hw).2⟩⟩
 ·intro h
  simp only [okDk,Bool.and_eq_true,inB_iff,decide_eq_true_eq,List.all_eq_true,celOk,wrOk]
  exact⟨⟨by have:=h.n;omega,h.m,h.r,h.l⟩,fun c hc=>h.c c hc,fun w hw=>⟨by have:=(h.w w hw).1;omega,(h.w w hw).2⟩⟩
theorem DkOk.req {d:Dk} (h:DkOk d):DkOk d.req:=by
 have hr:=h.r
 have hl:=h.l
 refine⟨h.n,h.m,?_,?_,h.c,h.w⟩
 ·show 0≤(if 1048576<IntKind.i64.wrap (d.reqs+1) then 1048576 else IntKind.i64.wrap (d.reqs+1))∧(if 1048576<IntKind.i64.wrap (d.reqs+1) then 1048576 else IntKind.i64.wrap (d.reqs+1))≤1048576
  rw [wi (by omega)]
  split <;> omega
 ·show -1≤(if d.left > 0 then d.left - 1 else d.left)∧(if d.left > 0 then d.left - 1 else d.left)≤1048576
  split <;> omega
theorem got_short {d:Dk} (h:DkOk d) (a:Int):(d.got a).1.length≤200:=by
 unfold Dk.got
 cases hl:lastW d.cache a with
 | some w=>
  have:∀ (l:List Wr) (r:Option Wr),(∀ x∈l,x.bytes.length≤200)→(∀ x,r=some x→x.bytes.length≤200)→∀ x,l.foldl (fun r w=>if w.addr=a then some w else r) r=some x→x.bytes.length≤200:=by
   intro l
   induction l with
   | nil=>intro r _ h2 x hx;exact h2 x hx
   | cons y l ih=>
    intro r h1 h2 x hx
    refine ih _ (fun x hx=>h1 x (List.mem_cons_of_mem _ hx)) (fun x hx=>?_) x hx
    simp only at hx
    split at hx
    ·cases hx;exact h1 y (by simp)
    ·exact h2 x hx
  exact this d.cache none (fun x hx=>(h.w x hx).2) (fun x hx=>by cases hx) w hl
 | none=>
  simp only
  split
  ·by_cases ha:a.toNat<d.cells.length
   ·exact(h.c _ (getD_mem (d:=⟨0, [], []⟩) ha)).2.1
   ·rw [List.getD_eq_getElem?_getD,List.getElem?_eq_none (by omega)];simp
  ·simp
theorem DkOk.read {d:Dk} (h:DkOk d) (a:Int):DkOk (d.read a).1:=by
 unfold Dk.read
 split
 ·exact h
 ·exact h.req
theorem DkOk.write {d:Dk} (h:DkOk d) {a:Int} {b:List UInt8} (ha:0≤a∧a<d.cells.length) (hb:b.length≤200):DkOk (d.write a b).1:=by
 unfold Dk.write
 split
 ·exact h
 ·split
  ·exact h.req
  ·rename_i h1
   have h2:=h.req
   refine⟨h2.n,?_,h2.r,h2.l,h2.c,fun w hw=>?_⟩
   ·simp only [List.length_append,List.length_singleton];omega
   ·rcases List.mem_append.1 hw with hw | hw
    ·exact h.w w hw
    ·simp at hw;subst hw;exact⟨ha,hb⟩
theorem DkOk.fin {d:Dk} (h:DkOk d) {w:Wr} (hb:w.bytes.length≤200):DkOk (d.fin w):=by
 unfold Dk.fin
 split
 ·exact h
 ·refine⟨by simpa using h.n,h.m,h.r,h.l,fun c hc=>?_,fun x hx=>by simpa using h.w x hx⟩
  rcases List.mem_or_eq_of_mem_set hc with hc | rfl
  ·exact h.c c hc
  ·refine⟨⟨Int.le_refl _,show (0:Int)≤2 by decide⟩,hb,?_⟩
   show (d.cells.getD w.addr.toNat cz).bytes.length≤200
   by_cases ha:w.addr.toNat<d.cells.length
   ·exact(h.c _ (getD_mem (d:=cz) ha)).2.1
   ·rw [List.getD_eq_getElem?_getD,List.getElem?_eq_none (by omega)];simp [cz]
theorem DkOk.allFin (l:List Wr):∀ {d:Dk},DkOk d→(∀ w∈l,w.bytes.length≤200)→DkOk (d.allFin l):=by
 induction l with
 | nil=>intro d h _;exact h
 | cons w l ih=>intro d h hw;exact ih (h.fin (hw w (by simp))) fun x hx=>hw x (List.mem_cons_of_mem _ hx)
theorem DkOk.flush {d:Dk} (h:DkOk d):DkOk d.flush:=by
 have h1:=h.req.allFin d.cache (fun w hw=>(h.w w hw).2)
 exact⟨h1.n,by simp [Dk.flush],h1.r,h1.l,h1.c,fun w hw=>by simp [Dk.flush] at hw⟩
theorem write_n (d:Dk) (a:Int) (b:List UInt8):(d.write a b).1.cells.length=d.cells.length:=by
 unfold Dk.write;split
 ·rfl
 ·split <;> rfl
theorem flush_n (d:Dk):d.flush.cells.length=d.cells.length:=(allFin_len d.cache d.req).1
def Dk.adv:Nat→Dk→Dk
 | 0,d=>d
 | k+1,d=>let e:=Dk.adv k d;if e.left=0 then e else e.req
def Dk.live (k:Nat) (d:Dk):Prop:=d.left<0∨(k:Int)≤d.left
instance (k:Nat) (d:Dk):Decidable (d.live k):=by unfold Dk.live;infer_instance
theorem adv_same (k:Nat) (d:Dk):(d.adv k).cells=d.cells∧(d.adv k).cache=d.cache:=by
 induction k with
 | zero=>exact⟨rfl,rfl⟩
 | succ k ih=>show (if _ then _ else _:Dk).cells=_∧(if _ then _ else _:Dk).cache=_;split <;> exact ih
theorem adv_left (k:Nat) (d:Dk) (h:d.live k):(d.adv k).left=if d.left<0 then d.left else d.left - k:=by
 induction k with
 | zero=>show d.left=_;simp
 | succ k ih=>
  have h':d.live k:=by unfold Dk.live at *;omega
  have ih:=ih h'
  have h0:¬(d.adv k).left=0:=by rw [ih];unfold Dk.live at h;split <;> omega
  show (if (d.adv k).left=0 then d.adv k else (d.adv k).req).left=_
  rw [if_neg h0]
  show (if (d.adv k).left > 0 then (d.adv k).left - 1 else (d.adv k).left)=_
  rw [ih]
  unfold Dk.live at h
  split <;> split <;> omega
theorem adv_stop (k n:Nat) (d:Dk) (h:(d.adv k).left=0) (hn:k≤n):d.adv n=d.adv k:=by
 induction n with
 | zero=>rw [show k=0 by omega]
 | succ n ih=>
  by_cases e:k=n+1
  ·rw [e]
  ·have:=ih (by omega)
   show (if (d.adv n).left=0 then d.adv n else (d.adv n).req)=_
   rw [this,if_pos h]
theorem adv_succ (k:Nat) (d:Dk) (h:¬(d.adv k).left=0):d.adv (k+1)=(d.adv k).req:=if_neg h
theorem adv_live (k:Nat) (d:Dk) (hl : -1≤d.left) (h:d.live k):(d.adv k).left=0↔¬d.live (k+1):=by
 rw [adv_left k d h]
 unfold Dk.live at *
 split <;> omega
theorem DkOk.adv {d:Dk} (h:DkOk d) (k:Nat):DkOk (d.adv k):=by
 induction k with
 | zero=>exact h
 | succ k ih=>show DkOk (if _ then _ else _);split;exact ih;exact ih.req
theorem adv_got (k:Nat) (d:Dk) (a:Int):(d.adv k).got a=d.got a:=by
 unfold Dk.got
 rw [(adv_same k d).1,(adv_same k d).2]
def gotG (d:Dk) (a:Int):Gt:=⟨(d.got a).2,(d.got a).1⟩
theorem got_err (d:Dk) (a:Int):(d.got a).2=0∨(d.got a).2=6:=by
 unfold Dk.got
 cases lastW d.cache a with
 | some w=>exact .inl rfl
 | none=>simp only;split;exact .inl rfl;exact .inr rfl
def wrStep (s:Dk × Nat × Bool) (w:Wr):Dk × Nat × Bool:=
 if s.2.2 then s else
 match s.1.write w.addr w.bytes with
 | (d,e)=>if e=8 then (d,s.2.1,true) else (d,s.2.1+(if e=0 then 1 else 0),false)
def Dk.writes (d:Dk) (l:List Wr):Dk × Nat × Bool:=l.foldl wrStep (d,0,false)
def Dk.putAll (d:Dk) (l:List Wr):Dk × Nat × Bool:=
 match d.writes l with
 | (d1,n,dead)=>if dead then (d1,n,true) else if d1.left=0 then (d1,n,true) else (d1.flush,n,false)
theorem writes_succ (d:Dk) {l:List Wr} {k:Nat} (h:k<l.length):d.writes (l.take (k+1))=wrStep (d.writes (l.take k)) (l.getD k ⟨0, []⟩):=by
 unfold Dk.writes
 rw [List.take_add_one,List.foldl_append,List.getElem?_eq_getElem h]
 simp [List.getD_eq_getElem?_getD,List.getElem?_eq_getElem h]
theorem wrStep_dead {s:Dk × Nat × Bool} (w:Wr) (h:s.2.2=true):wrStep s w=s:=by unfold wrStep;rw [if_pos h]
theorem writes_dead (d:Dk) {l:List Wr} {k:Nat} (hk:k≤l.length) (h:(d.writes (l.take k)).2.2=true):d.writes l=d.writes (l.take k):=by
 have:∀ n,k≤n→n≤l.length→d.writes (l.take n)=d.writes (l.take k):=by
  intro n
  induction n with
  | zero=>intro h1 _;rw [show k=0 by omega]
  | succ n ih=>
   intro h1 h2
   by_cases e:k=n+1
   ·rw [e]
   ·rw [writes_succ d (by omega),ih (by omega) (by omega),wrStep_dead _ h]
 have:=this l.length hk (Nat.le_refl _)
 rwa [List.take_length] at this
theorem writes_inv {P:Dk→Prop} (l:List Wr) (hw:∀ d,P d→∀ w∈l,P (d.write w.addr w.bytes).1) {d:Dk} (h:P d) (k:Nat):P (d.writes (l.take k)).1:=by
 induction k with
 | zero=>simpa [Dk.writes] using h
 | succ k ih=>
  by_cases hk:k<l.length
  ·rw [writes_succ d hk]
   unfold wrStep
   split
   ·exact ih
   ·have:=hw _ ih _ (getD_mem (d:=(⟨0, []⟩:Wr)) hk)
    simp only
    split <;> exact this
  ·rw [List.take_of_length_le (by omega)];rwa [List.take_of_length_le (by omega)] at ih

theorem rsum_br (b:List UInt8):Fn Tryz.prog 105 [bA b] fun r=>r = .v (.int .i64 (sumC b:Nat)):=by
 refine⟨⟨_,Tryz.func105,rfl,by decide⟩,fun c0 us hd hM _ hr=>?_⟩
 obtain⟨u1,rfl,h1⟩:=rd1 hr
 refine(rsum_any u1 b c0.w c0.M (toBytes h1)).mono ?_
 rintro e w' ⟨rfl,rfl⟩
 exact⟨_,_,rfl,rfl,Below.refl _ _,rd_v _⟩

theorem rlogAt_fn (g:Geo) (copy slot:Int) (hg:okG g=true) (hl:okL g copy slot=true):Fn Tryz.prog 32 [.ag (geoC g), .v (.int .i64 copy), .v (.int .i64 slot)] fun r=>r = .v (.int .i64 (logAt g copy slot)):=by
 obtain⟨h1,h2,h3,h4,h5⟩:=okG_iff.1 hg
 simp only [okL,Bool.and_eq_true,inB_iff] at hl
 refine Fn.of tys_ok Tryz.func32 rfl rfl (Nat.le_of_ble_eq_true rfl) ?_
 conv=>whnf
 refine⟨_,fun _ _ h=>h,?_⟩
 have hm:0≤copy*g.sl∧copy*g.sl≤30:=by
  rcases(show copy=0∨copy=1 by omega) with rfl | rfl <;> omega
 rw [wi (n:=copy*g.sl) (by omega),wi (n:=g.an+copy*g.sl) (by omega),wi (n:=g.an+copy*g.sl+slot) (by omega)]
 rfl
def sectorO (x:Gt) (addr:Int):Option Sec:=if x.err=0∧openE x.bytes=0∧secAddr x.bytes=addr then some ⟨secAddr x.bytes,secStamp x.bytes,secPay x.bytes⟩ else none
theorem saysR_of (g:Geo) (x:Gt) (copy slot:Int) (hg:okG g=true) (hL:okL g copy slot=true):saysR g x copy slot=match sectorO x (logAt g copy slot) with | none=>none | some s=>match readR g s.pay with | some r=>if r.seq=s.stamp then some r else none | none=>none:=by
 unfold saysR sectorO
 rw [hg,hL]
 by_cases h1:x.err=0 <;> by_cases h2:openE x.bytes=0 <;> by_cases h3:secAddr x.bytes=logAt g copy slot <;> simp [h1,h2,h3] <;> rfl
def oneO (o:Option Rc) (a:An) (seq at_ of_ left:Int):Bool:=match o with | some r=>isOne r a seq at_ of_ left | none=>false
def lookT (p q:Option Rc) (b1 b2:Bool):Rc × List Int × Int:=
 if b1&&b2 then (p.getD zeroC, [],1) else if b1 then (p.getD zeroC, [1],1) else if b2 then (q.getD zeroC, [0],1) else if p.isSome || q.isSome then (zeroC, [],2) else (zeroC, [],3)
def lookR (g:Geo) (a:An) (x y:Gt) (slot seq at_ of_ left:Int):Rc × List Int × Int:=
 lookT (saysR g x 0 slot) (saysR g y 1 slot) (oneO (saysR g x 0 slot) a seq at_ of_ left) (oneO (saysR g y 1 slot) a seq at_ of_ left)
theorem look0_sub (c:Ctx) (u:Value) (how e:Int) (h:Rd (.tp [.ag [.v (.int .i64 0), .v (.int .i64 0), .v (.int .i64 0), .v (.int .i64 0), .v (.int .i64 0), .v (.int .i64 0), .v (.int .i64 0), .v (.slice none 0 0)], .v (.slice none 0 0), .v (.int .i64 how), .v (.int .i64 e)]) c u):Rd (.tp [.ag (rcC zeroC),iA [], .v (.int .i64 how), .v (.int .i64 e)]) c u:=by
 refine tp_sub ?_ c u h
 exact⟨ag_sub ⟨fun _ _ h=>h,fun _ _ h=>h,fun _ _ h=>h,fun _ _ h=>h,fun _ _ h=>h,fun _ _ h=>h,fun _ _ h=>h,nil_sl _ _,trivial⟩,nil_sl _ _,fun _ _ h=>h,fun _ _ h=>h,trivial⟩
theorem one_sub {x:Int} (c:Ctx) (u:Value) (h:Rd (.sl 1 1 fun i=> [[AV.v (.int .i64 x)]].getD i []) c u):Rd (iA [x]) c u:=
 Rd.congr (n:=1) (n':= [x].length) rfl (fun i hi=>by
  have:i=0:=by simp at hi;omega
  subst this
  rfl) h
theorem lookF0 (r:Rc) (c:Ctx) (u:Value) (h:Rd (.tp [.ag (rcC r), .v (.slice none 0 0), .v (.int .i64 1), .v (.int .i64 0)]) c u):Rd (.tp [.ag (rcC r),iA [], .v (.int .i64 1), .v (.int .i64 0)]) c u:=by
 refine tp_sub ?_ c u h
 exact⟨fun _ _ h=>h,nil_sl _ _,fun _ _ h=>h,fun _ _ h=>h,trivial⟩
theorem lookF1 (r:Rc) (x:Int) (c:Ctx) (u:Value) (h:Rd (.tp [.ag (rcC r), .sl 1 1 fun i=> [[AV.v (.int .i64 x)]].getD i [], .v (.int .i64 1), .v (.int .i64 0)]) c u):Rd (.tp [.ag (rcC r),iA [x], .v (.int .i64 1), .v (.int .i64 0)]) c u:=by
 refine tp_sub ?_ c u h
 exact⟨fun _ _ h=>h,one_sub,fun _ _ h=>h,fun _ _ h=>h,trivial⟩
set_option maxRecDepth 100000 in
theorem look_fn (g:Geo) (a:An) (x y:Gt) (slot seq at_ of_ left:Int) (hl:a.label.size≤1000000) (hh:a.homes.length≤1000000) (hx:x.bytes.length≤100000) (hy:y.bytes.length≤100000) :
  Fn Tryz.prog 232 [.ag (geoC g), .ag (anC a), .ag (gotC x), .ag (gotC y), .v (.int .i64 slot), .v (.int .i64 seq), .v (.int .i64 at_), .v (.int .i64 of_), .v (.int .i64 left)]
   fun r=>r=if okG g&&anOk g a&&inB slot 0 (g.sl - 1) then .tp [.ag (rcC (lookR g a x y slot seq at_ of_ left).1),iA (lookR g a x y slot seq at_ of_ left).2.1, .v (.int .i64 (lookR g a x y slot seq at_ of_ left).2.2), .v (.int .i64 0)] else .tp [.ag (rcC zeroC),iA [], .v (.int .i64 0), .v (.int .i64 1)]:=by
 have s1:=acheck_fn g a hl hh
 cases hA:okG g&&anOk g a with
 | false=>
  rw [hA] at s1
  refine Fn.of tys_ok Tryz.func232 rfl rfl (Nat.le_of_ble_eq_true rfl) ?_
  conv=>whnf
  refine Fn.closed (s1) rfl ?_
  rintro _ rfl
  conv=>whnf
  exact⟨_,fun c u h=>look0_sub c u 0 1 h,rfl⟩
 | true=>
  rw [hA] at s1
  have s2:=says_fn g x 0 slot hx
  have s3:=says_fn g y 1 slot hy
  unfold lookR
  generalize saysR g x 0 slot=p at s2 ⊢
  generalize saysR g y 1 slot=q at s3 ⊢
  have i1:∀ r,p=some r→Fn Tryz.prog 238 [.ag (rcC r), .ag (anC a), .v (.int .i64 seq), .v (.int .i64 at_), .v (.int .i64 of_), .v (.int .i64 left)] fun x=>x = .v (.bool (oneO p a seq at_ of_ left)):=by
   rintro r rfl;exact is_fn r a seq at_ of_ left
  have i2:∀ r,q=some r→Fn Tryz.prog 238 [.ag (rcC r), .ag (anC a), .v (.int .i64 seq), .v (.int .i64 at_), .v (.int .i64 of_), .v (.int .i64 left)] fun x=>x = .v (.bool (oneO q a seq at_ of_ left)):=by
   rintro r rfl;exact is_fn r a seq at_ of_ left
  have n1:p=none→oneO p a seq at_ of_ left=false:=by rintro rfl;rfl
  have n2:q=none→oneO q a seq at_ of_ left=false:=by rintro rfl;rfl
  generalize oneO p a seq at_ of_ left=b1 at i1 n1 ⊢
  generalize oneO q a seq at_ of_ left=b2 at i2 n2 ⊢
  by_cases hs:0≤slot∧slot<g.sl
  ·rw [show inB slot 0 (g.sl - 1)=true from inB_iff.2 (by omega)]
   rcases p with _ | p <;> rcases q with _ | q <;> cases b1 <;> cases b2
   all_goals first
    | exact absurd (n1 rfl) (by decide)
    | exact absurd (n2 rfl) (by decide)
    | skip
   all_goals
    refine Fn.of tys_ok Tryz.func232 rfl rfl (Nat.le_of_ble_eq_true rfl) ?_
    conv=>whnf
    refine Fn.closed (s1) rfl ?_
    rintro _ rfl
    conv=>whnf
    refine boolI (fun t1=>?_) (fun t1=>?_) <;> (repeat rw [Int.toNat_natCast] at t1) <;> conv=>whnf
    ·exfalso;omega
    refine boolI (fun t2=>?_) (fun t2=>?_) <;> (repeat rw [Int.toNat_natCast] at t2) <;> conv=>whnf
    ·exfalso;omega
    refine aLoop.rounds 3 ?_
    conv=>whnf
    repeat' (first | (refine aSeq.go ?_;conv=>whnf) | (refine boolI (fun _=>?_) (fun _=>?_) <;> conv=>whnf) | (refine Fn.closed (s2) rfl ?_;rintro _ rfl;conv=>whnf) | (refine Fn.closed (s3) rfl ?_;rintro _ rfl;conv=>whnf) | (refine Fn.closed (i1 _ rfl) rfl ?_;rintro _ rfl;conv=>whnf) | (refine Fn.closed (i2 _ rfl) rfl ?_;rintro _ rfl;conv=>whnf) | (refine And.intro (by first | omega | exact of_decide_eq_true rfl) ?_;conv=>whnf) | fail)
    first
     | exact⟨_,fun c u h=>look0_sub c u 2 0 h,rfl⟩
     | exact⟨_,fun c u h=>look0_sub c u 3 0 h,rfl⟩
     | exact⟨_,fun c u h=>lookF0 _ c u h,rfl⟩
     | exact⟨_,fun c u h=>lookF1 _ _ c u h,rfl⟩
  ·rw [show inB slot 0 (g.sl - 1)=false by rw [Bool.eq_false_iff];intro h;have:=inB_iff.1 h;omega]
   refine Fn.of tys_ok Tryz.func232 rfl rfl (Nat.le_of_ble_eq_true rfl) ?_
   conv=>whnf
   refine Fn.closed (s1) rfl ?_
   rintro _ rfl
   conv=>whnf
   refine boolI (fun t1=>?_) (fun t1=>?_) <;> (repeat rw [Int.toNat_natCast] at t1) <;> conv=>whnf
   ·exact⟨_,fun c u h=>look0_sub c u 0 1 h,rfl⟩
   refine boolI (fun t2=>?_) (fun t2=>?_) <;> (repeat rw [Int.toNat_natCast] at t2) <;> conv=>whnf
   ·exact⟨_,fun c u h=>look0_sub c u 0 1 h,rfl⟩
   ·exfalso;omega
end Go.Proofs.YtldngmdpiifamaaGreatDoor.A
end
section
namespace Go.Proofs.YtldngmdpiifamaaGreatDoor

theorem take_all {l m:List UInt8} {n:Nat} (h:l.length=n):(l ++ m).take n=l:=by subst h;simp
theorem drop_all {l m:List UInt8} {n:Nat} (h:l.length=n):(l ++ m).drop n=m:=by subst h;simp
theorem sealHead_len (a s:Int) (p:List UInt8):(sealHead a s p).length=p.length+7:=by
 simp only [sealHead,List.length_append,List.length_cons,leB_len]
theorem sealB_len (a s:Int) (p:List UInt8):(sealB a s p).length=p.length+11:=by
 simp only [sealB,List.length_append,sealHead_len,leB_len]
theorem seal_open {a s:Int} {p:List UInt8} (h:okS a s p):openE (sealB a s p)=0∧secAddr (sealB a s p)=a∧secStamp (sealB a s p)=s∧secPay (sealB a s p)=p:=by
 obtain⟨h1,h2,h3,h4,h5⟩:=h
 have hl:=sealB_len a s p
 have hs:=sumC_le (sealHead a s p)
 have e1:sealB a s p=sealHead a s p ++ leB 4 (sumC (sealHead a s p)):=rfl
 have e2:sealB a s p=(UInt8.ofNat p.length::p) ++ (leB 2 a.toNat ++ (leB 4 s.toNat ++ leB 4 (sumC (sealHead a s p)))):=by rw [e1];simp only [sealHead,List.append_assoc]
 have e3:sealB a s p=((UInt8.ofNat p.length::p) ++ leB 2 a.toNat) ++ (leB 4 s.toNat ++ leB 4 (sumC (sealHead a s p))):=by rw [e2,List.append_assoc]
 have hpn:partN (sealB a s p)=p.length:=by
  rw [e2]
  show (UInt8.ofNat p.length).toNat=p.length
  rw [UInt8.toNat_ofNat_of_lt']
  exact Nat.lt_of_le_of_lt h5 (by decide)
 refine⟨?_,?_,?_,?_⟩
 ·unfold openE
  rw [if_neg (by omega),if_neg,if_pos]
  ·refine⟨?_,by omega⟩
   simp only [partOk,decide_eq_true_eq]
   omega
  ·rw [hl,show p.length+11 - 4=p.length+7 by omega,e1,drop_all (sealHead_len a s p),take_all (sealHead_len a s p),leN_leB _ _ (by have:(256:Nat) ^ 4=4294967296:=rfl;omega)]
   simp
 ·unfold secAddr
  rw [hl,show p.length+11 - 10=p.length+1 by omega,e2,drop_all (by simp),take_all (leB_len 2 _),leN_leB _ _ (by have:(256:Nat) ^ 2=65536:=rfl;omega)]
  omega
 ·unfold secStamp
  rw [hl,show p.length+11 - 8=p.length+3 by omega,e3,drop_all (by simp [leB_len]),take_all (leB_len 4 _),leN_leB _ _ (by have:(256:Nat) ^ 4=4294967296:=rfl;omega)]
  omega
 ·unfold secPay
  rw [hl,show p.length+11 - 11=p.length by omega,e2]
  simp
end Go.Proofs.YtldngmdpiifamaaGreatDoor
end
section
namespace Go.Proofs.YtldngmdpiifamaaGreatDoor.A
open Go.RowKit
def modU (x:Int) (n:Int):Int:=IntKind.i64.wrap ((IntKind.u64.wrap x).tmod n)
theorem modU_in {x n:Int} (h:0<n) (h2:n≤4611686018427387904):0≤modU x n∧modU x n<n:=by
 have h0:0≤IntKind.u64.wrap x:=by rw [IntKind.wrap_u64];omega
 have h1:=Int.tmod_nonneg n h0
 have h3:=Int.tmod_lt_of_pos (IntKind.u64.wrap x) h
 unfold modU
 rw [wi (by omega)]
 exact⟨h1,h3⟩
def someG (z d sp sl an:Int):Geo:=⟨1+modU z 4,1+modU d 4,modU sp 3,14+modU sl 17,1+modU an 3⟩
theorem someG_ok (z d sp sl an:Int):okG (someG z d sp sl an)=true:=by
 have h1:=modU_in (x:=z) (n:=4) (by decide) (by decide)
 have h2:=modU_in (x:=d) (n:=4) (by decide) (by decide)
 have h3:=modU_in (x:=sp) (n:=3) (by decide) (by decide)
 have h4:=modU_in (x:=sl) (n:=17) (by decide) (by decide)
 have h5:=modU_in (x:=an) (n:=3) (by decide) (by decide)
 refine okG_iff.2 ?_
 simp only [someG]
 omega
theorem some_fn (z d sp sl an:Int):Fn Tryz.prog 35 [.v (.int .i64 z), .v (.int .i64 d), .v (.int .i64 sp), .v (.int .i64 sl), .v (.int .i64 an)] fun r=>r = .ag (geoC (someG z d sp sl an)):=by
 have h1:=modU_in (x:=z) (n:=4) (by decide) (by decide)
 have h2:=modU_in (x:=d) (n:=4) (by decide) (by decide)
 have h4:=modU_in (x:=sl) (n:=17) (by decide) (by decide)
 have h5:=modU_in (x:=an) (n:=3) (by decide) (by decide)
 refine Fn.of tys_ok Tryz.func35 rfl rfl (Nat.le_of_ble_eq_true rfl) ?_
 conv=>whnf
 repeat' (refine And.intro (by decide) ?_;conv=>whnf)
 refine⟨_,fun _ _ h=>h,?_⟩
 simp only [geoC,someG]
 rw [←wi (n:=1+modU z 4) (by omega),←wi (n:=1+modU d 4) (by omega),←wi (n:=14+modU sl 17) (by omega),←wi (n:=1+modU an 3) (by omega)]
 rfl
def firstA (g:Geo) (s:ByteArray):An:=⟨1,0,0,1,0,s,List.replicate g.z.toNat ⟨(List.range (g.d+1).toNat).map Int.ofNat,g.d+1,0⟩⟩
def rangeR (n:Nat):List (List AV):=(List.range n).map fun i=> [.v (.int .i64 (i:Nat))]
theorem rangeR_succ (n:Nat):rangeR (n+1)=rangeR n ++ [[.v (.int .i64 (n:Nat))]]:=by simp [rangeR,List.range_succ]
theorem rangeR_get {n i:Nat} (h:i<n):(rangeR n).getD i []=[.v (.int .i64 (i:Nat))]:=getD_range h
def home0 (g:Geo):List AV:= [.sl 1 (g.d+1).toNat fun i=>(rangeR (g.d+1).toNat).getD i [], .v (.int .i64 (g.d+1)), .v (.int .i64 0)]
theorem home0_sub (g:Geo):SubL (home0 g) (hmC ⟨(List.range (g.d+1).toNat).map Int.ofNat,g.d+1,0⟩):=
 ⟨fun _ _ h=>Rd.congr (by simp) (fun i hi=>by rw [rangeR_get hi,getD_range hi];rfl) h,fun _ _ h=>h,fun _ _ h=>h,trivial⟩
theorem first_fn (g:Geo) (s:ByteArray) (hg:okG g=true):Fn Tryz.prog 41 [.ag (geoC g), .v (.string s)] fun r=>r = .ag (anC (firstA g s)):=by
 obtain⟨h1,h2,h3,h4,h5⟩:=okG_iff.1 hg
 have w1:IntKind.i64.wrap (g.d+1)=g.d+1:=wi (by omega)
 refine Fn.of tys_ok Tryz.func41 rfl rfl (Nat.le_of_ble_eq_true rfl) ?_
 conv=>whnf
 refine aLoop.rule Nat (fun k=>([(2, .bp 0 0),(4, .bp 1 0),(5, .bp 2 0),(6, .v (.int .i64 k))], [.box 23 (geoC g), .box 40 [.v (.int .i64 0), .v (.int .i64 0), .v (.int .i64 0), .v (.int .i64 0), .v (.int .i64 0), .v (.string ⟨#[]⟩), .v (.slice none 0 0)], .box 40 [.v (.int .i64 1), .v (.int .i64 0), .v (.int .i64 0), .v (.int .i64 1), .v (.int .i64 0), .v (.string s), .ow 3 k], .row 132 3 (List.replicate k (home0 g))])) (fun k=>k≤g.z.toNat) (fun k=>g.z.toNat - k) 0 (Nat.zero_le _) ⟨[(1002006,132,3)],⟨rfl,rfl,trivial⟩,⟨rfl,rfl,rfl,rfl,trivial⟩,⟨rfl,rfl,rfl,rfl,trivial⟩,rfl,rfl,rfl⟩ ?_
 intro k hk
 conv=>whnf
 refine boolI (fun t1=>?_) (fun t1=>?_) <;> (repeat rw [Int.toNat_natCast] at t1) <;> conv=>whnf
 ·refine aLoop.rule Nat (fun j=>([(2, .bp 0 0),(4, .bp 1 0),(5, .bp 2 0),(6, .v (.int .i64 k)),(7, .bp 4 0),(8, .v (.int .i64 j))], [.box 23 (geoC g), .box 40 [.v (.int .i64 0), .v (.int .i64 0), .v (.int .i64 0), .v (.int .i64 0), .v (.int .i64 0), .v (.string ⟨#[]⟩), .v (.slice none 0 0)], .box 40 [.v (.int .i64 1), .v (.int .i64 0), .v (.int .i64 0), .v (.int .i64 1), .v (.int .i64 0), .v (.string s), .ow 3 k], .row 132 3 (List.replicate k (home0 g)), .box 132 [.ow 5 j, .v (.int .i64 (g.d+1)), .v (.int .i64 0)], .row 3 1 (rangeR j)])) (fun j=>j≤(g.d+1).toNat) (fun j=>(g.d+1).toNat - j) 0 (Nat.zero_le _) ⟨[(1004000,3,1)],⟨rfl,rfl,trivial⟩,⟨rfl,rfl,rfl,rfl,rfl,rfl,trivial⟩,⟨rfl,rfl,rfl,rfl,by rw [w1];rfl,rfl,trivial⟩,rfl,rfl,rfl⟩ ?_
  intro j hj
  conv=>whnf
  refine boolI (fun t2=>?_) (fun t2=>?_) <;> (repeat rw [Int.toNat_natCast] at t2) <;> conv=>whnf
  ·refine And.intro rfl ?_
   conv=>whnf
   refine And.intro ⟨by simp [rangeR],by omega⟩ ?_
   conv=>whnf
   exact⟨j+1,by omega,by omega,(Wk.plain (by repeat' first | exact trivial | exact rfl | refine And.intro ?_ ?_ | exact wsucc (by omega) | exact congrArg (AB.row _ _) (rangeR_succ j)) (by repeat' first | exact trivial | exact rfl | refine And.intro ?_ ?_ | exact wsucc (by omega) | exact congrArg (AB.row _ _) (rangeR_succ j)) rfl rfl rfl)⟩
  ·have ej:j=(g.d+1).toNat:=by omega
   refine And.intro (by simp [rangeR]) ?_
   conv=>whnf
   refine And.intro rfl ?_
   conv=>whnf
   refine And.intro ⟨by simp,by omega⟩ ?_
   conv=>whnf
   have er:AB.row 132 3 (List.replicate (k+1) (home0 g)) = .row 132 3 (List.replicate k (home0 g) ++ [[AV.sl 1 j fun i=>(rangeR j).getD i [], .v (.int .i64 (g.d+1)), .v (.int .i64 0)]]):=by
    rw [List.replicate_succ',home0,←ej]
   exact⟨k+1,by omega,by omega,(Wk.plain (by repeat' first | exact trivial | exact rfl | refine And.intro ?_ ?_ | exact wsucc (by omega) | exact er) (by repeat' first | exact trivial | exact rfl | refine And.intro ?_ ?_ | exact wsucc (by omega) | exact er) rfl rfl rfl)⟩
 ·refine And.intro (by simp) ?_
  conv=>whnf
  have ek:k=g.z.toNat:=by omega
  refine⟨.ag (anC (firstA g s)),fun c u h=>?_,rfl⟩
  refine ag_sub ?_ c u h
  refine⟨fun _ _ h=>h,fun _ _ h=>h,fun _ _ h=>h,fun _ _ h=>h,fun _ _ h=>h,fun _ _ h=>h,fun c u h=>Rd.sub (by simp [firstA,ek]) (fun i hi=>?_) h,trivial⟩
  rw [firstA,List.getD_eq_getElem?_getD,List.getD_eq_getElem?_getD,List.getElem?_replicate_of_lt hi,List.getElem?_replicate_of_lt (by omega)]
  exact home0_sub g
theorem says_cell {g:Geo} {r:Rc} {copy slot:Int} (hg:okG g=true) (hok:okR g r=true) (hl:okL g copy slot=true):saysR g ⟨0,cellB g r copy slot⟩ copy slot=some r:=by
 have hb:=logAt_bounds hg hl
 have hs:=okR_seq hok
 have hn:=recB_short hok
 obtain⟨h1,h2,h3,h4⟩:=seal_open (a:=logAt g copy slot) (s:=r.seq) (p:=recB r) ⟨hb.1,hb.2,hs.1,hs.2,by omega⟩
 unfold saysR
 rw [hg,hl]
 simp only [cellB,h1,h2,h3,h4,readR_recB hok]
 rfl
def an0:An:=⟨0,0,0,0,0,⟨#[]⟩, []⟩
def readAE (g:Geo) (b:List UInt8):Int:=if okG g=false then 1 else if (readA g b).isSome then 0 else 4
theorem an0_sub:SubL [.v (.int .i64 0), .v (.int .i64 0), .v (.int .i64 0), .v (.int .i64 0), .v (.int .i64 0), .v (.string ⟨#[]⟩), .v (.slice none 0 0)] (anC an0):=
 ⟨fun _ _ h=>h,fun _ _ h=>h,fun _ _ h=>h,fun _ _ h=>h,fun _ _ h=>h,fun _ _ h=>h,nil_sl 3 _,trivial⟩
theorem an0_tp (e:Int):∀ (c:Ctx) (v:Value),Rd (.tp [.ag [.v (.int .i64 0), .v (.int .i64 0), .v (.int .i64 0), .v (.int .i64 0), .v (.int .i64 0), .v (.string ⟨#[]⟩), .v (.slice none 0 0)], .v (.int .i64 e)]) c v→Rd (.tp [.ag (anC an0), .v (.int .i64 e)]) c v:=
 tp_sub (m:= [.ag (anC an0), .v (.int .i64 e)]) ⟨ag_sub an0_sub,fun _ _ h=>h,trivial⟩
set_option maxRecDepth 100000 in
theorem aread_fn (g:Geo) (b:List UInt8) (hl:b.length≤100000):Fn Tryz.prog 209 [.ag (geoC g),bA b] fun r=>r = .tp [.ag (anC (if okG g then (readA g b).getD an0 else an0)), .v (.int .i64 (readAE g b))]:=by
 have hG:Fn Tryz.prog 46 [.ag (geoC g)] fun r=>r = .v (errV (okG g)):=gcheck_fn g.z g.d g.sp g.sl g.an
 cases hg:okG g with
 | false=>
  rw [hg] at hG
  rw [show readAE g b=1 by rw [readAE,if_pos hg]]
  refine Fn.of tys_ok Tryz.func209 rfl rfl (Nat.le_of_ble_eq_true rfl) ?_
  conv=>whnf
  refine Fn.closed (hG) rfl ?_
  rintro _ rfl
  conv=>whnf
  exact⟨_,an0_tp 1,rfl⟩
 | true=>
  rw [hg] at hG
  obtain⟨g1,g2,g3,g4,g5⟩:=okG_iff.1 hg
  have hE:∀ (h:readA g b=none),(if true=true then (readA g b).getD an0 else an0)=an0∧readAE g b=4:=fun h=>⟨by rw [h];rfl,by rw [readAE,if_neg (by rw [hg];decide),h];rfl⟩
  by_cases h17:b.length<17
  ·have hN:readA g b=none:=by rw [readA,if_pos h17]
   have hu:=unrow_no b szA (by decide) (by omega) (by decide) h17
   rw [(hE hN).1,(hE hN).2]
   refine Fn.of tys_ok Tryz.func209 rfl rfl (Nat.le_of_ble_eq_true rfl) ?_
   conv=>whnf
   refine Fn.closed (hG) rfl ?_
   rintro _ rfl
   conv=>whnf
   refine ACalls.shut hu.go ?_
   conv=>whnf
   refine And.intro rfl ?_
   conv=>whnf
   refine ACalls.sub [bA b,iA szA] ⟨fun _ _ h=>h,(lit_ints (l:=szA) rfl).1,trivial⟩ ?_
   refine Fn.closed (hu) rfl ?_
   rintro _ rfl
   conv=>whnf
   exact⟨_,an0_tp 4,rfl⟩
  ·have hu:=unrowF_fn b szA (by decide) (by omega) (by decide) (by show 17≤_;omega)
   rw [show tot szA=17 from rfl] at hu
   have hr:=lread_fn (b.drop 17) (by rw [List.length_drop];omega)
   cases hL:labR (b.drop 17) with
   | none=>
    have hN:readA g b=none:=by rw [readA,if_neg h17,hL]
    rw [labRV,hL] at hr
    rw [(hE hN).1,(hE hN).2]
    refine Fn.of tys_ok Tryz.func209 rfl rfl (Nat.le_of_ble_eq_true rfl) ?_
    conv=>whnf
    refine Fn.closed (hG) rfl ?_
    rintro _ rfl
    conv=>whnf
    refine ACalls.shut hu.go ?_
    conv=>whnf
    refine And.intro rfl ?_
    conv=>whnf
    refine ACalls.sub [bA b,iA szA] ⟨fun _ _ h=>h,(lit_ints (l:=szA) rfl).1,trivial⟩ ?_
    refine Fn.closed (hu) rfl ?_
    rintro _ rfl
    conv=>whnf
    refine Fn.closed (hr) rfl ?_
    rintro _ rfl
    conv=>whnf
    exact⟨_,an0_tp 4,rfl⟩
   | some q=>
    obtain⟨s,u⟩:=q
    obtain⟨u1,u2,u3,u4⟩:=labR_some hL
    rw [labRV,hL] at hr
    simp only at hr
    have hlu:17+u≤b.length:=by rw [List.length_drop] at u1;omega
    have hh:=homes_fn g (b.drop (17+u)) hg (by rw [List.length_drop];omega)
    have hs24:=labE_len u4
    have hss:s.size=s.data.toList.length:=rfl
    have hnl:(nums szA b).length=5:=by rw [nums_len];rfl
    have hdl:(b.drop (17+u)).length=b.length - (17+u):=List.length_drop ..
    have hLs:s.size≤1000000:=by omega
    obtain⟨A,hA⟩:∃ A,A=anOf (g.d.toNat+1) g.z.toNat b s u:=⟨_,rfl⟩
    have hLA:A.label.size≤1000000:=by rw [hA];exact hLs
    by_cases hs:g.z.toNat*(g.d.toNat+6)≤(b.drop (17+u)).length
    ·rw [if_pos hs,if_pos hs] at hh
     have hHA:A.homes.length≤1000000:=by
      rw [hA];show (hmsOf (g.d.toNat+1) g.z.toNat (b.drop (17+u))).length≤_
      rw [hmsOf_len];omega
     have hB:=abytes_fn g A hLA hHA
     rw [hg,Bool.true_and] at hB
     have hR0:readA g b=if b.length≠17+u+g.z.toNat*(g.d.toNat+6) then none else if anOk g A then some A else none:=by rw [readA,if_neg h17,hL,hA]
     cases hok:anOk g A with
     | false=>
      have hN:readA g b=none:=by rw [hR0,hok];split <;> rfl
      rw [hok,if_neg (by decide)] at hB
      rw [(hE hN).1,(hE hN).2]
      subst hA
      refine Fn.of tys_ok Tryz.func209 rfl rfl (Nat.le_of_ble_eq_true rfl) ?_
      conv=>whnf
      refine Fn.closed (hG) rfl ?_
      rintro _ rfl
      conv=>whnf
      refine ACalls.shut hu.go ?_
      conv=>whnf
      refine And.intro rfl ?_
      conv=>whnf
      refine ACalls.sub [bA b,iA szA] ⟨fun _ _ h=>h,(lit_ints (l:=szA) rfl).1,trivial⟩ ?_
      refine Fn.closed (hu) rfl ?_
      rintro _ rfl
      conv=>whnf
      refine Fn.closed (hr) rfl ?_
      rintro _ rfl
      conv=>whnf
      apply aDraw.treeK (0) tys_ok mixed (.one 0 (.one 1 (.one 2 (.one 3 (.one 4 (.one 5 (.one 6 (.one 7 (.one 8 (.one 9 .fin)))))))))) (by kernel_rfl)
      conv=>whnf
      try (refine And.intro (by first | omega | (simp;done)) ?_;conv=>whnf)
      (refine ACalls.sub [.ag (geoC g),bA (b.drop (17+u))] ⟨fun _ _ h=>h,fun c v h=>(by rw [←List.drop_drop];exact drop_sub (b:=b.drop 17) (by rw [List.length_drop];omega) c v h),trivial⟩ ?_;refine Fn.closed hh rfl ?_;rintro _ rfl)
      conv=>whnf
      apply aDraw.treeK (0) tys_ok mixed (.one 0 (.one 1 (.one 2 (.one 3 (.one 4 (.one 5 (.one 6 (.one 7 (.one 8 (.one 9 (.one 10 (.one 11 (.one 12 (.one 13 (.one 14 (.one 15 (.one 16 (.one 17 (.one 18 (.one 19 .fin)))))))))))))))))))) (by kernel_rfl)
      conv=>whnf
      try (refine And.intro (by first | omega | (simp;done)) ?_;conv=>whnf)
      try (refine And.intro (by first | omega | (simp;done)) ?_;conv=>whnf)
      try (refine And.intro (by first | omega | (simp;done)) ?_;conv=>whnf)
      try (refine And.intro (by first | omega | (simp;done)) ?_;conv=>whnf)
      try (refine And.intro (by first | omega | (simp;done)) ?_;conv=>whnf)
      try (refine And.intro ⟨rfl,by first | rfl | (simp;done) | (simp;omega),by first | omega | (simp;omega)⟩ ?_;conv=>whnf)
      refine Fn.closed (hB) rfl ?_
      rintro _ rfl
      conv=>whnf
      exact⟨_,an0_tp 4,rfl⟩
     | true=>
      rw [hok,if_pos rfl] at hB
      have hab:anB A=b.take (17+u+g.z.toNat*(g.d.toNat+6)):=by
       rw [hA,anB_anOf (g.d.toNat+1) g.z.toNat b s u (by omega) hL (by show 17+u+(g.d.toNat+6)*g.z.toNat≤_;rw [Nat.mul_comm];omega)];show List.take (17+u+(g.d.toNat+6)*g.z.toNat) b=_;rw [Nat.mul_comm]
      have hq:=equal_fn (anB A) b
      by_cases hlen:b.length=17+u+g.z.toNat*(g.d.toNat+6)
      ·have hbb:anB A=b:=by rw [hab,←hlen,List.take_length]
       have hY:readA g b=some A:=by rw [hR0,if_neg (by omega),hok];rfl
       have hT:=atwin_fn A (by have:=hHA;rw [hA] at this ⊢;show (hmsOf (g.d.toNat+1) g.z.toNat (b.drop (17+u))).length≤_;rw [hmsOf_len];omega) (fun x hx=>by have:=(hm_fit hg ((anBk_len hg hok 0 (Nat.zero_le _)).2.2.2.2 x hx)).1;omega)
       rw [show readAE g b=0 by rw [readAE,if_neg (by rw [hg];decide),hY];rfl,hY]
       rw [decide_eq_true hbb] at hq
       subst hA
       refine Fn.of tys_ok Tryz.func209 rfl rfl (Nat.le_of_ble_eq_true rfl) ?_
       conv=>whnf
       refine Fn.closed (hG) rfl ?_
       rintro _ rfl
       conv=>whnf
       refine ACalls.shut hu.go ?_
       conv=>whnf
       refine And.intro rfl ?_
       conv=>whnf
       refine ACalls.sub [bA b,iA szA] ⟨fun _ _ h=>h,(lit_ints (l:=szA) rfl).1,trivial⟩ ?_
       refine Fn.closed (hu) rfl ?_
       rintro _ rfl
       conv=>whnf
       refine Fn.closed (hr) rfl ?_
       rintro _ rfl
       conv=>whnf
       apply aDraw.treeK (0) tys_ok mixed (.one 0 (.one 1 (.one 2 (.one 3 (.one 4 (.one 5 (.one 6 (.one 7 (.one 8 (.one 9 .fin)))))))))) (by kernel_rfl)
       conv=>whnf
       try (refine And.intro (by first | omega | (simp;done)) ?_;conv=>whnf)
       (refine ACalls.sub [.ag (geoC g),bA (b.drop (17+u))] ⟨fun _ _ h=>h,fun c v h=>(by rw [←List.drop_drop];exact drop_sub (b:=b.drop 17) (by rw [List.length_drop];omega) c v h),trivial⟩ ?_;refine Fn.closed hh rfl ?_;rintro _ rfl)
       conv=>whnf
       apply aDraw.treeK (0) tys_ok mixed (.one 0 (.one 1 (.one 2 (.one 3 (.one 4 (.one 5 (.one 6 (.one 7 (.one 8 (.one 9 (.one 10 (.one 11 (.one 12 (.one 13 (.one 14 (.one 15 (.one 16 (.one 17 (.one 18 (.one 19 .fin)))))))))))))))))))) (by kernel_rfl)
       conv=>whnf
       try (refine And.intro (by first | omega | (simp;done)) ?_;conv=>whnf)
       try (refine And.intro (by first | omega | (simp;done)) ?_;conv=>whnf)
       try (refine And.intro (by first | omega | (simp;done)) ?_;conv=>whnf)
       try (refine And.intro (by first | omega | (simp;done)) ?_;conv=>whnf)
       try (refine And.intro (by first | omega | (simp;done)) ?_;conv=>whnf)
       try (refine And.intro ⟨rfl,by first | rfl | (simp;done) | (simp;omega),by first | omega | (simp;omega)⟩ ?_;conv=>whnf)
       refine Fn.closed (hB) rfl ?_
       rintro _ rfl
       conv=>whnf
       refine Fn.closed (hq) rfl ?_
       rintro _ rfl
       conv=>whnf
       refine Fn.closed (hT) rfl ?_
       rintro _ rfl
       conv=>whnf
       exact⟨_,fun _ _ h=>h,rfl⟩
      ·have hbb:anB A≠b:=fun h=>hlen (by rw [←h,hab,List.length_take];omega)
       have hN:readA g b=none:=by rw [hR0,if_pos hlen]
       rw [decide_eq_false hbb] at hq
       rw [(hE hN).1,(hE hN).2]
       subst hA
       refine Fn.of tys_ok Tryz.func209 rfl rfl (Nat.le_of_ble_eq_true rfl) ?_
       conv=>whnf
       refine Fn.closed (hG) rfl ?_
       rintro _ rfl
       conv=>whnf
       refine ACalls.shut hu.go ?_
       conv=>whnf
       refine And.intro rfl ?_
       conv=>whnf
       refine ACalls.sub [bA b,iA szA] ⟨fun _ _ h=>h,(lit_ints (l:=szA) rfl).1,trivial⟩ ?_
       refine Fn.closed (hu) rfl ?_
       rintro _ rfl
       conv=>whnf
       refine Fn.closed (hr) rfl ?_
       rintro _ rfl
       conv=>whnf
       apply aDraw.treeK (0) tys_ok mixed (.one 0 (.one 1 (.one 2 (.one 3 (.one 4 (.one 5 (.one 6 (.one 7 (.one 8 (.one 9 .fin)))))))))) (by kernel_rfl)
       conv=>whnf
       try (refine And.intro (by first | omega | (simp;done)) ?_;conv=>whnf)
       (refine ACalls.sub [.ag (geoC g),bA (b.drop (17+u))] ⟨fun _ _ h=>h,fun c v h=>(by rw [←List.drop_drop];exact drop_sub (b:=b.drop 17) (by rw [List.length_drop];omega) c v h),trivial⟩ ?_;refine Fn.closed hh rfl ?_;rintro _ rfl)
       conv=>whnf
       apply aDraw.treeK (0) tys_ok mixed (.one 0 (.one 1 (.one 2 (.one 3 (.one 4 (.one 5 (.one 6 (.one 7 (.one 8 (.one 9 (.one 10 (.one 11 (.one 12 (.one 13 (.one 14 (.one 15 (.one 16 (.one 17 (.one 18 (.one 19 .fin)))))))))))))))))))) (by kernel_rfl)
       conv=>whnf
       try (refine And.intro (by first | omega | (simp;done)) ?_;conv=>whnf)
       try (refine And.intro (by first | omega | (simp;done)) ?_;conv=>whnf)
       try (refine And.intro (by first | omega | (simp;done)) ?_;conv=>whnf)
       try (refine And.intro (by first | omega | (simp;done)) ?_;conv=>whnf)
       try (refine And.intro (by first | omega | (simp;done)) ?_;conv=>whnf)
       try (refine And.intro ⟨rfl,by first | rfl | (simp;done) | (simp;omega),by first | omega | (simp;omega)⟩ ?_;conv=>whnf)
       refine Fn.closed (hB) rfl ?_
       rintro _ rfl
       conv=>whnf
       refine Fn.closed (hq) rfl ?_
       rintro _ rfl
       conv=>whnf
       exact⟨_,an0_tp 4,rfl⟩
    ·rw [if_neg hs,if_neg hs] at hh
     have hB:=abytes_fn g { anOf (g.d.toNat+1) g.z.toNat b s u with homes:= [] } hLs (by simp)
     rw [hg,Bool.true_and] at hB
     have hN:readA g b=none:=by rw [readA,if_neg h17,hL];exact if_pos (by omega)
     rw [(hE hN).1,(hE hN).2]
     refine Fn.of tys_ok Tryz.func209 rfl rfl (Nat.le_of_ble_eq_true rfl) ?_
     conv=>whnf
     refine Fn.closed (hG) rfl ?_
     rintro _ rfl
     conv=>whnf
     refine ACalls.shut hu.go ?_
     conv=>whnf
     refine And.intro rfl ?_
     conv=>whnf
     refine ACalls.sub [bA b,iA szA] ⟨fun _ _ h=>h,(lit_ints (l:=szA) rfl).1,trivial⟩ ?_
     refine Fn.closed (hu) rfl ?_
     rintro _ rfl
     conv=>whnf
     refine Fn.closed (hr) rfl ?_
     rintro _ rfl
     conv=>whnf
     apply aDraw.treeK (0) tys_ok mixed (.one 0 (.one 1 (.one 2 (.one 3 (.one 4 (.one 5 (.one 6 (.one 7 (.one 8 (.one 9 .fin)))))))))) (by kernel_rfl)
     conv=>whnf
     try (refine And.intro (by first | omega | (simp;done)) ?_;conv=>whnf)
     (refine ACalls.sub [.ag (geoC g),bA (b.drop (17+u))] ⟨fun _ _ h=>h,fun c v h=>(by rw [←List.drop_drop];exact drop_sub (b:=b.drop 17) (by rw [List.length_drop];omega) c v h),trivial⟩ ?_;refine Fn.closed hh rfl ?_;rintro _ rfl)
     conv=>whnf
     apply aDraw.treeK (0) tys_ok mixed (.one 0 (.one 1 (.one 2 (.one 3 (.one 4 (.one 5 (.one 6 (.one 7 (.one 8 (.one 9 (.one 10 (.one 11 (.one 12 (.one 13 (.one 14 (.one 15 (.one 16 (.one 17 (.one 18 (.one 19 .fin)))))))))))))))))))) (by kernel_rfl)
     conv=>whnf
     try (refine And.intro (by first | omega | (simp;done)) ?_;conv=>whnf)
     try (refine And.intro (by first | omega | (simp;done)) ?_;conv=>whnf)
     try (refine And.intro (by first | omega | (simp;done)) ?_;conv=>whnf)
     try (refine And.intro (by first | omega | (simp;done)) ?_;conv=>whnf)
     try (refine And.intro (by first | omega | (simp;done)) ?_;conv=>whnf)
     try (refine And.intro ⟨rfl,by first | rfl | (simp;done) | (simp;omega),by first | omega | (simp;omega)⟩ ?_;conv=>whnf)
     refine Fn.closed (hB) rfl ?_
     rintro _ rfl
     conv=>whnf
     exact⟨_,an0_tp 4,rfl⟩
def zero8:List UInt8:= [0,0,0,0,0,0,0,0]
def ent0:Ent:=⟨0,(sumC zero8:Nat),false⟩
def tab0 (g:Geo):List Ent:=List.replicate (g.d+1).toNat ent0
theorem entry_fn (stamp:Int) (b:List UInt8):Fn Tryz.prog 149 [.v (.int .i64 stamp),bA b] fun r=>r = .ag (entC ⟨stamp,(sumC b:Nat),false⟩):=by
 refine Fn.of tys_ok Tryz.func149 rfl rfl (Nat.le_of_ble_eq_true rfl) ?_
 conv=>whnf
 repeat' (first | (refine aSeq.go ?_;conv=>whnf) | (refine boolI (fun _=>?_) (fun _=>?_) <;> conv=>whnf) | (refine Fn.closed (rsum_br b) rfl ?_;rintro _ rfl;conv=>whnf) | (refine And.intro (by first | omega | exact of_decide_eq_true rfl) ?_;conv=>whnf) | fail)
 exact⟨_,fun _ _ h=>h,rfl⟩
def bv (l:List Ent):Nat→AV
 | 0=> .v (.slice none 0 0)
 | k+1=>bA (tblB (l.take (k+1)))
theorem tabB_fn (l:List Ent) (hl:l.length≤1000) (hb:∀ e∈l,(0≤e.stamp∧e.stamp≤4294967295)∧0≤e.sum∧e.sum≤4294967295):Fn Tryz.prog 81 [.ag [entsA l]] fun r=>r=bA (tblB l):=by
 refine Fn.of tys_ok Tryz.func81 rfl rfl (Nat.le_of_ble_eq_true rfl) ?_
 conv=>whnf
 refine aLoop.rule Nat (fun k=>([(1, .bp 0 0),(3,bv l k),(4, .v (.int .i64 k))], [.box 147 [entsA l]])) (fun k=>k≤l.length) (fun k=>l.length - k) 0 (Nat.zero_le _) ⟨[],trivial,⟨rfl,rfl,rfl,trivial⟩,⟨rfl,trivial⟩,rfl,rfl,rfl⟩ ?_
 intro k hk
 conv=>whnf
 refine boolI (fun c1=>?_) (fun c1=>?_) <;> (repeat rw [Int.toNat_natCast] at c1) <;> conv=>whnf
 ·have he:=hb _ (getD_mem (d:=⟨0,0,false⟩) c1)
  refine aSeq.go ?_
  conv=>whnf
  refine⟨by first | omega | (refine⟨rfl,?_,?_⟩ <;> first | omega | (simp only [List.length_map];done) | (simp only [List.length_map];omega)) | (simp only [List.length_map];omega),?_⟩
  conv=>whnf
  have hlt:(tblB (l.take k)).length≤9000:=by rw [tblB_len,List.length_take];omega
  have p1:=rput_int (tblB (l.take k)) (l.getD k ⟨0,0,false⟩).stamp 4 (by omega) he.1 (by decide)
  have p2:=rput_int (tblB (l.take k) ++ leB 4 (l.getD k ⟨0,0,false⟩).stamp.toNat) (l.getD k ⟨0,0,false⟩).sum 4 (by rw [List.length_append,leB_len];omega) he.2 (by decide)
  have p3:=rput_int (tblB (l.take k) ++ leB 4 (l.getD k ⟨0,0,false⟩).stamp.toNat ++ leB 4 (l.getD k ⟨0,0,false⟩).sum.toNat) (lostN (l.getD k ⟨0,0,false⟩).lost) 1 (by rw [List.length_append,List.length_append,leB_len,leB_len];omega) (by unfold lostN;split <;> omega) (by decide)
  have hst:bv l (k+1)=bA (tblB (l.take k) ++ leB 4 (l.getD k ⟨0,0,false⟩).stamp.toNat ++ leB 4 (l.getD k ⟨0,0,false⟩).sum.toNat ++ leB 1 (lostN (l.getD k ⟨0,0,false⟩).lost).toNat):=by
   rw [bv,tblB_step c1,entB]
   rw [List.getD_eq_getElem?_getD,List.getElem?_eq_getElem c1]
   simp [rowB,List.append_assoc]
  obtain⟨L,hLe⟩:∃ L,(l.getD k ⟨0,0,false⟩).lost=L:=⟨_,rfl⟩
  rw [hLe] at p3 hst
  rcases k with _ | k
  all_goals
   refine aDraw.of tys_ok mixed [0,1,2,4,5,3,6,7] (by kernel_rfl) ?_
   conv=>whnf
   refine ACalls.sub _ ?_ (Fn.closed (p1) rfl ?_)
   ·repeat' (first | exact trivial | exact fun _ _ h=>h | exact nil_sl _ _ | refine And.intro ?_ ?_ | refine ag_sub ?_)
   rintro _ rfl
   conv=>whnf
   refine ACalls.sub _ ?_ (Fn.closed (p2) rfl ?_)
   ·repeat' (first | exact trivial | exact fun _ _ h=>h | exact nil_sl _ _ | refine And.intro ?_ ?_ | refine ag_sub ?_)
   rintro _ rfl
   conv=>whnf
   refine aSeq.go ?_
   conv=>whnf
   rw [Int.toNat_natCast,hLe]
   cases L
  all_goals
   conv=>whnf
   refine Fn.closed (p3) rfl ?_
   rintro _ rfl
   conv=>whnf
   refine⟨_,by omega,by omega, [],trivial,⟨rfl,hst.symm,wsucc (by omega),trivial⟩,⟨rfl,trivial⟩,rfl,rfl,rfl⟩
 ·have ek:k=l.length:=by omega
  rcases k with _ | k
  ·have e:l=[]:=List.length_eq_zero_iff.1 ek.symm
   subst e
   conv=>whnf
   exact⟨bA (tblB []),nil_sl 1 _,rfl⟩
  ·conv=>whnf
   exact⟨_,fun _ _ h=>h,by rw [ek,List.take_length];rfl⟩
theorem tab0_fn (g:Geo) (hg:okG g=true):Fn Tryz.prog 82 [.ag (geoC g)] fun r=>r = .ag [entsA (tab0 g)]:=by
 obtain⟨h1,h2,h3,h4,h5⟩:=okG_iff.1 hg
 refine Fn.of tys_ok Tryz.func82 rfl rfl (Nat.le_of_ble_eq_true rfl) ?_
 conv=>whnf
 have w1:IntKind.i64.wrap (g.d+1)=g.d+1:=by rw [IntKind.wrap_i64];omega
 refine aLoop.rule Nat (fun k=>([(1, .bp 0 0),(2, .bp 1 0),(3, .bp 2 0),(4, .v (.int .i64 k))], [.box 23 (geoC g), .box 147 [.v (.slice none 0 0)], .box 147 [.ow 3 k], .row 200 3 ((List.replicate k ent0).map entC)])) (fun k=>(k:Int)≤g.d+1) (fun k=>(g.d+1 - k).toNat) 0 (show (0:Int)≤g.d+1 by omega) ⟨[(1002000,200,3)],⟨rfl,rfl,trivial⟩,⟨rfl,rfl,rfl,rfl,trivial⟩,⟨rfl,rfl,rfl,rfl,trivial⟩,rfl,rfl,rfl⟩ ?_
 intro k hk
 conv=>whnf
 refine boolI (fun c1=>?_) (fun c1=>?_) <;> (repeat rw [Int.toNat_natCast] at c1) <;> conv=>whnf
 ·refine aDraw.of tys_ok mixed [0,1,2,3,4,5,6,7] (by kernel_rfl) ?_
  conv=>whnf
  repeat' (refine And.intro (by first | omega | exact of_decide_eq_true rfl) ?_;conv=>whnf)
  have e0:=entry_fn 0 zero8
  refine ACalls.shut (e0).go ?_
  conv=>whnf
  repeat' (refine And.intro (by first | rfl | omega | (simp;done) | (simp only [List.length_map];omega)) ?_;conv=>whnf)
  refine ACalls.sub _ ?_ (Fn.closed (e0) rfl ?_)
  ·repeat' (first | exact trivial | exact fun _ _ h=>h | exact nil_sl _ _ | exact bytes_sub zero8 rfl rfl | refine And.intro ?_ ?_ | refine ag_sub ?_)
  rintro _ rfl
  conv=>whnf
  repeat' (first | (refine And.intro (by first | rfl | omega) ?_;conv=>whnf) | fail)
  refine And.intro ⟨by rw [List.length_map,List.length_replicate],by omega⟩ ?_
  conv=>whnf
  exact⟨k+1,by omega,by omega, [],trivial,⟨rfl,rfl,rfl,wsucc (by omega),trivial⟩,⟨rfl,rfl,rfl,by rw [List.replicate_succ',List.map_append];rfl,trivial⟩,rfl,rfl,rfl⟩
 ·refine And.intro (by rw [List.length_map,List.length_replicate]) ?_
  conv=>whnf
  have ek:k=(g.d+1).toNat:=by omega
  refine⟨.ag [entsA (tab0 g)],ag_sub ⟨row_sub (tab0 g) ?_ ?_,trivial⟩,rfl⟩
  ·rw [tab0,List.length_replicate,ek]
  ·rw [tab0,ek]
theorem firstA_fit (g:Geo) (s:ByteArray) {n:Nat} (hn:n=g.z.toNat):SubL [.v (.int .i64 1), .v (.int .i64 0), .v (.int .i64 0), .v (.int .i64 1), .v (.int .i64 0), .v (.string s), .sl 3 n fun i=>(List.replicate n (home0 g)).getD i []] (anC (firstA g s)):=by
 refine⟨fun _ _ h=>h,fun _ _ h=>h,fun _ _ h=>h,fun _ _ h=>h,fun _ _ h=>h,fun _ _ h=>h,fun c u h=>Rd.sub (by simp [firstA,hn]) (fun i hi=>?_) h,trivial⟩
 rw [firstA,List.getD_eq_getElem?_getD,List.getD_eq_getElem?_getD,List.getElem?_replicate_of_lt hi,List.getElem?_replicate_of_lt (by omega)]
 exact home0_sub g
set_option maxRecDepth 100000 in
theorem afirst_fn (g:Geo) (s:ByteArray) (hs:s.size≤1000000):Fn Tryz.prog 63 [.ag (geoC g), .v (.string s)] fun r=>r = .tp [.ag (anC (if okG g then if labE s.data.toList=0 then firstA g s else an0 else an0)), .v (.int .i64 (if okG g then labE s.data.toList else 1))]:=by
 have hG:Fn Tryz.prog 46 [.ag (geoC g)] fun r=>r = .v (errV (okG g)):=gcheck_fn g.z g.d g.sp g.sl g.an
 cases hg:okG g with
 | false=>
  rw [hg] at hG
  refine Fn.of tys_ok Tryz.func63 rfl rfl (Nat.le_of_ble_eq_true rfl) ?_
  conv=>whnf
  refine Fn.closed (hG) rfl ?_
  rintro _ rfl
  conv=>whnf
  exact⟨_,an0_tp 1,rfl⟩
 | true=>
  rw [hg] at hG
  obtain⟨h1,h2,h3,h4,h5⟩:=okG_iff.1 hg
  have hL:=lcheckA_fn s hs
  by_cases hl:labE s.data.toList=0
  ·rw [hl] at hL
   rw [if_pos rfl,if_pos hl,if_pos rfl,hl]
   have w1:IntKind.i64.wrap (g.d+1)=g.d+1:=wi (by omega)
   refine Fn.of tys_ok Tryz.func63 rfl rfl (Nat.le_of_ble_eq_true rfl) ?_
   conv=>whnf
   refine Fn.closed (hG) rfl ?_
   rintro _ rfl
   conv=>whnf
   refine Fn.closed (hL) rfl ?_
   rintro _ rfl
   conv=>whnf
   refine aLoop.rule Nat (fun k=>([(2, .bp 0 0),(4, .bp 1 0),(7, .bp 2 0),(23, .v (.int .i64 g.z)),(24, .v (.int .i64 k))], [.box 23 (geoC g), .box 40 [.v (.int .i64 0), .v (.int .i64 0), .v (.int .i64 0), .v (.int .i64 0), .v (.int .i64 0), .v (.string ⟨#[]⟩), .v (.slice none 0 0)], .box 40 [.v (.int .i64 1), .v (.int .i64 0), .v (.int .i64 0), .v (.int .i64 1), .v (.int .i64 0), .v (.string s), .ow 3 k], .row 132 3 (List.replicate k (home0 g))])) (fun k=>k≤g.z.toNat) (fun k=>g.z.toNat - k) 0 (Nat.zero_le _) ⟨[(1002006,132,3)],⟨rfl,rfl,trivial⟩,⟨rfl,rfl,rfl,rfl,rfl,trivial⟩,⟨rfl,rfl,rfl,rfl,trivial⟩,rfl,rfl,rfl⟩ ?_
   intro k hk
   conv=>whnf
   refine boolI (fun t1=>?_) (fun t1=>?_) <;> (repeat rw [Int.toNat_natCast] at t1) <;> conv=>whnf
   ·refine aLoop.rule Nat (fun j=>([(2, .bp 0 0),(4, .bp 1 0),(7, .bp 2 0),(8, .bp 4 0),(23, .v (.int .i64 g.z)),(24, .v (.int .i64 k)),(32, .v (.int .i64 (g.d+1))),(33, .v (.int .i64 j))], [.box 23 (geoC g), .box 40 [.v (.int .i64 0), .v (.int .i64 0), .v (.int .i64 0), .v (.int .i64 0), .v (.int .i64 0), .v (.string ⟨#[]⟩), .v (.slice none 0 0)], .box 40 [.v (.int .i64 1), .v (.int .i64 0), .v (.int .i64 0), .v (.int .i64 1), .v (.int .i64 0), .v (.string s), .ow 3 k], .row 132 3 (List.replicate k (home0 g)), .box 132 [.ow 5 j, .v (.int .i64 (g.d+1)), .v (.int .i64 0)], .row 3 1 (rangeR j)])) (fun j=>j≤(g.d+1).toNat) (fun j=>(g.d+1).toNat - j) 0 (Nat.zero_le _) ⟨[(1004000,3,1)],⟨rfl,rfl,trivial⟩,⟨rfl,rfl,rfl,rfl,rfl,rfl,congrArg (fun x=>AV.v (Value.int IntKind.i64 x)) w1,rfl,trivial⟩,⟨rfl,rfl,rfl,rfl,by rw [w1];rfl,rfl,trivial⟩,rfl,rfl,rfl⟩ ?_
    intro j hj
    conv=>whnf
    refine boolI (fun t2=>?_) (fun t2=>?_) <;> (repeat rw [Int.toNat_natCast] at t2) <;> conv=>whnf
    ·refine And.intro rfl ?_
     conv=>whnf
     refine And.intro ⟨by simp [rangeR],by omega⟩ ?_
     conv=>whnf
     exact⟨j+1,by omega,by omega,(Wk.plain (by repeat' first | exact trivial | exact rfl | refine And.intro ?_ ?_ | exact wsucc (by omega) | exact congrArg (AB.row _ _) (rangeR_succ j)) (by repeat' first | exact trivial | exact rfl | refine And.intro ?_ ?_ | exact wsucc (by omega) | exact congrArg (AB.row _ _) (rangeR_succ j)) rfl rfl rfl)⟩
    ·have ej:j=(g.d+1).toNat:=by omega
     refine And.intro (by simp [rangeR]) ?_
     conv=>whnf
     refine And.intro rfl ?_
     conv=>whnf
     refine And.intro ⟨by simp,by omega⟩ ?_
     conv=>whnf
     have er:AB.row 132 3 (List.replicate (k+1) (home0 g)) = .row 132 3 (List.replicate k (home0 g) ++ [[AV.sl 1 j fun i=>(rangeR j).getD i [], .v (.int .i64 (g.d+1)), .v (.int .i64 0)]]):=by
      rw [List.replicate_succ',home0,←ej]
     exact⟨k+1,by omega,by omega,(Wk.plain (by repeat' first | exact trivial | exact rfl | refine And.intro ?_ ?_ | exact wsucc (by omega) | exact er) (by repeat' first | exact trivial | exact rfl | refine And.intro ?_ ?_ | exact wsucc (by omega) | exact er) rfl rfl rfl)⟩
   ·refine And.intro (by simp) ?_
    conv=>whnf
    exact⟨.tp [.ag (anC (firstA g s)), .v (.int .i64 0)],tp_sub ⟨ag_sub (firstA_fit g s (by omega)),fun _ _ h=>h,trivial⟩,rfl⟩
  ·obtain⟨e0,he0⟩:∃ e0,labE s.data.toList=e0:=⟨_,rfl⟩
   rw [he0] at hL hl
   rw [if_pos rfl,if_neg (by rw [he0];exact hl),if_pos rfl,he0]
   have hb:(e0 != 0)=true:=bne_iff_ne.2 hl
   refine Fn.of tys_ok Tryz.func63 rfl rfl (Nat.le_of_ble_eq_true rfl) ?_
   conv=>whnf
   refine Fn.closed (hG) rfl ?_
   rintro _ rfl
   conv=>whnf
   refine Fn.closed (hL) rfl ?_
   rintro _ rfl
   conv=>whnf
   rw [hb]
   conv=>whnf
   exact⟨_,an0_tp e0,rfl⟩
theorem rep_ents (n:Nat):List.replicate n (entC ent0)=(List.replicate n ent0).map entC:=by simp
theorem getD_rep {α:Type} {n i:Nat} {a d:α} (h:i<n):(List.replicate n a).getD i d=a:=by rw [List.getD_eq_getElem?_getD,List.getElem?_replicate_of_lt h];rfl
theorem zero8_get {i:Nat} (h:i<8):zero8.getD i 0=0:=by
 have:i=0∨i=1∨i=2∨i=3∨i=4∨i=5∨i=6∨i=7:=by omega
 rcases this with rfl | rfl | rfl | rfl | rfl | rfl | rfl | rfl <;> rfl
set_option maxRecDepth 100000 in
theorem tfirst_fn (g:Geo) (hg:okG g=true):Fn Tryz.prog 70 [.ag (geoC g)] fun r=>r = .tp [.ag [entsA (tab0 g)], .v (.int .i64 0)]:=by
 have hG:Fn Tryz.prog 46 [.ag (geoC g)] fun r=>r = .v (errV (okG g)):=gcheck_fn g.z g.d g.sp g.sl g.an
 rw [hg] at hG
 obtain⟨h1,h2,h3,h4,h5⟩:=okG_iff.1 hg
 have w1:IntKind.i64.wrap (g.d+1)=((g.d+1).toNat:Int):=by rw [wi (by omega)];omega
 have hS:=sumOf_fn zero8
 refine Fn.of tys_ok Tryz.func70 rfl rfl (Nat.le_of_ble_eq_true rfl) ?_
 conv=>whnf
 refine Fn.closed (hG) rfl ?_
 rintro _ rfl
 conv=>whnf
 refine And.intro ⟨rfl,by decide,by decide⟩ ?_
 conv=>whnf
 refine ACalls.shut hS.go ?_
 conv=>whnf
 refine And.intro rfl ?_
 conv=>whnf
 refine ACalls.sub [bA zero8] ⟨fun c v h=>Rd.congr rfl (fun i hi=>?_) h,trivial⟩ ?_
 ·have hi':i<8:=hi
  rw [getD_rep (by exact hi'),zero8_get hi'];rfl
 refine Fn.closed (hS) rfl ?_
 rintro _ rfl
 conv=>whnf
 rw [w1]
 have hr:=repE_own (g.d+1).toNat (by omega) 0 (sumC zero8:Nat) false (fun i=> [entC ent0].getD i []) rfl
 refine ACalls.shut hr.go ?_
 conv=>whnf
 refine And.intro rfl ?_
 conv=>whnf
 refine ACalls.beside hr rfl ?_
 rintro _ _ ⟨rfl,rfl⟩
 conv=>whnf
 refine And.intro (by simp) ?_
 conv=>whnf
 exact⟨.tp [.ag [entsA (tab0 g)], .v (.int .i64 0)],tp_sub ⟨ag_sub ⟨row_sub (f:=entC) (tab0 g) (by simp [tab0]) (rep_ents _),trivial⟩,fun _ _ h=>h,trivial⟩,rfl⟩
structure Stt where
 a:An
 txns:List Tx
 only:Bool
 cursor:Int
 found:Int
 fixed:Int
 moved:Int
 lost:List Int
 deriving DecidableEq
def stC (s:Stt):List AV:= [.v (.int .i64 s.a.gen), .v (.int .i64 s.a.epoch), .v (.int .i64 s.a.pos), .v (.int .i64 s.a.seq), .v (.int .i64 s.a.last), .v (.string s.a.label),hmsA s.a.homes,txsA s.txns, .v (.bool s.only), .v (.int .i64 s.cursor), .v (.int .i64 s.found), .v (.int .i64 s.fixed), .v (.int .i64 s.moved),iA s.lost]
def st0:Stt:=⟨an0, [],false,0,0,0,0, []⟩
@[reducible] def bwC (g:Geo) (x:AV) (s:Stt):List AV:= [.v (.int .i64 g.z), .v (.int .i64 g.d), .v (.int .i64 g.sp), .v (.int .i64 g.sl), .v (.int .i64 g.an),x, .v (.int .i64 s.a.gen), .v (.int .i64 s.a.epoch), .v (.int .i64 s.a.pos), .v (.int .i64 s.a.seq), .v (.int .i64 s.a.last), .v (.string s.a.label),hmsA s.a.homes,txsA s.txns, .v (.bool s.only), .v (.int .i64 s.cursor), .v (.int .i64 s.found), .v (.int .i64 s.fixed), .v (.int .i64 s.moved),iA s.lost]
@[reducible] def bwH (g:Geo) (s:Stt) (d:Dk):List AB:= [.box 116 (bwC g (.bp 1 0) s), .box 164 (dkX (.ow 2 d.cells.length) (.ow 3 d.cache.length) d.reqs d.left), .row 87 3 (d.cells.map celC), .row 130 2 (d.cache.map wrC)]
@[reducible] def bwG (g:Geo) (s:Stt) (d:Dk):List AB:= [.box 116 (bwC g (.bp 1 0) s), .box 164 (dkX (.ow 2 d.cells.length) (.ow 4 d.cache.length) d.reqs d.left), .row 87 3 (d.cells.map celC), .dead, .row 130 2 (d.cache.map wrC)]
theorem bwG_of (g:Geo) (s:Stt) (d:Dk):ConvH (bwH g s d) (bwG g s d):=ConvH.move (H:=bwH g s d) 1 3 (by decide) rfl rfl
theorem lt123 {m:Nat} (h:Nat.ble 4 m=true):∀ z∈ [1,2,3],z<m:=fun z hz=>by
 have:=Nat.le_of_ble_eq_true h
 simp at hz
 omega
theorem lt0123 {m:Nat} (h:Nat.ble 4 m=true):∀ z∈ [0,1,2,3],z<m:=fun z hz=>by
 have:=Nat.le_of_ble_eq_true h
 simp at hz
 omega
set_option maxRecDepth 100000 in
theorem got_fn (g:Geo) (s:Stt) (d:Dk) (a:Int) (h:DkOk d) (ha:0≤a∧a<d.cells.length) :
  ACalls Tryz.prog false 167 [.bp 0 0, .v (.int .i64 a)] (bwH g s d) fun r H=>r = .ag (gotC ⟨(d.read a).2.2,(d.read a).2.1⟩)∧H=bwH g s (d.read a).1:=by
 have hr:=dread_fn bclone_fn d a h.l ha h.m (fun c hc=>by have:=(h.c c hc).2.1;omega) (fun w hw=>by have:=(h.w w hw).2;omega)
 refine ACalls.ofR tys_ok Tryz.func167 rfl rfl (Nat.le_of_ble_eq_true rfl) ?_
 conv=>whnf
 refine ACalls.frame [1,2,3] hr rfl rfl rfl rfl (by decide) (lt123 rfl) ⟨rfl,rfl,rfl,trivial⟩ ?_
 rintro _ _ ⟨rfl,rfl⟩
 conv=>whnf
 exact⟨_, .ag (gotC ⟨(d.read a).2.2,(d.read a).2.1⟩),bwH g s (d.read a).1,fun _ _ h=>h,WkN.r (s:= [0,1,2,3]) ⟨⟨rfl,trivial⟩,⟨rfl,rfl,rfl,rfl,trivial⟩,rfl,rfl,rfl,rfl,rfl⟩,rfl,rfl⟩
set_option maxRecDepth 100000 in
theorem cell_fn (g:Geo) (s:Stt) (d:Dk) (a:Int) (b:List UInt8) (h:DkOk d) (ha:0≤a∧a<d.cells.length) (hb:b.length≤200) :
  ACalls Tryz.prog false 145 [.bp 0 0, .v (.int .i64 a),bA b] (bwH g s d) fun r H=>r = .tp [.v (.bool (decide ((d.write a b).2=0))), .v (.int .i64 (if (d.write a b).2=8 then 8 else 0))]∧H=bwH g s (d.write a b).1:=by
 have hr:=dwrite_fn bclone_fn d a b h.l ha h.m (by omega)
 have he:(d.write a b).2=8∨(d.write a b).2=7∨(d.write a b).2=0:=by
  unfold Dk.write;split
  ·exact .inl rfl
  ·split
   ·exact .inr (.inl rfl)
   ·exact .inr (.inr rfl)
 generalize d.write a b=q at hr he ⊢
 obtain⟨d',e⟩:=q
 simp only at hr he ⊢
 refine ACalls.ofR tys_ok Tryz.func145 rfl rfl (Nat.le_of_ble_eq_true rfl) ?_
 conv=>whnf
 refine ACalls.frame [1,2,3] hr rfl rfl rfl rfl (by decide) (lt123 rfl) ⟨rfl,rfl,rfl,trivial⟩ ?_
 rintro _ _ ⟨rfl,rfl⟩
 rcases he with rfl | rfl | rfl
 all_goals
  conv=>whnf
  exact⟨_,_,bwH g s d',fun _ _ h=>h,WkN.r (s:= [0,1,2,3]) ⟨⟨rfl,trivial⟩,⟨rfl,rfl,rfl,rfl,trivial⟩,rfl,rfl,rfl,rfl,rfl⟩,rfl,rfl⟩
@[reducible] def bwE (g:Geo) (s:Stt) (d:Dk) (l:List AB):List AB:= .box 116 (bwC g (.bp 1 0) s):: .box 164 (dkX (.ow 2 d.cells.length) (.ow 3 d.cache.length) d.reqs d.left):: .row 87 3 (d.cells.map celC):: .row 130 2 (d.cache.map wrC)::l
def gotsD (d:Dk) (ats:List Int):List Gt:=ats.map (gotG d)
def anAts (g:Geo):List Int:=(List.range g.an.toNat).map Int.ofNat
theorem read_live {d:Dk} {k:Nat} (a:Int) (h:¬(d.adv k).left=0):(d.adv k).read a=(d.adv (k+1),d.got a):=by
 rw [Dk.read,if_neg h,adv_succ k d h,adv_got]
theorem read_dead {d:Dk} {k:Nat} (a:Int) (h:(d.adv k).left=0):(d.adv k).read a=(d.adv k, [],8):=by rw [Dk.read,if_pos h]
theorem gotsD_snoc {d:Dk} {ats:List Int} {k:Nat} (h:k<ats.length):(gotsD d (ats.take (k+1))).map gotC=(gotsD d (ats.take k)).map gotC ++ [gotC (gotG d (ats.getD k 0))]:=by
 rw [gotsD,gotsD,List.take_succ_eq_append_getElem h,List.map_append,List.map_append,List.getD_eq_getElem?_getD,List.getElem?_eq_getElem h];rfl
theorem anAts_len (g:Geo):(anAts g).length=g.an.toNat:=by simp [anAts]
theorem anAts_get {g:Geo} {k:Nat} (h:k<g.an.toNat):(anAts g).getD k 0=k:=by
 rw [anAts,map_getD (d:=0) (by simpa using h),List.getD_eq_getElem?_getD,List.getElem?_range h];rfl
theorem gotsD_len (d:Dk) (ats:List Int):(gotsD d ats).length=ats.length:=by simp [gotsD]
set_option maxRecDepth 100000 in
theorem anchors_fn (g:Geo) (s:Stt) (d:Dk) (hg:okG g=true) (h:DkOk d) (hn:g.an≤d.cells.length) :
  ACalls Tryz.prog false 111 [.bp 0 0] (bwH g s d) fun r H=>
   (d.live g.an.toNat→r = .tp [.ow 4 g.an.toNat, .v (.bool false)]∧H=bwE g s (d.adv g.an.toNat) [.row 187 2 ((gotsD d (anAts g)).map gotC)])∧
   (¬d.live g.an.toNat→r = .tp [.v (.slice none 0 0), .v (.bool true)]∧H=bwH g s (d.adv g.an.toNat)):=by
 obtain⟨g1,g2,g3,g4,g5⟩:=okG_iff.1 hg
 have hl:=h.l
 refine ACalls.ofR tys_ok Tryz.func111 rfl rfl (Nat.le_of_ble_eq_true rfl) ?_
 conv=>whnf
 refine aLoop.ruleRR Nat (fun k=>([(0, .bp 0 0),(2, .ow 4 k),(12, .v (.int .i64 g.an)),(13, .v (.int .i64 k))],bwE g s (d.adv k) [.row 187 2 ((gotsD d ((anAts g).take k)).map gotC)])) (fun k=>k≤g.an.toNat∧d.live k) (fun k=>g.an.toNat - k) 0 ⟨Nat.zero_le _,by unfold Dk.live;omega⟩
  ⟨_,_,ConvF.refl _ _, [(2,187,2)],⟨rfl,rfl,trivial⟩, [0,1,2,3,4],⟨⟨rfl,rfl,rfl,rfl,trivial⟩,⟨rfl,rfl,rfl,rfl,rfl,trivial⟩,rfl,rfl,rfl,rfl,rfl⟩⟩ ?_
 rintro k ⟨hk,hlv⟩
 have hd:=h.adv k
 have hs:=adv_same k d
 have hL:=adv_live k d hl.1 hlv
 conv=>whnf
 refine boolI (fun h6=>?_) (fun h6=>?_) <;> (repeat rw [Int.toNat_natCast] at h6) <;> conv=>whnf
 ·have hk':k<g.an.toNat:=by omega
  have ha:=ganchor_fn g k hg (by omega)
  have hgot:=got_fn g s (d.adv k) k hd (by rw [hs.1];omega)
  refine Fn.closed (ha) rfl ?_
  rintro _ rfl
  conv=>whnf
  by_cases h0:(d.adv k).left=0
  ·rw [read_dead _ h0] at hgot
   refine ACalls.frame [0,1,2,3] hgot rfl rfl rfl rfl (by decide) (lt0123 rfl) ⟨rfl,rfl,rfl,rfl,trivial⟩ ?_
   rintro _ _ ⟨rfl,rfl⟩
   conv=>whnf
   have hnl:¬d.live g.an.toNat:=by have:=hL.1 h0;unfold Dk.live at *;omega
   have hst:=adv_stop k g.an.toNat d h0 hk
   exact⟨_, .tp [.v (.slice none 0 0), .v (.bool true)],bwH g s (d.adv k),fun _ _ h=>h,WkN.r (s:= [0,1,2,3]) ⟨⟨rfl,trivial⟩,⟨rfl,rfl,rfl,rfl,trivial⟩,rfl,rfl,rfl,rfl,rfl⟩,fun hh=>absurd hh hnl,fun _=>⟨rfl,by rw [hst]⟩⟩
  ·rw [read_live _ h0] at hgot
   have hlv':d.live (k+1):=by
    by_cases e:d.live (k+1)
    ·exact e
    ·exact absurd (hL.2 e) h0
   have he:¬(d.got (k:Int)).2=8:=by have:=got_err d (k:Int);omega
   have hG:gotG d ((anAts g).getD k 0)=⟨(d.got (k:Int)).2,(d.got (k:Int)).1⟩:=by rw [anAts_get hk'];rfl
   generalize d.got (k:Int)=q at hgot he hG
   obtain⟨bs,e⟩:=q
   refine ACalls.frame [0,1,2,3] hgot rfl rfl rfl rfl (by decide) (lt0123 rfl) ⟨rfl,rfl,rfl,rfl,trivial⟩ ?_
   rintro _ _ ⟨rfl,rfl⟩
   conv=>whnf
   refine boolK_intro (fun h8=>absurd (by simpa using h8) he) (fun _=>?_)
   conv=>whnf
   refine And.intro rfl ?_
   conv=>whnf
   refine And.intro ⟨by simp [gotsD_len,anAts_len];omega,by omega⟩ ?_
   conv=>whnf
   exact⟨k+1,⟨hk',hlv'⟩,by omega,WkN.r (s:= [0,1,2,3,4]) ⟨⟨rfl,rfl,rfl,wsucc (by omega),trivial⟩,⟨rfl,rfl,rfl,rfl,congrArg (fun l=>some (AB.row _ _ l)) (by rw [gotsD_snoc (by rw [anAts_len];exact hk'),hG];rfl),trivial⟩,rfl,rfl,rfl,rfl,rfl⟩⟩
 ·have ek:k=g.an.toNat:=by omega
  subst ek
  exact⟨_, .tp [.ow 4 g.an.toNat, .v (.bool false)],bwE g s (d.adv g.an.toNat) [.row 187 2 ((gotsD d (anAts g)).map gotC)],fun _ _ h=>h,WkN.r (s:= [0,1,2,3,4]) ⟨⟨rfl,trivial⟩,⟨rfl,rfl,rfl,rfl,by rw [show (anAts g).take g.an.toNat=anAts g from List.take_of_length_le (by rw [anAts_len];exact Nat.le_refl _)];rfl,trivial⟩,rfl,rfl,rfl,rfl,rfl⟩,fun _=>⟨rfl,rfl⟩,fun hh=>absurd hlv hh⟩
def logAts (g:Geo) (copy:Int):List Int:=(List.range g.sl.toNat).map fun i=>logAt g copy (i:Nat)
theorem logAts_len (g:Geo) (c:Int):(logAts g c).length=g.sl.toNat:=by simp [logAts]
theorem logAts_get {g:Geo} {c:Int} {k:Nat} (h:k<g.sl.toNat):(logAts g c).getD k 0=logAt g c k:=by
 rw [logAts,map_getD (d:=0) (by simpa using h),List.getD_eq_getElem?_getD,List.getElem?_range h];rfl
theorem cells_ge {g:Geo} (hg:okG g=true):g.an+2*g.sl+2*g.z≤cellsN g:=by
 obtain⟨g1,g2,g3,g4,g5⟩:=okG_iff.1 hg
 have hp:=per_bd hg
 have:0≤g.z*perG g:=Int.mul_nonneg (by omega) (by omega)
 unfold cellsN
 omega
theorem logAt_in {g:Geo} {n:Nat} (hg:okG g=true) (hn:(n:Int)=cellsN g) {c s:Int} (hc:c=0∨c=1) (hs:0≤s∧s<g.sl):0≤logAt g c s∧logAt g c s<n:=by
 obtain⟨g1,g2,g3,g4,g5⟩:=okG_iff.1 hg
 have:=cells_ge hg
 unfold logAt
 rcases hc with rfl | rfl <;> omega
theorem log_at (g:Geo) (c s:Int) (hg:okG g=true) (hc:c=0∨c=1) (hs:0≤s∧s<g.sl):Fn Tryz.prog 68 [.ag (geoC g), .v (.int .i64 c), .v (.int .i64 s)] fun r=>r = .tp [.v (.int .i64 (logAt g c s)), .v (.int .i64 0)]:=by
 have h:=log_fn g c s
 have hl:okL g c s=true:=by simp only [okL,Bool.and_eq_true,inB_iff];omega
 rwa [hg,hl] at h
set_option maxRecDepth 100000 in
theorem blog_fn (g:Geo) (s:Stt) (d:Dk) (hg:okG g=true) (h:DkOk d) (hn:(d.cells.length:Int)=cellsN g) :
  ACalls Tryz.prog false 113 [.bp 0 0] (bwH g s d) fun r H=>
   (d.live (2*g.sl.toNat)→r = .tp [.ow 4 g.sl.toNat, .ow 5 g.sl.toNat, .v (.bool false)]∧H=bwE g s (d.adv (2*g.sl.toNat)) [.row 187 2 ((gotsD d (logAts g 0)).map gotC), .row 187 2 ((gotsD d (logAts g 1)).map gotC)])∧
   (¬d.live (2*g.sl.toNat)→r = .tp [.v (.slice none 0 0), .v (.slice none 0 0), .v (.bool true)]∧H=bwH g s (d.adv (2*g.sl.toNat))):=by
 obtain⟨g1,g2,g3,g4,g5⟩:=okG_iff.1 hg
 have hl:=h.l
 refine ACalls.ofR tys_ok Tryz.func113 rfl rfl (Nat.le_of_ble_eq_true rfl) ?_
 conv=>whnf
 refine aLoop.ruleRR Nat (fun k=>([(0, .bp 0 0),(2, .ow 4 k),(3, .ow 5 k),(14, .v (.int .i64 g.sl)),(15, .v (.int .i64 k))],bwE g s (d.adv (2*k)) [.row 187 2 ((gotsD d ((logAts g 0).take k)).map gotC), .row 187 2 ((gotsD d ((logAts g 1).take k)).map gotC)])) (fun k=>k≤g.sl.toNat∧d.live (2*k)) (fun k=>g.sl.toNat - k) 0 ⟨Nat.zero_le _,by unfold Dk.live;omega⟩
  ⟨_,_,ConvF.refl _ _, [(2,187,2),(3,187,2)],⟨rfl,rfl,rfl,rfl,trivial⟩, [0,1,2,3,4,5],⟨⟨rfl,rfl,rfl,rfl,rfl,trivial⟩,⟨rfl,rfl,rfl,rfl,rfl,rfl,trivial⟩,rfl,rfl,rfl,rfl,rfl⟩⟩ ?_
 rintro k ⟨hk,hlv⟩
 have hd:=h.adv (2*k)
 have hs:=adv_same (2*k) d
 have hL:=adv_live (2*k) d hl.1 hlv
 conv=>whnf
 refine boolI (fun h6=>?_) (fun h6=>?_) <;> (repeat rw [Int.toNat_natCast] at h6) <;> conv=>whnf
 ·have hk':k<g.sl.toNat:=by omega
  have ha:=log_at g 0 k hg (.inl rfl) (by omega)
  have ha1:=log_at g 1 k hg (.inr rfl) (by omega)
  have hgot:=got_fn g s (d.adv (2*k)) (logAt g 0 k) hd (logAt_in hg (by rw [hs.1];exact hn) (.inl rfl) (by omega))
  have stop:(d.adv (2*k)).left=0→¬d.live (2*g.sl.toNat)∧d.adv (2*g.sl.toNat)=d.adv (2*k):=fun h0=>⟨by have:=hL.1 h0;unfold Dk.live at *;omega,adv_stop _ _ d h0 (by omega)⟩
  refine aLoop.rounds 3 ?_
  conv=>whnf
  refine aSeq.go ?_
  conv=>whnf
  refine Fn.closed (ha) rfl ?_
  rintro _ rfl
  conv=>whnf
  by_cases h0:(d.adv (2*k)).left=0
  ·rw [read_dead _ h0] at hgot
   refine ACalls.frame [0,1,2,3] hgot rfl rfl rfl rfl (by decide) (lt0123 rfl) ⟨rfl,rfl,rfl,rfl,trivial⟩ ?_
   rintro _ _ ⟨rfl,rfl⟩
   conv=>whnf
   exact⟨_, .tp [.v (.slice none 0 0), .v (.slice none 0 0), .v (.bool true)],bwH g s (d.adv (2*k)),fun _ _ h=>h,WkN.r (s:= [0,1,2,3]) ⟨⟨rfl,trivial⟩,⟨rfl,rfl,rfl,rfl,trivial⟩,rfl,rfl,rfl,rfl,rfl⟩,fun hh=>absurd hh (stop h0).1,fun _=>⟨rfl,by rw [(stop h0).2]⟩⟩
  ·rw [read_live _ h0] at hgot
   have hlv':d.live (2*k+1):=by
    by_cases e:d.live (2*k+1)
    ·exact e
    ·exact absurd (hL.2 e) h0
   have hd1:=h.adv (2*k+1)
   have hs1:=adv_same (2*k+1) d
   have hL1:=adv_live (2*k+1) d hl.1 hlv'
   have hgot1:=got_fn g s (d.adv (2*k+1)) (logAt g 1 k) hd1 (logAt_in hg (by rw [hs1.1];exact hn) (.inr rfl) (by omega))
   have stop1:(d.adv (2*k+1)).left=0→¬d.live (2*g.sl.toNat)∧d.adv (2*g.sl.toNat)=d.adv (2*k+1):=fun h0=>⟨by have:=hL1.1 h0;unfold Dk.live at *;omega,adv_stop _ _ d h0 (by omega)⟩
   have he:¬(d.got (logAt g 0 k)).2=8:=by have:=got_err d (logAt g 0 k);omega
   have hG:gotG d ((logAts g 0).getD k 0)=⟨(d.got (logAt g 0 k)).2,(d.got (logAt g 0 k)).1⟩:=by rw [logAts_get hk'];rfl
   generalize d.got (logAt g 0 k)=q at hgot he hG
   obtain⟨bs,e⟩:=q
   refine ACalls.frame [0,1,2,3] hgot rfl rfl rfl rfl (by decide) (lt0123 rfl) ⟨rfl,rfl,rfl,rfl,trivial⟩ ?_
   rintro _ _ ⟨rfl,rfl⟩
   conv=>whnf
   refine boolK_intro (fun h8=>absurd (by simpa using h8) he) (fun _=>?_)
   conv=>whnf
   refine And.intro rfl ?_
   conv=>whnf
   refine And.intro ⟨by simp [gotsD_len,logAts_len];omega,by omega⟩ ?_
   conv=>whnf
   repeat' (first | (refine aSeq.go ?_;conv=>whnf) | fail)
   refine Fn.closed (ha1) rfl ?_
   rintro _ rfl
   conv=>whnf
   by_cases h1:(d.adv (2*k+1)).left=0
   ·rw [read_dead _ h1] at hgot1
    refine ACalls.frame [0,1,2,3] hgot1 rfl rfl rfl rfl (by decide) (lt0123 rfl) ⟨rfl,rfl,rfl,rfl,trivial⟩ ?_
    rintro _ _ ⟨rfl,rfl⟩
    conv=>whnf
    exact⟨_, .tp [.v (.slice none 0 0), .v (.slice none 0 0), .v (.bool true)],bwH g s (d.adv (2*k+1)),fun _ _ h=>h,WkN.r (s:= [0,1,2,3]) ⟨⟨rfl,trivial⟩,⟨rfl,rfl,rfl,rfl,trivial⟩,rfl,rfl,rfl,rfl,rfl⟩,fun hh=>absurd hh (stop1 h1).1,fun _=>⟨rfl,by rw [(stop1 h1).2]⟩⟩
   ·rw [read_live _ h1] at hgot1
    have hlv1:d.live (2*(k+1)):=by
     by_cases e:d.live (2*k+1+1)
     ·exact e
     ·exact absurd (hL1.2 e) h1
    have he1:¬(d.got (logAt g 1 k)).2=8:=by have:=got_err d (logAt g 1 k);omega
    have hG1:gotG d ((logAts g 1).getD k 0)=⟨(d.got (logAt g 1 k)).2,(d.got (logAt g 1 k)).1⟩:=by rw [logAts_get hk'];rfl
    generalize d.got (logAt g 1 k)=q1 at hgot1 he1 hG1
    obtain⟨bs1,e1⟩:=q1
    refine ACalls.frame [0,1,2,3] hgot1 rfl rfl rfl rfl (by decide) (lt0123 rfl) ⟨rfl,rfl,rfl,rfl,trivial⟩ ?_
    rintro _ _ ⟨rfl,rfl⟩
    conv=>whnf
    refine boolK_intro (fun h8=>absurd (by simpa using h8) he1) (fun _=>?_)
    conv=>whnf
    refine And.intro rfl ?_
    conv=>whnf
    refine And.intro ⟨by simp [gotsD_len,logAts_len];omega,by omega⟩ ?_
    conv=>whnf
    repeat' (first | (refine aSeq.go ?_;conv=>whnf) | fail)
    exact⟨k+1,⟨hk',hlv1⟩,by omega,WkN.r (s:= [0,1,2,3,4,5]) ⟨⟨rfl,rfl,rfl,rfl,wsucc (by omega),trivial⟩,⟨rfl,rfl,rfl,rfl,congrArg (fun l=>some (AB.row _ _ l)) (by rw [gotsD_snoc (by rw [logAts_len];exact hk'),hG];rfl),congrArg (fun l=>some (AB.row _ _ l)) (by rw [gotsD_snoc (by rw [logAts_len];exact hk'),hG1];rfl),trivial⟩,rfl,rfl,rfl,rfl,rfl⟩⟩
 ·have ek:k=g.sl.toNat:=by omega
  subst ek
  exact⟨_, .tp [.ow 4 g.sl.toNat, .ow 5 g.sl.toNat, .v (.bool false)],bwE g s (d.adv (2*g.sl.toNat)) [.row 187 2 ((gotsD d (logAts g 0)).map gotC), .row 187 2 ((gotsD d (logAts g 1)).map gotC)],fun _ _ h=>h,WkN.r (s:= [0,1,2,3,4,5]) ⟨⟨rfl,trivial⟩,⟨rfl,rfl,rfl,rfl,by rw [show (logAts g 0).take g.sl.toNat=logAts g 0 from List.take_of_length_le (by rw [logAts_len];exact Nat.le_refl _)];rfl,by rw [show (logAts g 1).take g.sl.toNat=logAts g 1 from List.take_of_length_le (by rw [logAts_len];exact Nat.le_refl _)];rfl,trivial⟩,rfl,rfl,rfl,rfl,rfl⟩,fun _=>⟨rfl,rfl⟩,fun hh=>absurd hlv hh⟩
def WrIn (n:Nat) (w:Wr):Prop:=(0≤w.addr∧w.addr<n)∧w.bytes.length≤200
theorem writes_ok {d:Dk} (h:DkOk d) {l:List Wr} (hl:∀ w∈l,WrIn d.cells.length w) (k:Nat):DkOk (d.writes (l.take k)).1∧(d.writes (l.take k)).1.cells.length=d.cells.length:=
 writes_inv (P:=fun x=>DkOk x∧x.cells.length=d.cells.length) l (fun x hx w hw=>⟨hx.1.write (by rw [hx.2];exact(hl w hw).1) (hl w hw).2,by rw [write_n,hx.2]⟩) ⟨h,rfl⟩ k
theorem write_err (d:Dk) (a:Int) (b:List UInt8):(d.write a b).2=8∨(d.write a b).2=7∨(d.write a b).2=0:=by
 unfold Dk.write;split
 ·exact .inl rfl
 ·split
  ·exact .inr (.inl rfl)
  ·exact .inr (.inr rfl)
theorem wr_next {d:Dk} {l:List Wr} {k:Nat} (hk:k<l.length) (h:(d.writes (l.take k)).2.2=false) :
  d.writes (l.take (k+1))=(((d.writes (l.take k)).1.write (l.getD k ⟨0, []⟩).addr (l.getD k ⟨0, []⟩).bytes).1,(d.writes (l.take k)).2.1+(if ((d.writes (l.take k)).1.write (l.getD k ⟨0, []⟩).addr (l.getD k ⟨0, []⟩).bytes).2=0 then 1 else 0),decide (((d.writes (l.take k)).1.write (l.getD k ⟨0, []⟩).addr (l.getD k ⟨0, []⟩).bytes).2=8)):=by
 rw [writes_succ d hk]
 unfold wrStep
 rw [if_neg (by rw [h];decide)]
 simp only
 by_cases h8:((d.writes (l.take k)).1.write (l.getD k ⟨0, []⟩).addr (l.getD k ⟨0, []⟩).bytes).2=8
 ·rw [if_pos h8,h8];simp
 ·rw [if_neg h8,decide_eq_false h8]
theorem putAll_dead {d:Dk} {l:List Wr} (h:(d.writes l).2.2=true):d.putAll l=((d.writes l).1,(d.writes l).2.1,true):=by
 unfold Dk.putAll
 generalize d.writes l=q at h ⊢
 obtain⟨a,b,c⟩:=q
 simp only at h ⊢
 rw [if_pos h]
theorem putAll_live {d:Dk} {l:List Wr} (h:(d.writes l).2.2=false):d.putAll l=if (d.writes l).1.left=0 then ((d.writes l).1,(d.writes l).2.1,true) else ((d.writes l).1.flush,(d.writes l).2.1,false):=by
 unfold Dk.putAll
 generalize d.writes l=q at h ⊢
 obtain⟨a,b,c⟩:=q
 simp only at h ⊢
 rw [if_neg (by rw [h];decide)]
theorem putAll_ok {d:Dk} (h:DkOk d) {l:List Wr} (hl:∀ w∈l,WrIn d.cells.length w):DkOk (d.putAll l).1∧(d.putAll l).1.cells.length=d.cells.length:=by
 have hw:=writes_ok h hl l.length
 rw [List.take_length] at hw
 cases hd:(d.writes l).2.2 with
 | true=>rw [putAll_dead hd];exact hw
 | false=>
  rw [putAll_live hd]
  split
  ·exact hw
  ·exact⟨hw.1.flush,by rw [flush_n,hw.2]⟩
def Dk.mend (d:Dk) (l:List Wr):Dk × Bool:=if l=[] then (d,false) else ((d.putAll l).1,(d.putAll l).2.2)
set_option maxRecDepth 100000 in
theorem mends_fn (g:Geo) (s:Stt) (d:Dk) (l:List Wr) (h:DkOk d) (hl:∀ w∈l,WrIn d.cells.length w) (hn:l.length≤1000000) :
  ACalls Tryz.prog false 115 [.bp 0 0,wrsA l] (bwH g s d) fun r H=>r = .v (.int .i64 (if (d.mend l).2 then 8 else 0))∧H=bwG g s (d.mend l).1:=by
 refine ACalls.ofR tys_ok Tryz.func115 rfl rfl (Nat.le_of_ble_eq_true rfl) ?_
 conv=>whnf
 refine aLoop.ruleRR Nat (fun k=>([(0, .bp 0 0),(1,wrsA l),(9,wrsA l),(10, .v (.int .i64 l.length)),(11, .v (.int .i64 k))],bwE g s (d.writes (l.take k)).1 [])) (fun k=>k≤l.length∧(d.writes (l.take k)).2.2=false) (fun k=>l.length - k) 0 ⟨Nat.zero_le _,rfl⟩
  (WkN.r (s:= [0,1,2,3]) ⟨⟨rfl,rfl,rfl,rfl,rfl,trivial⟩,⟨rfl,rfl,rfl,rfl,trivial⟩,rfl,rfl,rfl,rfl,rfl⟩) ?_
 rintro k ⟨hk,hlv⟩
 have hd:=writes_ok h hl k
 conv=>whnf
 refine boolI (fun h6=>?_) (fun h6=>?_) <;> (repeat rw [Int.toNat_natCast] at h6) <;> conv=>whnf
 ·have hk':k<l.length:=by omega
  have hm:=hl _ (getD_mem (d:=(⟨0, []⟩:Wr)) hk')
  have hx:=wr_next hk' hlv
  generalize hX:(d.writes (l.take k)).1=X at hd hx ⊢
  have hc:=cell_fn g s X (l.getD k ⟨0, []⟩).addr (l.getD k ⟨0, []⟩).bytes hd.1 (by rw [hd.2];exact hm.1) hm.2
  refine And.intro ⟨by omega,by omega⟩ ?_
  conv=>whnf
  rw [Int.toNat_natCast]
  generalize hW:l.getD k ⟨0, []⟩=W at hc hx hm ⊢
  have hE:=write_err X W.addr W.bytes
  generalize hQ:X.write W.addr W.bytes=Q at hc hx hE
  obtain⟨D,e⟩:=Q
  simp only at hx hE hc
  conv=>whnf
  refine ACalls.frame [0,1,2,3] hc rfl rfl rfl rfl (by decide) (lt0123 rfl) ⟨rfl,rfl,rfl,rfl,trivial⟩ ?_
  rintro _ _ ⟨rfl,rfl⟩
  rcases hE with rfl | hE
  ·rw [if_pos rfl]
   conv=>whnf
   have hdd:(d.writes (l.take (k+1))).2.2=true:=by rw [hx];rfl
   have hdl:d.writes l=d.writes (l.take (k+1)):=writes_dead d hk' hdd
   have hne:l≠ []:=fun e=>by rw [e] at hk';simp at hk'
   have hp:d.mend l=(D,true):=by
    rw [Dk.mend,if_neg hne,putAll_dead (by rw [hdl];exact hdd),hdl,hx]
   rw [hp]
   exact⟨_, .v (.int .i64 8),bwG g s D,fun _ _ h=>h,WkN.rc (ConvF.ofH (ConvH.move 1 3 (by decide) rfl rfl)) (s:= [0,1,2,3,5]) ⟨⟨rfl,trivial⟩,⟨rfl,rfl,rfl,trivial,rfl,trivial⟩,rfl,rfl,rfl,rfl,rfl⟩,rfl,rfl⟩
  ·rw [if_neg (by omega)]
   conv=>whnf
   have h1:(d.writes (l.take (k+1))).1=D:=by rw [hx]
   have h2:(d.writes (l.take (k+1))).2.2=false:=by rw [hx];exact decide_eq_false (by omega)
   refine⟨k+1,⟨hk',h2⟩,by omega,?_⟩
   rw [h1]
   exact WkN.r (s:= [0,1,2,3]) ⟨⟨rfl,rfl,rfl,rfl,wsucc (by omega),trivial⟩,⟨rfl,rfl,rfl,rfl,trivial⟩,rfl,rfl,rfl,rfl,rfl⟩
 ·have ek:k=l.length:=by omega
  subst ek
  rw [List.take_length] at hlv hd
  rw [List.take_length]
  by_cases h0:l=[]
  ·have e:d.mend l=(d,false):=by rw [Dk.mend,if_pos h0]
   have e2:d.writes l=(d,0,false):=by rw [h0];rfl
   rw [e,e2]
   rw [show ((l.length:Int) == 0)=true by rw [h0];rfl]
   conv=>whnf
   exact⟨_, .v (.int .i64 0),bwG g s d,fun _ _ h=>h,WkN.rc (ConvF.ofH (bwG_of g s d)) (s:= [0,1,2,3,4]) ⟨⟨rfl,trivial⟩,⟨rfl,rfl,rfl,trivial,rfl,trivial⟩,rfl,rfl,rfl,rfl,rfl⟩,rfl,rfl⟩
  ·rw [show ((l.length:Int) == 0)=false by rw [beq_eq_false_iff_ne];intro e;exact h0 (List.length_eq_zero_iff.1 (by omega))]
   have hp:d.mend l=(if (d.writes l).1.left=0 then ((d.writes l).1,true) else ((d.writes l).1.flush,false)):=by
    rw [Dk.mend,if_neg h0,putAll_live hlv]
    split <;> rfl
   generalize (d.writes l).1=X at hp hd ⊢
   have hf:=dflush_any X hd.1.l hd.1.m (fun w hw=>(hd.1.w w hw).1)
   rw [hp]
   conv=>whnf
   refine ACalls.frame [1,2,3] hf rfl rfl rfl rfl (by decide) (lt123 rfl) ⟨rfl,rfl,rfl,trivial⟩ ?_
   rintro _ _ ⟨rfl,rfl⟩
   by_cases hX:X.left=0
   all_goals
    simp only [hX,if_true,if_false]
    conv=>whnf
    exact⟨_,_,bwG g s _,fun _ _ h=>h,WkN.r (s:= [0,1,2,3,4]) ⟨⟨rfl,trivial⟩,⟨rfl,rfl,rfl,trivial,rfl,trivial⟩,rfl,rfl,rfl,rfl,rfl⟩,rfl,rfl⟩
def anCells (g:Geo) (a:An):List Wr:=(List.range g.an.toNat).map fun i=>⟨(i:Nat),anCell a (i:Nat)⟩
theorem anCells_len (g:Geo) (a:An):(anCells g a).length=g.an.toNat:=by simp [anCells]
theorem anCells_get {g:Geo} {a:An} {k:Nat} (h:k<g.an.toNat):(anCells g a).getD k ⟨0, []⟩=⟨(k:Nat),anCell a (k:Nat)⟩:=by
 rw [anCells,map_getD (d:=0) (by simpa using h),List.getD_eq_getElem?_getD,List.getElem?_range h];rfl
set_option maxRecDepth 100000 in
theorem banchors_fn (g:Geo) (s:Stt) (d:Dk) (a:An) (hg:okG g=true) (ha:anOk g a=true) (h:DkOk d) (hl:∀ w∈anCells g a,WrIn d.cells.length w) :
  ACalls Tryz.prog false 77 [.bp 0 0, .ag (anC a)] (bwH g s d) fun r H=>r = .tp [.v (.int .i64 (if (d.putAll (anCells g a)).2.2 then 0 else ((d.putAll (anCells g a)).2.1:Nat))), .v (.int .i64 (if (d.putAll (anCells g a)).2.2 then 8 else 0))]∧H=bwG g s (d.putAll (anCells g a)).1:=by
 obtain⟨g1,g2,g3,g4,g5⟩:=okG_iff.1 hg
 have hlen:=anCells_len g a
 refine ACalls.ofR tys_ok Tryz.func77 rfl rfl (Nat.le_of_ble_eq_true rfl) ?_
 conv=>whnf
 refine aLoop.ruleRR Nat (fun k=>([(0, .bp 0 0),(3, .bp 4 0),(6, .v (.int .i64 (d.writes ((anCells g a).take k)).2.1)),(19, .v (.int .i64 g.an)),(20, .v (.int .i64 k))],bwE g s (d.writes ((anCells g a).take k)).1 [.box 40 (anC a)])) (fun k=>k≤(anCells g a).length∧(d.writes ((anCells g a).take k)).2.2=false∧(d.writes ((anCells g a).take k)).2.1≤k) (fun k=>(anCells g a).length - k) 0 ⟨Nat.zero_le _,rfl,Nat.le_refl _⟩
  (WkN.r (s:= [0,1,2,3,4]) ⟨⟨rfl,rfl,rfl,rfl,rfl,trivial⟩,⟨rfl,rfl,rfl,rfl,rfl,trivial⟩,rfl,rfl,rfl,rfl,rfl⟩) ?_
 rintro k ⟨hk,hlv,hnk⟩
 have hd:=writes_ok h hl k
 conv=>whnf
 refine boolI (fun h6=>?_) (fun h6=>?_) <;> (repeat rw [Int.toNat_natCast] at h6) <;> conv=>whnf
 ·have hk':k<(anCells g a).length:=by omega
  have hm:=hl _ (getD_mem (d:=(⟨0, []⟩:Wr)) hk')
  have hx:=wr_next hk' hlv
  rw [anCells_get (by omega)] at hx hm
  generalize hX:(d.writes ((anCells g a).take k)).1=X at hd hx ⊢
  generalize hN:(d.writes ((anCells g a).take k)).2.1=N at hx hnk ⊢
  have hga:=ganchor_fn g k hg (by omega)
  have hnc:=ncell_fn g a k hg ha (by omega)
  have hc:=cell_fn g s X k (anCell a k) hd.1 (by rw [hd.2];exact hm.1) hm.2
  repeat' (first | (refine aSeq.go ?_;conv=>whnf) | fail)
  refine Fn.closed (hga) rfl ?_
  rintro _ rfl
  conv=>whnf
  apply aDraw.treeK (0) tys_ok mixed (.one 0 (.one 1 (.one 2 (.one 3 (.one 4 (.one 5 (.one 6 (.one 7 (.one 8 (.one 9 (.one 10 (.one 11 .fin)))))))))))) (by kernel_rfl)
  conv=>whnf
  refine Fn.closed (hnc) rfl ?_
  rintro _ rfl
  conv=>whnf
  have hE:=write_err X k (anCell a k)
  generalize hQ:X.write k (anCell a k)=Q at hc hx hE
  obtain⟨D,e⟩:=Q
  simp only at hx hE hc
  refine ACalls.frame [0,1,2,3] hc rfl rfl rfl rfl (by decide) (lt0123 rfl) ⟨rfl,rfl,rfl,rfl,trivial⟩ ?_
  rintro _ _ ⟨rfl,rfl⟩
  rcases hE with rfl | hE
  ·rw [if_pos rfl]
   conv=>whnf
   have hdd:(d.writes ((anCells g a).take (k+1))).2.2=true:=by rw [hx];rfl
   have hdl:d.writes (anCells g a)=d.writes ((anCells g a).take (k+1)):=writes_dead d hk' hdd
   have hp:(d.putAll (anCells g a)).1=D∧(d.putAll (anCells g a)).2.2=true:=by
    rw [putAll_dead (by rw [hdl];exact hdd),hdl,hx];exact⟨rfl,rfl⟩
   rw [hp.1,hp.2]
   exact⟨_, .tp [.v (.int .i64 0), .v (.int .i64 8)],bwG g s D,fun _ _ h=>h,WkN.rc (ConvF.ofH (ConvH.move 1 3 (by decide) rfl rfl)) (s:= [0,1,2,3,5]) ⟨⟨rfl,trivial⟩,⟨rfl,rfl,rfl,trivial,rfl,trivial⟩,rfl,rfl,rfl,rfl,rfl⟩,rfl,rfl⟩
  ·rw [if_neg (by omega)]
   have h1:(d.writes ((anCells g a).take (k+1))).1=D:=by rw [hx]
   have h2:(d.writes ((anCells g a).take (k+1))).2.2=false:=by rw [hx];exact decide_eq_false (by omega)
   have h3:(d.writes ((anCells g a).take (k+1))).2.1=N+if e=0 then 1 else 0:=by rw [hx]
   rcases hE with rfl | rfl
   all_goals
    conv=>whnf
    repeat' (first | (refine aSeq.go ?_;conv=>whnf) | fail)
    refine⟨k+1,⟨hk',h2,by rw [h3];simp;omega⟩,by omega,?_⟩
    rw [h1,h3]
   ·exact WkN.r (s:= [0,1,2,3,4]) ⟨⟨rfl,rfl,rfl,rfl,wsucc (by omega),trivial⟩,⟨rfl,rfl,rfl,rfl,rfl,trivial⟩,rfl,rfl,rfl,rfl,rfl⟩
   ·exact WkN.r (s:= [0,1,2,3,4]) ⟨⟨rfl,rfl,wsucc (by omega),rfl,wsucc (by omega),trivial⟩,⟨rfl,rfl,rfl,rfl,rfl,trivial⟩,rfl,rfl,rfl,rfl,rfl⟩
 ·have ek:k=(anCells g a).length:=by omega
  subst ek
  rw [List.take_length] at hlv hd hnk
  rw [List.take_length]
  have hp:=putAll_live hlv
  generalize (d.writes (anCells g a)).1=X at hp hd ⊢
  generalize (d.writes (anCells g a)).2.1=N at hp ⊢
  have hf:=dflush_any X hd.1.l hd.1.m (fun w hw=>(hd.1.w w hw).1)
  rw [hp]
  refine ACalls.frame [1,2,3] hf rfl rfl rfl rfl (by decide) (lt123 rfl) ⟨rfl,rfl,rfl,trivial⟩ ?_
  rintro _ _ ⟨rfl,rfl⟩
  by_cases hX:X.left=0
  ·simp only [hX,if_true]
   conv=>whnf
   exact⟨_, .tp [.v (.int .i64 0), .v (.int .i64 8)],bwG g s _,fun _ _ h=>h,WkN.r (s:= [0,1,2,3,5]) ⟨⟨rfl,trivial⟩,⟨rfl,rfl,rfl,trivial,rfl,trivial⟩,rfl,rfl,rfl,rfl,rfl⟩,rfl,rfl⟩
  ·simp only [hX,if_false]
   conv=>whnf
   exact⟨_, .tp [.v (.int .i64 (N:Nat)), .v (.int .i64 0)],bwG g s _,fun _ _ h=>h,WkN.r (s:= [0,1,2,3,5]) ⟨⟨rfl,trivial⟩,⟨rfl,rfl,rfl,trivial,rfl,trivial⟩,rfl,rfl,rfl,rfl,rfl⟩,rfl,rfl⟩
theorem anCells_in {g:Geo} {a:An} {n:Nat} (hg:okG g=true) (ha:anOk g a=true) (hn:(n:Int)=cellsN g):∀ w∈anCells g a,WrIn n w:=by
 obtain⟨g1,g2,g3,g4,g5⟩:=okG_iff.1 hg
 have hc:=cells_ge hg
 intro w hw
 simp only [anCells,List.mem_map,List.mem_range] at hw
 obtain⟨i,hi,rfl⟩:=hw
 refine⟨⟨by show (0:Int)≤(i:Nat);omega,by show ((i:Nat):Int)<n;omega⟩,?_⟩
 show (sealB (i:Nat) a.gen (anB a)).length≤200
 rw [sealB_len]
 have:=anB_short hg ha
 omega
theorem look_is {g:Geo} {a:An} {x y:Gt} {slot seq at_ of_ left:Int} {q:Rc × List Int × Int} (hl:a.label.size≤1000000) (hh:a.homes.length≤1000000) (hx:x.bytes.length≤100000) (hy:y.bytes.length≤100000) (hg:okG g=true) (ha:anOk g a=true) (hs:inB slot 0 (g.sl - 1)=true)
  (h:lookR g a x y slot seq at_ of_ left=q) :
  Fn Tryz.prog 232 [.ag (geoC g), .ag (anC a), .ag (gotC x), .ag (gotC y), .v (.int .i64 slot), .v (.int .i64 seq), .v (.int .i64 at_), .v (.int .i64 of_), .v (.int .i64 left)]
   fun r=>r = .tp [.ag (rcC q.1),iA q.2.1, .v (.int .i64 q.2.2), .v (.int .i64 0)]:=by
 have s:=look_fn g a x y slot seq at_ of_ left hl hh hx hy
 rw [hg,ha,hs,h] at s
 exact s
theorem firstA_ok {g:Geo} {s:ByteArray} (hg:okG g=true) (hs:labE s.data.toList=0):anOk g (firstA g s)=true:=by
 obtain⟨h1,h2,h3,h4,h5⟩:=okG_iff.1 hg
 have hp:plOk ((List.range (g.d+1).toNat).map Int.ofNat) (g.d+1)=true:=by
  rcases(show g.d=1∨g.d=2∨g.d=3∨g.d=4 by omega) with h | h | h | h <;> rw [h] <;> decide
 have hh:hmOk g ⟨(List.range (g.d+1).toNat).map Int.ofNat,g.d+1,0⟩=true:=by
  simp [hmOk,hp,inB]
  omega
 simp [anOk,firstA,hs,inB]
 exact⟨by omega,by omega, .inr hh⟩
def fmtS (cs:List Cel) (w:Wr):List Cel:=cs.set w.addr.toNat { cs.getD w.addr.toNat cz with bytes:=w.bytes }
def fmtL (cs:List Cel) (l:List Wr):List Cel:=l.foldl fmtS cs
theorem fmtS_len (cs:List Cel) (w:Wr):(fmtS cs w).length=cs.length:=by simp [fmtS]
theorem fmtL_len (l:List Wr):∀ cs:List Cel,(fmtL cs l).length=cs.length:=by
 induction l with
 | nil=>intro cs;rfl
 | cons w l ih=>intro cs;show (fmtL (fmtS cs w) l).length=_;rw [ih,fmtS_len]
theorem fmtL_succ (cs:List Cel) {l:List Wr} {k:Nat} (h:k<l.length):fmtL cs (l.take (k+1))=fmtS (fmtL cs (l.take k)) (l.getD k ⟨0, []⟩):=by
 unfold fmtL
 rw [List.take_add_one,List.foldl_append,List.getElem?_eq_getElem h]
 simp [List.getD_eq_getElem?_getD,List.getElem?_eq_getElem h]
theorem fmtS_map (cs:List Cel) (w:Wr):(fmtS cs w).map celC=(cs.map celC).set w.addr.toNat (celC { cs.getD w.addr.toNat cz with bytes:=w.bytes }):=by rw [fmtS,List.map_set]
def fmt0 (g:Geo):List Cel:=List.replicate (cellsN g).toNat cz
def logW (g:Geo) (c:Int):List Wr:=(List.range g.sl.toNat).map fun i=>⟨logAt g c (i:Nat),cellB g zeroC c (i:Nat)⟩
def tabW (g:Geo) (z:Int):List Wr:=(List.range 2).map fun k=>⟨tabAt g z (k:Nat),sealB (tabAt g z (k:Nat)) 0 (tblB (tab0 g))⟩
def slotW (g:Geo) (z:Int):List Wr:=(List.range (perG g).toNat).map fun i=>⟨slotAt g z (i:Nat),sealB (slotAt g z (i:Nat)) 0 zero8⟩
def fmt1 (g:Geo) (s:ByteArray):List Cel:=fmtL (fmt0 g) (anCells g (firstA g s))
def fmt2 (g:Geo) (s:ByteArray):Nat→List Cel
 | 0=>fmt1 g s
 | c+1=>fmtL (fmt2 g s c) (logW g (c:Nat))
def fmt3 (g:Geo) (s:ByteArray):Nat→List Cel
 | 0=>fmt2 g s 2
 | z+1=>fmtL (fmtL (fmt3 g s z) (tabW g (z:Nat))) (slotW g (z:Nat))
def fmtD (g:Geo) (s:ByteArray):Dk:=⟨fmt3 g s g.z.toNat, [],0, -1⟩
theorem fmt0_len (g:Geo):(fmt0 g).length=(cellsN g).toNat:=by simp [fmt0]
theorem fmt1_len (g:Geo) (s:ByteArray):(fmt1 g s).length=(cellsN g).toNat:=by rw [fmt1,fmtL_len,fmt0_len]
theorem fmt2_len (g:Geo) (s:ByteArray):∀ c,(fmt2 g s c).length=(cellsN g).toNat
 | 0=>fmt1_len g s
 | c+1=>by rw [fmt2,fmtL_len,fmt2_len g s c]
theorem fmt3_len (g:Geo) (s:ByteArray):∀ z,(fmt3 g s z).length=(cellsN g).toNat
 | 0=>fmt2_len g s 2
 | z+1=>by rw [fmt3,fmtL_len,fmtL_len,fmt3_len g s z]
theorem range_get {α:Type} {f:Nat→α} {n k:Nat} {d:α} (h:k<n):((List.range n).map f).getD k d=f k:=by
 rw [map_getD (d:=0) (by simpa using h),List.getD_eq_getElem?_getD,List.getElem?_range h];rfl
theorem okR_zeroC {g:Geo} (hg:okG g=true):okR g zeroC=true:=by
 simp [okR,hg,behOk,zeroC,noneB]
theorem fmtL_app (cs:List Cel) (l m:List Wr):fmtL cs (l ++ m)=fmtL (fmtL cs l) m:=by unfold fmtL;rw [List.foldl_append]
theorem getD_set_cel (cs:List Cel) (i a:Nat) (x:Cel) (ha:a<cs.length):(cs.set i x).getD a cz=if i=a then x else cs.getD a cz:=by
 rw [List.getD_eq_getElem?_getD,List.getElem?_set]
 by_cases h:i=a
 ·subst h;rw [if_pos rfl,if_pos rfl,if_pos ha];rfl
 ·rw [if_neg h,if_neg h,←List.getD_eq_getElem?_getD]
theorem fmtS_get (cs:List Cel) (w:Wr) (a:Nat) (ha:a<cs.length):(fmtS cs w).getD a cz=if w.addr.toNat=a then { cs.getD a cz with bytes:=w.bytes } else cs.getD a cz:=by
 unfold fmtS
 rw [getD_set_cel _ _ _ _ ha]
 split
 ·rename_i h;rw [h]
 ·rfl
theorem fmtL_keep {F:List UInt8}:∀ (l:List Wr) (cs:List Cel) (a:Nat),a<cs.length→(∀ w∈l,w.addr.toNat=a→w.bytes=F)→((∃ w∈l,w.addr.toNat=a)∨(cs.getD a cz).bytes=F)→(fmtL cs l).getD a cz={ cs.getD a cz with bytes:=F }
 | [],cs,a,_,_,h=>by
  rcases h with ⟨w,hw,_⟩ | h
  ·cases hw
  ·show cs.getD a cz=_
   rw [←h]
 | w::l,cs,a,ha,hF,h=>by
  have hs:=fmtS_get cs w a ha
  have ha':a<(fmtS cs w).length:=by rw [fmtS_len];exact ha
  have ih:=fmtL_keep (F:=F) l (fmtS cs w) a ha' (fun x hx=>hF x (List.mem_cons_of_mem _ hx))
  show (fmtL (fmtS cs w) l).getD a cz=_
  by_cases e:w.addr.toNat=a
  ·rw [if_pos e,hF w (by simp) e] at hs
   rw [ih (.inr (by rw [hs])),hs]
  ·rw [if_neg e] at hs
   rw [ih ?_,hs]
   rcases h with ⟨x,hx,hxa⟩ | h
   ·rcases List.mem_cons.1 hx with rfl | hx
    ·exact absurd hxa e
    ·exact .inl ⟨x,hx,hxa⟩
   ·exact .inr (by rw [hs];exact h)
theorem fmtL_miss:∀ (l:List Wr) (cs:List Cel) (a:Nat),a<cs.length→(∀ w∈l,w.addr.toNat≠a)→(fmtL cs l).getD a cz=cs.getD a cz
 | [],_,_,_,_=>rfl
 | w::l,cs,a,ha,h=>by
  have hs:=fmtS_get cs w a ha
  rw [if_neg (h w (by simp))] at hs
  show (fmtL (fmtS cs w) l).getD a cz=_
  rw [fmtL_miss l (fmtS cs w) a (by rw [fmtS_len];exact ha) (fun x hx=>h x (List.mem_cons_of_mem _ hx)),hs]
def zoneW (g:Geo):Nat→List Wr
 | 0=> []
 | z+1=>zoneW g z ++ (tabW g (z:Nat) ++ slotW g (z:Nat))
def fmtW (g:Geo) (s:ByteArray):List Wr:=anCells g (firstA g s) ++ (logW g 0 ++ (logW g 1 ++ zoneW g g.z.toNat))
theorem fmt3_W (g:Geo) (s:ByteArray):∀ z,fmt3 g s z=fmtL (fmt0 g) (anCells g (firstA g s) ++ (logW g 0 ++ (logW g 1 ++ zoneW g z)))
 | 0=>by
  show fmtL (fmtL (fmt1 g s) (logW g 0)) (logW g 1)=_
  rw [fmt1,←fmtL_app,←fmtL_app,zoneW,List.append_nil]
 | z+1=>by
  rw [fmt3,fmt3_W g s z,←fmtL_app,←fmtL_app,zoneW]
  simp only [List.append_assoc]
def fmtF (g:Geo) (s:ByteArray) (a:Int):List UInt8:=
 if a<g.an then anCell (firstA g s) a else if a<g.an+g.sl then cellB g zeroC 0 (a - g.an) else if a<g.an+2*g.sl then cellB g zeroC 1 (a - g.an - g.sl)
 else if a<g.an+2*g.sl+2*g.z then sealB a 0 (tblB (tab0 g)) else sealB a 0 zero8
theorem zoneW_mem {g:Geo} (hg:okG g=true):∀ (n:Nat) (w:Wr),(n:Int)≤g.z→(w∈zoneW g n↔(∃ z k:Nat,z<n∧k<2∧w=⟨tabAt g z k,sealB (tabAt g z k) 0 (tblB (tab0 g))⟩)∨∃ z i:Nat,z<n∧i<(perG g).toNat∧w=⟨slotAt g z i,sealB (slotAt g z i) 0 zero8⟩)
 | 0,w,_=>by simp [zoneW]
 | n+1,w,h=>by
  rw [zoneW,List.mem_append,List.mem_append,zoneW_mem hg n w (by omega)]
  simp only [tabW,slotW,List.mem_map,List.mem_range]
  constructor
  ·rintro((⟨z,k,h1,h2,h3⟩ | ⟨z,i,h1,h2,h3⟩) | ⟨k,h1,h2⟩ | ⟨i,h1,h2⟩)
   ·exact .inl ⟨z,k,by omega,h2,h3⟩
   ·exact .inr ⟨z,i,by omega,h2,h3⟩
   ·exact .inl ⟨n,k,by omega,h1,h2.symm⟩
   ·exact .inr ⟨n,i,by omega,h1,h2.symm⟩
  ·rintro(⟨z,k,h1,h2,h3⟩ | ⟨z,i,h1,h2,h3⟩)
   ·by_cases e:z=n
    ·subst e;exact .inr (.inl ⟨k,h2,h3.symm⟩)
    ·exact .inl (.inl ⟨z,k,by omega,h2,h3⟩)
   ·by_cases e:z=n
    ·subst e;exact .inr (.inr ⟨i,h2,h3.symm⟩)
    ·exact .inl (.inr ⟨z,i,by omega,h2,h3⟩)
theorem fmtF_an {g:Geo} {s:ByteArray} {a:Int} (h:a<g.an):fmtF g s a=anCell (firstA g s) a:=if_pos h
theorem fmtF_log {g:Geo} {s:ByteArray} {c:Int} {i:Nat} (hc:c=0∨c=1) (hi:(i:Int)<g.sl):fmtF g s (logAt g c i)=cellB g zeroC c i:=by
 unfold fmtF logAt
 rcases hc with rfl | rfl
 ·rw [if_neg (by omega),if_pos (by omega)];congr 1;omega
 ·rw [if_neg (by omega),if_neg (by omega),if_pos (by omega)];congr 1;omega
theorem fmtF_tab {g:Geo} {s:ByteArray} {z k:Nat} (h0:0≤g.sl) (hz:(z:Int)<g.z) (hk:k<2):fmtF g s (tabAt g z k)=sealB (tabAt g z k) 0 (tblB (tab0 g)):=by
 unfold fmtF
 have:tabAt g z k=g.an+2*g.sl+2*z+k:=rfl
 rw [if_neg (by omega),if_neg (by omega),if_neg (by omega),if_pos (by omega)]
theorem fmtF_slot {g:Geo} {s:ByteArray} {z i:Nat} (h0:0≤g.sl) (h1:0≤g.z) (h2:0≤perG g):fmtF g s (slotAt g z i)=sealB (slotAt g z i) 0 zero8:=by
 unfold fmtF
 have:slotAt g z i=g.an+2*g.sl+2*g.z+z*perG g+i:=rfl
 have:0≤(z:Int)*perG g:=Int.mul_nonneg (by omega) h2
 rw [if_neg (by omega),if_neg (by omega),if_neg (by omega),if_neg (by omega)]
theorem perG_pos {g:Geo} (hg:okG g=true):0<perG g:=by
 obtain⟨g1,g2,g3,g4,g5⟩:=okG_iff.1 hg
 unfold perG;omega
theorem fmtW_all {g:Geo} {s:ByteArray} (hg:okG g=true):∀ w∈fmtW g s,0≤w.addr∧w.bytes=fmtF g s w.addr:=by
 obtain⟨g1,g2,g3,g4,g5⟩:=okG_iff.1 hg
 have hp:=perG_pos hg
 intro w hw
 simp only [fmtW,List.mem_append,zoneW_mem hg g.z.toNat w (by omega)] at hw
 rcases hw with hw | hw | hw | ⟨z,k,h1,h2,rfl⟩ | ⟨z,i,h1,h2,rfl⟩
 ·simp only [anCells,List.mem_map,List.mem_range] at hw
  obtain⟨i,hi,rfl⟩:=hw
  exact⟨by show (0:Int)≤(i:Nat);omega,(fmtF_an (by show ((i:Nat):Int)<g.an;omega)).symm⟩
 ·simp only [logW,List.mem_map,List.mem_range] at hw
  obtain⟨i,hi,rfl⟩:=hw
  exact⟨by show 0≤logAt g 0 i;unfold logAt;omega,(fmtF_log (.inl rfl) (by omega)).symm⟩
 ·simp only [logW,List.mem_map,List.mem_range] at hw
  obtain⟨i,hi,rfl⟩:=hw
  exact⟨by show 0≤logAt g 1 i;unfold logAt;omega,(fmtF_log (.inr rfl) (by omega)).symm⟩
 ·exact⟨by show 0≤tabAt g z k;unfold tabAt;omega,(fmtF_tab (by omega) (by omega) h2).symm⟩
 ·have:0≤(z:Int)*perG g:=Int.mul_nonneg (by omega) (by omega)
  exact⟨by show 0≤slotAt g z i;unfold slotAt;omega,(fmtF_slot (by omega) (by omega) (by omega)).symm⟩
theorem fmtW_hit {g:Geo} {s:ByteArray} (hg:okG g=true) {a:Int} (h0:0≤a) (h:a<cellsN g):∃ w∈fmtW g s,w.addr=a:=by
 obtain⟨g1,g2,g3,g4,g5⟩:=okG_iff.1 hg
 have hp:=perG_pos hg
 by_cases h1:a<g.an
 ·refine⟨⟨a,anCell (firstA g s) a⟩,?_,rfl⟩
  simp only [fmtW,List.mem_append,anCells,List.mem_map,List.mem_range]
  exact .inl ⟨a.toNat,by omega,by rw [Int.toNat_of_nonneg h0]⟩
 ·have hlog:∀ (c:Int) (i:Nat),(c=0∨c=1)→(i:Int)<g.sl→∃ w∈fmtW g s,w.addr=logAt g c i:=fun c i hc hi=>by
   refine⟨⟨logAt g c i,cellB g zeroC c i⟩,?_,rfl⟩
   simp only [fmtW,List.mem_append,logW,List.mem_map,List.mem_range]
   rcases hc with rfl | rfl
   ·exact .inr (.inl ⟨i,by omega,rfl⟩)
   ·exact .inr (.inr (.inl ⟨i,by omega,rfl⟩))
  by_cases h2:a<g.an+g.sl
  ·obtain⟨w,hw,e⟩:=hlog 0 (a - g.an).toNat (.inl rfl) (by omega)
   exact⟨w,hw,by rw [e];unfold logAt;omega⟩
  ·by_cases h3:a<g.an+2*g.sl
   ·obtain⟨w,hw,e⟩:=hlog 1 (a - g.an - g.sl).toNat (.inr rfl) (by omega)
    exact⟨w,hw,by rw [e];unfold logAt;omega⟩
   ·by_cases h4:a<g.an+2*g.sl+2*g.z
    ·refine⟨⟨tabAt g (((a - (g.an+2*g.sl)).toNat / 2:Nat)) ((a - (g.an+2*g.sl)).toNat % 2:Nat),sealB (tabAt g (((a - (g.an+2*g.sl)).toNat / 2:Nat)) ((a - (g.an+2*g.sl)).toNat % 2:Nat)) 0 (tblB (tab0 g))⟩,?_,by show tabAt g _ _=a;unfold tabAt;omega⟩
     simp only [fmtW,List.mem_append,zoneW_mem hg g.z.toNat _ (by omega)]
     exact .inr (.inr (.inr (.inl ⟨_,_,by omega,by omega,rfl⟩)))
    ·have hq:a - (g.an+2*g.sl+2*g.z)=((a - (g.an+2*g.sl+2*g.z)).toNat:Int):=by omega
     generalize hX:(a - (g.an+2*g.sl+2*g.z)).toNat=X at hq
     have hP:perG g=((perG g).toNat:Int):=by omega
     have hX2:X<g.z.toNat*(perG g).toNat:=by
      have:(X:Int)<g.z*perG g:=by unfold cellsN at h;omega
      rw [hP,show g.z=(g.z.toNat:Int) by omega] at this
      exact_mod_cast this
     generalize hPn:(perG g).toNat=p at hP hX2
     have hp0:0<p:=by omega
     have hdm:(X / p)*p+X % p=X:=Nat.div_add_mod' X p
     refine⟨⟨slotAt g ((X / p:Nat)) ((X % p:Nat)),sealB (slotAt g ((X / p:Nat)) ((X % p:Nat))) 0 zero8⟩,?_,?_⟩
     ·simp only [fmtW,List.mem_append,zoneW_mem hg g.z.toNat _ (by omega)]
      exact .inr (.inr (.inr (.inr ⟨X / p,X % p,Nat.div_lt_of_lt_mul (by rw [Nat.mul_comm];exact hX2),by rw [hPn];exact Nat.mod_lt _ hp0,rfl⟩)))
     ·show slotAt g _ _=a
      unfold slotAt
      rw [hP]
      have:((X / p:Nat):Int)*(p:Int)+((X % p:Nat):Int)=(X:Int):=by exact_mod_cast hdm
      omega
theorem fmt_cell {g:Geo} {s:ByteArray} (hg:okG g=true) {a:Int} (h0:0≤a) (h:a<cellsN g):(fmtD g s).cells.getD a.toNat cz=⟨0,fmtF g s a, []⟩:=by
 have hl:a.toNat<(fmt0 g).length:=by rw [fmt0_len];omega
 obtain⟨w,hw,e⟩:=fmtW_hit (s:=s) hg h0 h
 have hall:=fmtW_all (s:=s) hg
 show (fmt3 g s g.z.toNat).getD a.toNat cz=_
 rw [fmt3_W]
 refine(fmtL_keep (F:=fmtF g s a) (fmtW g s) (fmt0 g) a.toNat hl (fun x hx hxa=>?_) (.inl ⟨w,hw,by rw [e]⟩)).trans ?_
 ·have:=hall x hx
  rw [this.2]
  congr 1
  omega
 ·have:(fmt0 g).getD a.toNat cz=cz:=by
   unfold fmt0
   rw [List.getD_eq_getElem?_getD,List.getElem?_replicate]
   split <;> rfl
  rw [this]
  rfl
structure Holds (d:Dk) (n:Int) (F:Int→List UInt8):Prop where
 len:(d.cells.length:Int)=n
 cache:d.cache=[]
 cell:∀ a:Int,0≤a→a<n→(d.cells.getD a.toNat cz).state=0∧(d.cells.getD a.toNat cz).bytes=F a
theorem Holds.got {d:Dk} {n:Int} {F:Int→List UInt8} (h:Holds d n F) {a:Int} (h0:0≤a) (h1:a<n):gotG d a=⟨0,F a⟩:=by
 obtain⟨e1,e2⟩:=h.cell a h0 h1
 have hg:d.got a=((d.cells.getD a.toNat cz).bytes,0):=by
  unfold Dk.got
  rw [h.cache]
  simp only [lastW_nil]
  rw [show (d.cells.getD a.toNat ⟨0, [], []⟩)=d.cells.getD a.toNat cz from rfl,if_pos e1]
 rw [gotG,hg,e2]
theorem fmt_holds {g:Geo} {s:ByteArray} (hg:okG g=true):Holds (fmtD g s) (cellsN g) (fmtF g s):=by
 have hc:=cells_ge hg
 obtain⟨g1,g2,g3,g4,g5⟩:=okG_iff.1 hg
 refine⟨?_,rfl,fun a h0 h1=>by rw [fmt_cell hg h0 h1];exact⟨rfl,rfl⟩⟩
 show ((fmt3 g s g.z.toNat).length:Int)=_
 rw [fmt3_len]
 omega
def saysN (g:Geo) (x:Gt) (addr:Int):Option An:=
 if x.err=0∧openE x.bytes=0∧secAddr x.bytes=addr then
  match readA g (secPay x.bytes) with
  | some a=>if a.gen=secStamp x.bytes then some a else none
  | none=>none
 else none
theorem an0_tpv (e:Value):∀ (c:Ctx) (v:Value),Rd (.tp [.ag [.v (.int .i64 0), .v (.int .i64 0), .v (.int .i64 0), .v (.int .i64 0), .v (.int .i64 0), .v (.string ⟨#[]⟩), .v (.slice none 0 0)], .v e]) c v→Rd (.tp [.ag (anC an0), .v e]) c v:=
 tp_sub (m:= [.ag (anC an0), .v e]) ⟨ag_sub an0_sub,fun _ _ h=>h,trivial⟩
theorem secPay_len (b:List UInt8):(secPay b).length≤b.length:=by simp [secPay];omega
set_option maxRecDepth 100000 in
theorem nsays_fn (g:Geo) (x:Gt) (addr:Int) (hg:okG g=true) (hx:x.bytes.length≤100000) (ha:0≤addr∧addr≤65535):Fn Tryz.prog 168 [.ag (geoC g), .ag (gotC x), .v (.int .i64 addr)] fun r=>r = .tp [.ag (anC ((saysN g x addr).getD an0)), .v (.bool (saysN g x addr).isSome)]:=by
 have hG:Fn Tryz.prog 46 [.ag (geoC g)] fun r=>r = .v (errV (okG g)):=gcheck_fn g.z g.d g.sp g.sl g.an
 rw [hg] at hG
 have ho:=sopen_fn x.bytes hx
 by_cases h1:x.err=0
 ·by_cases h2:openE x.bytes=0
  ·rw [if_pos h2,h2] at ho
   by_cases h3:secAddr x.bytes=addr
   ·have hr:=aread_fn g (secPay x.bytes) (by have:=secPay_len x.bytes;omega)
    have hS:saysN g x addr=match readA g (secPay x.bytes) with | some a=>if a.gen=secStamp x.bytes then some a else none | none=>none:=by rw [saysN,if_pos ⟨h1,h2,h3⟩]
    simp only [readAE,hg,if_true,Bool.true_eq_false,if_false] at hr
    cases hR:readA g (secPay x.bytes) with
    | none=>
     rw [hR] at hr hS
     rw [hS]
     refine Fn.of tys_ok Tryz.func168 rfl rfl (Nat.le_of_ble_eq_true rfl) ?_
     conv=>whnf
     repeat' (first | (refine boolK_intro (fun h=>?_) (fun h=>?_) <;> (try simp at h) <;> conv=>whnf) | (refine aDraw.seq tys_ok mixed (by kernel_rfl) ?_;conv=>whnf) | (refine aSeq.go ?_;conv=>whnf) | (refine Fn.closed (hG) rfl ?_;rintro _ rfl;conv=>whnf) | (refine Fn.closed (ho) rfl ?_;rintro _ rfl;conv=>whnf) | (refine Fn.closed (hr) rfl ?_;rintro _ rfl;conv=>whnf) | (refine And.intro (by omega) ?_;conv=>whnf))
     all_goals first | exact⟨_,an0_tpv _,rfl⟩ | (exfalso;first | omega | (simp_all;done) | (simp_all;omega))
    | some a=>
     rw [hR] at hr hS
     by_cases h4:a.gen=secStamp x.bytes
     ·have hS:saysN g x addr=some a:=hS.trans (if_pos h4)
      rw [hS]
      refine Fn.of tys_ok Tryz.func168 rfl rfl (Nat.le_of_ble_eq_true rfl) ?_
      conv=>whnf
      repeat' (first | (refine boolK_intro (fun h=>?_) (fun h=>?_) <;> (try simp at h) <;> conv=>whnf) | (refine aDraw.seq tys_ok mixed (by kernel_rfl) ?_;conv=>whnf) | (refine aSeq.go ?_;conv=>whnf) | (refine Fn.closed (hG) rfl ?_;rintro _ rfl;conv=>whnf) | (refine Fn.closed (ho) rfl ?_;rintro _ rfl;conv=>whnf) | (refine Fn.closed (hr) rfl ?_;rintro _ rfl;conv=>whnf) | (refine And.intro (by omega) ?_;conv=>whnf))
      all_goals first | exact⟨_,fun _ _ h=>h,rfl⟩ | (exfalso;first | omega | (simp_all;done) | (simp_all;omega))
     ·have hS:saysN g x addr=none:=hS.trans (if_neg h4)
      rw [hS]
      refine Fn.of tys_ok Tryz.func168 rfl rfl (Nat.le_of_ble_eq_true rfl) ?_
      conv=>whnf
      repeat' (first | (refine boolK_intro (fun h=>?_) (fun h=>?_) <;> (try simp at h) <;> conv=>whnf) | (refine aDraw.seq tys_ok mixed (by kernel_rfl) ?_;conv=>whnf) | (refine aSeq.go ?_;conv=>whnf) | (refine Fn.closed (hG) rfl ?_;rintro _ rfl;conv=>whnf) | (refine Fn.closed (ho) rfl ?_;rintro _ rfl;conv=>whnf) | (refine Fn.closed (hr) rfl ?_;rintro _ rfl;conv=>whnf) | (refine And.intro (by omega) ?_;conv=>whnf))
      all_goals first | exact⟨_,an0_tpv _,rfl⟩ | (exfalso;first | omega | (simp_all;done) | (simp_all;omega))
   ·have hS:saysN g x addr=none:=by rw [saysN,if_neg (fun h=>h3 h.2.2)]
    rw [hS]
    refine Fn.of tys_ok Tryz.func168 rfl rfl (Nat.le_of_ble_eq_true rfl) ?_
    conv=>whnf
    repeat' (first | (refine boolK_intro (fun h=>?_) (fun h=>?_) <;> (try simp at h) <;> conv=>whnf) | (refine aDraw.seq tys_ok mixed (by kernel_rfl) ?_;conv=>whnf) | (refine aSeq.go ?_;conv=>whnf) | (refine Fn.closed (hG) rfl ?_;rintro _ rfl;conv=>whnf) | (refine Fn.closed (ho) rfl ?_;rintro _ rfl;conv=>whnf) | (refine And.intro (by omega) ?_;conv=>whnf))
    all_goals first | exact⟨_,an0_tpv _,rfl⟩ | (exfalso;first | omega | (simp_all;done) | (simp_all;omega))
  ·have hS:saysN g x addr=none:=by rw [saysN,if_neg (fun h=>h2 h.2.1)]
   rw [if_neg h2] at ho
   obtain⟨e,he⟩:∃ e,openE x.bytes=e:=⟨_,rfl⟩
   rw [he] at ho h2
   rw [hS]
   refine Fn.of tys_ok Tryz.func168 rfl rfl (Nat.le_of_ble_eq_true rfl) ?_
   conv=>whnf
   repeat' (first | (refine boolK_intro (fun h=>?_) (fun h=>?_) <;> (try simp at h) <;> conv=>whnf) | (refine aDraw.seq tys_ok mixed (by kernel_rfl) ?_;conv=>whnf) | (refine aSeq.go ?_;conv=>whnf) | (refine Fn.closed (hG) rfl ?_;rintro _ rfl;conv=>whnf) | (refine Fn.closed (ho) rfl ?_;rintro _ rfl;conv=>whnf) | (refine And.intro (by omega) ?_;conv=>whnf))
   all_goals first | exact⟨_,an0_tpv _,rfl⟩ | (exfalso;first | omega | (simp_all;done) | (simp_all;omega))
 ·have hS:saysN g x addr=none:=by rw [saysN,if_neg (fun h=>h1 h.1)]
  rw [hS]
  refine Fn.of tys_ok Tryz.func168 rfl rfl (Nat.le_of_ble_eq_true rfl) ?_
  conv=>whnf
  repeat' (first | (refine boolK_intro (fun h=>?_) (fun h=>?_) <;> (try simp at h) <;> conv=>whnf) | (refine aDraw.seq tys_ok mixed (by kernel_rfl) ?_;conv=>whnf) | (refine aSeq.go ?_;conv=>whnf) | (refine Fn.closed (hG) rfl ?_;rintro _ rfl;conv=>whnf) | (refine And.intro (by omega) ?_;conv=>whnf))
  all_goals first | exact⟨_,an0_tpv _,rfl⟩ | (exfalso;first | omega | (simp_all;done) | (simp_all;omega))
theorem ConvH.subBox {H:List AB} (k:Nat) {t:TypeId} {cs cs':List AV} (hk:H[k]? = some (.box t cs)) (h:SubL cs cs'):ConvH H (H.set k (.box t cs')):=fun _ _ c hs=>
 ⟨c,rfl,hs.recell hk rfl fun⟨g,xs,h1,h2,h3,h4⟩=>⟨g,xs,h1,h2,h.rdl h3,h4⟩,Ext.refl c⟩
def pickS (g:Geo) (l:List Gt) (st:Option (An × Nat)) (i:Nat):Option (An × Nat):=
 match saysN g (l.getD i ⟨0, []⟩) (i:Nat) with
 | none=>st
 | some b=>match st with
  | none=>some (b,i)
  | some (a,j)=>if a.gen<b.gen then some (b,i) else some (a,j)
def pickK (g:Geo) (l:List Gt) (k:Nat):Option (An × Nat):=(List.range k).foldl (pickS g l) none
def pickN (g:Geo) (l:List Gt):Option (An × Nat):=pickK g l l.length
theorem pickK_succ (g:Geo) (l:List Gt) (k:Nat):pickK g l (k+1)=pickS g l (pickK g l k) k:=by rw [pickK,List.range_succ,List.foldl_append];rfl
def pkA (p:Option (An × Nat)):An:=match p with | some (a,_)=>a | none=>an0
def pkN (p:Option (An × Nat)):Nat:=match p with | some (_,i)=>i | none=>0
def pkE (p:Option (An × Nat)):Int:=match p with | some _=>0 | none=>11
set_option maxRecDepth 100000 in
theorem pick_fn (g:Geo) (l:List Gt) (hg:okG g=true) (hl:(l.length:Int)=g.an) (hb:∀ x∈l,x.bytes.length≤100000):Fn Tryz.prog 112 [.ag (geoC g),gotsA l] fun r=>r = .tp [.ag (anC (pkA (pickN g l))), .v (.int .i64 (pkN (pickN g l):Nat)), .v (.int .i64 (pkE (pickN g l)))]:=by
 have hG:Fn Tryz.prog 46 [.ag (geoC g)] fun r=>r = .v (errV (okG g)):=gcheck_fn g.z g.d g.sp g.sl g.an
 rw [hg] at hG
 obtain⟨g1,g2,g3,g4,g5⟩:=okG_iff.1 hg
 refine Fn.of tys_ok Tryz.func112 rfl rfl (Nat.le_of_ble_eq_true rfl) ?_
 conv=>whnf
 refine Fn.closed (hG) rfl ?_
 rintro _ rfl
 conv=>whnf
 refine boolI (fun hq=>absurd hl hq) (fun _=>?_)
 conv=>whnf
 refine aLoop.ruleRR Nat (fun k=>([(1,gotsA l),(2, .bp 0 0),(4, .bp 1 0),(5, .v (.int .i64 (pkN (pickK g l k):Nat))),(6, .v (.int .i64 (pkE (pickK g l k)))),(25,gotsA l),(26, .v (.int .i64 l.length)),(27, .v (.int .i64 k))], [.box 23 (geoC g), .box 40 (anC (pkA (pickK g l k)))])) (fun k=>k≤l.length) (fun k=>l.length - k) 0 (Nat.zero_le _)
  (WkN.rc (ConvF.ofH (ConvH.subBox 1 rfl an0_sub)) (s:= [0,1]) ⟨⟨rfl,rfl,rfl,rfl,rfl,rfl,rfl,rfl,trivial⟩,⟨rfl,rfl,trivial⟩,rfl,rfl,rfl,rfl,rfl⟩) ?_
 intro k hk
 have hsucc:=pickK_succ g l k
 conv=>whnf
 refine boolI (fun h6=>?_) (fun h6=>?_) <;> (repeat rw [Int.toNat_natCast] at h6) <;> conv=>whnf
 ·have hk':k<l.length:=by omega
  have hx:=hb _ (getD_mem (d:=(⟨0, []⟩:Gt)) hk')
  have h1:=ganchor_fn g k hg (by omega)
  have h2:=nsays_fn g (l.getD k ⟨0, []⟩) k hg hx (by omega)
  rw [pickS] at hsucc
  repeat' (first | (refine aSeq.go ?_;conv=>whnf) | fail)
  refine And.intro ⟨by omega,by omega⟩ ?_
  conv=>whnf
  repeat' (first | (refine aSeq.go ?_;conv=>whnf) | fail)
  refine Fn.closed (h1) rfl ?_
  rintro _ rfl
  conv=>whnf
  rw [Int.toNat_natCast]
  refine Fn.closed (h2) rfl ?_
  rintro _ rfl
  conv=>whnf
  generalize saysN g (l.getD k ⟨0, []⟩) (k:Nat)=S at hsucc ⊢
  generalize pickK g l k=P at hsucc ⊢
  cases S with
  | none=>
   conv=>whnf
   repeat' (first | (refine aSeq.go ?_;conv=>whnf) | fail)
   refine⟨k+1,hk',by omega,?_⟩
   rw [show pickK g l (k+1)=P from hsucc]
   exact WkN.r (s:= [0,1]) ⟨⟨rfl,rfl,rfl,rfl,rfl,rfl,rfl,wsucc (by omega),trivial⟩,⟨rfl,rfl,trivial⟩,rfl,rfl,rfl,rfl,rfl⟩
  | some b=>
   cases P with
   | none=>
    conv=>whnf
    repeat' (first | (refine aSeq.go ?_;conv=>whnf) | fail)
    refine⟨k+1,hk',by omega,?_⟩
    rw [show pickK g l (k+1)=some (b,k) from hsucc]
    exact WkN.r (s:= [0,1]) ⟨⟨rfl,rfl,rfl,rfl,rfl,rfl,rfl,wsucc (by omega),trivial⟩,⟨rfl,rfl,trivial⟩,rfl,rfl,rfl,rfl,rfl⟩
   | some q=>
    obtain⟨a,j⟩:=q
    by_cases h5:a.gen<b.gen
    ·have e:pickK g l (k+1)=some (b,k):=hsucc.trans (if_pos h5)
     conv=>whnf
     refine boolI (fun h7=>?_) (fun h7=>absurd h5 (Int.not_lt.2 (show b.gen≤a.gen from h7)))
     conv=>whnf
     repeat' (first | (refine aSeq.go ?_;conv=>whnf) | fail)
     refine⟨k+1,hk',by omega,?_⟩
     rw [e]
     exact WkN.r (s:= [0,1]) ⟨⟨rfl,rfl,rfl,rfl,rfl,rfl,rfl,wsucc (by omega),trivial⟩,⟨rfl,rfl,trivial⟩,rfl,rfl,rfl,rfl,rfl⟩
    ·have e:pickK g l (k+1)=some (a,j):=hsucc.trans (if_neg h5)
     conv=>whnf
     refine boolI (fun h7=>absurd (show a.gen<b.gen from h7) h5) (fun h7=>?_)
     conv=>whnf
     repeat' (first | (refine aSeq.go ?_;conv=>whnf) | fail)
     refine⟨k+1,hk',by omega,?_⟩
     rw [e]
     exact WkN.r (s:= [0,1]) ⟨⟨rfl,rfl,rfl,rfl,rfl,rfl,rfl,wsucc (by omega),trivial⟩,⟨rfl,rfl,trivial⟩,rfl,rfl,rfl,rfl,rfl⟩
 ·have ek:k=l.length:=by omega
  subst ek
  exact⟨_,fun _ _ h=>h,rfl⟩
theorem tx_ext {x y:Tx} (h1:x.seq=y.seq) (h2:x.pos=y.pos) (h3:x.n=y.n) (h4:x.images=y.images):x=y:=by
 cases x;cases y;simp_all
theorem txns_fn (l m:List Tx) (hl:l.length≤1000000000) (hb:∀ t∈l,t.images.length≤1000000000∧∀ x∈t.images,x.bytes.length≤100000000000):Fn Tryz.prog 18 [txsA l,txsA m] fun r=>r = .v (.bool (decide (l=m))):=by
 refine Fn.of tys_ok Tryz.func18 rfl rfl (Nat.le_of_ble_eq_true rfl) ?_
 conv=>whnf
 refine boolI (fun h=>?_) (fun h=>?_) <;> (repeat rw [Int.toNat_natCast] at h) <;> conv=>whnf
 ·exact⟨_,fun _ _ h=>h,by rw [decide_eq_false (fun e=>h (by rw [e]))]⟩
 refine aLoop.rule Nat (fun k=>([(0,txsA l),(1,txsA m),(5, .v (.int .i64 k))], [])) (fun k=>k≤l.length∧l.take k=m.take k) (fun k=>l.length - k) 0 ⟨Nat.zero_le _,by simp⟩ ⟨[],trivial,⟨rfl,rfl,rfl,trivial⟩,trivial,rfl,rfl,rfl⟩ ?_
 rintro k ⟨hk,hI⟩
 conv=>whnf
 refine boolI (fun h2=>?_) (fun h2=>?_) <;> (repeat rw [Int.toNat_natCast] at h2) <;> conv=>whnf
 ·have hm:=hb _ (getD_mem (d:=⟨0,0,0, []⟩) (show k<l.length by omega))
  refine aDraw.seq tys_ok mixed (by kernel_rfl) ?_
  conv=>whnf
  repeat' (first | (refine aSeq.go ?_;conv=>whnf) | (refine boolI (fun _=>?_) (fun _=>?_) <;> conv=>whnf) | (refine Fn.closed (images_fn (l.getD k ⟨0,0,0, []⟩).images (m.getD k ⟨0,0,0, []⟩).images hm.1 hm.2) rfl ?_;rintro _ rfl;conv=>whnf) | (refine And.intro (by first | omega | exact of_decide_eq_true rfl) ?_;conv=>whnf) | fail)
  all_goals first
   | exact⟨_,fun _ _ h=>h,by rw [decide_eq_false (ne_of_getD (fun e=>absurd (congrArg Tx.seq e) ‹_›))]⟩
   | exact⟨_,fun _ _ h=>h,by rw [decide_eq_false (ne_of_getD (fun e=>absurd (congrArg Tx.pos e) ‹_›))]⟩
   | exact⟨_,fun _ _ h=>h,by rw [decide_eq_false (ne_of_getD (fun e=>absurd (congrArg Tx.n e) ‹_›))]⟩
   | exact⟨_,fun _ _ h=>h,by rw [decide_eq_false (ne_of_getD (fun e=>absurd (congrArg Tx.images e) ‹_›))]⟩
   | exact⟨k+1,⟨by omega,take_succ_eq hI (by omega) (by omega) (tx_ext ‹_› ‹_› ‹_› ‹_›)⟩,by omega,⟨[],trivial,⟨rfl,rfl,wsucc (by omega),trivial⟩,trivial,rfl,rfl,rfl⟩⟩
 ·exact⟨_,fun _ _ h=>h,by rw [decide_eq_true (eq_of_take hI (by omega) (by omega))]⟩


end Go.Proofs.YtldngmdpiifamaaGreatDoor.A
end
section
namespace Go.Proofs.YtldngmdpiifamaaGreatDoor
open Go.ChangeShapes Go.WideShapes Go.ChangeAt Go.RowKit Go.Deep
variable {H:Type} {enc:TypeId × Value→H}

theorem spot_none {w:World} {a:Addr} {u:Value} (h:w.cell? a=some u):a.spot=none:=by
 unfold World.cell? at h
 split at h
 ·split at h
  ·cases h
  ·rename_i hn
   cases hs:a.spot with
   | none=>rfl
   | some x=>rw [hs] at hn;exact absurd rfl hn
 ·cases h

theorem int_max {k:Int} (h:(Lit.int .i64 k).wf=true):k≤9223372036854775807:=by
 have h2:IntKind.i64.min≤k∧k≤IntKind.i64.max:=by
  simp only [Lit.wf,Bool.and_eq_true,decide_eq_true_eq] at h
  exact h
 have e2:IntKind.i64.max=9223372036854775807:=by decide
 omega
theorem int_min {k:Int} (h:(Lit.int .i64 k).wf=true) : -9223372036854775808≤k:=by
 have h2:IntKind.i64.min≤k∧k≤IntKind.i64.max:=by
  simp only [Lit.wf,Bool.and_eq_true,decide_eq_true_eq] at h
  exact h
 have e2:IntKind.i64.min = -9223372036854775808:=by decide
 omega
theorem u8_wf {k:Int} (h:(Lit.int .u8 k).wf=true):∃ x:UInt8,k=x.toNat:=by
 have h2:0≤k∧k<256:=by
  simp only [Lit.wf,Bool.and_eq_true,decide_eq_true_eq] at h
  have e1:IntKind.u8.min=0:=by decide
  have e2:IntKind.u8.max=255:=by decide
  omega
 obtain⟨j,rfl⟩:=Int.eq_ofNat_of_zero_le h2.1
 exact⟨UInt8.ofNat j,by rw [UInt8.toNat_ofNat_of_lt' (show j<256 by omega)]⟩
instance:Rp Geo where
 sz:=5
 agg:=true
 pos:=by omega
 E:=fun _ _ cs g=>cs=[.int .i64 g.z, .int .i64 g.d, .int .i64 g.sp, .int .i64 g.sl, .int .i64 g.an]
 len:=fun h=>by rw [h];rfl
 one:=fun h u hu=>by rw [h] at hu;simp at hu;rcases hu with rfl | rfl | rfl | rfl | rfl <;> rfl
 mono:=fun _ h=>h
end Go.Proofs.YtldngmdpiifamaaGreatDoor
end
section
namespace Go.Proofs.YtldngmdpiifamaaGreatDoor.A
open Go.RowKit
def ctx0 (w:World):Ctx:={ w:=w,M:=noM,base:=w.heap.size,dom:=0,len:=fun _=>0,rho:=fun _=>undef }
theorem Fn.any {P:Program} {f:FuncId} {args:List AV} {a:AV} (h:Fn P f args fun r=>r=a) (w:World) (hg:globOk w) (us:List Value) (hr:RdL args (ctx0 w) us) :
  Calls P f us.toArray w fun e w'=>∃ v,e = .returned v∧Below w.heap.size w w'∧Rd a { ctx0 w with w:=w' } v:=by
 refine(h.calls (ctx0 w) us rfl (fun _ h=>h.elim) hg hr).mono ?_
 rintro e w' ⟨v,r,rfl,rfl,h1,h2⟩
 exact⟨v,rfl,h1,h2⟩
theorem Fn.anyV {P:Program} {f:FuncId} {args:List AV} {a:Value} (h:Fn P f args fun r=>r = .v a) (w:World) (hg:globOk w) (us:List Value) (hr:RdL args (ctx0 w) us) :
  Calls P f us.toArray w fun e w'=>e = .returned a∧Below w.heap.size w w':=by
 refine(h.any w hg us hr).mono ?_
 rintro e w' ⟨v,rfl,h1,h2⟩
 simp only [Rd] at h2
 exact⟨by rw [h2],h1⟩
end Go.Proofs.YtldngmdpiifamaaGreatDoor.A
end
section
namespace Go.Proofs.YtldngmdpiifamaaGreatDoor.A
open Go.RowKit Go.ChangeShapes Go.WideShapes Go.ChangeAt Go.Deep
open Go.ChangeMaps (open_string)

section
variable {H:Type} {enc:TypeId × Value→H} {w:World}
def OpenE (enc:TypeId × Value→H) (w:World) (t:TypeId) (sz:Nat) (G:List AV→Prop):Prop:=
 Tryz.prog.cellsOf t=sz∧∀ n cs x,DataW.trod enc Tryz.prog w 0 (fun _=>true) true n t cs=some x→∃ L,G L∧RdL L (ctx0 w) cs∧(∀ u∈cs,u.oneCell'=true)∧L.length=sz
theorem OpenE.mono {t sz:Nat} {G G':List AV→Prop} (h:OpenE enc w t sz G) (hg:∀ L,G L→G' L):OpenE enc w t sz G':=
 ⟨h.1,fun n cs x hx=>let ⟨L,h1,h2⟩:=h.2 n cs x hx;⟨L,hg L h1,h2⟩⟩
def gInt (L:List AV):Prop:=∃ k:Int,L=[.v (.int .i64 k)]∧ -9223372036854775808≤k∧k≤9223372036854775807
theorem oe_int {t:Nat} (ht:Tryz.prog.underlying t=some (.int .i64)) (hc:Tryz.prog.cellsOf t=1):OpenE enc w t 1 gInt:=⟨hc,fun n cs x h=>by
 obtain⟨k,rfl, -,hw⟩:=DataW.trod_int ht h
 exact⟨_,⟨k,rfl,int_min hw,int_max hw⟩,by simp only [RdL,Rd];exact⟨_,_,rfl,rfl,rfl⟩,by simp [Value.oneCell'],rfl⟩⟩
def gSl {α:Type} (sz:Nat) (f:α→List AV) (d:α) (L:List AV):Prop:=∃ l:List α,L=[.sl sz l.length fun i=>f (l.getD i d)]
theorem oe_sl {α:Type} {t e sz:Nat} {f:α→List AV} {d:α} (ht:Tryz.prog.underlying t=some (.slice e)) (hc:Tryz.prog.cellsOf t=1) (hsz:0<sz) (he:OpenE enc w e sz fun L=>∃ a,L=f a):OpenE enc w t 1 (gSl sz f d):=⟨hc,fun n cs x h=>by
 have hnil:∀ (u:Value),Rd (.v (.slice none 0 0)) (ctx0 w) u→Rd (.sl sz ([]:List α).length fun i=>f (([]:List α).getD i d)) (ctx0 w) u:=fun u h=>by
  simp only [Rd] at h ⊢
  exact⟨none,0,h,by simp,by simp [maxLen], .inl rfl⟩
 rcases open_slice ht h with ⟨rfl, -⟩ | ⟨a,len,cap,m,n',D,Pl,rfl, -,hlc,hcm,hm, -,hel'⟩
 ·exact⟨_,⟨[],rfl⟩,by simp only [RdL];exact⟨_,_,rfl,hnil _ (by simp [Rd]),rfl⟩,by simp [Value.oneCell'],rfl⟩
 ·simp only [if_true] at hm
  subst hm
  obtain⟨b,off,spot⟩:=a
  by_cases h0:len=0
  ·subst h0
   refine⟨_,⟨[],rfl⟩,?_,by simp [Value.oneCell'],rfl⟩
   simp only [RdL,Rd]
   exact⟨_,_,rfl,⟨_,m,rfl,by simp,hcm, .inl rfl⟩,rfl⟩
  ·have hsp:spot=none:=by
    obtain⟨cs',hc',htr⟩:=hel' 0 (by omega)
    obtain⟨L,⟨a,rfl⟩,hR,h1,hl⟩:=he.2 n' cs' _ htr
    obtain⟨-,hl2,hcell⟩:=World.cells?_some hc'
    have hlen:=hR.length
    have:=hcell 0 (by rw [he.1];omega)
    rw [List.getElem?_eq_getElem (by omega)] at this
    simp only [Addr.add,Nat.zero_mul,if_true] at this
    exact spot_none this
   subst hsp
   have key:∀ i,i<len→∃ cs,∃ a:α,RdL (f a) (ctx0 w) cs∧(∀ u∈cs,u.oneCell'=true)∧(f a).length=sz∧∀ j u,cs[j]? = some u→w.cell? ⟨b,off+(i*sz+j),none⟩=some u:=fun i hi=>by
    obtain⟨cs',hc',htr⟩:=hel' i (by omega)
    obtain⟨L,⟨a,rfl⟩,hR,h1,hl⟩:=he.2 n' cs' _ htr
    refine⟨cs',a,hR,h1,hl,fun j u hu=>?_⟩
    obtain⟨-,hl2,hcell⟩:=World.cells?_some hc'
    have hj:j<Tryz.prog.cellsOf e:=by rw [←hl2];exact(List.getElem?_eq_some_iff.1 hu).1
    have h3:=(hcell j hj).trans hu
    rw [he.1,Addr.add_lit,Addr.add_lit,Nat.add_assoc] at h3
    exact h3
   have hex:∀ k,k≤len→∃ l:List α,l.length=k∧∀ i,i<k→(f (l.getD i d)).length=sz∧RdAt (f (l.getD i d)) (ctx0 w) b (off+i*sz):=by
    intro k
    induction k with
    | zero=>exact fun _=>⟨[],rfl,fun i hi=>absurd hi (Nat.not_lt_zero i)⟩
    | succ k ih=>
     intro hk
     obtain⟨l,hl,hr⟩:=ih (by omega)
     obtain⟨cs',a,hR,h1,hla,h2⟩:=key k (by omega)
     refine⟨l ++ [a],by simp [hl],fun i hi=>?_⟩
     by_cases hik:i<k
     ·have e:(l ++ [a]).getD i d=l.getD i d:=by rw [List.getD_eq_getElem?_getD,List.getD_eq_getElem?_getD,List.getElem?_append_left (by omega)]
      rw [e]
      exact hr i hik
     ·have e2:i=k:=by omega
      subst e2
      have e:(l ++ [a]).getD i d=a:=by rw [List.getD_eq_getElem?_getD,List.getElem?_append_right (by omega),hl];simp
      rw [e]
      refine⟨hla,RdAt.of hR h1 fun j u hu=>?_⟩
      have:=h2 j u hu
      rw [Nat.add_assoc]
      exact this
   obtain⟨l,hl,hr⟩:=hex len (Nat.le_refl _)
   refine⟨_,⟨l,rfl⟩,?_,by simp [Value.oneCell'],rfl⟩
   simp only [RdL,Rd]
   refine⟨_,_,rfl,⟨_,m,by rw [hl],by omega,hcm, .inr ⟨b,off,rfl,fun h=>h,?_,fun i hi=>hr i (by omega)⟩⟩,rfl⟩
   obtain⟨cs',a,hR,h1,hla,h2⟩:=key 0 (by omega)
   have hlen:=hR.length
   have h3:=h2 0 cs'[0] (List.getElem?_eq_getElem (by omega))
   exact World.block_lt_of_cell? _ _ h3⟩
def catG:List (List AV→Prop)→List AV→Prop
 | [],L=>L=[]
 | G::r,L=>∃ A B,L=A ++ B∧G A∧catG r B
structure FieldE (enc:TypeId × Value→H) (w:World) where
 t:TypeId
 sz:Nat
 G:List AV→Prop
 ok:OpenE enc w t sz G
theorem oe_fields {n:Nat} {cs:List Value}:∀ (fs:List (FieldE enc w)) (off:Nat),off+(fs.map (·.sz)).sum=cs.length→
  (∀ i f,fs[i]? = some f→∃ x,DataW.trod enc Tryz.prog w 0 (fun _=>true) true n f.t ((cs.drop (off+((fs.take i).map (·.sz)).sum)).take f.sz)=some x)→
  ∃ L,catG (fs.map (·.G)) L∧RdL L (ctx0 w) (cs.drop off)∧(∀ u∈cs.drop off,u.oneCell'=true)∧L.length=(fs.map (·.sz)).sum
 | [],off,hl,_=>⟨[],rfl,by simp only [RdL];exact List.drop_eq_nil_of_le (by simp at hl;omega),by rw [List.drop_eq_nil_of_le (by simp at hl;omega)];simp,rfl⟩
 | f::r,off,hl,h=>by
  simp only [List.map_cons,List.sum_cons] at hl ⊢
  obtain⟨x,hx⟩:=h 0 f rfl
  simp only [List.take_zero,List.map_nil,List.sum_nil,Nat.add_zero] at hx
  obtain⟨A,hA,hRA,h1A,hlA⟩:=f.ok.2 _ _ _ hx
  obtain⟨B,hB,hRB,h1B,hlB⟩:=oe_fields (cs:=cs) r (off+f.sz) (by omega) (fun i g hg=>by
   obtain⟨y,hy⟩:=h (i+1) g (by simpa using hg)
   refine⟨y,?_⟩
   simp only [List.take_succ_cons,List.map_cons,List.sum_cons] at hy
   rw [Nat.add_assoc]
   exact hy)
  have e:cs.drop off=(cs.drop off).take f.sz ++ cs.drop (off+f.sz):=by rw [←List.drop_drop,List.take_append_drop]
  refine⟨A ++ B,⟨A,B,rfl,hA,hB⟩,?_,?_,by simp [hlA,hlB]⟩
  ·rw [e];exact hRA.append hRB
  ·intro u hu
   rw [e,List.mem_append] at hu
   exact hu.elim (h1A u) (h1B u)
theorem oe_struct {t:Nat} (fs:List (FieldE enc w)) {F:Array Field} (ht:Tryz.prog.underlying t=some (.struct F)) (hc:Tryz.prog.cellsOf t=(fs.map (·.sz)).sum)
  (hF:F.toList.map (fun f=>(f.type,f.offset))=fs.zipIdx.map fun p=>(p.1.t,((fs.take p.2).map (·.sz)).sum)):OpenE enc w t (fs.map (·.sz)).sum (catG (fs.map (·.G))):=⟨hc,fun n cs x h=>by
 obtain⟨xs,n',_,rfl,hl,hlen,hf⟩:=DataW.trod_struct ht h
 have hsz:F.size=fs.length:=by have:=congrArg List.length hF;simpa using this
 obtain⟨L,h1,h2,h3,h4⟩:=oe_fields (n:=n') (cs:=cs) fs 0 (by rw [hl,hc];omega) (fun i f hi=>by
  have hi':i<fs.length:=(List.getElem?_eq_some_iff.1 hi).1
  have hFi:F[i]? = some F[i]:=Array.getElem?_eq_getElem (by omega)
  have hx:=hf i F[i] hFi
  have he:(F[i].type,F[i].offset)=(f.t,((fs.take i).map (·.sz)).sum):=by
   have:=congrArg (fun l=>l[i]?) hF
   simp only [List.getElem?_map,List.getElem?_zipIdx,hi,Array.getElem?_toList,hFi,Option.map_some,Nat.zero_add,Option.some.injEq] at this
   exact this
  injection he with e1 e2
  rw [e1,e2,f.ok.1] at hx
  rw [List.getElem?_eq_getElem (by omega)] at hx
  rw [Nat.zero_add]
  exact⟨_,hx⟩)
 exact⟨L,h1,by simpa using h2,by simpa using h3,h4⟩⟩
end
section
variable {H:Type} {enc:TypeId × Value→H} {w:World}
theorem oI:OpenE enc w 3 1 gInt:=oe_int Tryz.underlying3 (by kernel_rfl)
def gIs (L:List AV):Prop:=∃ b:List Int,L=[iA b]
theorem oIs:OpenE enc w 24 1 gIs:=
 (oe_sl (α:=Int) (sz:=1) (f:=fun k=> [.v (.int .i64 k)]) (d:=0) Tryz.underlying24 (by kernel_rfl) (by decide) (oI.mono fun _ ⟨k,h,_⟩=>⟨k,h⟩)).mono fun L ⟨l,h⟩=>⟨l,h⟩
def fI:FieldE enc w:=⟨_,_,_,oI⟩
theorem oGeo:OpenE enc w 23 5 fun L=>∃ x,L=geoC x:=
 (oe_struct [fI,fI,fI,fI,fI] Tryz.underlying23 (by kernel_rfl) (by kernel_rfl)).mono fun L h=>by
  obtain⟨_,_,rfl,⟨a,rfl,_⟩,_,_,rfl,⟨b,rfl,_⟩,_,_,rfl,⟨c,rfl,_⟩,_,_,rfl,⟨d,rfl,_⟩,_,_,rfl,⟨e,rfl,_⟩,rfl⟩:=h
  exact⟨⟨a,b,c,d,e⟩,rfl⟩
def arrC (l:List Int):List AV:=l.map fun k=> .v (.int .i64 k)
theorem cat_ints:∀ (n:Nat) {L:List AV},catG (List.replicate n gInt) L→∃ l:List Int,l.length=n∧L=arrC l∧∀ k∈l, -9223372036854775808≤k∧k≤9223372036854775807
 | 0,L,h=>⟨[],rfl,h,by simp⟩
 | n+1,L,h=>by
  obtain⟨A,B,rfl,⟨k,rfl,hk⟩,hB⟩:=h
  obtain⟨l,h1,rfl,h2⟩:=cat_ints n hB
  refine⟨k::l,by simp [h1],rfl,fun x hx=>?_⟩
  rcases List.mem_cons.1 hx with rfl | hx
  ·exact hk
  ·exact h2 x hx
theorem oe_arr {t n:Nat} (ht:Tryz.prog.underlying t=some (.array n 3)) (hc:Tryz.prog.cellsOf t=n):OpenE enc w t n fun L=>∃ l:List Int,l.length=n∧L=arrC l∧∀ k∈l, -9223372036854775808≤k∧k≤9223372036854775807:=⟨hc,fun m cs x h=>by
 obtain⟨xs,m',_,rfl,hl,hlen,hel⟩:=DataW.trod_array ht h
 have hs:((List.replicate n (fI:FieldE enc w)).map (·.sz)).sum=n:=by
  rw [List.map_replicate,List.sum_replicate_nat]
  exact Nat.mul_one n
 obtain⟨L,h1,h2,h3,h4⟩:=oe_fields (n:=m') (cs:=cs) (List.replicate n (fI:FieldE enc w)) 0 (by rw [hl,hc,hs];omega) (fun i f hi=>by
  have hin:i<n:=by simpa using (List.getElem?_eq_some_iff.1 hi).1
  rw [List.getElem?_replicate_of_lt hin] at hi
  have hi:=(Option.some.inj hi).symm
  subst hi
  have:=hel i hin
  rw [(oI (enc:=enc) (w:=w)).1,List.getElem?_eq_getElem (by omega)] at this
  refine⟨_,Eq.trans ?_ this⟩
  have e:((List.take i (List.replicate n (fI:FieldE enc w))).map (·.sz)).sum=i*1:=by
   rw [List.take_replicate,List.map_replicate,List.sum_replicate_nat,Nat.min_eq_left (by omega)]
   rfl
  rw [e,Nat.zero_add]
  rfl)
 rw [List.map_replicate] at h1
 obtain⟨l,q1,q2,q3⟩:=cat_ints n h1
 exact⟨L,⟨l,q1,q2,q3⟩,by simpa using h2,by simpa using h3,by rw [h4,hs]⟩⟩

theorem arg_one {t:Nat} {G:List AV→Prop} {v:Value} {d:DataW H} {ps:List MemPlace} (ho:OpenE enc w t 1 G) (hv:v.cells.toList=[v]) (h:DataW.Trod enc Tryz.prog w 0 (fun _=>true) true t v d ps):∃ L,G L∧RdL L (ctx0 w) [v]:=by
 obtain⟨n,hn⟩:=h
 obtain⟨L,h1,h2,_⟩:=ho.2 n _ _ hn
 rw [hv] at h2
 exact⟨L,h1,h2⟩
theorem arg_agg {t sz:Nat} {G:List AV→Prop} {cs:Array Value} {d:DataW H} {ps:List MemPlace} (ho:OpenE enc w t sz G) (h:DataW.Trod enc Tryz.prog w 0 (fun _=>true) true t (.agg cs) d ps):∃ L,G L∧Rd (.ag L) (ctx0 w) (.agg cs):=by
 obtain⟨n,hn⟩:=h
 obtain⟨L,h1,h2,_⟩:=ho.2 n _ _ hn
 refine⟨L,h1,?_⟩
 simp only [Rd]
 exact⟨cs.toList,rfl,h2⟩
theorem rdL_one {a:AV} {c:Ctx} {v:Value} (h:RdL [a] c [v]):Rd a c v:=by
 simp only [RdL] at h
 obtain⟨y,ys,e,h1,_⟩:=h
 injection e with e _
 subst e
 exact h1
end
end Go.Proofs.YtldngmdpiifamaaGreatDoor.A
end
section
namespace Go.Proofs.YtldngmdpiifamaaGreatDoor.A
open Go.RowKit
theorem saysR_none {g:Geo} {x:Gt} {copy slot:Int} (h:(okG g&&okL g copy slot)=false):saysR g x copy slot=none:=by
 unfold saysR
 rw [h]
 rfl
theorem saysR_ok {g:Geo} {x:Gt} {copy slot:Int} {r:Rc} (h:saysR g x copy slot=some r):okR g r=true∧okL g copy slot=true∧r.img.bytes.length≤59:=by
 unfold saysR at h
 split at h
 ·rename_i hc
  simp only [Bool.and_eq_true] at hc
  split at h
  ·rename_i r' hr
   split at h
   ·injection h with h
    subst h
    obtain⟨h1,h2⟩:=readR_some hr
    have h3:=recB_short h1
    have h4:=recB_len h1
    refine⟨h1,hc.1.1.1.2,?_⟩
    by_cases hk:r'.kind=1
    ·rw [if_pos hk] at h4
     omega
    ·have:r'.img.bytes.length=0:=by
      unfold okR behOk at h1
      simp only [Bool.and_eq_true] at h1
      have h5:=h1.2
      split at h5
      ·simp only [noneB,Bool.and_eq_true,beq_iff_eq] at h5
       omega
      ·split at h5
       ·simp only [noneB,Bool.and_eq_true,beq_iff_eq] at h5
        omega
       ·cases h5
     omega
   ·cases h
  ·cases h
 ·cases h
theorem lookT_facts {p q:Option Rc} {b1 b2:Bool} {Q:Rc→Prop} (h1:b1=true→∃ r,p=some r∧Q r) (h2:b2=true→∃ r,q=some r∧Q r) :
  ((lookT p q b1 b2).2.2=1∧Q (lookT p q b1 b2).1∧(lookT p q b1 b2).2.1.length≤1∧∀ c∈(lookT p q b1 b2).2.1,c=0∨c=1)∨(((lookT p q b1 b2).2.2=2∨(lookT p q b1 b2).2.2=3)∧(lookT p q b1 b2).2.1=[]∧(lookT p q b1 b2).1=zeroC):=by
 unfold lookT
 cases b1 <;> cases b2
 ·by_cases h:(p.isSome || q.isSome)=true
  ·simp [h]
  ·simp [h]
 ·obtain⟨r,rfl,hr⟩:=h2 rfl
  exact .inl ⟨rfl,hr,by simp,by simp⟩
 ·obtain⟨r,rfl,hr⟩:=h1 rfl
  exact .inl ⟨rfl,hr,by simp,by simp⟩
 ·obtain⟨r,rfl,hr⟩:=h1 rfl
  exact .inl ⟨rfl,hr,by simp,by simp⟩
theorem one_says {g:Geo} {a:An} {x:Gt} {c slot seq at_ of_ left:Int} (h:oneO (saysR g x c slot) a seq at_ of_ left=true):∃ r,saysR g x c slot=some r∧okR g r=true∧r.img.bytes.length≤59∧isOne r a seq at_ of_ left=true:=by
 cases hp:saysR g x c slot with
 | none=>rw [hp] at h;cases h
 | some r=>
  rw [hp] at h
  obtain⟨e1, -,e3⟩:=saysR_ok hp
  exact⟨r,rfl,e1,e3,h⟩
theorem lookR_facts {g:Geo} {a:An} {x y:Gt} {slot seq at_ of_ left:Int} (hs:0≤slot∧slot<g.sl) :
  ((lookR g a x y slot seq at_ of_ left).2.2=1∧(okR g (lookR g a x y slot seq at_ of_ left).1=true∧(lookR g a x y slot seq at_ of_ left).1.img.bytes.length≤59∧isOne (lookR g a x y slot seq at_ of_ left).1 a seq at_ of_ left=true)∧(lookR g a x y slot seq at_ of_ left).2.1.length≤1∧∀ c∈(lookR g a x y slot seq at_ of_ left).2.1,okL g c slot=true)∨
  (((lookR g a x y slot seq at_ of_ left).2.2=2∨(lookR g a x y slot seq at_ of_ left).2.2=3)∧(lookR g a x y slot seq at_ of_ left).2.1=[]∧(lookR g a x y slot seq at_ of_ left).1=zeroC):=by
 have hi:inB slot 0 (g.sl - 1)=true:=inB_iff.2 (by omega)
 have o0:okL g 0 slot=true:=by rw [okL,hi];rfl
 have o1:okL g 1 slot=true:=by rw [okL,hi];rfl
 refine(lookT_facts (Q:=fun r=>okR g r=true∧r.img.bytes.length≤59∧isOne r a seq at_ of_ left=true) one_says one_says).imp (fun h=>⟨h.1,h.2.1,h.2.2.1,fun c hc=>?_⟩) id
 rcases h.2.2.2 c hc with rfl | rfl
 ·exact o0
 ·exact o1
def gz:Gt:=⟨0, []⟩
def slotM (g:Geo) (pos at_:Int):Int:=(IntKind.i64.wrap (pos+at_)).tmod g.sl
def recM (g:Geo) (a:An) (x y:List Gt) (pos seq left at_ of_:Int):Rc × Int × List Wr:=
 let s:=slotM g pos at_
 let q:=lookR g a (x.getD s.toNat gz) (y.getD s.toNat gz) s seq at_ of_ left
 (q.1,q.2.2,q.2.1.map fun c=>⟨logAt g c s,cellB g q.1 c s⟩)
def gatherM (look:Int→Rc × Int × List Wr):Nat→Int→Rc→List Img→List Wr→Int × List Img × List Wr
 | 0,_,r,im,w=>(1,if r.kind=1 then im ++ [r.img] else im,w)
 | f+1,at_,r,im,w=>
  let q:=look at_
  if q.2.1≠1 then (q.2.1, [], []) else gatherM look f (at_+1) q.1 (if r.kind=1 then im ++ [r.img] else im) (w ++ q.2.2)
def txnM (g:Geo) (a:An) (x y:List Gt) (pos seq left:Int):Int × Int × List Img × List Wr:=
 let q:=recM g a x y pos seq left 0 0
 if q.2.1≠1 then (q.2.1,0, [], []) else
  let t:=gatherM (fun k=>recM g a x y pos seq left k q.1.of_) (q.1.of_ - 1).toNat 1 q.1 [] q.2.2
  if t.1≠1 then (t.1,0, [], []) else (1,q.1.of_,t.2.1,t.2.2)
def scanL (g:Geo) (a:An) (x y:List Gt):Nat→Int→Int→Int→List Tx→List Wr→Option (List Tx × List Wr × Int)
 | 0,_,seq,_,l,w=>some (l,w,seq)
 | f+1,pos,seq,left,l,w=>
  if 0<left∧seq≤4294967295 then
   let t:=txnM g a x y pos seq left
   if t.1=3 then none else if t.1≠1 then some (l,w,seq)
   else scanL g a x y f ((pos+t.2.1).tmod g.sl) (seq+1) (left - t.2.1) (l ++ [⟨seq,pos,t.2.1,t.2.2.1⟩]) (w ++ t.2.2.2)
  else some (l,w,seq)
def damaged:Int:=12
def finM (a:An):Option (List Tx × List Wr × Int)→List Tx × List Wr × Int
 | none=>([], [],damaged)
 | some (l,w,seq)=>if seq - 1<a.last then ([], [],damaged) else (l,w,0)
theorem finM_pos {a:An} {l:List Tx} {w:List Wr} {seq:Int} (h:seq - 1<a.last):finM a (some (l,w,seq))=([], [],damaged):=if_pos h
theorem finM_neg {a:An} {l:List Tx} {w:List Wr} {seq:Int} (h:¬seq - 1<a.last):finM a (some (l,w,seq))=(l,w,0):=if_neg h
def scanM (g:Geo) (a:An) (x y:List Gt):List Tx × List Wr × Int:=finM a (scanL g a x y g.sl.toNat a.pos a.seq g.sl [] [])
theorem slotM_in {g:Geo} {pos at_:Int} (hg:okG g=true) (hp:0≤pos∧pos<g.sl) (hat:0≤at_∧at_≤1000):0≤slotM g pos at_∧slotM g pos at_<g.sl:=by
 obtain⟨h1,h2,h3,h4,h5⟩:=okG_iff.1 hg
 have hw:IntKind.i64.wrap (pos+at_)=pos+at_:=by rw [IntKind.wrap_i64];omega
 exact⟨Int.tmod_nonneg _ (by rw [hw];omega),Int.tmod_lt_of_pos _ (by omega)⟩
theorem recM_facts {g:Geo} {a:An} {x y:List Gt} {pos seq left at_ of_:Int} (hg:okG g=true) (hp:0≤pos∧pos<g.sl) (hat:0≤at_∧at_≤1000) :
  ((recM g a x y pos seq left at_ of_).2.1=1∧(okR g (recM g a x y pos seq left at_ of_).1=true∧(recM g a x y pos seq left at_ of_).1.img.bytes.length≤59∧isOne (recM g a x y pos seq left at_ of_).1 a seq at_ of_ left=true)∧(recM g a x y pos seq left at_ of_).2.2.length≤1)∨
  (((recM g a x y pos seq left at_ of_).2.1=2∨(recM g a x y pos seq left at_ of_).2.1=3)∧(recM g a x y pos seq left at_ of_).2.2=[]∧(recM g a x y pos seq left at_ of_).1=zeroC):=by
 refine(lookR_facts (a:=a) (x:=x.getD (slotM g pos at_).toNat gz) (y:=y.getD (slotM g pos at_).toNat gz) (seq:=seq) (at_:=at_) (of_:=of_) (left:=left) (slotM_in hg hp hat)).imp (fun h=>⟨h.1,h.2.1,?_⟩) (fun h=>⟨h.1,?_,h.2.2⟩)
 ·simp only [recM,List.length_map]
  exact h.2.2.1
 ·simp only [recM,h.2.1,List.map_nil]
theorem one_of {r:Rc} {g:Geo} {a:An} {seq at_ of_ left:Int} (hk:okR g r=true) (h:isOne r a seq at_ of_ left=true):2≤r.of_∧r.of_≤30∧r.at_=at_∧r.at_≤r.of_ - 1∧(of_=0→r.of_≤left)∧(of_≠0→r.of_=of_):=by
 have h:=of_decide_eq_true h
 unfold okR behOk at hk
 simp only [Bool.and_eq_true] at hk
 have h2:=hk.2
 rw [if_neg h.1] at h2
 split at h2
 ·simp only [numsB,Bool.and_eq_true,inB_iff] at h2
  refine⟨by omega,by omega,h.2.2.1,by omega,h.2.2.2.1,h.2.2.2.2.1⟩
 ·split at h2
  ·simp only [numsB,Bool.and_eq_true,inB_iff,beq_iff_eq] at h2
   refine⟨by omega,by omega,h.2.2.1,by omega,h.2.2.2.1,h.2.2.2.2.1⟩
  ·cases h2
@[reducible] def scC (g:Geo) (a:An) (x y:List Gt) (pos seq left:Int) (w:AV):List AV:=
 [.v (.int .i64 g.z), .v (.int .i64 g.d), .v (.int .i64 g.sp), .v (.int .i64 g.sl), .v (.int .i64 g.an), .v (.int .i64 a.gen), .v (.int .i64 a.epoch), .v (.int .i64 a.pos), .v (.int .i64 a.seq), .v (.int .i64 a.last), .v (.string a.label),hmsA a.homes,gotsA x,gotsA y, .v (.int .i64 pos), .v (.int .i64 seq), .v (.int .i64 left),w]
set_option maxRecDepth 100000 in
theorem record_fn (g:Geo) (a:An) (x y:List Gt) (pos seq left at_ of_:Int) (n:Nat) (W:List Wr) (hg:okG g=true) (ha:anOk g a=true) (hl:a.label.size≤1000000) (hh:a.homes.length≤1000000) (hx:x.length=g.sl) (hy:y.length=g.sl) (hxb:∀ z∈x,z.bytes.length≤100000) (hyb:∀ z∈y,z.bytes.length≤100000) (hp:0≤pos∧pos<g.sl) (hat:0≤at_∧at_≤1000) :
  ACalls Tryz.prog false 210 [.bp 0 0, .v (.int .i64 at_), .v (.int .i64 of_)] [.box 231 (scC g a x y pos seq left (.ow 1 n)), .row 130 2 (W.map wrC)]
   fun r H=>r = .tp [.ag (rcC (recM g a x y pos seq left at_ of_).1), .v (.int .i64 (recM g a x y pos seq left at_ of_).2.1), .ow 4 (recM g a x y pos seq left at_ of_).2.2.length]∧
    H=[.box 231 (scC g a x y pos seq left (.ow 1 n)), .row 130 2 (W.map wrC), .dead, .dead, .row 130 2 ((recM g a x y pos seq left at_ of_).2.2.map wrC)]:=by
 obtain⟨h1,h2,h3,h4,h5⟩:=okG_iff.1 hg
 refine ACalls.ofO tys_ok Tryz.func210 rfl rfl (by show 3≤_;decide) ?_
 conv=>whnf
 refine aDraw.seq tys_ok mixed (by kernel_rfl) ?_
 conv=>whnf
 refine And.intro (by omega) ?_
 conv=>whnf
 have hw:IntKind.i64.wrap (pos+at_)=pos+at_:=by rw [IntKind.wrap_i64];omega
 have hs:0≤slotM g pos at_∧slotM g pos at_<g.sl:=⟨Int.tmod_nonneg _ (by rw [hw];omega),Int.tmod_lt_of_pos _ (by omega)⟩
 have hs':0≤(IntKind.i64.wrap (pos+at_)).tmod g.sl∧(IntKind.i64.wrap (pos+at_)).tmod g.sl<g.sl:=hs
 have hX:(x.getD (slotM g pos at_).toNat gz).bytes.length≤100000:=hxb _ (getD_mem (by omega))
 have hY:(y.getD (slotM g pos at_).toNat gz).bytes.length≤100000:=hyb _ (getD_mem (by omega))
 have lk:=look_is (g:=g) (a:=a) (x:=x.getD (slotM g pos at_).toNat gz) (y:=y.getD (slotM g pos at_).toNat gz) (slot:=slotM g pos at_) (seq:=seq) (at_:=at_) (of_:=of_) (left:=left) hl hh hX hY hg ha (inB_iff.2 (by omega)) rfl
 have hF:=lookR_facts (g:=g) (a:=a) (x:=x.getD (slotM g pos at_).toNat gz) (y:=y.getD (slotM g pos at_).toNat gz) (slot:=slotM g pos at_) (seq:=seq) (at_:=at_) (of_:=of_) (left:=left) hs
 unfold recM
 simp only
 generalize lookR g a (x.getD (slotM g pos at_).toNat gz) (y.getD (slotM g pos at_).toNat gz) (slotM g pos at_) seq at_ of_ left=q at lk hF ⊢
 obtain⟨r,wants,how⟩:=q
 simp only at hF ⊢
 apply aDraw.tree tys_ok mixed (.one 0 (.one 1 (.one 2 (.one 3 (.one 4 (.one 5 (.one 6 (.one 7 (.one 8 (.one 9 (.one 10 (.one 11 (.one 12 (.one 13 (.one 14 (.one 15 (.one 16 (.one 17 (.one 18 (.one 19 (.one 20 (.one 21 (.one 22 (.one 23 (.one 24 (.one 25 (.one 26 (.one 27 (.one 28 (.one 29 (.one 30 (.one 31 (.one 32 (.two 33 (.one 34 (.one 35 (.one 36 (.one 37 (.one 38 (.one 39 (.one 40 (.one 41 (.one 42 (.one 43 .fin)))))))))) 39 (.one 33 (.one 34 (.one 35 (.one 36 (.one 37 (.one 38 (.one 40 (.one 41 (.one 42 (.one 43 .fin)))))))))))))))))))))))))))))))))))))))))))) [10,11,12,13,33,34,35,36,37,38,39,40,41,42,43,44,45,46,47,48,49,50,51,52,53,54,55,56,57,58,59,60,61,62,63,64,65,66,67,68,69,70,71] (by kernel_rfl)
 ·conv=>whnf
  try (refine And.intro (by first | omega | (simp;done)) ?_;conv=>whnf)
  try (refine And.intro (by first | omega | (simp;done)) ?_;conv=>whnf)
  refine And.intro ?_ ?_
  ·conv=>whnf
   refine Fn.closed (lk) rfl ?_
   rintro _ rfl
   conv=>whnf
   try (refine And.intro ⟨rfl,by first | rfl | (simp;done) | (simp;omega),by first | omega | (simp;omega)⟩ ?_;conv=>whnf)
   exact⟨rfl,rfl⟩
  ·conv=>whnf
   refine Fn.closed (lk) rfl ?_
   rintro _ rfl
   conv=>whnf
   try (refine And.intro ⟨rfl,by first | rfl | (simp;done) | (simp;omega),by first | omega | (simp;omega)⟩ ?_;conv=>whnf)
   exact⟨rfl,rfl⟩
 conv=>whnf
 refine aLoop.rule Nat (fun k=>([(0, .bp 0 0),(6, .bp 2 0),(9, .v (.int .i64 (slotM g pos at_))),(10, .bp 3 0),(12, .v (.int .i64 how)),(14, .ow 4 k),(72,iA wants),(73, .v (.int .i64 wants.length)),(74, .v (.int .i64 k))], [.box 231 (scC g a x y pos seq left (.ow 1 n)), .row 130 2 (W.map wrC), .box 85 [.v (.int .i64 0), .v (.int .i64 0), .v (.int .i64 0), .v (.int .i64 0), .v (.int .i64 0), .v (.int .i64 0), .v (.int .i64 0), .v (.slice none 0 0)], .box 85 (rcC r), .row 130 2 ((wants.take k).map fun c=>wrC ⟨logAt g c (slotM g pos at_),cellB g r c (slotM g pos at_)⟩)])) (fun k=>k≤wants.length) (fun k=>wants.length - k) 0 (Nat.zero_le _) ⟨[(14,130,2)],⟨rfl,rfl,trivial⟩,⟨rfl,rfl,rfl,rfl,rfl,rfl,rfl,rfl,rfl,trivial⟩,⟨rfl,rfl,rfl,rfl,rfl,trivial⟩,rfl,rfl,rfl⟩ ?_
 rintro k hk
 conv=>whnf
 refine boolI (fun h6=>?_) (fun h6=>?_) <;> (repeat rw [Int.toNat_natCast] at h6) <;> conv=>whnf
 ·rcases hF with ⟨rfl,⟨q1,q2,q3⟩,q4,q5⟩ | ⟨-,q4, -⟩
  ·have hc:=q5 (wants.getD k 0) (getD_mem (by omega))
   have lg:=log_fn g (wants.getD k 0) (slotM g pos at_)
   rw [hg,hc] at lg
   have rl:=rcell_fn g r (wants.getD k 0) (slotM g pos at_) (by omega)
   rw [q1,hc] at rl
   refine aSeq.go ?_
   conv=>whnf
   refine⟨by first | omega | (refine⟨rfl,?_,?_⟩ <;> first | omega | (simp only [List.length_map];done) | (simp only [List.length_map];omega)) | (simp only [List.length_map];omega),?_⟩
   conv=>whnf
   repeat' (first | (refine aSeq.go ?_;conv=>whnf) | (refine boolI (fun _=>?_) (fun _=>?_) <;> conv=>whnf) | (refine Fn.closed (lg) rfl ?_;rintro _ rfl;conv=>whnf) | (refine Fn.closed (rl) rfl ?_;rintro _ rfl;conv=>whnf) | (refine And.intro (by first | omega | exact of_decide_eq_true rfl) ?_;conv=>whnf) | fail)
   refine aDraw.seq tys_ok mixed (by kernel_rfl) ?_
   conv=>whnf
   repeat' (first | (refine aSeq.go ?_;conv=>whnf) | (refine boolI (fun _=>?_) (fun _=>?_) <;> conv=>whnf) | (refine Fn.closed (lg) rfl ?_;rintro _ rfl;conv=>whnf) | (refine Fn.closed (rl) rfl ?_;rintro _ rfl;conv=>whnf) | (refine And.intro (by first | omega | exact of_decide_eq_true rfl) ?_;conv=>whnf) | fail)
   refine And.intro ⟨by simp;omega,by omega⟩ ?_
   conv=>whnf
   exact⟨k+1,by omega,by omega, [],trivial,⟨rfl,rfl,rfl,rfl,rfl,rfl,rfl,rfl,wsucc (by omega),trivial⟩,⟨rfl,rfl,rfl,rfl,congrArg (AB.row _ _) (take_map_succ h6),trivial⟩,rfl,rfl,rfl⟩
  ·exfalso
   rw [q4] at h6
   simp at h6
 ·have ek:k=wants.length:=by omega
  subst ek
  rw [List.take_length]
  refine⟨.tp [.ag (rcC r), .v (.int .i64 how), .ow 4 (wants.map fun c=>(⟨logAt g c (slotM g pos at_),cellB g r c (slotM g pos at_)⟩:Wr)).length], [.box 231 (scC g a x y pos seq left (.ow 1 n)), .row 130 2 (W.map wrC), .dead, .dead, .row 130 2 ((wants.map fun c=>(⟨logAt g c (slotM g pos at_),cellB g r c (slotM g pos at_)⟩:Wr)).map wrC)],fun c v h=>?_,⟨rfl,rfl,?_,trivial⟩,rfl,⟨rfl,rfl⟩,rfl,rfl⟩
  ·rw [List.length_map]
   exact h
  ·rw [List.map_map]
   rfl
theorem clone_br (b:List UInt8) (hl:b.length≤1000000000):Fn Tryz.prog 102 [bA b] fun r=>r=bA b:=by
 refine⟨⟨_,Tryz.func102,rfl,by decide⟩,fun c0 us hd hM _ hr=>?_⟩
 obtain⟨u,rfl,h1⟩:=rd1 hr
 refine(bclone_any u b c0.w c0.M c0.M (toBytes h1) hl).mono ?_
 rintro e w' ⟨r,rfl,ho,hB⟩
 exact⟨_,_,rfl,rfl,hB,ofBytes (c:={ c0 with w:=w' }) (ho.sl fun b hb hm=>by have:=hM b hm;omega)⟩
theorem imgR_step' (seq epoch of_:Int) {k:Nat} {l:List Img} (hk:k<l.length):(imgR seq epoch of_ (k+1) l).map rcC=(imgR seq epoch of_ k l).map rcC ++ [rcC ⟨1,seq,epoch,(k:Nat),of_,l.getD k ⟨0,0, []⟩⟩]:=by
 rw [imgR_step seq epoch of_ hk,List.map_append,List.getD_eq_getElem?_getD,List.getElem?_eq_getElem hk];rfl

def lastC (seq epoch n:Int):List AV:= [.v (.int .i64 2), .v (.int .i64 seq), .v (.int .i64 epoch), .v (.int .i64 n), .v (.int .i64 (n+1)), .v (.int .i64 0), .v (.int .i64 0), .v (.slice none 0 0)]
theorem recs_sub (seq epoch:Int) (l:List Img) (i:Nat) (hi:i<l.length+1) :
  SubL ((List.map rcC (imgR seq epoch (l.length+1) l.length l) ++ [lastC seq epoch l.length]).getD i [])
   (rcC ((recsOf seq epoch l).getD i ⟨0,0,0,0,0,⟨0,0, []⟩⟩)):=by
 have hlk:(imgR seq epoch (l.length+1) l.length l).length=l.length:=by rw [imgR_len];omega
 rcases Nat.lt_or_ge i l.length with h | h
 ·have e1:(List.map rcC (imgR seq epoch (l.length+1) l.length l) ++ [lastC seq epoch l.length]).getD i []=rcC ((recsOf seq epoch l).getD i ⟨0,0,0,0,0,⟨0,0, []⟩⟩):=by
   unfold recsOf
   rw [getD_app (by rw [List.length_map,hlk];exact h),getD_app (by rw [hlk];exact h)]
   exact map_getD (by rw [hlk];exact h)
  rw [e1]
  exact SubL.refl _
 ·obtain rfl:i=l.length:=by omega
  unfold recsOf
  rw [getD_appR (by rw [List.length_map,hlk];omega),getD_appR (by rw [hlk];omega),List.length_map,hlk,Nat.sub_self]
  simp only [List.getD_cons_zero,rcC,noImg,lastC]
  exact⟨fun _ _ h=>h,fun _ _ h=>h,fun _ _ h=>h,fun _ _ h=>h,fun _ _ h=>h,fun _ _ h=>h,fun _ _ h=>h,nil_sl _ _,trivial⟩
theorem recsOf_len (seq epoch:Int) (l:List Img):(recsOf seq epoch l).length=l.length+1:=by
 unfold recsOf;rw [List.length_append,imgR_len];simp
theorem records_fn (seq epoch:Int) (l:List Img) (hl:l.length≤1000000) (hb:∀ x∈l,x.bytes.length≤1000000000):Fn Tryz.prog 43 [.v (.int .i64 seq), .v (.int .i64 epoch),imgsA l] fun r=>r=recsA (recsOf seq epoch l):=by
 refine Fn.of tys_ok Tryz.func43 rfl rfl (Nat.le_of_ble_eq_true rfl) ?_
 conv=>whnf
 refine aLoop.rule Nat (fun k=>([(0, .v (.int .i64 seq)),(1, .v (.int .i64 epoch)),(2,imgsA l),(7, .ow 0 k),(8, .v (.int .i64 k))], [.row 85 8 ((imgR seq epoch (l.length+1) k l).map rcC)])) (fun k=>k≤l.length) (fun k=>l.length - k) 0 (Nat.zero_le _) ⟨[(7,85,8)],⟨rfl,rfl,trivial⟩,⟨rfl,rfl,rfl,rfl,rfl,trivial⟩,⟨rfl,trivial⟩,rfl,rfl,rfl⟩ ?_
 rintro k hk
 have hlk:=imgR_len seq epoch (l.length+1) k l
 conv=>whnf
 refine boolK_intro (fun h2=>?_) (fun h2=>?_) <;> simp at h2 <;> conv=>whnf
 ·refine aDraw.seq tys_ok mixed (by kernel_rfl) ?_
  conv=>whnf
  refine⟨by first | omega | (refine⟨rfl,?_,?_⟩ <;> first | omega | (simp only [List.length_map];done) | (simp only [List.length_map];omega)) | (simp only [List.length_map];omega),?_⟩
  conv=>whnf
  refine⟨by first | omega | (refine⟨rfl,?_,?_⟩ <;> first | omega | (simp only [List.length_map];done) | (simp only [List.length_map];omega)) | (simp only [List.length_map];omega),?_⟩
  conv=>whnf
  refine⟨by first | omega | (refine⟨rfl,?_,?_⟩ <;> first | omega | (simp only [List.length_map];done) | (simp only [List.length_map];omega)) | (simp only [List.length_map];omega),?_⟩
  conv=>whnf
  refine Fn.closed (twin_fn (l.getD k ⟨0,0, []⟩).bytes (hb _ (getD_mem h2))) rfl ?_
  rintro _ rfl
  conv=>whnf
  refine⟨rfl,?_⟩
  conv=>whnf
  refine⟨⟨by rw [List.length_map,hlk];omega,by omega⟩,?_⟩
  conv=>whnf
  refine⟨k+1,by omega,by omega, [],trivial,⟨rfl,rfl,rfl,rfl,wsucc (by omega),trivial⟩,⟨rowEq ?_,trivial⟩,rfl,rfl,rfl⟩
  rw [imgR_step' _ _ _ h2,wi (by omega)]
  rfl
 ·obtain rfl:k=l.length:=by omega
  rw [wi (by omega)]
  refine⟨rfl,?_⟩
  conv=>whnf
  refine⟨⟨by rw [List.length_map,hlk];omega,by omega⟩,?_⟩
  conv=>whnf
  refine⟨by rw [List.length_append,List.length_map,hlk];simp,?_⟩
  conv=>whnf
  exact⟨recsA (recsOf seq epoch l),fun c v h=>Rd.sub (recsOf_len seq epoch l).symm (recs_sub seq epoch l) h,rfl⟩
theorem tx0_sub (k:Int) (c:Ctx) (u:Value) (h:Rd (.tp [.ag [.v (.int .i64 0), .v (.int .i64 0), .v (.int .i64 0), .v (.slice none 0 0)], .v (.int .i64 k)]) c u):Rd (.tp [.ag (txC ⟨0,0,0, []⟩), .v (.int .i64 k)]) c u:=by
 refine tp_sub ?_ c u h
 exact⟨ag_sub ⟨fun _ _ h=>h,fun _ _ h=>h,fun _ _ h=>h,nil_sl _ _,trivial⟩,fun _ _ h=>h,trivial⟩
theorem lt01 {m:Nat} (h:Nat.ble 2 m=true):∀ z∈ [0,1],z<m:=fun z hz=>by
 have:=Nat.le_of_ble_eq_true h
 simp at hz
 omega
set_option maxRecDepth 100000 in
theorem txn_fn18 (g:Geo) (a:An) (x y:List Gt) (pos seq left:Int) (n:Nat) (W:List Wr) (hn:n=W.length) (hW:W.length≤1000) (hg:okG g=true) (ha:anOk g a=true) (hl:a.label.size≤1000000) (hh:a.homes.length≤1000000) (hx:x.length=g.sl) (hy:y.length=g.sl) (hxb:∀ z∈x,z.bytes.length≤100000) (hyb:∀ z∈y,z.bytes.length≤100000) (hp:0≤pos∧pos<g.sl) (hs:0≤seq∧seq≤4294967295) (hlf:left≤g.sl) :
  ACalls Tryz.prog false 169 [.bp 0 0] [.box 231 (scC g a x y pos seq left (.ow 1 n)), .row 130 2 (W.map wrC)]
   fun r H=>r = .tp [.ag (txC (if (txnM g a x y pos seq left).1=1 then ⟨seq,pos,(txnM g a x y pos seq left).2.1,(txnM g a x y pos seq left).2.2.1⟩ else ⟨0,0,0, []⟩)), .v (.int .i64 (txnM g a x y pos seq left).1)]∧
    H=(if (txnM g a x y pos seq left).1=1 then [.box 231 (scC g a x y ((pos+(txnM g a x y pos seq left).2.1).tmod g.sl) (seq+1) (left - (txnM g a x y pos seq left).2.1) (.ow 1 (W ++ (txnM g a x y pos seq left).2.2.2).length)), .row 130 2 ((W ++ (txnM g a x y pos seq left).2.2.2).map wrC)] else [.box 231 (scC g a x y pos seq left (.ow 1 n)), .row 130 2 (W.map wrC)]):=by
 obtain⟨h1,h2,h3,h4,h5⟩:=okG_iff.1 hg
 have rc:=fun at_ of_ hat=>record_fn g a x y pos seq left at_ of_ n W hg ha hl hh hx hy hxb hyb hp hat
 have rf:=fun at_ of_ hat=>recM_facts (a:=a) (x:=x) (y:=y) (seq:=seq) (left:=left) (of_:=of_) (at_:=at_) hg hp hat
 have rc0:=rc 0 0 (by omega)
 have rf0:=rf 0 0 (by omega)
 unfold txnM
 simp only
 generalize recM g a x y pos seq left 0 0=q0 at rc0 rf0 ⊢
 obtain⟨r0,how0,ws0⟩:=q0
 simp only at rc0 rf0 ⊢
 rcases rf0 with ⟨rfl,⟨k1,k2,k3⟩,k4⟩ | ⟨k1,rfl,rfl⟩
 ·have hN:=one_of k1 k3
  have hw1:IntKind.i64.wrap (pos+r0.of_)=pos+r0.of_:=by rw [IntKind.wrap_i64];omega
  have hw2:IntKind.i64.wrap (seq+1)=seq+1:=by rw [IntKind.wrap_i64];omega
  have hw3:IntKind.i64.wrap (left - r0.of_)=left - r0.of_:=by have:=hN.2.2.2.2.1 rfl;rw [IntKind.wrap_i64];omega
  rw [if_neg (show ¬(1:Int)≠1 by decide)]
  generalize hG:gatherM (fun k=>recM g a x y pos seq left k r0.of_) (r0.of_ - 1).toNat 1 r0 [] ws0=G
  refine ACalls.of tys_ok Tryz.func169 rfl rfl (by show 1≤_;decide) ?_
  conv=>whnf
  refine ACalls.frame [0,1] rc0 rfl rfl rfl rfl (by decide) (lt01 rfl) ⟨rfl,rfl,trivial⟩ ?_
  rintro _ _ ⟨rfl,rfl⟩
  conv=>whnf
  refine aDraw.seq tys_ok mixed (by kernel_rfl) ?_
  conv=>whnf
  refine aLoop.rule (Nat × Rc × List Img × List Wr) (fun z=>([(0, .bp 0 0),(2, .bp 2 0),(3, .v (.int .i64 1)),(4, .bp 6 0),(5, .ow 5 z.2.2.2.length),(6, .v (.int .i64 z.1))], [.box 231 (scC g a x y pos seq left (.ow 1 n)), .row 130 2 (W.map wrC), .box 78 [.v (.int .i64 seq), .v (.int .i64 pos), .v (.int .i64 r0.of_), .ow 7 z.2.2.1.length], .dead, .dead, .row 130 2 (z.2.2.2.map wrC), .box 85 (rcC z.2.1), .row 83 3 (z.2.2.1.map imgC)]))
   (fun z=>(1≤z.1∧z.1≤r0.of_)∧(okR g z.2.1=true∧z.2.1.img.bytes.length≤59)∧(z.2.2.1.length≤z.1∧z.2.2.2.length≤z.1)∧gatherM (fun k=>recM g a x y pos seq left k r0.of_) (r0.of_ - z.1).toNat z.1 z.2.1 z.2.2.1 z.2.2.2=G)
   (fun z=>(r0.of_ - z.1).toNat) (1,r0, [],ws0) ⟨⟨Nat.le_refl 1,show ((1:Nat):Int)≤r0.of_ by omega⟩,⟨k1,k2⟩,⟨Nat.zero_le _,k4⟩,hG⟩ ⟨[(1002003,83,3)],⟨rfl,rfl,trivial⟩,⟨rfl,rfl,rfl,rfl,rfl,rfl,trivial⟩,⟨rfl,rfl,rfl,rfl,rfl,rfl,trivial⟩,rfl,rfl,rfl⟩ ?_
  rintro⟨k,r,im,w⟩ ⟨⟨b1,b2⟩,⟨b3,b4⟩,⟨b5,b6⟩,b7⟩
  dsimp only at b1 b2 b3 b4 b5 b6 b7 ⊢
  conv=>whnf
  refine aSeq.go ?_
  conv=>whnf
  refine aSeq.cut (List Img) (fun im2=>([(0, .bp 0 0),(2, .bp 2 0),(3, .v (.int .i64 1)),(4, .bp 6 0),(5, .ow 5 w.length),(6, .v (.int .i64 k))], [.box 231 (scC g a x y pos seq left (.ow 1 n)), .row 130 2 (W.map wrC), .box 78 [.v (.int .i64 seq), .v (.int .i64 pos), .v (.int .i64 r0.of_), .ow 7 im2.length], .dead, .dead, .row 130 2 (w.map wrC), .box 85 (rcC r), .row 83 3 (im2.map imgC)])) (fun im2=>im2=if r.kind=1 then im ++ [r.img] else im) ?_ ?_
  ·conv=>whnf
   refine boolI (fun hk=>?_) (fun hk=>?_) <;> (repeat rw [Int.toNat_natCast] at hk) <;> conv=>whnf
   ·repeat' (first | (refine aSeq.go ?_;conv=>whnf) | (refine boolI (fun _=>?_) (fun _=>?_) <;> conv=>whnf) | (refine Fn.closed (clone_br r.img.bytes (by omega)) rfl ?_;rintro _ rfl;conv=>whnf) | (refine And.intro (by first | omega | exact of_decide_eq_true rfl) ?_;conv=>whnf) | fail)
    refine And.intro ⟨by simp,by omega⟩ ?_
    conv=>whnf
    exact⟨im ++ [r.img],by rw [if_pos hk], [],trivial,⟨rfl,rfl,rfl,rfl,rfl,rfl,trivial⟩,⟨rfl,rfl,by rw [List.length_append];rfl,rfl,rfl,by rw [List.map_append];rfl,trivial⟩,rfl,rfl,rfl⟩
   ·exact⟨im,by rw [if_neg hk], [],trivial,⟨rfl,rfl,rfl,rfl,rfl,rfl,trivial⟩,⟨rfl,rfl,rfl,rfl,rfl,rfl,trivial⟩,rfl,rfl,rfl⟩
  ·rintro im2 him
   have hl2:im2.length≤k+1:=by
    rw [him]
    split
    ·rw [List.length_append]
     simp only [List.length_cons,List.length_nil]
     omega
    ·omega
   conv=>whnf
   refine boolI (fun hkN=>?_) (fun hkN=>?_) <;> (repeat rw [Int.toNat_natCast] at hkN) <;> conv=>whnf
   ·refine And.intro (by rw [List.length_map]) ?_
    conv=>whnf
    refine And.intro ⟨by rw [List.length_map];exact hn,by omega⟩ ?_
    conv=>whnf
    apply aDraw.treeM 235929600 tys_ok mixed (.one 0 (.one 1 (.one 2 (.one 3 (.one 4 (.one 5 (.one 6 (.one 7 (.one 8 (.one 9 (.one 10 (.one 11 (.one 12 (.one 13 (.one 14 (.one 15 (.one 16 (.one 17 (.one 18 (.one 19 (.one 21 (.one 22 (.one 23 (.one 24 (.one 28 (.one 29 (.three 20 (.two 25 (.two 26 (.two 27 (.one 30 (.one 31 (.one 32 (.one 33 (.one 34 (.one 35 (.one 36 .fin))))))) 30 (.one 31 (.one 32 (.two 27 (.one 33 (.one 34 (.one 35 (.one 36 .fin)))) 33 (.one 27 (.one 34 (.one 35 (.one 36 .fin)))))))) 30 (.one 31 (.one 32 (.two 26 (.two 27 (.one 33 (.one 34 (.one 35 (.one 36 .fin)))) 33 (.one 27 (.one 34 (.one 35 (.one 36 .fin))))) 33 (.one 26 (.one 27 (.one 34 (.one 35 (.one 36 .fin))))))))) 30 (.one 31 (.one 32 (.two 25 (.two 26 (.two 27 (.one 33 (.one 34 (.one 35 (.one 36 .fin)))) 33 (.one 27 (.one 34 (.one 35 (.one 36 .fin))))) 33 (.one 26 (.one 27 (.one 34 (.one 35 (.one 36 .fin)))))) 33 (.one 25 (.one 26 (.one 27 (.one 34 (.one 35 (.one 36 .fin)))))))))) 25 (.three 20 (.two 26 (.two 27 (.one 30 (.one 31 (.one 32 (.one 33 (.one 34 (.one 35 (.one 36 .fin))))))) 30 (.one 31 (.one 32 (.two 27 (.one 33 (.one 34 (.one 35 (.one 36 .fin)))) 33 (.one 27 (.one 34 (.one 35 (.one 36 .fin)))))))) 30 (.one 31 (.one 32 (.two 26 (.two 27 (.one 33 (.one 34 (.one 35 (.one 36 .fin)))) 33 (.one 27 (.one 34 (.one 35 (.one 36 .fin))))) 33 (.one 26 (.one 27 (.one 34 (.one 35 (.one 36 .fin))))))))) 26 (.three 20 (.two 27 (.one 30 (.one 31 (.one 32 (.one 33 (.one 34 (.one 35 (.one 36 .fin))))))) 30 (.one 31 (.one 32 (.two 27 (.one 33 (.one 34 (.one 35 (.one 36 .fin)))) 33 (.one 27 (.one 34 (.one 35 (.one 36 .fin)))))))) 27 (.two 20 (.one 30 (.one 31 (.one 32 (.one 33 (.one 34 (.one 35 (.one 36 .fin))))))) 30 (.one 20 (.one 31 (.one 32 (.one 33 (.one 34 (.one 35 (.one 36 .fin)))))))) 30 (.two 20 (.one 31 (.one 32 (.two 27 (.one 33 (.one 34 (.one 35 (.one 36 .fin)))) 33 (.one 27 (.one 34 (.one 35 (.one 36 .fin))))))) 27 (.one 20 (.one 31 (.one 32 (.one 33 (.one 34 (.one 35 (.one 36 .fin))))))))) 30 (.two 20 (.one 31 (.one 32 (.two 26 (.two 27 (.one 33 (.one 34 (.one 35 (.one 36 .fin)))) 33 (.one 27 (.one 34 (.one 35 (.one 36 .fin))))) 33 (.one 26 (.one 27 (.one 34 (.one 35 (.one 36 .fin)))))))) 26 (.two 20 (.one 31 (.one 32 (.two 27 (.one 33 (.one 34 (.one 35 (.one 36 .fin)))) 33 (.one 27 (.one 34 (.one 35 (.one 36 .fin))))))) 27 (.one 20 (.one 31 (.one 32 (.one 33 (.one 34 (.one 35 (.one 36 .fin)))))))))) 30 (.two 20 (.one 31 (.one 32 (.two 25 (.two 26 (.two 27 (.one 33 (.one 34 (.one 35 (.one 36 .fin)))) 33 (.one 27 (.one 34 (.one 35 (.one 36 .fin))))) 33 (.one 26 (.one 27 (.one 34 (.one 35 (.one 36 .fin)))))) 33 (.one 25 (.one 26 (.one 27 (.one 34 (.one 35 (.one 36 .fin))))))))) 25 (.two 20 (.one 31 (.one 32 (.two 26 (.two 27 (.one 33 (.one 34 (.one 35 (.one 36 .fin)))) 33 (.one 27 (.one 34 (.one 35 (.one 36 .fin))))) 33 (.one 26 (.one 27 (.one 34 (.one 35 (.one 36 .fin)))))))) 26 (.two 20 (.one 31 (.one 32 (.two 27 (.one 33 (.one 34 (.one 35 (.one 36 .fin)))) 33 (.one 27 (.one 34 (.one 35 (.one 36 .fin))))))) 27 (.one 20 (.one 31 (.one 32 (.one 33 (.one 34 (.one 35 (.one 36 .fin))))))))))))))))))))))))))))))))))))) [76,77,78,79,80,81,82,83,84,85,86,87,88,89,90,91,92,93,94,95,96,97,98,99,100,101,102,103,104,105,106,107,108,109] (by kernel_rfl)
    ·conv=>whnf
     refine And.intro (by omega) ?_
     conv=>whnf
     refine And.intro ?_ (And.intro ?_ ?_)
     ·conv=>whnf
      refine And.intro ?_ ?_
      ·conv=>whnf
       refine And.intro ?_ ?_
       ·conv=>whnf
        refine And.intro ?_ ?_
        ·conv=>whnf
         exact⟨rfl,rfl⟩
        ·conv=>whnf
         refine And.intro ?_ ?_
         ·conv=>whnf
          exact⟨rfl,rfl⟩
         ·conv=>whnf
          exact⟨rfl,rfl⟩
       ·conv=>whnf
        refine And.intro ?_ ?_
        ·conv=>whnf
         refine And.intro ?_ ?_
         ·conv=>whnf
          exact⟨rfl,rfl⟩
         ·conv=>whnf
          exact⟨rfl,rfl⟩
        ·conv=>whnf
         exact⟨rfl,rfl⟩
      ·conv=>whnf
       refine And.intro ?_ ?_
       ·conv=>whnf
        refine And.intro ?_ ?_
        ·conv=>whnf
         refine And.intro ?_ ?_
         ·conv=>whnf
          exact⟨rfl,rfl⟩
         ·conv=>whnf
          exact⟨rfl,rfl⟩
        ·conv=>whnf
         exact⟨rfl,rfl⟩
       ·conv=>whnf
        exact⟨rfl,rfl⟩
     ·conv=>whnf
      refine And.intro ?_ (And.intro ?_ ?_)
      ·conv=>whnf
       refine And.intro ?_ ?_
       ·conv=>whnf
        refine And.intro ?_ ?_
        ·conv=>whnf
         exact⟨rfl,rfl⟩
        ·conv=>whnf
         refine And.intro ?_ ?_
         ·conv=>whnf
          exact⟨rfl,rfl⟩
         ·conv=>whnf
          exact⟨rfl,rfl⟩
       ·conv=>whnf
        refine And.intro ?_ ?_
        ·conv=>whnf
         refine And.intro ?_ ?_
         ·conv=>whnf
          exact⟨rfl,rfl⟩
         ·conv=>whnf
          exact⟨rfl,rfl⟩
        ·conv=>whnf
         exact⟨rfl,rfl⟩
      ·conv=>whnf
       refine And.intro ?_ (And.intro ?_ ?_)
       ·conv=>whnf
        refine And.intro ?_ ?_
        ·conv=>whnf
         exact⟨rfl,rfl⟩
        ·conv=>whnf
         refine And.intro ?_ ?_
         ·conv=>whnf
          exact⟨rfl,rfl⟩
         ·conv=>whnf
          exact⟨rfl,rfl⟩
       ·conv=>whnf
        refine And.intro ?_ ?_
        ·conv=>whnf
         exact⟨rfl,rfl⟩
        ·conv=>whnf
         exact⟨rfl,rfl⟩
       ·conv=>whnf
        refine And.intro ?_ ?_
        ·conv=>whnf
         refine And.intro ?_ ?_
         ·conv=>whnf
          exact⟨rfl,rfl⟩
         ·conv=>whnf
          exact⟨rfl,rfl⟩
        ·conv=>whnf
         exact⟨rfl,rfl⟩
      ·conv=>whnf
       refine And.intro ?_ ?_
       ·conv=>whnf
        refine And.intro ?_ ?_
        ·conv=>whnf
         refine And.intro ?_ ?_
         ·conv=>whnf
          exact⟨rfl,rfl⟩
         ·conv=>whnf
          exact⟨rfl,rfl⟩
        ·conv=>whnf
         exact⟨rfl,rfl⟩
       ·conv=>whnf
        refine And.intro ?_ ?_
        ·conv=>whnf
         refine And.intro ?_ ?_
         ·conv=>whnf
          exact⟨rfl,rfl⟩
         ·conv=>whnf
          exact⟨rfl,rfl⟩
        ·conv=>whnf
         exact⟨rfl,rfl⟩
     ·conv=>whnf
      refine And.intro ?_ ?_
      ·conv=>whnf
       refine And.intro ?_ ?_
       ·conv=>whnf
        refine And.intro ?_ ?_
        ·conv=>whnf
         refine And.intro ?_ ?_
         ·conv=>whnf
          exact⟨rfl,rfl⟩
         ·conv=>whnf
          exact⟨rfl,rfl⟩
        ·conv=>whnf
         exact⟨rfl,rfl⟩
       ·conv=>whnf
        exact⟨rfl,rfl⟩
      ·conv=>whnf
       refine And.intro ?_ ?_
       ·conv=>whnf
        refine And.intro ?_ ?_
        ·conv=>whnf
         refine And.intro ?_ ?_
         ·conv=>whnf
          exact⟨rfl,rfl⟩
         ·conv=>whnf
          exact⟨rfl,rfl⟩
        ·conv=>whnf
         exact⟨rfl,rfl⟩
       ·conv=>whnf
        refine And.intro ?_ ?_
        ·conv=>whnf
         refine And.intro ?_ ?_
         ·conv=>whnf
          exact⟨rfl,rfl⟩
         ·conv=>whnf
          exact⟨rfl,rfl⟩
        ·conv=>whnf
         exact⟨rfl,rfl⟩
    conv=>whnf
    refine And.intro (by rw [List.length_map]) ?_
    conv=>whnf
    have e0:(r0.of_ - (k:Int)).toNat=0:=by omega
    rw [e0] at b7
    simp only [gatherM] at b7
    rw [←him] at b7
    subst b7
    rw [hw1,hw2,hw3]
    refine⟨.tp [.ag (txC ⟨seq,pos,r0.of_,im2⟩), .v (.int .i64 1)], [.box 231 (scC g a x y ((pos+r0.of_).tmod g.sl) (seq+1) (left - r0.of_) (.ow 1 (W ++ w).length)), .row 130 2 ((W ++ w).map wrC)],?_,⟨?_,?_,trivial⟩,rfl,rfl,rfl,rfl⟩
    ·refine tp_sub ?_
     exact⟨ag_sub ⟨fun _ _ h=>h,fun _ _ h=>h,fun _ _ h=>h,row_sub im2 rfl rfl,trivial⟩,fun _ _ h=>h,trivial⟩
    ·rw [List.length_append,←hn]
    ·rw [List.map_append]
   ·have rck:=rc k r0.of_ (by omega)
    have rfk:=rf k r0.of_ (by omega)
    rw [show (r0.of_ - (k:Int)).toNat=(r0.of_ - ((k+1:Nat):Int)).toNat+1 by omega] at b7
    unfold gatherM at b7
    simp only at b7
    generalize recM g a x y pos seq left k r0.of_=qk at rck rfk b7
    obtain⟨rk,hk,wk⟩:=qk
    simp only at rck rfk b7
    rcases rfk with ⟨rfl,⟨e1,e2,e3⟩,e4⟩ | ⟨e1,rfl,rfl⟩
    ·refine ACalls.frame [0,1] rck rfl rfl rfl rfl (by decide) (lt01 rfl) ⟨rfl,rfl,trivial⟩ ?_
     rintro _ _ ⟨rfl,rfl⟩
     conv=>whnf
     refine And.intro (by rw [List.length_map]) ?_
     conv=>whnf
     refine And.intro ⟨by rw [List.length_map],by omega⟩ ?_
     conv=>whnf
     exact⟨(k+1,rk,im2,w ++ wk),⟨⟨Nat.succ_le_succ (Nat.zero_le _),show ((k+1:Nat):Int)≤r0.of_ by omega⟩,⟨e1,e2⟩,⟨hl2,show (w ++ wk).length≤k+1 by rw [List.length_append];omega⟩,by rw [if_neg (show ¬(1:Int)≠1 by decide),←him] at b7;exact b7⟩,show (r0.of_ - ((k+1:Nat):Int)).toNat<(r0.of_ - (k:Int)).toNat by omega, [],trivial,⟨rfl,rfl,rfl,rfl,by rw [List.length_append];rfl,wsucc (by omega),trivial⟩,⟨rfl,rfl,rfl,by rw [List.map_append],rfl,rfl,trivial⟩,rfl,rfl,rfl⟩
    ·rcases e1 with rfl | rfl
     all_goals
      refine ACalls.frame [0,1] rck rfl rfl rfl rfl (by decide) (lt01 rfl) ⟨rfl,rfl,trivial⟩ ?_
      rintro _ _ ⟨rfl,rfl⟩
      conv=>whnf
      rw [if_pos (by decide)] at b7
      subst b7
      exact⟨_, [.box 231 (scC g a x y pos seq left (.ow 1 n)), .row 130 2 (W.map wrC)],tx0_sub _,⟨rfl,rfl,trivial⟩,rfl,rfl,rfl,rfl⟩
 ·rw [if_pos (show how0≠1 by omega)]
  simp only [if_neg (show ¬how0=1 by omega)]
  refine ACalls.of tys_ok Tryz.func169 rfl rfl (by show 1≤_;decide) ?_
  rcases k1 with rfl | rfl
  all_goals
   conv=>whnf
   refine ACalls.frame [0,1] rc0 rfl rfl rfl rfl (by decide) (lt01 rfl) ⟨rfl,rfl,trivial⟩ ?_
   rintro _ _ ⟨rfl,rfl⟩
   conv=>whnf
   exact⟨_, [.box 231 (scC g a x y pos seq left (.ow 1 n)), .row 130 2 (W.map wrC)],tx0_sub _,⟨rfl,rfl,trivial⟩,rfl,rfl,rfl,rfl⟩
def scanA (g:Geo) (a:An) (x y:List Gt):List Tx × List Wr × Int:=
 if okG g&&anOk g a then (if (x.length:Int)=g.sl∧(y.length:Int)=g.sl then scanM g a x y else ([], [],2)) else ([], [],1)
theorem scan0_sub (k:Int) (c:Ctx) (u:Value) (h:Rd (.tp [.v (.slice none 0 0), .v (.slice none 0 0), .v (.int .i64 k)]) c u):Rd (.tp [txsA [],wrsA [], .v (.int .i64 k)]) c u:=by
 refine tp_sub ?_ c u h
 exact⟨nil_sl _ _,nil_sl _ _,fun _ _ h=>h,trivial⟩
theorem anOk_seq {g:Geo} {a:An} (h:anOk g a=true):(0≤a.seq∧a.seq≤4294967296)∧0≤a.pos∧a.pos<g.sl:=by
 simp only [anOk,List.all_cons,Bool.and_eq_true,inB_iff] at h
 omega
theorem lt24 {m:Nat} (h:Nat.ble 5 m=true):∀ z∈ [2,4],z<m:=fun z hz=>by
 have:=Nat.le_of_ble_eq_true h
 simp at hz
 omega
theorem gatherM_len {look:Int→Rc × Int × List Wr}:∀ (f:Nat) (k:Int) (r:Rc) (im:List Img) (w:List Wr),(∀ i,k≤i→i<k+f→(look i).2.2.length≤1)→(gatherM look f k r im w).2.2.length≤w.length+f
 | 0,_,_,_,_,_=>by simp [gatherM]
 | f+1,k,r,im,w,h=>by
  have h1:=h k (by omega) (by omega)
  unfold gatherM
  simp only
  split
  ·simp
  ·have:=gatherM_len f (k+1) (look k).1 (if r.kind=1 then im ++ [r.img] else im) (w ++ (look k).2.2) fun i h2 h3=>h i (by omega) (by omega)
   rw [List.length_append] at this
   omega
theorem gatherM_how {look:Int→Rc × Int × List Wr}:∀ (f:Nat) (k:Int) (r:Rc) (im:List Img) (w:List Wr),(∀ i,k≤i→i<k+f→(look i).2.1=1∨(look i).2.1=2∨(look i).2.1=3)→(gatherM look f k r im w).1=1∨(gatherM look f k r im w).1=2∨(gatherM look f k r im w).1=3
 | 0,_,_,_,_,_=> .inl rfl
 | f+1,k,r,im,w,h=>by
  have h1:=h k (by omega) (by omega)
  unfold gatherM
  simp only
  split
  ·exact h1
  ·exact gatherM_how f (k+1) (look k).1 (if r.kind=1 then im ++ [r.img] else im) (w ++ (look k).2.2) fun i h2 h3=>h i (by omega) (by omega)
theorem txnM_facts {g:Geo} {a:An} {x y:List Gt} {pos seq left:Int} (hg:okG g=true) (hp:0≤pos∧pos<g.sl) :
  ((txnM g a x y pos seq left).1=1∧(2≤(txnM g a x y pos seq left).2.1∧(txnM g a x y pos seq left).2.1≤left∧(txnM g a x y pos seq left).2.1≤30)∧(txnM g a x y pos seq left).2.2.2.length≤30)∨((txnM g a x y pos seq left).1=2∨(txnM g a x y pos seq left).1=3):=by
 have r0:=recM_facts (a:=a) (x:=x) (y:=y) (seq:=seq) (left:=left) (of_:=0) (at_:=0) hg hp (by omega)
 unfold txnM
 simp only
 rcases r0 with ⟨e1,⟨e2, -,e3⟩,e4⟩ | ⟨e1, -, -⟩
 ·rw [if_neg (by omega)]
  have hN:=one_of e2 e3
  have hA:=fun(i:Int) (h1:1≤i) (h2:i<1+((recM g a x y pos seq left 0 0).1.of_ - 1).toNat)=>recM_facts (a:=a) (x:=x) (y:=y) (seq:=seq) (left:=left) (of_:=(recM g a x y pos seq left 0 0).1.of_) (at_:=i) hg hp (by omega)
  have hH:=gatherM_how (look:=fun k=>recM g a x y pos seq left k (recM g a x y pos seq left 0 0).1.of_) ((recM g a x y pos seq left 0 0).1.of_ - 1).toNat 1 (recM g a x y pos seq left 0 0).1 [] (recM g a x y pos seq left 0 0).2.2 fun i h1 h2=>(hA i h1 h2).imp (fun h=>h.1) fun h=>h.1
  split
  ·exact .inr (hH.resolve_left ‹_›)
  ·refine .inl ⟨rfl,⟨hN.1,hN.2.2.2.2.1 rfl,hN.2.1⟩,?_⟩
   have:=gatherM_len (look:=fun k=>recM g a x y pos seq left k (recM g a x y pos seq left 0 0).1.of_) ((recM g a x y pos seq left 0 0).1.of_ - 1).toNat 1 (recM g a x y pos seq left 0 0).1 [] (recM g a x y pos seq left 0 0).2.2 fun i h1 h2=>by
    rcases hA i h1 h2 with ⟨_,_,h⟩ | ⟨_,h,_⟩
    ·exact h
    ·rw [h];simp
   exact Nat.le_trans this (by omega)
 ·rw [if_pos (by omega)]
  exact .inr e1
set_option maxRecDepth 100000 in
set_option maxHeartbeats 4000000 in
theorem scan_fn (g:Geo) (a:An) (x y:List Gt) (hl:a.label.size≤1000000) (hh:a.homes.length≤1000000) (hxb:∀ z∈x,z.bytes.length≤100000) (hyb:∀ z∈y,z.bytes.length≤100000) :
  Fn Tryz.prog 114 [.ag (geoC g), .ag (anC a),gotsA x,gotsA y] fun r=>r = .tp [txsA (scanA g a x y).1,wrsA (scanA g a x y).2.1, .v (.int .i64 (scanA g a x y).2.2)]:=by
 have s1:=acheck_fn g a hl hh
 unfold scanA
 cases hA:okG g&&anOk g a with
 | false=>
  rw [hA] at s1
  refine Fn.of tys_ok Tryz.func114 rfl rfl (Nat.le_of_ble_eq_true rfl) ?_
  conv=>whnf
  refine Fn.closed (s1) rfl ?_
  rintro _ rfl
  conv=>whnf
  exact⟨_,fun c u h=>scan0_sub 1 c u h,rfl⟩
 | true=>
  rw [hA] at s1
  obtain⟨hg,ha⟩:=Bool.and_eq_true_iff.1 hA
  obtain⟨h1,h2,h3,h4,h5⟩:=okG_iff.1 hg
  rw [if_pos rfl]
  by_cases hx:(x.length:Int)=g.sl∧(y.length:Int)=g.sl
  ·rw [if_pos hx]
   obtain⟨hx,hy⟩:=hx
   refine Fn.of tys_ok Tryz.func114 rfl rfl (Nat.le_of_ble_eq_true rfl) ?_
   conv=>whnf
   refine Fn.closed (s1) rfl ?_
   rintro _ rfl
   conv=>whnf
   refine boolI (fun t1=>?_) (fun t1=>?_) <;> (repeat rw [Int.toNat_natCast] at t1) <;> conv=>whnf
   ·exact absurd hx t1
   refine boolI (fun t2=>?_) (fun t2=>?_) <;> (repeat rw [Int.toNat_natCast] at t2) <;> conv=>whnf
   ·exact absurd hy t2
   have hq:=anOk_seq ha
   unfold scanM
   generalize hR:scanL g a x y g.sl.toNat a.pos a.seq g.sl [] []=R
   refine aLoop.rule (Nat × Int × Int × Int × List Tx × List Wr) (fun z=>([(5, .bp 1 0),(11, .bp 2 0),(8, .ow 3 z.2.2.2.2.1.length)], [.box 23 (geoC g), .box 40 (anC a), .box 231 (scC g a x y z.2.1 z.2.2.1 z.2.2.2.1 (.ow 4 z.2.2.2.2.2.length)), .row 78 4 (z.2.2.2.2.1.map txC), .row 130 2 (z.2.2.2.2.2.map wrC)]))
    (fun z=>scanL g a x y z.1 z.2.1 z.2.2.1 z.2.2.2.1 z.2.2.2.2.1 z.2.2.2.2.2=R∧z.2.2.2.1≤z.1∧(0≤z.2.1∧z.2.1<g.sl)∧(0≤z.2.2.1∧z.2.2.1≤4294967296)∧z.2.2.2.2.1.length*2+z.2.2.2.1≤g.sl∧z.2.2.2.2.2.length≤z.2.2.2.2.1.length*30)
    (fun z=>z.1) (g.sl.toNat,a.pos,a.seq,g.sl, [], []) ⟨hR,show g.sl≤(g.sl.toNat:Int) by omega,hq.2,hq.1,show (0:Int)*2+g.sl≤g.sl by omega,Nat.le_refl 0⟩ ⟨[(8,78,4),(1002017,130,2)],⟨rfl,rfl,rfl,rfl,trivial⟩,⟨rfl,rfl,rfl,trivial⟩,⟨rfl,rfl,rfl,rfl,rfl,trivial⟩,rfl,rfl,rfl⟩ ?_
   rintro⟨f,pos,seq,left,l,w⟩ ⟨b1,b2,b3,b4,b5,b6⟩
   dsimp only at b1 b2 b3 b4 b5 b6 ⊢
   conv=>whnf
   refine boolI (fun c1=>?_) (fun c1=>?_) <;> (repeat rw [Int.toNat_natCast] at c1) <;> conv=>whnf
   ·refine boolI (fun c2=>?_) (fun c2=>?_) <;> (repeat rw [Int.toNat_natCast] at c2) <;> conv=>whnf
    ·cases f with
     | zero=>exfalso;omega
     | succ f=>
      unfold scanL at b1
      rw [if_pos ⟨c1,c2⟩] at b1
      simp only at b1
      have tx:=txn_fn18 g a x y pos seq left w.length w rfl (by omega) hg ha hl hh hx hy hxb hyb b3 ⟨b4.1,c2⟩ (by omega)
      have tf:=txnM_facts (a:=a) (x:=x) (y:=y) (seq:=seq) (left:=left) hg b3
      generalize txnM g a x y pos seq left=q at tx tf b1
      obtain⟨how,n,im,ws⟩:=q
      simp only at tx tf b1
      rcases tf with ⟨rfl,tf1,tf2⟩ | tf
      ·rw [if_pos rfl,if_pos rfl] at tx
       have hm:=Int.tmod_lt_of_pos (pos+n) (show 0<g.sl by omega)
       have hm0:=Int.tmod_nonneg g.sl (show 0≤pos+n by omega)
       have hI2:scanL g a x y f ((pos+n).tmod g.sl) (seq+1) (left - n) (l ++ [⟨seq,pos,n,im⟩]) (w ++ ws)=R∧left - n≤(f:Int)∧(0≤(pos+n).tmod g.sl∧(pos+n).tmod g.sl<g.sl)∧(0≤seq+1∧seq+1≤4294967296)∧((l ++ [(⟨seq,pos,n,im⟩:Tx)]).length:Int)*2+(left - n)≤g.sl∧(w ++ ws).length≤(l ++ [(⟨seq,pos,n,im⟩:Tx)]).length*30:=by
        rw [if_neg (by decide),if_neg (by decide)] at b1
        rw [List.length_append,List.length_append]
        simp only [List.length_cons,List.length_nil]
        exact⟨b1,by omega,⟨hm0,hm⟩,by omega,by omega,by omega⟩
       refine ACalls.frame [2,4] tx rfl rfl rfl rfl (by decide) (lt24 rfl) ⟨rfl,rfl,trivial⟩ ?_
       rintro _ _ ⟨rfl,rfl⟩
       conv=>whnf
       refine And.intro rfl ?_
       conv=>whnf
       refine And.intro ⟨by rw [List.length_map],by omega⟩ ?_
       conv=>whnf
       refine⟨(f,(pos+n).tmod g.sl,seq+1,left - n,l ++ [⟨seq,pos,n,im⟩],w ++ ws),?_,Nat.lt_succ_self f, [],trivial,⟨rfl,rfl,congrArg (AV.ow 3) (show l.length+1=(l ++ [(⟨seq,pos,n,im⟩:Tx)]).length by rw [List.length_append];rfl),trivial⟩,⟨rfl,rfl,rfl,by rw [List.map_append];rfl,rfl,trivial⟩,rfl,rfl,rfl⟩
       exact hI2
      ·rw [if_neg (show ¬how=1 by omega),if_neg (show ¬how=1 by omega)] at tx
       rcases tf with rfl | rfl
       ·rw [if_neg (by decide),if_pos (by decide)] at b1
        subst b1
        refine ACalls.frame [2,4] tx rfl rfl rfl rfl (by decide) (lt24 rfl) ⟨rfl,rfl,trivial⟩ ?_
        rintro _ _ ⟨rfl,rfl⟩
        conv=>whnf
        refine aDraw.seq tys_ok mixed (by kernel_rfl) ?_
        conv=>whnf
        have hws:IntKind.i64.wrap (seq - 1)=seq - 1:=by rw [IntKind.wrap_i64];omega
        refine boolI (fun e1=>?_) (fun e1=>?_) <;> (repeat rw [Int.toNat_natCast] at e1) <;> conv=>whnf
        ·rw [hws] at e1
         exact⟨_,fun c u h=>scan0_sub 12 c u h,by rw [finM_pos e1];rfl⟩
        ·rw [hws] at e1
         refine aDraw.seq tys_ok mixed (by kernel_rfl) ?_
         conv=>whnf
         refine And.intro (by rw [List.length_map]) ?_
         conv=>whnf
         refine And.intro (by rw [List.length_map]) ?_
         conv=>whnf
         exact⟨.tp [txsA l,wrsA w, .v (.int .i64 0)],tp_sub ⟨row_sub l rfl rfl,row_sub w rfl rfl,fun _ _ h=>h,trivial⟩,by rw [finM_neg (by omega)]⟩
       ·rw [if_pos rfl] at b1
        subst b1
        refine ACalls.frame [2,4] tx rfl rfl rfl rfl (by decide) (lt24 rfl) ⟨rfl,rfl,trivial⟩ ?_
        rintro _ _ ⟨rfl,rfl⟩
        conv=>whnf
        exact⟨_,fun c u h=>scan0_sub 12 c u h,rfl⟩
    ·have hb:some (l,w,seq)=R:=by
      cases f with
      | zero=>exact b1
      | succ f=>unfold scanL at b1;rw [if_neg (by omega)] at b1;exact b1
     subst hb
     refine aDraw.seq tys_ok mixed (by kernel_rfl) ?_
     conv=>whnf
     have hws:IntKind.i64.wrap (seq - 1)=seq - 1:=by rw [IntKind.wrap_i64];omega
     refine boolI (fun e1=>?_) (fun e1=>?_) <;> (repeat rw [Int.toNat_natCast] at e1) <;> conv=>whnf
     ·rw [hws] at e1
      exact⟨_,fun c u h=>scan0_sub 12 c u h,by rw [finM_pos e1];rfl⟩
     ·rw [hws] at e1
      refine aDraw.seq tys_ok mixed (by kernel_rfl) ?_
      conv=>whnf
      refine And.intro (by rw [List.length_map]) ?_
      conv=>whnf
      refine And.intro (by rw [List.length_map]) ?_
      conv=>whnf
      exact⟨.tp [txsA l,wrsA w, .v (.int .i64 0)],tp_sub ⟨row_sub l rfl rfl,row_sub w rfl rfl,fun _ _ h=>h,trivial⟩,by rw [finM_neg (by omega)]⟩
   ·have hb:some (l,w,seq)=R:=by
     cases f with
     | zero=>exact b1
     | succ f=>unfold scanL at b1;rw [if_neg (by omega)] at b1;exact b1
    subst hb
    refine aDraw.seq tys_ok mixed (by kernel_rfl) ?_
    conv=>whnf
    have hws:IntKind.i64.wrap (seq - 1)=seq - 1:=by rw [IntKind.wrap_i64];omega
    refine boolI (fun e1=>?_) (fun e1=>?_) <;> (repeat rw [Int.toNat_natCast] at e1) <;> conv=>whnf
    ·rw [hws] at e1
     exact⟨_,fun c u h=>scan0_sub 12 c u h,by rw [finM_pos e1];rfl⟩
    ·rw [hws] at e1
     refine aDraw.seq tys_ok mixed (by kernel_rfl) ?_
     conv=>whnf
     refine And.intro (by rw [List.length_map]) ?_
     conv=>whnf
     refine And.intro (by rw [List.length_map]) ?_
     conv=>whnf
     exact⟨.tp [txsA l,wrsA w, .v (.int .i64 0)],tp_sub ⟨row_sub l rfl rfl,row_sub w rfl rfl,fun _ _ h=>h,trivial⟩,by rw [finM_neg (by omega)]⟩
  ·rw [if_neg hx]
   refine Fn.of tys_ok Tryz.func114 rfl rfl (Nat.le_of_ble_eq_true rfl) ?_
   conv=>whnf
   refine Fn.closed (s1) rfl ?_
   rintro _ rfl
   conv=>whnf
   refine boolI (fun t1=>?_) (fun t1=>?_) <;> (repeat rw [Int.toNat_natCast] at t1) <;> conv=>whnf
   ·exact⟨_,fun c u h=>scan0_sub 2 c u h,rfl⟩
   refine boolI (fun t2=>?_) (fun t2=>?_) <;> (repeat rw [Int.toNat_natCast] at t2) <;> conv=>whnf
   ·exact⟨_,fun c u h=>scan0_sub 2 c u h,rfl⟩
   ·exact absurd ⟨t1,t2⟩ hx
def whoK (g:Geo) (t:Tx) (s:Int):Int:=(IntKind.i64.wrap (IntKind.i64.wrap (s - t.pos)+g.sl)).tmod g.sl
def whoOk (g:Geo) (t:Tx) (s:Int):Bool:=inB t.pos 0 (g.sl - 1)&&inB t.n 0 g.sl&&decide (whoK g t s<t.n)
def whoM (g:Geo) (s:Int):List Tx→Nat→Option (Nat × Int)
 | [],_=>none
 | t::r,i=>if whoOk g t s then some (i,whoK g t s) else whoM g s r (i+1)
end Go.Proofs.YtldngmdpiifamaaGreatDoor.A
end
section
namespace Go.Proofs.YtldngmdpiifamaaGreatDoor

def rc0:Rc:=⟨0,0,0,0,0,⟨0,0, []⟩⟩
theorem recsOf_length (seq epoch:Int) (l:List Img):(recsOf seq epoch l).length=l.length+1:=by
 unfold recsOf
 rw [List.length_append,imgR_len]
 simp
theorem recs_getD (seq epoch:Int) (l:List Img) {k:Nat} (hk:k<l.length+1):(recsOf seq epoch l).getD k rc0=if k<l.length then ⟨1,seq,epoch,(k:Nat),l.length+1,l.getD k ⟨0,0, []⟩⟩ else ⟨2,seq,epoch,(k:Nat),l.length+1,noImg⟩:=by
 have hlen:(imgR seq epoch (l.length+1) l.length l).length=l.length:=by rw [imgR_len];omega
 unfold recsOf
 rw [List.getD_eq_getElem?_getD]
 by_cases h:k<l.length
 ·rw [if_pos h,List.getElem?_append_left (by omega)]
  have h2:(imgR seq epoch (l.length+1) l.length l)[k]? = some ⟨1,seq,epoch,(k:Nat),l.length+1,l[k]⟩:=by
   unfold imgR
   rw [List.take_length,List.getElem?_map,List.getElem?_zipIdx,List.getElem?_eq_getElem h]
   simp
  rw [h2,List.getD_eq_getElem?_getD,List.getElem?_eq_getElem h]
  rfl
 ·have e:k=l.length:=by omega
  subst e
  rw [if_neg h,List.getElem?_append_right (by omega),hlen]
  simp
structure RecAt (g:Geo) (seq epoch:Int) (l:List Img) (k:Nat) (r:Rc):Prop where
 ok:okR g r=true
 seq:r.seq=seq
 epoch:r.epoch=epoch
 at_:r.at_=(k:Nat)
 of_:r.of_=l.length+1
 kind:r.kind≠0
 img:(r.kind=1↔k<l.length)∧(k<l.length→r.img=l.getD k ⟨0,0, []⟩)
theorem recs_at {g:Geo} {seq epoch:Int} {l:List Img} (hg:okG g=true) (hs:0≤seq∧seq≤4294967295) (he:0≤epoch∧epoch≤4294967295) (hi:∀ x∈l,imgOk g x=true) (h1:1≤l.length) (h2:l.length≤29) {k:Nat} (hk:k<l.length+1) :
  RecAt g seq epoch l k ((recsOf seq epoch l).getD k rc0):=by
 have hs':inB seq 0 4294967295=true:=inB_iff.2 hs
 have he':inB epoch 0 4294967295=true:=inB_iff.2 he
 rw [recs_getD seq epoch l hk]
 split
 ·rename_i h
  have hm:l.getD k ⟨0,0, []⟩∈l:=by rw [List.getD_eq_getElem?_getD,List.getElem?_eq_getElem h];exact List.getElem_mem h
  refine⟨?_,rfl,rfl,rfl,rfl,by show (1:Int)≠0;decide,⟨fun _=>h,fun _=>rfl⟩,fun _=>rfl⟩
  simp only [okR,hg,behOk,numsB,hs',he',hi _ hm,Bool.true_and,Bool.and_true]
  simp only [if_neg (show ¬(1:Int)=0 by omega),if_true,Bool.and_eq_true,inB_iff]
  omega
 ·rename_i h
  refine⟨?_,rfl,rfl,rfl,rfl,by show (2:Int)≠0;decide,⟨fun h=>absurd h (by show ¬(2:Int)=1;decide),fun h'=>absurd h' h⟩,fun h'=>absurd h' h⟩
  simp only [okR,hg,behOk,numsB,hs',he',Bool.true_and]
  simp only [if_neg (show ¬(2:Int)=0 by omega),if_neg (show ¬(2:Int)=1 by omega),if_true,Bool.and_eq_true,inB_iff,beq_iff_eq,noneB,noImg]
  simp;omega
end Go.Proofs.YtldngmdpiifamaaGreatDoor
end
section
namespace Go.Proofs.YtldngmdpiifamaaGreatDoor.A
open Go.RowKit
def tz:Tx:=⟨0,0,0, []⟩
def recW (g:Geo) (l:List Tx) (epoch s:Int):Rc:=match whoM g s l 0 with
 | none=>zeroC
 | some (i,k)=>(recsOf (l.getD i tz).seq epoch (l.getD i tz).images).getD k.toNat zeroC
def writtenM (g:Geo) (l:List Tx) (epoch copy:Int) (n:Nat):List Gt:=(List.range n).map fun s=>⟨0,cellB g (recW g l epoch (s:Nat)) copy (s:Nat)⟩
structure LogOk (g:Geo) (l:List Tx) (epoch:Int):Prop where
 len:l.length≤1000
 img:∀ t∈l,t.images.length≤1000∧∀ x∈t.images,x.bytes.length≤1000000
 who:∀ s i k,0≤s∧s<g.sl→whoM g s l 0=some (i,k)→i<l.length∧0≤k∧k.toNat<(l.getD i tz).images.length+1
 ok:∀ s,0≤s∧s<g.sl→okR g (recW g l epoch s)=true
def SubLL:List (List AV)→List (List AV)→Prop
 | [], []=>True
 | a::r,b::s=>SubL a b∧SubLL r s
 | _,_=>False
theorem SubLL.get:∀ {es fs:List (List AV)} {i:Nat},SubLL es fs→i<es.length→SubL (es.getD i []) (fs.getD i [])
 | [],_,_,_,h=>by simp at h
 | a::r,b::s,0,h,_=>by simpa using h.1
 | a::r,b::s,i+1,h,hi=>by
  have:=SubLL.get (i:=i) h.2 (by simpa using hi)
  simpa using this
 | _::_, [],_,h,_=>h.elim
theorem rows_sub {α:Type} {f:α→List AV} {d:α} {sz n:Nat} {es:List (List AV)} (l:List α) (hn:n=l.length) (he:n=es.length) (h:SubLL es (l.map f)) (c:Ctx) (u:Value) (hr:Rd (.sl sz n fun i=>es.getD i []) c u):Rd (.sl sz l.length fun i=>f (l.getD i d)) c u:=
 Rd.sub hn (fun i hi=>by
  have:=h.get (i:=i) (by omega)
  rwa [map_getD (d:=d) (by omega)] at this) hr
theorem written_says {g:Geo} {l:List Tx} {epoch:Int} (hg:okG g=true) (h:LogOk g l epoch) {copy:Int} (hc:copy=0∨copy=1) {s:Nat} (hs:(s:Int)<g.sl):saysR g ((writtenM g l epoch copy g.sl.toNat).getD s gz) copy (s:Nat)=some (recW g l epoch (s:Nat)):=by
 have hin:(0:Int)≤(s:Nat)∧((s:Nat):Int)<g.sl:=by omega
 have e:(writtenM g l epoch copy g.sl.toNat).getD s gz=⟨0,cellB g (recW g l epoch (s:Nat)) copy (s:Nat)⟩:=by
  unfold writtenM
  rw [map_getD (d:=0) (by rw [List.length_range];omega)]
  rw [List.getD_eq_getElem?_getD,List.getElem?_range (by omega)]
  rfl
 rw [e]
 refine says_cell hg (h.ok s hin) ?_
 rw [okL,inB_iff.2 (show 0≤((s:Nat):Int)∧((s:Nat):Int)≤g.sl - 1 by omega)]
 rcases hc with rfl | rfl <;> rfl
theorem saysR_out {g:Geo} {x:Gt} {copy s:Int} (h:¬(0≤s∧s<g.sl)):saysR g x copy s=none:=by
 refine saysR_none ?_
 have:inB s 0 (g.sl - 1)=false:=by
  rw [←Bool.not_eq_true]
  intro e
  have:=inB_iff.1 e
  omega
 rw [okL,this]
 simp
def lookP (a:An) (p q:Int→Option Rc) (slot seq at_ of_ left:Int):Rc × List Int × Int:=
 lookT (p slot) (q slot) (oneO (p slot) a seq at_ of_ left) (oneO (q slot) a seq at_ of_ left)
def recP (g:Geo) (a:An) (p q:Int→Option Rc) (pos seq left at_ of_:Int):Rc × Int × List Wr:=
 let s:=slotM g pos at_
 let z:=lookP a p q s seq at_ of_ left
 (z.1,z.2.2,z.2.1.map fun c=>⟨logAt g c s,cellB g z.1 c s⟩)
def txnP (g:Geo) (a:An) (p q:Int→Option Rc) (pos seq left:Int):Int × Int × List Img × List Wr:=
 let z:=recP g a p q pos seq left 0 0
 if z.2.1≠1 then (z.2.1,0, [], []) else
  let t:=gatherM (fun k=>recP g a p q pos seq left k z.1.of_) (z.1.of_ - 1).toNat 1 z.1 [] z.2.2
  if t.1≠1 then (t.1,0, [], []) else (1,z.1.of_,t.2.1,t.2.2)
def scanLP (g:Geo) (a:An) (p q:Int→Option Rc):Nat→Int→Int→Int→List Tx→List Wr→Option (List Tx × List Wr × Int)
 | 0,_,seq,_,l,w=>some (l,w,seq)
 | f+1,pos,seq,left,l,w=>
  if 0<left∧seq≤4294967295 then
   let t:=txnP g a p q pos seq left
   if t.1=3 then none else if t.1≠1 then some (l,w,seq)
   else scanLP g a p q f ((pos+t.2.1).tmod g.sl) (seq+1) (left - t.2.1) (l ++ [⟨seq,pos,t.2.1,t.2.2.1⟩]) (w ++ t.2.2.2)
  else some (l,w,seq)
def scanP (g:Geo) (a:An) (p q:Int→Option Rc):List Tx × List Wr × Int:=finM a (scanLP g a p q g.sl.toNat a.pos a.seq g.sl [] [])
def saysF (g:Geo) (x:List Gt) (copy:Int):Int→Option Rc:=fun s=>saysR g (x.getD s.toNat gz) copy s
theorem scanL_P (g:Geo) (a:An) (x y:List Gt):∀ (f:Nat) (pos seq left:Int) (l:List Tx) (w:List Wr),scanL g a x y f pos seq left l w=scanLP g a (saysF g x 0) (saysF g y 1) f pos seq left l w
 | 0,_,_,_,_,_=>rfl
 | f+1,pos,seq,left,l,w=>by
  unfold scanL scanLP
  have e:txnM g a x y pos seq left=txnP g a (saysF g x 0) (saysF g y 1) pos seq left:=rfl
  rw [e]
  simp only [scanL_P g a x y f]
theorem scanM_P (g:Geo) (a:An) (x y:List Gt):scanM g a x y=scanP g a (saysF g x 0) (saysF g y 1):=by
 unfold scanM scanP
 rw [scanL_P]
def saysW (g:Geo) (l:List Tx) (epoch:Int) (bad:Int→Bool):Int→Option Rc:=fun s=>if 0≤s∧s<g.sl then (if bad s then none else some (recW g l epoch s)) else none
theorem saysF_W {g:Geo} {l:List Tx} {epoch:Int} (hg:okG g=true) (h:LogOk g l epoch) {copy:Int} (hc:copy=0∨copy=1):saysF g (writtenM g l epoch copy g.sl.toNat) copy=saysW g l epoch fun _=>false:=by
 funext s
 unfold saysF saysW
 by_cases hs:0≤s∧s<g.sl
 ·rw [if_pos hs,if_neg (Bool.false_ne_true)]
  obtain⟨k,rfl⟩:=Int.eq_ofNat_of_zero_le hs.1
  rw [Int.toNat_natCast]
  exact written_says hg h hc hs.2
 ·rw [if_neg hs]
  exact saysR_out hs
theorem RdL.split {c:Ctx}:∀ {l m:List AV} {xs:List Value},RdL (l ++ m) c xs→∃ a b,xs=a ++ b∧RdL l c a∧RdL m c b
 | [],m,xs,h=>⟨[],xs,rfl,by simp only [RdL],h⟩
 | x::l,m,xs,h=>by
  simp only [List.cons_append,RdL] at h
  obtain⟨y,ys,rfl,h1,h2⟩:=h
  obtain⟨a,b,rfl,h3,h4⟩:=RdL.split h2
  exact⟨y::a,b,rfl,by simp only [RdL];exact⟨y,a,rfl,h1,h3⟩,h4⟩
theorem SubLL.len:∀ {es fs:List (List AV)},SubLL es fs→es.length=fs.length
 | [], [],_=>rfl
 | _::_,_::_,h=>by simp [SubLL.len h.2]
 | [],_::_,h=>h.elim
 | _::_, [],h=>h.elim
theorem SubLL.flat:∀ {es fs:List (List AV)} {c:Ctx} {xs:List Value},SubLL es fs→RdL es.flatten c xs→RdL fs.flatten c xs
 | [], [],_,_,_,h=>h
 | a::r,b::s,c,xs,h,hr=>by
  rw [List.flatten_cons] at hr ⊢
  obtain⟨x1,x2,rfl,h1,h2⟩:=RdL.split hr
  exact RdL.append (h.1.rdl h1) (SubLL.flat h.2 h2)
 | [],_::_,_,_,h,_=>h.elim
 | _::_, [],_,_,h,_=>h.elim
theorem SubLL.sz:∀ {es fs:List (List AV)} {sz:Nat},SubLL es fs→(∀ e∈es,e.length=sz)→∀ e∈fs,e.length=sz
 | [], [],_,_,_=>by simp
 | a::r,b::s,sz,h,hs=>by
  intro e he
  rcases List.mem_cons.1 he with rfl | he
  ·rw [←h.1.len];exact hs a (by simp)
  ·exact SubLL.sz h.2 (fun e he=>hs e (List.mem_cons_of_mem _ he)) e he
 | [],_::_,_,h,_=>h.elim
 | _::_, [],_,h,_=>h.elim
def ABSub:AB→AB→Prop
 | .row t sz es, .row t' sz' es'=>t=t'∧sz=sz'∧SubLL es es'
 | x,y=>x=y
def HSub:List AB→List AB→Prop
 | [], []=>True
 | x::r,y::s=>ABSub x y∧HSub r s
 | _,_=>False
theorem HSub.len:∀ {H H':List AB},HSub H H'→H.length=H'.length
 | [], [],_=>rfl
 | _::_,_::_,h=>by simp [HSub.len h.2]
 | [],_::_,h=>h.elim
 | _::_, [],h=>h.elim
theorem HSub.get:∀ {H H':List AB} {k:Nat} {y:AB},HSub H H'→H'[k]? = some y→∃ x,H[k]? = some x∧ABSub x y
 | [], [],k,y,_,h=>by simp at h
 | x::r,y::s,0,z,h,hz=>by
  simp at hz
  subst hz
  exact⟨x,by simp,h.1⟩
 | x::r,y::s,k+1,z,h,hz=>by
  obtain⟨w,h1,h2⟩:=HSub.get (k:=k) h.2 (by simpa using hz)
  exact⟨w,by simpa using h1,h2⟩
 | [],_::_,_,_,h,_=>h.elim
 | _::_, [],_,_,_,hz=>by simp at hz
theorem ABSub.live:∀ {x y:AB},ABSub x y→x.live=y.live:=by
 intro x y h
 cases x <;> cases y <;> simp only [ABSub] at h <;> first | rfl | cases h
theorem ABSub.blk {c:Ctx} {k:Nat}:∀ {x y:AB},ABSub x y→BlkOk c k x→BlkOk c k y
 | .row t sz es, .row t' sz' es',h,hb=>by
  obtain⟨rfl,rfl,h⟩:=h
  obtain⟨h1,h2,h3,xs,h4,h5,h6⟩:=hb
  refine⟨h1.trans h.len,h2,h.sz h3,xs,?_,h.flat h5,h6⟩
  rw [←h.len]
  exact h4
 | .row _ _ _, .box _ _,h,_=>by cases h
 | .row _ _ _, .iter _ _,h,_=>by cases h
 | .row _ _ _, .dead,h,_=>by cases h
 | .row _ _ _, .rowo _ _ _ _,h,_=>by cases h
 | .rowo t sz es m,y,h,hb=>by
  have h:AB.rowo t sz es m=y:=h
  subst h
  exact hb
 | .box t cs,y,h,hb=>by
  have h:AB.box t cs=y:=h
  subst h
  exact hb
 | .iter a b,y,h,hb=>by
  have h:AB.iter a b=y:=h
  subst h
  exact hb
 | .dead,y,h,hb=>by
  have h:AB.dead=y:=h
  subst h
  exact hb
theorem HS.hsub {w0:Fl} {M0:Ms} {c:Ctx} {H H':List AB} (hs:HS w0 M0 c H) (h:HSub H H'):HS w0 M0 c H':=by
 refine⟨hs.low,hs.base,hs.dom.trans h.len,hs.foreign,hs.lt,fun k y hy=>?_,fun k y g hy hl ho=>?_,fun j k y z g hj hk hy hz ho ho'=>?_⟩
 ·obtain⟨x,h1,h2⟩:=h.get hy
  exact h2.blk (hs.blk k x h1)
 ·obtain⟨x,h1,h2⟩:=h.get hy
  exact hs.own k x g h1 (h2.live.trans hl) ho
 ·obtain⟨x1,h1,h2⟩:=h.get hj
  obtain⟨x2,h3,h4⟩:=h.get hk
  exact hs.dis j k x1 x2 g h1 h3 (h2.live.trans hy) (h4.live.trans hz) ho ho'
theorem ACalls.hsub {P:Program} {q:Bool} {f:FuncId} {args:List AV} {H:List AB} {k:AV→List AB→Prop} (H':List AB) (hs:HSub H H') (h:ACalls P q f args H' k):ACalls P q f args H k:=
 ⟨h.go,fun w0 M0 c us hs0 hr=>h.calls w0 M0 c us (hs0.hsub hs) hr⟩
theorem SubLL.refl:∀ l,SubLL l l
 | []=>trivial
 | _::l=>⟨SubL.refl _,SubLL.refl l⟩
theorem SubLL.set {a b:List AV} (h:SubL a b):∀ {l m:List (List AV)} (k:Nat),SubLL l m→SubLL (l.set k a) (m.set k b)
 | [], [],_,h=>h
 | _::_,_::_,0,h2=>⟨h,h2.2⟩
 | _::_,_::_,k+1,h2=>⟨h2.1,SubLL.set h k h2.2⟩
 | [],_::_,_,h=>h.elim
 | _::_, [],_,h=>h.elim
end Go.Proofs.YtldngmdpiifamaaGreatDoor.A
end
