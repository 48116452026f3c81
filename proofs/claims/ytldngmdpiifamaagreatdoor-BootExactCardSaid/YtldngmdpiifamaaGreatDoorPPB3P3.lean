/-
Several texts in one.
-/
import Derived.Test.YtldngmdpiifamaaGreatDoorPPB3P2
import Derived.Test.YtldngmdpiifamaaGreatDoorPPB3P1
import Derived.Test.YtldngmdpiifamaaGreatDoorPPB3P0
import Derived.ProofKit
import Derived.Deep.Slices
import Derived.OpenShut
set_option maxRecDepth 100000
set_option maxHeartbeats 8000000
set_option linter.unusedSimpArgs false
set_option linter.unusedVariables false
section
namespace Go.Proofs.YtldngmdpiifamaaGreatDoor
open Go.RowKit
attribute [local go_sem ↓] Go.wp_at_zero Go.wp_at_succ

theorem Oi (a:Addr) (cap:Nat) (x:Int) (N:Nat) (w:World) (hN:2<=N/\N<=6) (hx:∀ j u, [Value.int .i64 x][j]? = some u->w.cell? (a.add j)=some u)
  (hmul:Calls Tryz.prog 185 #[.int .u64 1, .int .u64 N] w fun e w'=>e = .returned (.tuple #[.int .u64 0, .int .u64 N])/\Below w.heap.size w w') :
  Calls Tryz.prog 236 #[.slice (some a) 1 cap, .int .i64 N] w fun e w'=>∃ g,e = .returned (.slice (some ⟨g,0,none⟩) N N)/\w.heap.size<=g/\w'.heap[g]? = some (.cells (Cd [Value.int .i64 x] [Value.int .i64 0] N 0).toArray 3 (0,0))/\Below w.heap.size w w':=by
 have hw1:IntKind.u64.wrap (N:Int)=N:=by rw [IntKind.wrap_u64];omega
 have hw2:IntKind.i64.wrap (N:Int)=N:=by rw [IntKind.wrap_i64];omega
 have h0:¬(N:Int)<0:=by omega
 have h9:¬(9223372036854775807:Int)<N:=by omega
 have hmk:∀ w:World,(Instr.makeSlice 24 (.int .i64 (N:Int)) (.int .i64 (N:Int))).run Tryz.prog w = .ok (.slice (some ⟨w.heap.size,0,none⟩) N N) (w.alloc (.cells (Cd [Value.int .i64 x] [Value.int .i64 0] 0 N).toArray 3)):=by
  intro w
  obtain⟨i,h1,h2,h3,h4⟩:=info_parts (show (Tryz.prog.info? 3).map (fun i=>(i.zero,i.size,i.bytes))=some (some (.int .i64 0),1,8) by kernel_rfl)
  have hr:=run_make (P:=Tryz.prog) w 24 3 i (.int .i64 0) (by kernel_rfl) h1 h2 .i64 .i64 N N (by omega) (by omega) (by rw [h4];omega) (by omega)
  simp only [Aa,h3] at hr
  rw [hr]
  congr 3
  rw [Cd]
  rcases(show N=2\/N=3\/N=4\/N=5\/N=6 by omega) with rfl | rfl | rfl | rfl | rfl <;> kernel_rfl
 have HX:=Lib.hid hx
 have HM:=Lib.hid hmul
 have HN:=Lib.hid hN
 clear hx hmul hN
 go_enter Tryz.func236,Tryz.ntmps236
 go_wp2_with (go_at_call 185;go_must (with_reducible refine HM.out.mono ?_);rintro e w1 ⟨rfl,hB1⟩)
 have hn1:¬((some ⟨w1.heap.size,0,none⟩:Option Addr)=none):=by simp
 have hg1:(w1.alloc (.cells (Cd [Value.int .i64 x] [Value.int .i64 0] 0 N).toArray 3)).heap[w1.heap.size]? = some (.cells (Cd [Value.int .i64 x] [Value.int .i64 0] 0 N).toArray 3 (0,0)):=heap_alloc_new w1 _
 have hBA:=hB1.trans ((Below.refl w1.heap.size w1).alloc (Nat.le_refl _) (.cells (Cd [Value.int .i64 x] [Value.int .i64 0] 0 N).toArray 3) |>.mono hB1.size)
 have hc1:=Gm (P:=Tryz.prog) (w1.alloc (.cells (Cd [Value.int .i64 x] [Value.int .i64 0] 0 N).toArray 3)) 24 24 3 3 w1.heap.size 0 N N a 1 cap _ 3 (List.replicate 1 [Value.int .i64 x]).flatten 1 Tryz.underlying24 (by kernel_rfl) hg1
  (by rw [show Nat.min 1 N=1 from Co (by have:=HN.out;omega)];rfl) (fun j v hv=>Ip hBA (HX.out j v (by simpa using hv))) (by have:=HN.out;simp [Cd];omega) (fun v hv=>by
    obtain⟨l,hl,hv⟩:=List.mem_flatten.1 hv
    rw [List.eq_of_mem_replicate hl] at hv
    simp at hv
    first | (subst hv;rfl) | (rcases hv with rfl | rfl | rfl <;> rfl))
 have hl1:=Hn (xs:= [Value.int .i64 x]) (zs:= [Value.int .i64 0]) (k:=0) (m:=N) (j:=1) rfl (by have:=HN.out;omega)
 rw [show Nat.min 1 N=1 from Co (by have:=HN.out;omega)] at hc1
 rw [hc1]
 simp only [Nat.zero_mul] at hl1
 rw [show (Cd [Value.int .i64 x] [Value.int .i64 0] 0 N).toArray.toList=Cd [Value.int .i64 x] [Value.int .i64 0] 0 N from rfl,hl1]
 have hg2:=setRow_heap _ w1.heap.size _ (Cd [Value.int .i64 x] [Value.int .i64 0] (0+1) (N - 1)).toArray 3 (0,0) hg1
 have hB2:=hBA.grown (Fh (w:=w1.alloc (.cells (Cd [Value.int .i64 x] [Value.int .i64 0] 0 N).toArray 3)) (g:=w1.heap.size) (cs:=(Cd [Value.int .i64 x] [Value.int .i64 0] (0+1) (N - 1)).toArray) (row:=some w1.heap.size) rfl) (by simp;have:=hB1.size;omega) (fun b e=>by cases e;exact hB1.size)
 obtain⟨g,hg⟩:∃ g,g=w1.heap.size:=⟨_,rfl⟩
 have hgs:=hB1.size
 rw [<-hg] at hg2 hB2 hgs |-
 clear hc1 hl1 hBA hg1 hn1
 generalize (w1.alloc (.cells (Cd [Value.int .i64 x] [Value.int .i64 0] 0 N).toArray 3)).setRow g (Cd [Value.int .i64 x] [Value.int .i64 0] (0+1) (N - 1)).toArray=w2 at hg2 hB2 |-
 have HH:=Lib.hid (And.intro hg2 (And.intro hB2 hgs))
 clear hg2 hB2 hgs hg hB1
 go_wp2_with fail
 go_loopg [8] N (fun gg s8 wr=>∃ k:Nat,s8 = .int .i64 k/\1<=k/\k<=N/\N - k<=gg/\Hid (wr.heap[g]? = some (.cells (Cd [Value.int .i64 x] [Value.int .i64 0] k (N - k)).toArray 3 (0,0))/\Below w.heap.size w wr))
 case atStart=>exact⟨1,rfl,Nat.le_refl _,by have:=HN.out;omega,by omega,Lib.hid ⟨HH.out.1,HH.out.2.1⟩⟩
 case round=>
  obtain⟨k,rfl,hk1,hkl,hgg,hI⟩:=hrel
  obtain⟨w0,rfl⟩:∃ w0,w0=wr:=⟨_,rfl⟩
  by_cases hlt:k<N
  ·have hlt':(k:Int)<N:=by omega
   have hne:¬N=k:=by omega
   have hkN:(k:Int)<=N:=by omega
   have hk0:(0:Int)<=k:=by omega
   go_wp2_with fail
   refine Oe [] (fun _=>True) (by kernel_rfl) ?_
   apply CR 0 rfl (by kernel_rfl) (fun _ _ _ h=>h) rfl
   ·(intro W;go_simp;try rfl)
   ·(go_simp;try rfl)
   apply CR 1 rfl (by kernel_rfl) (fun _ _ _ h=>h) rfl
   ·(intro W;go_simp;try rfl)
   ·(go_simp;try rfl)
   apply CR 2 rfl (by kernel_rfl) (fun _ _ _ h=>h) rfl
   ·(intro W;go_simp;try rfl)
   ·(go_simp;try rfl)
   apply CR 3 rfl (by kernel_rfl) (fun _ _ _ h=>h) rfl
   ·(intro W;go_simp;try rfl)
   ·(go_simp;try rfl)
   apply CR 4 rfl (by kernel_rfl) (fun _ _ _ h=>h) rfl
   ·(intro W;go_simp;try rfl)
   ·(go_simp;try rfl)
   apply CR 5 rfl (by kernel_rfl) (fun _ _ _ h=>h) rfl
   ·(intro W;go_simp;try rfl)
   ·(go_simp;try rfl)
   apply CR 6 rfl (by kernel_rfl) (fun _ _ _ h=>h) rfl
   ·(intro W;go_simp;try rfl)
   ·(go_simp;try rfl)
   refine QB 7 (by kernel_rfl) rfl (fun K hK=>?_)
   obtain⟨j,hj⟩:∃ j,j=Nat.min k (N - k):=⟨_,rfl⟩
   have hj':j<=k/\j<=N - k/\1<=j:=⟨by rw [hj];exact Nat.min_le_left _ _,by rw [hj];exact Nat.min_le_right _ _,by rw [hj];exact Nat.le_min.2 ⟨hk1,by omega⟩⟩
   have hst:=Hn (xs:= [Value.int .i64 x]) (zs:= [Value.int .i64 0]) (k:=k) (m:=N - k) (j:=j) rfl hj'.2.1
   have hc2:=Gm (P:=Tryz.prog) w0.drew 24 24 3 3 g (k*1) (N - k) (N - k) ⟨g,0,none⟩ k N _ 3 (List.replicate j [Value.int .i64 x]).flatten 1 Tryz.underlying24 (by kernel_rfl) (show w0.drew.heap[g]? = _ from hI.out.1)
    (by rw [<-hj,Ln];rfl) (fun i v hv=>by
     rw [Addr.add_lit,Ap,cell_of_row w0.drew g _ _ 3 (0,0) hI.out.1]
     simpa using Ok hj'.1 hv) (by simp [Cd];omega) (fun v hv=>by
    obtain⟨l,hl,hv⟩:=List.mem_flatten.1 hv
    rw [List.eq_of_mem_replicate hl] at hv
    simp at hv
    first | (subst hv;rfl) | (rcases hv with rfl | rfl | rfl <;> rfl))
   rw [show (Cd [Value.int .i64 x] [Value.int .i64 0] k (N - k)).toArray.toList=Cd [Value.int .i64 x] [Value.int .i64 0] k (N - k) from rfl] at hc2
   simp only [Ai,AK,Ap] at hst
   rw [hst,<-hj] at hc2
   try simp only [Dx] at hc2
   have hg2:=setRow_heap _ g _ (Cd [Value.int .i64 x] [Value.int .i64 0] (k+j) (N - k - j)).toArray 3 (0,0) (show w0.drew.heap[g]? = _ from hI.out.1)
   have hB2:=(hI.out.2.trans ((G5 w0).mono hI.out.2.size)).grown (Fh (w:=w0.drew) (g:=g) (cs:=(Cd [Value.int .i64 x] [Value.int .i64 0] (k+j) (N - k - j)).toArray) (row:=some g) rfl) (by have:=hI.out.2.size;simpa using this) (fun b e=>by cases e;exact HH.out.2.2)
   have HK:=Lib.hid (And.intro hj' (And.intro hg2 hB2))
   have hwj:IntKind.i64.wrap ((k:Int)+(j:Int))=((k+j:Nat):Int):=by have:=HN.out;rw [IntKind.wrap_i64];omega
   clear hst hg2 hB2 hj' hj hI
   refine JI rfl _ _ _ _ rfl (by rfl) (by rfl) hc2 ?_
   refine hK _ _ ⟨fun _ _=>trivial,?_⟩;clear hK K
   clear hc2
   apply CR 8 rfl (by kernel_rfl) (fun _ _ _ h=>h) rfl
   ·(intro W;go_simp;try rfl)
   ·(go_simp;try rfl)
   apply CR 9 rfl (by kernel_rfl) (fun _ _ _ h=>h) rfl
   ·(intro W;go_simp;try rfl)
   ·(go_simp;try rfl)
   refine QC (by kernel_rfl) ?_
   generalize w0.drew.setRow g (Cd [Value.int .i64 x] [Value.int .i64 0] (k+j) (N - k - j)).toArray=w3 at HK |-
   clear hwj
   go_wp2_with fail
   go_roundg (N - (k+j))
   case measure=>have:=HK.out.1;omega
   case rel=>exact⟨k+j,by go_num,by omega,by have:=HK.out.1;omega,by omega,Lib.hid (by rw [Nat.sub_sub] at HK;exact HK.out.2)⟩
  ·obtain rfl:k=N:=by omega
   have HE:=Lib.hid (And.intro HH.out.2.2 hI.out)
   have hnl:¬(k:Int)<k:=by omega
   clear hI HH
   go_wp2
   go_ret
   rw [Dc] at HE
   exact⟨g,rfl,HE.out.1,HE.out.2.1,HE.out.2.2⟩
end Go.Proofs.YtldngmdpiifamaaGreatDoor
end
section
namespace Go.Proofs.YtldngmdpiifamaaGreatDoor
open Go.RowKit
attribute [local go_sem ↓] Go.wp_at_zero Go.wp_at_succ

theorem Oj (a:Addr) (cap:Nat) (x y:Int) (z:Bool) (N:Nat) (w:World) (hN:2<=N/\N<=6) (hx:∀ j u, [Value.int .i64 x, .int .i64 y, .bool z][j]? = some u->w.cell? (a.add j)=some u)
  (hmul:Calls Tryz.prog 185 #[.int .u64 1, .int .u64 N] w fun e w'=>e = .returned (.tuple #[.int .u64 0, .int .u64 N])/\Below w.heap.size w w') :
  Calls Tryz.prog 133 #[.slice (some a) 1 cap, .int .i64 N] w fun e w'=>∃ g,e = .returned (.slice (some ⟨g,0,none⟩) N N)/\w.heap.size<=g/\w'.heap[g]? = some (.cells (Cd [Value.int .i64 x, .int .i64 y, .bool z] [Value.int .i64 0, .int .i64 0, .bool false] N 0).toArray 200 (0,0))/\Below w.heap.size w w':=by
 have hw1:IntKind.u64.wrap (N:Int)=N:=by rw [IntKind.wrap_u64];omega
 have hw2:IntKind.i64.wrap (N:Int)=N:=by rw [IntKind.wrap_i64];omega
 have h0:¬(N:Int)<0:=by omega
 have h9:¬(9223372036854775807:Int)<N:=by omega
 have hmk:∀ w:World,(Instr.makeSlice 145 (.int .i64 (N:Int)) (.int .i64 (N:Int))).run Tryz.prog w = .ok (.slice (some ⟨w.heap.size,0,none⟩) N N) (w.alloc (.cells (Cd [Value.int .i64 x, .int .i64 y, .bool z] [Value.int .i64 0, .int .i64 0, .bool false] 0 N).toArray 200)):=by
  intro w
  obtain⟨i,h1,h2,h3,h4⟩:=info_parts (show (Tryz.prog.info? 200).map (fun i=>(i.zero,i.size,i.bytes))=some (some (.agg #[.int .i64 0, .int .i64 0, .bool false]),3,24) by kernel_rfl)
  have hr:=run_make (P:=Tryz.prog) w 145 200 i (.agg #[.int .i64 0, .int .i64 0, .bool false]) (by kernel_rfl) h1 h2 .i64 .i64 N N (by omega) (by omega) (by rw [h4];omega) (by omega)
  simp only [Aa,h3] at hr
  rw [hr]
  congr 3
  rw [Cd]
  rcases(show N=2\/N=3\/N=4\/N=5\/N=6 by omega) with rfl | rfl | rfl | rfl | rfl <;> kernel_rfl
 have HX:=Lib.hid hx
 have HM:=Lib.hid hmul
 have HN:=Lib.hid hN
 clear hx hmul hN
 go_enter Tryz.func133,Tryz.ntmps133
 go_wp2_with (go_at_call 185;go_must (with_reducible refine HM.out.mono ?_);rintro e w1 ⟨rfl,hB1⟩)
 have hn1:¬((some ⟨w1.heap.size,0,none⟩:Option Addr)=none):=by simp
 have hg1:(w1.alloc (.cells (Cd [Value.int .i64 x, .int .i64 y, .bool z] [Value.int .i64 0, .int .i64 0, .bool false] 0 N).toArray 200)).heap[w1.heap.size]? = some (.cells (Cd [Value.int .i64 x, .int .i64 y, .bool z] [Value.int .i64 0, .int .i64 0, .bool false] 0 N).toArray 200 (0,0)):=heap_alloc_new w1 _
 have hBA:=hB1.trans ((Below.refl w1.heap.size w1).alloc (Nat.le_refl _) (.cells (Cd [Value.int .i64 x, .int .i64 y, .bool z] [Value.int .i64 0, .int .i64 0, .bool false] 0 N).toArray 200) |>.mono hB1.size)
 have hc1:=Gm (P:=Tryz.prog) (w1.alloc (.cells (Cd [Value.int .i64 x, .int .i64 y, .bool z] [Value.int .i64 0, .int .i64 0, .bool false] 0 N).toArray 200)) 145 145 3 200 w1.heap.size 0 N N a 1 cap _ 200 (List.replicate 1 [Value.int .i64 x, .int .i64 y, .bool z]).flatten 3 Tryz.underlying145 (by kernel_rfl) hg1
  (by rw [show Nat.min 1 N=1 from Co (by have:=HN.out;omega)];rfl) (fun j v hv=>Ip hBA (HX.out j v (by simpa using hv))) (by have:=HN.out;simp [Cd];omega) (fun v hv=>by
    obtain⟨l,hl,hv⟩:=List.mem_flatten.1 hv
    rw [List.eq_of_mem_replicate hl] at hv
    simp at hv
    first | (subst hv;rfl) | (rcases hv with rfl | rfl | rfl <;> rfl))
 have hl1:=Hn (xs:= [Value.int .i64 x, .int .i64 y, .bool z]) (zs:= [Value.int .i64 0, .int .i64 0, .bool false]) (k:=0) (m:=N) (j:=1) rfl (by have:=HN.out;omega)
 rw [show Nat.min 1 N=1 from Co (by have:=HN.out;omega)] at hc1
 rw [hc1]
 simp only [Nat.zero_mul] at hl1
 rw [show (Cd [Value.int .i64 x, .int .i64 y, .bool z] [Value.int .i64 0, .int .i64 0, .bool false] 0 N).toArray.toList=Cd [Value.int .i64 x, .int .i64 y, .bool z] [Value.int .i64 0, .int .i64 0, .bool false] 0 N from rfl,hl1]
 have hg2:=setRow_heap _ w1.heap.size _ (Cd [Value.int .i64 x, .int .i64 y, .bool z] [Value.int .i64 0, .int .i64 0, .bool false] (0+1) (N - 1)).toArray 200 (0,0) hg1
 have hB2:=hBA.grown (Fh (w:=w1.alloc (.cells (Cd [Value.int .i64 x, .int .i64 y, .bool z] [Value.int .i64 0, .int .i64 0, .bool false] 0 N).toArray 200)) (g:=w1.heap.size) (cs:=(Cd [Value.int .i64 x, .int .i64 y, .bool z] [Value.int .i64 0, .int .i64 0, .bool false] (0+1) (N - 1)).toArray) (row:=some w1.heap.size) rfl) (by simp;have:=hB1.size;omega) (fun b e=>by cases e;exact hB1.size)
 obtain⟨g,hg⟩:∃ g,g=w1.heap.size:=⟨_,rfl⟩
 have hgs:=hB1.size
 rw [<-hg] at hg2 hB2 hgs |-
 clear hc1 hl1 hBA hg1 hn1
 generalize (w1.alloc (.cells (Cd [Value.int .i64 x, .int .i64 y, .bool z] [Value.int .i64 0, .int .i64 0, .bool false] 0 N).toArray 200)).setRow g (Cd [Value.int .i64 x, .int .i64 y, .bool z] [Value.int .i64 0, .int .i64 0, .bool false] (0+1) (N - 1)).toArray=w2 at hg2 hB2 |-
 have HH:=Lib.hid (And.intro hg2 (And.intro hB2 hgs))
 clear hg2 hB2 hgs hg hB1
 go_wp2_with fail
 go_loopg [8] N (fun gg s8 wr=>∃ k:Nat,s8 = .int .i64 k/\1<=k/\k<=N/\N - k<=gg/\Hid (wr.heap[g]? = some (.cells (Cd [Value.int .i64 x, .int .i64 y, .bool z] [Value.int .i64 0, .int .i64 0, .bool false] k (N - k)).toArray 200 (0,0))/\Below w.heap.size w wr))
 case atStart=>exact⟨1,rfl,Nat.le_refl _,by have:=HN.out;omega,by omega,Lib.hid ⟨HH.out.1,HH.out.2.1⟩⟩
 case round=>
  obtain⟨k,rfl,hk1,hkl,hgg,hI⟩:=hrel
  obtain⟨w0,rfl⟩:∃ w0,w0=wr:=⟨_,rfl⟩
  by_cases hlt:k<N
  ·have hlt':(k:Int)<N:=by omega
   have hne:¬N=k:=by omega
   have hkN:(k:Int)<=N:=by omega
   have hk0:(0:Int)<=k:=by omega
   go_wp2_with fail
   refine Oe [] (fun _=>True) (by kernel_rfl) ?_
   apply CR 0 rfl (by kernel_rfl) (fun _ _ _ h=>h) rfl
   ·(intro W;go_simp;try rfl)
   ·(go_simp;try rfl)
   apply CR 1 rfl (by kernel_rfl) (fun _ _ _ h=>h) rfl
   ·(intro W;go_simp;try rfl)
   ·(go_simp;try rfl)
   apply CR 2 rfl (by kernel_rfl) (fun _ _ _ h=>h) rfl
   ·(intro W;go_simp;try rfl)
   ·(go_simp;try rfl)
   apply CR 3 rfl (by kernel_rfl) (fun _ _ _ h=>h) rfl
   ·(intro W;go_simp;try rfl)
   ·(go_simp;try rfl)
   apply CR 4 rfl (by kernel_rfl) (fun _ _ _ h=>h) rfl
   ·(intro W;go_simp;try rfl)
   ·(go_simp;try rfl)
   apply CR 5 rfl (by kernel_rfl) (fun _ _ _ h=>h) rfl
   ·(intro W;go_simp;try rfl)
   ·(go_simp;try rfl)
   apply CR 6 rfl (by kernel_rfl) (fun _ _ _ h=>h) rfl
   ·(intro W;go_simp;try rfl)
   ·(go_simp;try rfl)
   refine QB 7 (by kernel_rfl) rfl (fun K hK=>?_)
   obtain⟨j,hj⟩:∃ j,j=Nat.min k (N - k):=⟨_,rfl⟩
   have hj':j<=k/\j<=N - k/\1<=j:=⟨by rw [hj];exact Nat.min_le_left _ _,by rw [hj];exact Nat.min_le_right _ _,by rw [hj];exact Nat.le_min.2 ⟨hk1,by omega⟩⟩
   have hst:=Hn (xs:= [Value.int .i64 x, .int .i64 y, .bool z]) (zs:= [Value.int .i64 0, .int .i64 0, .bool false]) (k:=k) (m:=N - k) (j:=j) rfl hj'.2.1
   have hc2:=Gm (P:=Tryz.prog) w0.drew 145 145 3 200 g (k*3) (N - k) (N - k) ⟨g,0,none⟩ k N _ 200 (List.replicate j [Value.int .i64 x, .int .i64 y, .bool z]).flatten 3 Tryz.underlying145 (by kernel_rfl) (show w0.drew.heap[g]? = _ from hI.out.1)
    (by rw [<-hj,Ln];rfl) (fun i v hv=>by
     rw [Addr.add_lit,Ap,cell_of_row w0.drew g _ _ 200 (0,0) hI.out.1]
     simpa using Ok hj'.1 hv) (by simp [Cd];omega) (fun v hv=>by
    obtain⟨l,hl,hv⟩:=List.mem_flatten.1 hv
    rw [List.eq_of_mem_replicate hl] at hv
    simp at hv
    first | (subst hv;rfl) | (rcases hv with rfl | rfl | rfl <;> rfl))
   rw [show (Cd [Value.int .i64 x, .int .i64 y, .bool z] [Value.int .i64 0, .int .i64 0, .bool false] k (N - k)).toArray.toList=Cd [Value.int .i64 x, .int .i64 y, .bool z] [Value.int .i64 0, .int .i64 0, .bool false] k (N - k) from rfl] at hc2
   simp only [Ai,AK,Ap] at hst
   rw [hst,<-hj] at hc2
   try simp only [Dx] at hc2
   have hg2:=setRow_heap _ g _ (Cd [Value.int .i64 x, .int .i64 y, .bool z] [Value.int .i64 0, .int .i64 0, .bool false] (k+j) (N - k - j)).toArray 200 (0,0) (show w0.drew.heap[g]? = _ from hI.out.1)
   have hB2:=(hI.out.2.trans ((G5 w0).mono hI.out.2.size)).grown (Fh (w:=w0.drew) (g:=g) (cs:=(Cd [Value.int .i64 x, .int .i64 y, .bool z] [Value.int .i64 0, .int .i64 0, .bool false] (k+j) (N - k - j)).toArray) (row:=some g) rfl) (by have:=hI.out.2.size;simpa using this) (fun b e=>by cases e;exact HH.out.2.2)
   have HK:=Lib.hid (And.intro hj' (And.intro hg2 hB2))
   have hwj:IntKind.i64.wrap ((k:Int)+(j:Int))=((k+j:Nat):Int):=by have:=HN.out;rw [IntKind.wrap_i64];omega
   clear hst hg2 hB2 hj' hj hI
   refine JI rfl _ _ _ _ rfl (by rfl) (by rfl) hc2 ?_
   refine hK _ _ ⟨fun _ _=>trivial,?_⟩;clear hK K
   clear hc2
   apply CR 8 rfl (by kernel_rfl) (fun _ _ _ h=>h) rfl
   ·(intro W;go_simp;try rfl)
   ·(go_simp;try rfl)
   apply CR 9 rfl (by kernel_rfl) (fun _ _ _ h=>h) rfl
   ·(intro W;go_simp;try rfl)
   ·(go_simp;try rfl)
   refine QC (by kernel_rfl) ?_
   generalize w0.drew.setRow g (Cd [Value.int .i64 x, .int .i64 y, .bool z] [Value.int .i64 0, .int .i64 0, .bool false] (k+j) (N - k - j)).toArray=w3 at HK |-
   clear hwj
   go_wp2_with fail
   go_roundg (N - (k+j))
   case measure=>have:=HK.out.1;omega
   case rel=>exact⟨k+j,by go_num,by omega,by have:=HK.out.1;omega,by omega,Lib.hid (by rw [Nat.sub_sub] at HK;exact HK.out.2)⟩
  ·obtain rfl:k=N:=by omega
   have HE:=Lib.hid (And.intro HH.out.2.2 hI.out)
   have hnl:¬(k:Int)<k:=by omega
   clear hI HH
   go_wp2
   go_ret
   rw [Dc] at HE
   exact⟨g,rfl,HE.out.1,HE.out.2.1,HE.out.2.2⟩
end Go.Proofs.YtldngmdpiifamaaGreatDoor
end
section
namespace Go.Proofs.YtldngmdpiifamaaGreatDoor.A
open Go.RowKit
theorem TH (N:Nat) (hN:2<=N/\N<=6):Fn Tryz.prog 185 [.v (.int .u64 1), .v (.int .u64 N)] fun r=>r = .tp [.v (.int .u64 0), .v (.int .u64 N)]:=by
 have h:∀ N,2<=N/\N<=6->Fn Tryz.prog 221 [.v (.int .u64 1), .v (.int .u64 (N:Nat))] fun r=>r = .tp [.v (.int .u64 0), .v (.int .u64 N)]:=by
  intro N hN
  rcases(show N=2\/N=3\/N=4\/N=5\/N=6 by omega) with rfl | rfl | rfl | rfl | rfl
  all_goals
   refine Fn.st Tryz.func221 rfl ?_
   conv=>whnf
   repeat' (first | (refine And.intro (by decide) ?_;conv=>whnf) | fail)
   exact⟨_,ri,rfl⟩
 have h:=h N hN
 refine Fn.st Tryz.func185 rfl ?_
 conv=>whnf
 refine Fn.cl h ?_
 exact⟨_,ri,rfl⟩
theorem MY {c:Ctx} {l:List AV} {xs:List Value}:∀ N,RdL l c xs->RdL (List.replicate N l).flatten c (List.replicate N xs).flatten
 | 0,_=>by simp [RdL]
 | N+1,h=>by
  rw [C7,C7,Az,Az]
  exact RdL.append h (MY N h)
theorem Vn (N:Nat) (hN:2<=N/\N<=6) (x:Int) (get:Nat->List AV) (hget:get 0=[.v (.int .i64 x)]) :
  ACalls Tryz.prog false 236 [.sl 1 1 get, .v (.int .i64 N)] [] fun r H=>r = .ow 0 N/\H=[.row 3 1 (List.replicate N [.v (.int .i64 x)])]:=by
 refine⟨⟨_,Tryz.func236,rfl,by decide⟩,fun w0 M0 c us hs hr=>?_⟩
 obtain⟨u1,u2,rfl,h1,h2⟩:=X4 hr
 simp only [Rd] at h1 h2
 subst h2
 obtain⟨a,k,rfl,_,_,h3⟩:=h1
 obtain⟨b,off,rfl,hm,hb,hc⟩:=h3.resolve_left (by decide)
 have hc0:=(hc 0 (by decide)).2
 rw [hget] at hc0
 simp only [RdAt,Rd,Nat.zero_mul,BL,and_true] at hc0
 obtain⟨u,q1,_,rfl⟩:=hc0
 have hmul:=(TH N hN).calls (Ctx.closed { c with M:=fun _=>False }) [.int .u64 1, .int .u64 N] rfl (fun _ h=>h.elim) hs.glob (by simp [RdL,Rd])
 refine(Oi ⟨b,off,none⟩ k x N c.w hN (fun j u hu=>?_) (hmul.mono ?_)).mono ?_
 ·cases j with
  | zero=>simp at hu;subst hu;exact q1
  | succ j=>simp at hu
 ·rintro e w' ⟨v,r,rfl,rfl,q2,q3⟩
  simp only [Rd,RdL] at q3
  obtain⟨_,rfl,y,ys,rfl,rfl,z,zs,rfl,rfl,rfl⟩:=q3
  exact⟨rfl,q2⟩
 ·rintro e w' ⟨g,rfl,hg,hh,hB⟩
  have hrow:=hs.newrow hB (t:=3) (sz:=1) (es:=List.replicate N [AV.v (.int .i64 x)]) (v:= .slice (some ⟨g,0,none⟩) N N) (xs:=(List.replicate N [Value.int .i64 x]).flatten) (by decide) (fun e he=>by rw [List.eq_of_mem_replicate he];rfl)
   ⟨by simp, .inr ⟨g,N,_,by simp,hg,hh,by simp,by unfold maxLen;omega,by simp [Cd],by simp only [Cd,List.replicate_zero,List.flatten_nil,List.append_nil];exact List.take_of_length_le (by simp)⟩⟩ (fun u hu=>by obtain⟨l,hl,hu⟩:=List.mem_flatten.1 hu;rw [List.eq_of_mem_replicate hl] at hu;simp at hu;subst hu;rfl) ?_
  ·rw [Bm] at hrow
   exact⟨_,_,_,_,rfl,rfl,⟨rfl,rfl⟩,hrow.1,hrow.2.1,hrow.2.2,fun e=>by cases e⟩
  ·exact MY N (l:= [AV.v (.int .i64 x)]) (xs:= [Value.int .i64 x]) (by simp [RdL,Rd])
theorem T2 (N:Nat) (hN:2<=N/\N<=6) (x y:Int) (z:Bool) (get:Nat->List AV) (hget:get 0=[.v (.int .i64 x), .v (.int .i64 y), .v (.bool z)]) :
  ACalls Tryz.prog false 133 [.sl 3 1 get, .v (.int .i64 N)] [] fun r H=>r = .ow 0 N/\H=[.row 200 3 (List.replicate N [.v (.int .i64 x), .v (.int .i64 y), .v (.bool z)])]:=by
 refine⟨⟨_,Tryz.func133,rfl,by decide⟩,fun w0 M0 c us hs hr=>?_⟩
 obtain⟨u1,u2,rfl,h1,h2⟩:=X4 hr
 simp only [Rd] at h1 h2
 subst h2
 obtain⟨a,k,rfl,_,_,h3⟩:=h1
 obtain⟨b,off,rfl,hm,hb,hc⟩:=h3.resolve_left (by decide)
 have hc0:=(hc 0 (by decide)).2
 rw [hget] at hc0
 simp only [RdAt,Rd,Nat.zero_mul,BL,and_true] at hc0
 obtain⟨⟨_,q1,_,rfl⟩,⟨_,q2,_,rfl⟩,⟨_,q3,_,rfl⟩⟩:=hc0
 have hmul:=(TH N hN).calls (Ctx.closed { c with M:=fun _=>False }) [.int .u64 1, .int .u64 N] rfl (fun _ h=>h.elim) hs.glob (by simp [RdL,Rd])
 refine(Oj ⟨b,off,none⟩ k x y z N c.w hN (fun j u hu=>?_) (hmul.mono ?_)).mono ?_
 ·match j,hu with
  | 0,hu=>simp at hu;subst hu;exact q1
  | 1,hu=>simp at hu;subst hu;exact q2
  | 2,hu=>simp at hu;subst hu;exact q3
  | j+3,hu=>simp at hu
 ·rintro e w' ⟨v,r,rfl,rfl,q2,q3⟩
  simp only [Rd,RdL] at q3
  obtain⟨_,rfl,y,ys,rfl,rfl,z,zs,rfl,rfl,rfl⟩:=q3
  exact⟨rfl,q2⟩
 ·rintro e w' ⟨g,rfl,hg,hh,hB⟩
  have hrow:=hs.newrow hB (t:=200) (sz:=3) (es:=List.replicate N [AV.v (.int .i64 x), .v (.int .i64 y), .v (.bool z)]) (v:= .slice (some ⟨g,0,none⟩) N N) (xs:=(List.replicate N [Value.int .i64 x, .int .i64 y, .bool z]).flatten) (by decide) (fun e he=>by rw [List.eq_of_mem_replicate he];rfl)
   ⟨by simp, .inr ⟨g,N,_,by simp,hg,hh,by simp,by unfold maxLen;omega,by simp [Cd],by simp only [Cd,List.replicate_zero,List.flatten_nil,List.append_nil];exact List.take_of_length_le (by simp)⟩⟩ (fun u hu=>by obtain⟨l,hl,hu⟩:=List.mem_flatten.1 hu;rw [List.eq_of_mem_replicate hl] at hu;simp at hu;rcases hu with rfl | rfl | rfl <;> rfl) ?_
  ·rw [Bm] at hrow
   exact⟨_,_,_,_,rfl,rfl,⟨rfl,rfl⟩,hrow.1,hrow.2.1,hrow.2.2,fun e=>by cases e⟩
  ·exact MY N (l:= [AV.v (.int .i64 x), .v (.int .i64 y), .v (.bool z)]) (xs:= [Value.int .i64 x, .int .i64 y, .bool z]) (by simp [RdL,Rd])
theorem Ld (n k:Nat) (c:List UInt8):Dm n (k+1) c=Dm n k c ++ [IN n (c.drop ((n+5)*k))]:=by
 rw [Dm,Dm,Bo,Aq];rfl
theorem Ep (n k:Nat) (c:List UInt8):(Dm n k c).length=k:=by simp [Dm]
theorem Pz (n:Nat):∀ s∈GB n,DX s:=by
 intro s hs
 rw [GB,Ax] at hs
 rcases hs with hs | hs
 ·rw [EH] at hs;rw [List.eq_of_mem_replicate hs];exact .inl rfl
 ·simp at hs;subst hs;exact .inr (.inr rfl)
theorem IL {L:List Int} {n:Nat} {es:List (List AV)} (hn:n=L.length) (he:es=L.map Sj) (c:Ctx) (v:Value) (h:Rd (.sl 1 n fun i=>es.getD i []) c v):Rd (iA L) c v:=by
 subst he
 exact Rd.congr hn (fun i hi=>Bh (f:=Sj) (l:=L) (d:=0) (hn ▸ hi)) h
theorem Ji (b:List UInt8) (ss:List Int) (hss:∀ s∈ss,DX s) (hl:b.length<=1000000) (hn:ss.length<=1000) (ht:tot ss<=b.length):Fn Tryz.prog 215 [bA b,iA ss] fun r=>r = .tp [iA (nums ss b),bA (b.drop (tot ss)), .v (.int .i64 0)]:=by
 refine ACalls.fn (EC b ss hss hl hn ht) ?_
 rintro _ _ ⟨rfl,rfl⟩
 refine⟨_,ConvH.refl _,?_⟩
 refine⟨(by rw [Ab,nums_len]),?_⟩
 exact⟨.tp [iA (nums ss b),bA (b.drop (tot ss)), .v (.int .i64 0)],Bu ⟨IL (by rw [nums_len]) rfl,ri,ri,trivial⟩,rfl⟩
theorem OR {n:Nat} {c:List UInt8} {x y:Int} (hw1:x=(n:Int)) (hw2:y=((n+1:Nat):Int)) (hnl:(nums (GB n) c).length=n+2):SubL [AV.sl 1 (x.toNat - Int.toNat 0) fun i=>(fun i=> [AV.v (Value.int IntKind.i64 ((nums (GB n) c).getD i 0))]) (i+Int.toNat 0),AV.v (.int .i64 ((nums (GB n) c).getD x.toNat 0)),AV.v (.int .i64 ((nums (GB n) c).getD y.toNat 0))] (H8 (IN n c)):=by
 subst hw1 hw2
 rw [Aa,Aa]
 refine⟨fun c' u h=>?_,fun _ _ h=>h,fun _ _ h=>h,trivial⟩
 refine Rd.congr ?_ (fun i hi=>?_) h
 ·show n - 0=((nums (GB n) c).take n).length;rw [Ao];omega
 ·have hi':i<n:=hi
  show [AV.v (.int .i64 ((nums (GB n) c).getD (i+0) 0))]=[AV.v (.int .i64 (((nums (GB n) c).take n).getD i 0))]
  rw [List.getD_eq_getElem?_getD,List.getD_eq_getElem?_getD,List.getElem?_take_of_lt hi']
  rfl
theorem TY (g:Geo) (b:List UInt8) (hg:AS g=true) (hb:b.length<=100000):Fn Tryz.prog 231 [.ag (A7 g),bA b] fun r=>r = .tp [H4 (if g.z.toNat*(g.d.toNat+6)<=b.length then Dm (g.d.toNat+1) g.z.toNat b else []), .v (.int .i64 (if g.z.toNat*(g.d.toNat+6)<=b.length then 0 else 4))]:=by
 obtain⟨g1,g2,g3,g4,g5⟩:=Am.1 hg
 obtain⟨n,hn⟩:∃ n:Nat,n=g.d.toNat+1:=⟨_,rfl⟩
 have hr:=Vn (n+1) (by omega) 1 (fun i=> [[AV.v (Value.int IntKind.i64 1)]].getD i []) rfl
 have hw2:IntKind.i64.wrap (g.d+2)=((n+1:Nat):Int):=by rw [wi (by omega)];omega
 refine Fn.st Tryz.func231 rfl ?_
 conv=>whnf
 rw [hw2]
 refine ACalls.shut hr.go ?_
 refine⟨rfl,?_⟩
 conv=>whnf
 refine ACalls.beside hr rfl ?_
 rintro _ _ ⟨rfl,rfl⟩
 refine⟨rfl,?_⟩
 refine⟨⟨by simp,by omega⟩,?_⟩
 conv=>whnf
 have es0:List.replicate (n+1) [AV.v (.int .i64 1)] ++ [[AV.v (.int .i64 4)]]=(GB n).map Sj:=by
  rw [GB,Aq,EH,List.map_replicate];rfl
 have el0:n+1+1=(List.replicate (n+1) [AV.v (.int .i64 1)] ++ [[AV.v (.int .i64 4)]]).length:=by simp
 have hst:=fun k=>Ld n k b
 by_cases hs:g.z.toNat*(g.d.toNat+6)<=b.length
 ·rw [if_pos hs,if_pos hs]
  refine aLoop.ruleRR Nat (fun k=>([(1,bA (b.drop ((n+5)*k))),(2, .bp 0 0),(6, .ow 1 k),(7,iA (GB n)),(19, .v (.int .i64 g.z)),(20, .v (.int .i64 k))], [.box 23 (A7 g), .row 132 3 ((Dm n k b).map H8)])) (fun k=>k<=g.z.toNat) (fun k=>g.z.toNat - k) 0 (Ag _) ?_ ?_
  ·refine⟨_,_,ConvF.trans (ConvF.shutF 7 2 (congrArg (AV.ow 2) el0) rfl) (ConvF.sub 7 rfl (IL (L:=GB n) (by rw [es0,Ab]) es0)), [(6,132,3)],⟨rfl,rfl,trivial⟩, [0,4],⟨rfl,rfl,rfl,rfl,rfl,rfl,trivial⟩,⟨rfl,rfl,trivial⟩,rfl,rfl,rfl,rfl,rfl⟩
  ·intro k hk
   conv=>whnf
   refine Al (fun h6=>?_) (fun h6=>?_) <;> (repeat rw [Aa] at h6) <;> conv=>whnf
   ·have hu:=Ji (b.drop ((n+5)*k)) (GB n) (Pz n) (by rw [Ac];omega) (by rw [EQ];omega) (by
     rw [EP,Ac]
     have:(n+5)*(k+1)<=(n+5)*g.z.toNat:=Nat.mul_le_mul_left _ (by omega)
     rw [CA] at this
     have:(n+5)*g.z.toNat=g.z.toNat*(g.d.toNat+6):=by rw [hn,Dd]
     omega)
    rw [EP] at hu
    refine Fn.cl hu ?_
    conv=>whnf
    have hnl:(nums (GB n) (b.drop ((n+5)*k))).length=n+2:=by rw [nums_len,EQ]
    have hw1:IntKind.i64.wrap (g.d+1)=(n:Int):=by rw [wi (by omega)];omega
    apply aDraw.treeK (0) tys_ok mixed (.one 0 (.one 1 (.one 2 (.one 3 (.one 4 (.one 5 (.one 6 (.one 7 (.one 8 (.one 9 (.one 10 (.one 11 (.one 12 (.one 13 (.one 14 (.one 15 (.one 16 (.one 17 (.one 18 (.one 19 (.one 20 (.one 21 (.one 22 (.one 23 (.one 24 .fin))))))))))))))))))))))))) (by kernel_rfl)
    conv=>whnf
    try (refine And.intro (by first | omega | (simp;done)) ?_;conv=>whnf)
    try (refine And.intro (by first | omega | (simp;done)) ?_;conv=>whnf)
    try (refine And.intro (by first | omega | (simp;done)) ?_;conv=>whnf)
    try (refine And.intro (by first | rfl | omega) ?_;conv=>whnf)
    try (refine And.intro (by first | omega | exact⟨by first | rfl | (simp;done) | (simp;omega),by omega⟩) ?_;conv=>whnf)
    refine⟨⟨by rw [Ab,Ep],by omega⟩,?_⟩
    conv=>whnf
    have e':=OR (n:=n) (c:=b.drop ((n+5)*k)) hw1 hw2 hnl
    refine⟨k+1,by omega,by omega,WkN.rc (ConvF.ofH (ConvH.last 1 rfl e')) (s:= [0,1]) ⟨⟨congrArg bA (by rw [Aw,CA]),rfl,rfl,rfl,rfl,AA (by omega),trivial⟩,⟨rfl,congrArg (fun l=>some (AB.row _ _ l)) (by rw [hst k,Aq];rfl),trivial⟩,rfl,rfl,rfl,rfl,rfl⟩⟩
   ·have ek:k=g.z.toNat:=by omega
    subst ek
    refine⟨(by rw [Ab,Ep]),?_⟩
    exact⟨.tp [H4 (Dm n g.z.toNat b), .v (.int .i64 0)],Bu ⟨AJ (f:=H8) (Dm n g.z.toNat b) (by rw [Ep]) rfl,ri,trivial⟩,by rw [hn]⟩
 ·rw [if_neg hs,if_neg hs]
  refine aLoop.ruleRR Nat (fun k=>([(1,bA (b.drop ((n+5)*k))),(2, .bp 0 0),(6, .ow 1 k),(7,iA (GB n)),(19, .v (.int .i64 g.z)),(20, .v (.int .i64 k))], [.box 23 (A7 g), .row 132 3 ((Dm n k b).map H8)])) (fun k=>(n+5)*k<=b.length) (fun k=>g.z.toNat - k) 0 (Ag _) ?_ ?_
  ·refine⟨_,_,ConvF.trans (ConvF.shutF 7 2 (congrArg (AV.ow 2) el0) rfl) (ConvF.sub 7 rfl (IL (L:=GB n) (by rw [es0,Ab]) es0)), [(6,132,3)],⟨rfl,rfl,trivial⟩, [0,4],⟨rfl,rfl,rfl,rfl,rfl,rfl,trivial⟩,⟨rfl,rfl,trivial⟩,rfl,rfl,rfl,rfl,rfl⟩
  ·intro k hk
   conv=>whnf
   refine Al (fun h6=>?_) (fun h6=>?_) <;> (repeat rw [Aa] at h6) <;> conv=>whnf
   ·by_cases h9:(n+5)*(k+1)<=b.length
    ·have hu:=Ji (b.drop ((n+5)*k)) (GB n) (Pz n) (by rw [Ac];omega) (by rw [EQ];omega) (by
      rw [EP,Ac]
      rw [CA] at h9
      omega)
     rw [EP] at hu
     refine Fn.cl hu ?_
     conv=>whnf
     have hnl:(nums (GB n) (b.drop ((n+5)*k))).length=n+2:=by rw [nums_len,EQ]
     have hw1:IntKind.i64.wrap (g.d+1)=(n:Int):=by rw [wi (by omega)];omega
     apply aDraw.treeK (0) tys_ok mixed (.one 0 (.one 1 (.one 2 (.one 3 (.one 4 (.one 5 (.one 6 (.one 7 (.one 8 (.one 9 (.one 10 (.one 11 (.one 12 (.one 13 (.one 14 (.one 15 (.one 16 (.one 17 (.one 18 (.one 19 (.one 20 (.one 21 (.one 22 (.one 23 (.one 24 .fin))))))))))))))))))))))))) (by kernel_rfl)
     conv=>whnf
     try (refine And.intro (by first | omega | (simp;done)) ?_;conv=>whnf)
     try (refine And.intro (by first | omega | (simp;done)) ?_;conv=>whnf)
     try (refine And.intro (by first | omega | (simp;done)) ?_;conv=>whnf)
     try (refine And.intro (by first | rfl | omega) ?_;conv=>whnf)
     try (refine And.intro (by first | omega | exact⟨by first | rfl | (simp;done) | (simp;omega),by omega⟩) ?_;conv=>whnf)
     refine⟨⟨by rw [Ab,Ep],by omega⟩,?_⟩
     conv=>whnf
     have e':=OR (n:=n) (c:=b.drop ((n+5)*k)) hw1 hw2 hnl
     refine⟨k+1,h9,by omega,WkN.rc (ConvF.ofH (ConvH.last 1 rfl e')) (s:= [0,1]) ⟨⟨congrArg bA (by rw [Aw,CA]),rfl,rfl,rfl,rfl,AA (by omega),trivial⟩,⟨rfl,congrArg (fun l=>some (AB.row _ _ l)) (by rw [hst k,Aq];rfl),trivial⟩,rfl,rfl,rfl,rfl,rfl⟩⟩
    ·have hu:=GA (b.drop ((n+5)*k)) (GB n) (Pz n) (by rw [Ac];omega) (by rw [EQ];omega) (by
      rw [EP,Ac]
      rw [CA] at h9
      omega)
     refine Fn.cl hu ?_
     exact⟨.tp [H4 [], .v (.int .i64 4)],Bu ⟨AP 3 _,ri,trivial⟩,rfl⟩
   ·exfalso
    have:(n+5)*k=k*(g.d.toNat+6):=by rw [hn,Dd]
    have h2:g.z.toNat*(g.d.toNat+6)<=k*(g.d.toNat+6):=BF _ (by omega)
    omega
theorem GF {α:Type} {f:α->List AV} {d:α} {l:List α} {k:Nat} {e:List AV} (hk:k<l.length) (h:SubL e (f (l.getD k d))) (i:Nat):SubL (((l.map f).set k e).getD i []) ((l.map f).getD i []):=by
 by_cases hi:k=i
 ·subst hi
  rw [AR (by simpa using hk),Bh (d:=d) hk]
  exact h
 ·rw [NU hi];exact SubL.refl _
theorem WQ (h:Hm):SubL [.sl 1 h.places.length fun i=>(h.places.map Sj).getD i [], .v (.int .i64 h.next), .v (.int .i64 h.root)] (H8 h):=
 ⟨IL rfl rfl,fun _ _ h=>h,fun _ _ h=>h,trivial⟩
theorem Po (a:An) (hh:a.homes.length<=1000) (hp:∀ h∈a.homes,h.places.length<=1000000):Fn Tryz.prog 116 [.ag (CE a)] fun r=>r = .ag (CE a):=by
 have hc:=Sl a.homes (by omega)
 refine Fn.st Tryz.func116 rfl ?_
 conv=>whnf
 refine ACalls.beside hc rfl ?_
 rintro _ _ ⟨rfl,rfl⟩
 conv=>whnf
 refine aLoop.ruleRR Nat (fun k=>([(1, .bp 0 0),(2, .bp 1 0),(10, .v (.int .i64 a.homes.length)),(11, .v (.int .i64 k))], [.box 40 [.v (.int .i64 a.gen), .v (.int .i64 a.epoch), .v (.int .i64 a.pos), .v (.int .i64 a.seq), .v (.int .i64 a.last), .v (.string a.label), .ow 2 a.homes.length], .box 40 [.v (.int .i64 0), .v (.int .i64 0), .v (.int .i64 0), .v (.int .i64 0), .v (.int .i64 0), .v (.string ⟨#[]⟩), .v (.slice none 0 0)], .row 132 3 (a.homes.map H8)])) (fun k=>k<=a.homes.length) (fun k=>a.homes.length - k) 0 (Ag _)
  (WkN.r (s:= [0,1,2]) ⟨⟨rfl,rfl,rfl,rfl,trivial⟩,⟨rfl,rfl,rfl,trivial⟩,rfl,rfl,rfl,rfl,rfl⟩) ?_
 intro k hk
 conv=>whnf
 refine Al (fun h6=>?_) (fun h6=>?_) <;> (repeat rw [Aa] at h6) <;> conv=>whnf
 ·have hk':k<a.homes.length:=by omega
  have hi:=OQ (a.homes.getD k ⟨[],0,0⟩).places (by have:=hp _ (AE (d:=(⟨[],0,0⟩:Hm)) hk');omega)
  have hE:(a.homes.map H8).getD (k:Int).toNat []=H8 (a.homes.getD k ⟨[],0,0⟩):=by rw [Aa];exact Bh hk'
  apply aDraw.treeK (0) tys_ok mixed (.one 0 (.one 1 (.one 2 (.one 3 (.one 4 (.one 5 (.one 6 (.one 7 (.one 8 (.one 9 (.one 10 (.one 11 (.one 12 .fin))))))))))))) (by kernel_rfl)
  conv=>whnf
  try (first | (refine And.intro ⟨rfl,(Ab _).symm,by omega⟩ ?_;(conv=>whnf);rw [hE]) | skip;conv=>whnf)
  try (first | (refine And.intro ⟨rfl,(Ab _).symm,by omega⟩ ?_;(conv=>whnf);rw [hE]) | skip;conv=>whnf)
  try (refine And.intro (by first | omega | (simp;done)) ?_;conv=>whnf)
  try (first | (refine And.intro ⟨rfl,(Ab _).symm,by omega⟩ ?_;(conv=>whnf);rw [hE]) | skip;conv=>whnf)
  (refine ACalls.beside hi rfl ?_;rintro _ _ ⟨rfl,rfl⟩)
  conv=>whnf
  try (refine And.intro (by first | omega | (simp;done)) ?_;conv=>whnf)
  try (refine And.intro ⟨rfl,by first | rfl | (simp;done) | (simp;omega),by first | omega | (simp;omega)⟩ ?_;conv=>whnf)
  (refine And.intro (Ab _).symm ?_;(conv=>whnf);refine And.intro ⟨rfl,(Ab _).symm,by omega⟩ ?_;(conv=>whnf);rw [hE])
  refine⟨k+1,hk',by omega,WkN.rc (ConvF.ofH (ConvH.subRow (k:=2) rfl (es':=a.homes.map H8) (by simp) ?_)) (s:= [0,1,2]) ⟨⟨rfl,rfl,rfl,AA (by omega),trivial⟩,⟨rfl,rfl,rfl,trivial⟩,rfl,rfl,rfl,rfl,rfl⟩⟩
  rw [Aa]
  exact GF (d:=(⟨[],0,0⟩:Hm)) hk' (WQ _)
 ·have ek:k=a.homes.length:=by omega
  refine And.intro (Ab _).symm ?_
  exact⟨.ag (CE a),AG ⟨ri,ri,ri,ri,ri,ri,AJ (f:=H8) a.homes rfl rfl,trivial⟩,rfl⟩
def DG (d:Dk):List AV:= [MB d.cells,FF d.cache, .v (.int .i64 d.reqs), .v (.int .i64 d.left)]
theorem Rb (d:Dk) (h1:d.cells.length<=1000000000) (h2:d.cache.length<=1000000000):ACalls Tryz.prog false 48 [.ag (DG d)] [] fun r H=>r = .bp 0 0/\H=dkH d:=by
 have c1:=Lz d.cells h1
 have c2:=LG d.cache h2
 refine ACalls.ofR tys_ok Tryz.func48 rfl rfl (Ad rfl) ?_
 conv=>whnf
 apply aDraw.treeK (0) tys_ok mixed (.one 0 (.one 1 (.one 3 (.one 4 (.one 2 (.one 6 (.one 5 (.one 7 (.one 8 (.one 9 .fin)))))))))) (by kernel_rfl)
 conv=>whnf
 (refine ACalls.beside c1 rfl ?_;rintro _ _ ⟨rfl,rfl⟩)
 conv=>whnf
 (refine ACalls.beside c2 rfl ?_;rintro _ _ ⟨rfl,rfl⟩)
 conv=>whnf
 try (refine And.intro ⟨rfl,by first | rfl | (simp;done) | (simp;omega),by first | omega | (simp;omega)⟩ ?_;conv=>whnf)
 try (refine And.intro ⟨rfl,by first | rfl | (simp;done) | (simp;omega),by first | omega | (simp;omega)⟩ ?_;conv=>whnf)
 exact⟨_, .bp 0 0,dkH d,fun _ _ h=>h,WkN.r (s:= [3,1,2]) ⟨⟨rfl,trivial⟩,⟨rfl,rfl,rfl,trivial⟩,rfl,rfl,rfl,rfl,rfl⟩,rfl,rfl⟩
theorem Uw (d:Dk) (h1:d.cells.length<=1000000000) (h2:d.cache.length<=1000000000) (hb:∀ c∈d.cells,c.bytes.length<=1000000000/\c.old.length<=1000000000) (hw:∀ w∈d.cache,w.bytes.length<=1000000000):Fn Tryz.prog 99 [.ag (DG d)] fun r=>r = .ag (DG d):=by
 have c1:=Lz d.cells h1
 have c2:=LG d.cache h2
 refine Fn.st Tryz.func99 rfl ?_
 conv=>whnf
 apply aDraw.treeK (0) tys_ok mixed (.one 0 (.one 1 (.one 3 (.one 4 (.one 2 (.one 6 (.one 5 (.one 7 (.one 8 (.one 9 .fin)))))))))) (by kernel_rfl)
 conv=>whnf
 (refine ACalls.beside c1 rfl ?_;rintro _ _ ⟨rfl,rfl⟩)
 conv=>whnf
 (refine ACalls.beside c2 rfl ?_;rintro _ _ ⟨rfl,rfl⟩)
 conv=>whnf
 try (refine And.intro ⟨rfl,by first | rfl | (simp;done) | (simp;omega),by first | omega | (simp;omega)⟩ ?_;conv=>whnf)
 try (refine And.intro ⟨rfl,by first | rfl | (simp;done) | (simp;omega),by first | omega | (simp;omega)⟩ ?_;conv=>whnf)
 refine aLoop.ruleRR Nat (fun k=>([(1, .bp 0 0),(2, .bp 1 0),(16, .ow 2 d.cells.length),(17, .v (.int .i64 d.cells.length)),(18, .v (.int .i64 k))], [.box 32 (Lx (.ow 2 d.cells.length) (.ow 3 d.cache.length) d.reqs d.left), .box 32 [.v (.slice none 0 0), .v (.slice none 0 0), .v (.int .i64 0), .v (.int .i64 0)], .row 87 3 (d.cells.map Bi), .row 130 2 (d.cache.map DA)])) (fun k=>k<=d.cells.length) (fun k=>d.cells.length - k) 0 (Ag _)
  (WkN.r (s:= [0,1,2,3]) ⟨⟨rfl,rfl,rfl,rfl,rfl,trivial⟩,⟨rfl,rfl,rfl,rfl,trivial⟩,rfl,rfl,rfl,rfl,rfl⟩) ?_
 intro k hk
 conv=>whnf
 refine Al (fun h6=>?_) (fun h6=>?_) <;> (repeat rw [Aa] at h6) <;> conv=>whnf
 ·have hk':k<d.cells.length:=by omega
  have hm:=hb _ (AE (d:=(⟨0, [], []⟩:Cel)) hk')
  have b1:=CH (d.cells.getD k ⟨0, [], []⟩).bytes hm.1
  have b2:=CH (d.cells.getD k ⟨0, [], []⟩).old hm.2
  have hE:(d.cells.map Bi).getD (k:Int).toNat []=Bi (d.cells.getD k ⟨0, [], []⟩):=by rw [Aa];exact Bh hk'
  refine⟨⟨by omega,by omega⟩,?_⟩
  conv=>whnf
  refine And.intro ⟨rfl,(Ab _).symm,by rw [Aa];exact hk'⟩ ?_
  conv=>whnf
  rw [hE]
  conv=>whnf
  apply aDraw.treeK (24) tys_ok mixed (.one 0 (.one 1 (.one 2 (.one 5 (.one 6 (.one 7 (.one 9 (.one 10 (.two 3 (.two 4 (.one 8 (.one 11 (.one 12 (.one 13 (.one 14 (.one 15 (.one 16 (.one 17 .fin)))))))) 8 (.two 4 (.one 11 (.one 12 (.one 13 (.one 14 (.one 15 (.one 16 (.one 17 .fin))))))) 11 (.one 12 (.one 13 (.two 4 (.one 14 (.one 15 (.one 16 (.one 17 .fin)))) 14 (.one 4 (.one 15 (.one 16 (.one 17 .fin))))))))) 8 (.two 3 (.two 4 (.one 11 (.one 12 (.one 13 (.one 14 (.one 15 (.one 16 (.one 17 .fin))))))) 11 (.one 12 (.one 13 (.two 4 (.one 14 (.one 15 (.one 16 (.one 17 .fin)))) 14 (.one 4 (.one 15 (.one 16 (.one 17 .fin)))))))) 11 (.one 12 (.one 13 (.two 3 (.two 4 (.one 14 (.one 15 (.one 16 (.one 17 .fin)))) 14 (.one 4 (.one 15 (.one 16 (.one 17 .fin))))) 14 (.one 3 (.one 4 (.one 15 (.one 16 (.one 17 .fin)))))))))))))))))) (by kernel_rfl)
  refine And.intro ?_ ?_
  refine And.intro ?_ ?_
  conv=>whnf
  refine Fn.cl b1 ?_
  conv=>whnf
  refine Fn.cl b2 ?_
  conv=>whnf
  try (refine And.intro (by first | omega | (simp;done)) ?_;conv=>whnf)
  try (refine And.intro ⟨rfl,by first | rfl | (simp;done) | (simp;omega),by first | omega | (simp;omega)⟩ ?_;conv=>whnf)
  (first | rw [hE] | rw [AR (by rw [Aa,Ab];exact hk')] | skip)
  conv=>whnf
  try (refine And.intro (by first | omega | (simp;done)) ?_;conv=>whnf)
  try (refine And.intro ⟨rfl,by first | rfl | (simp;done) | (simp;omega),by first | omega | (simp;omega)⟩ ?_;conv=>whnf)
  (first | rw [hE] | rw [AR (by rw [Aa,Ab];exact hk')] | skip)
  conv=>whnf
  rotate_left 1
  conv=>whnf
  refine Fn.cl b1 ?_
  refine And.intro ?_ ?_
  conv=>whnf
  refine Fn.cl b2 ?_
  conv=>whnf
  try (refine And.intro (by first | omega | (simp;done)) ?_;conv=>whnf)
  try (refine And.intro ⟨rfl,by first | rfl | (simp;done) | (simp;omega),by first | omega | (simp;omega)⟩ ?_;conv=>whnf)
  (first | rw [hE] | rw [AR (by rw [Aa,Ab];exact hk')] | skip)
  conv=>whnf
  try (refine And.intro (by first | omega | (simp;done)) ?_;conv=>whnf)
  try (refine And.intro ⟨rfl,by first | rfl | (simp;done) | (simp;omega),by first | omega | (simp;omega)⟩ ?_;conv=>whnf)
  (first | rw [hE] | rw [AR (by rw [Aa,Ab];exact hk')] | skip)
  conv=>whnf
  rotate_left 1
  conv=>whnf
  refine Fn.cl b2 ?_
  conv=>whnf
  try (refine And.intro (by first | omega | (simp;done)) ?_;conv=>whnf)
  refine And.intro ?_ ?_
  conv=>whnf
  try (refine And.intro ⟨rfl,by first | rfl | (simp;done) | (simp;omega),by first | omega | (simp;omega)⟩ ?_;conv=>whnf)
  (first | rw [hE] | rw [AR (by rw [Aa,Ab];exact hk')] | skip)
  conv=>whnf
  try (refine And.intro (by first | omega | (simp;done)) ?_;conv=>whnf)
  try (refine And.intro ⟨rfl,by first | rfl | (simp;done) | (simp;omega),by first | omega | (simp;omega)⟩ ?_;conv=>whnf)
  (first | rw [hE] | rw [AR (by rw [Aa,Ab];exact hk')] | skip)
  conv=>whnf
  rotate_left 1
  conv=>whnf
  try (refine And.intro ⟨rfl,by first | rfl | (simp;done) | (simp;omega),by first | omega | (simp;omega)⟩ ?_;conv=>whnf)
  (first | rw [hE] | rw [AR (by rw [Aa,Ab];exact hk')] | skip)
  conv=>whnf
  try (refine And.intro (by first | omega | (simp;done)) ?_;conv=>whnf)
  try (refine And.intro ⟨rfl,by first | rfl | (simp;done) | (simp;omega),by first | omega | (simp;omega)⟩ ?_;conv=>whnf)
  (first | rw [hE] | rw [AR (by rw [Aa,Ab];exact hk')] | skip)
  conv=>whnf
  rotate_left 1
  conv=>whnf
  refine Fn.cl b1 ?_
  refine And.intro ?_ ?_
  refine And.intro ?_ ?_
  conv=>whnf
  refine Fn.cl b2 ?_
  conv=>whnf
  try (refine And.intro (by first | omega | (simp;done)) ?_;conv=>whnf)
  try (refine And.intro ⟨rfl,by first | rfl | (simp;done) | (simp;omega),by first | omega | (simp;omega)⟩ ?_;conv=>whnf)
  (first | rw [hE] | rw [AR (by rw [Aa,Ab];exact hk')] | skip)
  conv=>whnf
  try (refine And.intro (by first | omega | (simp;done)) ?_;conv=>whnf)
  try (refine And.intro ⟨rfl,by first | rfl | (simp;done) | (simp;omega),by first | omega | (simp;omega)⟩ ?_;conv=>whnf)
  (first | rw [hE] | rw [AR (by rw [Aa,Ab];exact hk')] | skip)
  conv=>whnf
  rotate_left 1
  conv=>whnf
  refine Fn.cl b2 ?_
  conv=>whnf
  try (refine And.intro (by first | omega | (simp;done)) ?_;conv=>whnf)
  refine And.intro ?_ ?_
  conv=>whnf
  try (refine And.intro ⟨rfl,by first | rfl | (simp;done) | (simp;omega),by first | omega | (simp;omega)⟩ ?_;conv=>whnf)
  (first | rw [hE] | rw [AR (by rw [Aa,Ab];exact hk')] | skip)
  conv=>whnf
  try (refine And.intro (by first | omega | (simp;done)) ?_;conv=>whnf)
  try (refine And.intro ⟨rfl,by first | rfl | (simp;done) | (simp;omega),by first | omega | (simp;omega)⟩ ?_;conv=>whnf)
  (first | rw [hE] | rw [AR (by rw [Aa,Ab];exact hk')] | skip)
  conv=>whnf
  rotate_left 1
  conv=>whnf
  try (refine And.intro ⟨rfl,by first | rfl | (simp;done) | (simp;omega),by first | omega | (simp;omega)⟩ ?_;conv=>whnf)
  (first | rw [hE] | rw [AR (by rw [Aa,Ab];exact hk')] | skip)
  conv=>whnf
  try (refine And.intro (by first | omega | (simp;done)) ?_;conv=>whnf)
  try (refine And.intro ⟨rfl,by first | rfl | (simp;done) | (simp;omega),by first | omega | (simp;omega)⟩ ?_;conv=>whnf)
  (first | rw [hE] | rw [AR (by rw [Aa,Ab];exact hk')] | skip)
  conv=>whnf
  rotate_left 1
  conv=>whnf
  refine Fn.cl b2 ?_
  conv=>whnf
  try (refine And.intro (by first | omega | (simp;done)) ?_;conv=>whnf)
  refine And.intro ?_ ?_
  refine And.intro ?_ ?_
  conv=>whnf
  try (refine And.intro ⟨rfl,by first | rfl | (simp;done) | (simp;omega),by first | omega | (simp;omega)⟩ ?_;conv=>whnf)
  (first | rw [hE] | rw [AR (by rw [Aa,Ab];exact hk')] | skip)
  conv=>whnf
  try (refine And.intro (by first | omega | (simp;done)) ?_;conv=>whnf)
  try (refine And.intro ⟨rfl,by first | rfl | (simp;done) | (simp;omega),by first | omega | (simp;omega)⟩ ?_;conv=>whnf)
  (first | rw [hE] | rw [AR (by rw [Aa,Ab];exact hk')] | skip)
  conv=>whnf
  rotate_left 1
  conv=>whnf
  try (refine And.intro ⟨rfl,by first | rfl | (simp;done) | (simp;omega),by first | omega | (simp;omega)⟩ ?_;conv=>whnf)
  (first | rw [hE] | rw [AR (by rw [Aa,Ab];exact hk')] | skip)
  conv=>whnf
  try (refine And.intro (by first | omega | (simp;done)) ?_;conv=>whnf)
  try (refine And.intro ⟨rfl,by first | rfl | (simp;done) | (simp;omega),by first | omega | (simp;omega)⟩ ?_;conv=>whnf)
  (first | rw [hE] | rw [AR (by rw [Aa,Ab];exact hk')] | skip)
  conv=>whnf
  rotate_left 1
  conv=>whnf
  try (refine And.intro ⟨rfl,by first | rfl | (simp;done) | (simp;omega),by first | omega | (simp;omega)⟩ ?_;conv=>whnf)
  (first | rw [hE] | rw [AR (by rw [Aa,Ab];exact hk')] | skip)
  conv=>whnf
  try (refine And.intro (by first | omega | (simp;done)) ?_;conv=>whnf)
  try (refine And.intro ⟨rfl,by first | rfl | (simp;done) | (simp;omega),by first | omega | (simp;omega)⟩ ?_;conv=>whnf)
  (first | rw [hE] | rw [AR (by rw [Aa,Ab];exact hk')] | skip)
  conv=>whnf
  rotate_left 1
  all_goals refine⟨k+1,hk',by omega,WkN.rc (ConvF.ofH (ConvH.subRow (k:=2) rfl (es':=d.cells.map Bi) (by simp) ?_)) (s:= [0,1,2,3]) ⟨⟨rfl,rfl,rfl,rfl,AA (by omega),trivial⟩,⟨rfl,rfl,rfl,rfl,trivial⟩,rfl,rfl,rfl,rfl,rfl⟩⟩
  all_goals
   intro i
   rw [List.set_set,Aa]
   refine GF (f:=Bi) (d:=(⟨0, [], []⟩:Cel)) hk' ?_ i
   exact⟨fun _ _ h=>h,fun _ _ h=>h,fun _ _ h=>h,trivial⟩
 ·refine aLoop.ruleRR Nat (fun k=>([(1, .bp 0 0),(2, .bp 1 0),(41, .ow 3 d.cache.length),(42, .v (.int .i64 d.cache.length)),(43, .v (.int .i64 k))], [.box 32 (Lx (.ow 2 d.cells.length) (.ow 3 d.cache.length) d.reqs d.left), .box 32 [.v (.slice none 0 0), .v (.slice none 0 0), .v (.int .i64 0), .v (.int .i64 0)], .row 87 3 (d.cells.map Bi), .row 130 2 (d.cache.map DA)])) (fun k=>k<=d.cache.length) (fun k=>d.cache.length - k) 0 (Ag _)
   (WkN.r (s:= [0,1,2,3]) ⟨⟨rfl,rfl,rfl,rfl,rfl,trivial⟩,⟨rfl,rfl,rfl,rfl,trivial⟩,rfl,rfl,rfl,rfl,rfl⟩) ?_
  intro k hk
  conv=>whnf
  refine Al (fun h7=>?_) (fun h7=>?_) <;> (repeat rw [Aa] at h7) <;> conv=>whnf
  ·have hk':k<d.cache.length:=by omega
   have hm:=hw _ (AE (d:=(⟨0, []⟩:Wr)) hk')
   have b1:=CH (d.cache.getD k ⟨0, []⟩).bytes hm
   have hE:(d.cache.map DA).getD (k:Int).toNat []=DA (d.cache.getD k ⟨0, []⟩):=by rw [Aa];exact Bh hk'
   refine⟨⟨by omega,by omega⟩,?_⟩
   conv=>whnf
   refine And.intro ⟨rfl,(Ab _).symm,by rw [Aa];exact hk'⟩ ?_
   conv=>whnf
   rw [hE]
   conv=>whnf
   apply aDraw.treeK (0) tys_ok mixed (.one 0 (.one 1 (.one 2 (.one 3 (.one 4 (.one 5 (.one 6 (.one 7 (.one 8 .fin))))))))) (by kernel_rfl)
   conv=>whnf
   refine Fn.cl b1 ?_
   conv=>whnf
   try (refine And.intro (by first | omega | (simp;done)) ?_;conv=>whnf)
   try (refine And.intro ⟨rfl,by first | rfl | (simp;done) | (simp;omega),by first | omega | (simp;omega)⟩ ?_;conv=>whnf)
   (first | rw [hE] | skip)
   conv=>whnf
   all_goals refine⟨k+1,hk',by omega,WkN.rc (ConvF.ofH (ConvH.subRow (k:=3) rfl (es':=d.cache.map DA) (by simp) ?_)) (s:= [0,1,2,3]) ⟨⟨rfl,rfl,rfl,rfl,AA (by omega),trivial⟩,⟨rfl,rfl,rfl,rfl,trivial⟩,rfl,rfl,rfl,rfl,rfl⟩⟩
   all_goals
    intro i
    rw [Aa]
    refine GF (f:=DA) (d:=(⟨0, []⟩:Wr)) hk' ?_ i
    exact⟨fun _ _ h=>h,fun _ _ h=>h,trivial⟩
  ·refine And.intro (Ab _).symm ?_
   refine And.intro (Ab _).symm ?_
   exact⟨.ag (DG d),AG ⟨AJ (f:=Bi) d.cells rfl rfl,AJ (f:=DA) d.cache rfl rfl,ri,ri,trivial⟩,rfl⟩
def Fb (c:Cel):Bool:=BP c.state 0 2&&(decide (c.bytes.length<=200)&&decide (c.old.length<=200))
def Gi (n:Nat) (w:Wr):Bool:=BP w.addr 0 ((n:Int) - 1)&&decide (w.bytes.length<=200)
def FZ (d:Dk):Bool:=(BP d.cells.length 1 300&&(decide (d.cache.length<=2000)&&(BP d.reqs 0 1048576&&BP d.left (-1) 1048576)))&&(d.cells.all Fb&&d.cache.all (Gi d.cells.length))
theorem N7 (n lo hi:Int):Fn Tryz.prog 100 [.v (.int .i64 n), .v (.int .i64 lo), .v (.int .i64 hi)] fun r=>r = .v (.bool (BP n lo hi)):=by
 refine Fn.st Tryz.func100 rfl ?_
 conv=>whnf
 repeat' (first | (refine Af (fun h=>?_) (fun h=>?_) <;> (try simp at h) <;> conv=>whnf) | (refine aDraw.seq tys_ok mixed (by kernel_rfl) ?_;conv=>whnf) | (refine aSeq.go ?_;conv=>whnf) | (refine And.intro (by omega) ?_;conv=>whnf))
 all_goals exact⟨_,ri,by simp [BP, *] <;> omega⟩
theorem Qa (n lo hi:Int):Fn Tryz.prog 106 [.v (.int .i64 n), .v (.int .i64 lo), .v (.int .i64 hi)] fun r=>r = .v (.bool (BP n lo hi)):=by
 refine Fn.st Tryz.func106 rfl ?_
 conv=>whnf
 repeat' (first | (refine Af (fun h=>?_) (fun h=>?_) <;> (try simp at h) <;> conv=>whnf) | (refine aDraw.seq tys_ok mixed (by kernel_rfl) ?_;conv=>whnf) | (refine aSeq.go ?_;conv=>whnf) | (refine And.intro (by omega) ?_;conv=>whnf))
 all_goals exact⟨_,ri,by simp [BP, *] <;> omega⟩
theorem U2 (c:Cel):Fn Tryz.prog 160 [.ag (Bi c)] fun r=>r = .v (.bool (Fb c)):=by
 refine Fn.st Tryz.func160 rfl ?_
 conv=>whnf
 repeat' (first | (refine Af (fun h=>?_) (fun h=>?_) <;> (try simp at h) <;> conv=>whnf) | (refine aDraw.seq tys_ok mixed (by kernel_rfl) ?_;conv=>whnf) | (refine aSeq.go ?_;conv=>whnf) | (refine Fn.cl (N7 _ _ _) ?_;conv=>whnf) | (refine And.intro (by omega) ?_;conv=>whnf))
 all_goals exact⟨_,ri,by congr 2;rw [Bz];simp [Fb, *] <;> omega⟩
theorem S5 (c:Cel):Fn Tryz.prog 159 [.ag (Bi c)] fun r=>r = .v (.bool (!Fb c)):=by
 refine Fn.st Tryz.func159 rfl ?_
 conv=>whnf
 refine Fn.cl (U2 c) ?_
 exact⟨_,ri,rfl⟩
theorem WW (l:List Cel)  (hl:l.length<=1000000):Fn Tryz.prog 204 [MB l, .v (.func (.func 159) #[] #[])] fun r=>r = .v (.int .i64 (UM (fun c=>!Fb c) l)):=by
 refine Fn.st Tryz.func204 rfl ?_
 conv=>whnf
 refine aLoop.rule Nat (fun k=>([(0,MB l),(1, .v (.func (.func 159) #[] #[])),(7, .v (.int .i64 l.length)),(8, .v (.int .i64 k))], [])) (fun k=>k<=l.length/\(l.take k).any (fun c=>!Fb c)=false) (fun k=>l.length - k) 0 ⟨Ag _,by simp⟩ ⟨[],trivial,⟨rfl,rfl,rfl,rfl,trivial⟩,trivial,rfl,rfl,rfl⟩ ?_
 rintro k ⟨hk,hI⟩
 conv=>whnf
 refine Af (fun h2=>?_) (fun h2=>?_) <;> simp at h2 <;> conv=>whnf
 ·refine⟨by first | omega | (refine⟨rfl,?_,?_⟩ <;> first | omega | (simp only [Ab];done) | (simp only [Ab];omega)) | (simp only [Ab];omega),?_⟩
  conv=>whnf
  refine Fn.cl (S5 (l.getD k ⟨0, [], []⟩)) ?_
  conv=>whnf
  refine Af (fun h3=>?_) (fun h3=>?_) <;> conv=>whnf
  ·exact⟨_,ri,by rw [Kp (d:=⟨0, [], []⟩) h2 hI (by first | exact h3 | (rw [Aa] at h3;exact h3) | simpa using h3)]⟩
  ·refine⟨k+1,⟨by omega,EV (d:=⟨0, [], []⟩) h2 hI (by first | exact h3 | (rw [Aa] at h3;exact h3) | simpa using h3)⟩,by omega, [],trivial,⟨rfl,rfl,rfl,AA (by omega),trivial⟩,trivial,rfl,rfl,rfl⟩
 ·exact⟨_,ri,by rw [List.take_of_length_le h2] at hI;rw [IK hI]⟩
theorem WX (l:List Cel)  (hl:l.length<=1000000):Fn Tryz.prog 158 [MB l, .v (.func (.func 159) #[] #[])] fun r=>r = .v (.bool (l.any (fun c=>!Fb c))):=by
 refine Fn.st Tryz.func158 rfl ?_
 conv=>whnf
 refine Fn.cl (WW l  hl) ?_
 exact⟨_,ri,by rw [Nv]⟩

theorem S4 (d:Dk) (w:Wr) (hn:d.cells.length<=1000000):Fn Tryz.prog 162 [.ag (DA w), .rp (DG d)] fun r=>r = .v (.bool (!Gi d.cells.length w)):=by
 have w1:IntKind.i64.wrap ((d.cells.length:Int) - 1)=d.cells.length - 1:=wi (by omega)
 refine Fn.st Tryz.func162 rfl ?_
 conv=>whnf
 rw [w1]
 repeat' (first | (refine Af (fun h=>?_) (fun h=>?_) <;> (try simp at h) <;> conv=>whnf) | (refine aDraw.seq tys_ok mixed (by kernel_rfl) ?_;conv=>whnf) | (refine aSeq.go ?_;conv=>whnf) | (refine Fn.cl (N7 _ _ _) ?_;conv=>whnf) | (refine And.intro (by omega) ?_;conv=>whnf))
 all_goals exact⟨_,ri,by congr 2;rw [Bz];simp [Gi, *] <;> omega⟩
theorem WT (l:List Wr) (d:Dk) (hn:d.cells.length<=1000000) (hl:l.length<=1000000):Fn Tryz.prog 205 [FF l, .fn 162 [.rp (DG d)]] fun r=>r = .v (.int .i64 (UM (fun w=>!Gi d.cells.length w) l)):=by
 refine Fn.st Tryz.func205 rfl ?_
 conv=>whnf
 refine aLoop.rule Nat (fun k=>([(0,FF l),(1, .fn 162 [.rp (DG d)]),(7, .v (.int .i64 l.length)),(8, .v (.int .i64 k))], [])) (fun k=>k<=l.length/\(l.take k).any (fun w=>!Gi d.cells.length w)=false) (fun k=>l.length - k) 0 ⟨Ag _,by simp⟩ ⟨[],trivial,⟨rfl,rfl,rfl,rfl,trivial⟩,trivial,rfl,rfl,rfl⟩ ?_
 rintro k ⟨hk,hI⟩
 conv=>whnf
 refine Af (fun h2=>?_) (fun h2=>?_) <;> simp at h2 <;> conv=>whnf
 ·refine⟨by first | omega | (refine⟨rfl,?_,?_⟩ <;> first | omega | (simp only [Ab];done) | (simp only [Ab];omega)) | (simp only [Ab];omega),?_⟩
  conv=>whnf
  refine Fn.cl (S4 d (l.getD k ⟨0, []⟩) hn) ?_
  conv=>whnf
  refine Af (fun h3=>?_) (fun h3=>?_) <;> conv=>whnf
  ·exact⟨_,ri,by rw [Kp (d:=⟨0, []⟩) h2 hI (by first | exact h3 | (rw [Aa] at h3;exact h3) | simpa using h3)]⟩
  ·refine⟨k+1,⟨by omega,EV (d:=⟨0, []⟩) h2 hI (by first | exact h3 | (rw [Aa] at h3;exact h3) | simpa using h3)⟩,by omega, [],trivial,⟨rfl,rfl,rfl,AA (by omega),trivial⟩,trivial,rfl,rfl,rfl⟩
 ·exact⟨_,ri,by rw [List.take_of_length_le h2] at hI;rw [IK hI]⟩
theorem WU (l:List Wr) (d:Dk) (hn:d.cells.length<=1000000) (hl:l.length<=1000000):Fn Tryz.prog 161 [FF l, .fn 162 [.rp (DG d)]] fun r=>r = .v (.bool (l.any (fun w=>!Gi d.cells.length w))):=by
 refine Fn.st Tryz.func161 rfl ?_
 conv=>whnf
 refine Fn.cl (WT l d hn hl) ?_
 exact⟨_,ri,by rw [Nv]⟩

theorem S3 (d:Dk) (h1:d.cells.length<=1000000) (h2:d.cache.length<=1000000):Fn Tryz.prog 97 [.ag (DG d)] fun r=>r = .v (Ed (FZ d)):=by
 have c1:=WX d.cells h1
 have c2:=WU d.cache d h1 h2
 rw [show (d.cells.any fun c=>!Fb c) = !d.cells.all Fb by rw [BC,Bool.not_not]] at c1
 rw [show (d.cache.any fun w=>!Gi d.cells.length w) = !d.cache.all (Gi d.cells.length) by rw [BC,Bool.not_not]] at c2
 obtain⟨A,hA⟩:∃ A,A=d.cells.all Fb:=⟨_,rfl⟩
 obtain⟨B,hB⟩:∃ B,B=d.cache.all (Gi d.cells.length):=⟨_,rfl⟩
 have hok:FZ d=((BP d.cells.length 1 300&&(decide (d.cache.length<=2000)&&(BP d.reqs 0 1048576&&BP d.left (-1) 1048576)))&&(A&&B)):=by rw [FZ,hA,hB]
 rw [<-hA] at c1
 rw [<-hB] at c2
 rw [hok]
 clear hok hA hB
 refine Fn.st Tryz.func97 rfl ?_
 conv=>whnf
 repeat' (first | (refine Af (fun h=>?_) (fun h=>?_) <;> (try simp at h) <;> conv=>whnf) | (refine aDraw.seq tys_ok mixed (by kernel_rfl) ?_;conv=>whnf) | (refine aSeq.go ?_;conv=>whnf) | (refine Fn.cl (N7 _ _ _) ?_;conv=>whnf) | (refine Fn.cl c1 ?_;conv=>whnf) | (refine Fn.cl c2 ?_;conv=>whnf) | (refine And.intro (by omega) ?_;conv=>whnf))
 all_goals exact⟨_,ri,by
  first
   | (rw [show ((BP d.cells.length 1 300&&(decide (d.cache.length<=2000)&&(BP d.reqs 0 1048576&&BP d.left (-1) 1048576)))&&(A&&B))=false by rw [<-AQ];simp [*] <;> omega];rfl)
   | (rw [show ((BP d.cells.length 1 300&&(decide (d.cache.length<=2000)&&(BP d.reqs 0 1048576&&BP d.left (-1) 1048576)))&&(A&&B))=true by simp [*] <;> omega];rfl)⟩
theorem HG {α:Type} {p:α->Bool} {l:List α} {d:α} {k:Nat} (hk:k<l.length) (h:(l.take k).all p=true) (e:p (l.getD k d)=true):(l.take (k+1)).all p=true:=by
 rw [Ar hk,C2,h]
 rw [List.getD_eq_getElem?_getD,List.getElem?_eq_getElem hk] at e
 simpa using e
theorem NC {α:Type} {p:α->Bool} {l:List α} {d:α} {k:Nat} (hk:k<l.length) (e:p (l.getD k d)=false):l.all p=false:=by
 rw [<-AQ,A4]
 intro h
 rw [h _ (AE hk)] at e
 cases e
theorem RA (d:Dk) (h1:d.cells.length<=1000000) (h2:d.cache.length<=1000000):Fn Tryz.prog 91 [.ag (DG d)] fun r=>r = .v (.bool (FZ d)):=by
 have w1:IntKind.i64.wrap ((d.cells.length:Int) - 1)=d.cells.length - 1:=wi (by omega)
 obtain⟨A,hA⟩:∃ A,A=d.cells.all Fb:=⟨_,rfl⟩
 obtain⟨B,hB⟩:∃ B,B=d.cache.all (Gi d.cells.length):=⟨_,rfl⟩
 have hok:FZ d=((BP d.cells.length 1 300&&(decide (d.cache.length<=2000)&&(BP d.reqs 0 1048576&&BP d.left (-1) 1048576)))&&(A&&B)):=by rw [FZ,hA,hB]
 obtain⟨C,hC⟩:∃ C,C=(BP d.cells.length 1 300&&(decide (d.cache.length<=2000)&&(BP d.reqs 0 1048576&&BP d.left (-1) 1048576))):=⟨_,rfl⟩
 rw [hok,<-hC]
 clear hok
 refine Fn.st Tryz.func91 rfl ?_
 conv=>whnf
 repeat' (first | (refine Af (fun h=>?_) (fun h=>?_) <;> (try simp at h) <;> conv=>whnf) | (refine aDraw.seq tys_ok mixed (by kernel_rfl) ?_;conv=>whnf) | (refine aSeq.go ?_;conv=>whnf) | (refine Fn.cl (Qa _ _ _) ?_;conv=>whnf) | (refine And.intro (by omega) ?_;conv=>whnf))
 all_goals try (exact⟨_,ri,by rw [show C=false by rw [hC,<-AQ];simp [*] <;> omega];rfl⟩)
 have hC1:C=true:=by rw [hC];simp [*] <;> omega
 rw [hC1,At]
 refine aLoop.ruleRR Nat (fun k=>([(1, .bp 0 0),(3, .v (.int .i64 k))], [.box 32 (DG d)])) (fun k=>k<=d.cells.length/\(d.cells.take k).all Fb=true) (fun k=>d.cells.length - k) 0 ⟨Ag _,rfl⟩
  (WkN.r (s:= [0]) ⟨⟨rfl,rfl,trivial⟩,⟨rfl,trivial⟩,rfl,rfl,rfl,rfl,rfl⟩) ?_
 rintro k ⟨hk,hI⟩
 conv=>whnf
 refine Al (fun h6=>?_) (fun h6=>?_) <;> (repeat rw [Aa] at h6) <;> conv=>whnf
 ·have hk':k<d.cells.length:=by omega
  refine⟨⟨by omega,by omega⟩,?_⟩
  conv=>whnf
  rw [Aa]
  obtain⟨c,hc⟩:∃ c,c=d.cells.getD k ⟨0, [], []⟩:=⟨_,rfl⟩
  rw [<-hc]
  conv=>whnf
  repeat' (first | (refine Af (fun h=>?_) (fun h=>?_) <;> (try simp at h) <;> conv=>whnf) | (refine aDraw.seq tys_ok mixed (by kernel_rfl) ?_;conv=>whnf) | (refine aSeq.go ?_;conv=>whnf) | (refine Fn.cl (Qa _ _ _) ?_;conv=>whnf) | (refine And.intro (by omega) ?_;conv=>whnf))
  all_goals try (exact⟨_,ri,by rw [show A=false from hA.trans (NC hk' (d:=⟨0, [], []⟩) (by rw [<-hc,<-AQ];clear hc hA hB hC hI;simp [Fb, *] <;> omega))];rfl⟩)
  have hce:Fb c=true:=by clear hc hA hB hC hI;simp [Fb, *] <;> omega
  exact⟨k+1,⟨hk',HG (d:=⟨0, [], []⟩) hk' hI (by rw [<-hc];exact hce)⟩,by omega,WkN.r (s:= [0]) ⟨⟨rfl,AA (by omega),trivial⟩,⟨rfl,trivial⟩,rfl,rfl,rfl,rfl,rfl⟩⟩
 ·have hA1:A=true:=by rw [hA,<-List.take_of_length_le (i:=k) (by omega:d.cells.length<=k)];exact hI
  rw [hA1,At]
  refine aLoop.ruleRR Nat (fun k=>([(1, .bp 0 0),(5, .v (.int .i64 k))], [.box 32 (DG d)])) (fun k=>k<=d.cache.length/\(d.cache.take k).all (Gi d.cells.length)=true) (fun k=>d.cache.length - k) 0 ⟨Ag _,rfl⟩
   (WkN.r (s:= [0]) ⟨⟨rfl,rfl,trivial⟩,⟨rfl,trivial⟩,rfl,rfl,rfl,rfl,rfl⟩) ?_
  rintro k ⟨hk,hI⟩
  conv=>whnf
  refine Al (fun h7=>?_) (fun h7=>?_) <;> (repeat rw [Aa] at h7) <;> conv=>whnf
  ·have hk':k<d.cache.length:=by omega
   refine aDraw.seq tys_ok mixed (by kernel_rfl) ?_
   refine⟨⟨by omega,by omega⟩,?_⟩
   conv=>whnf
   rw [Aa,w1]
   obtain⟨x,hx⟩:∃ x,x=d.cache.getD k ⟨0, []⟩:=⟨_,rfl⟩
   rw [<-hx]
   conv=>whnf
   refine Fn.cl (Qa _ _ _) ?_
   conv=>whnf
   refine Af (fun h=>?_) (fun h=>?_) <;> conv=>whnf
   ·have hxf:Gi d.cells.length x=false:=by simp only [AO] at h;rw [Gi,h,Bd]
    exact⟨_,ri,by rw [show B=false from hB.trans (NC hk' (d:=⟨0, []⟩) (by rw [<-hx];exact hxf))]⟩
   ·simp only [Bb] at h
    refine⟨⟨by omega,by omega⟩,?_⟩
    conv=>whnf
    rw [Aa,<-hx]
    conv=>whnf
    refine Al (fun h8=>?_) (fun h8=>?_) <;> conv=>whnf
    ·have hxf:Gi d.cells.length x=false:=by rw [Gi,h,decide_eq_false (by omega)];rfl
     exact⟨_,ri,by rw [show B=false from hB.trans (NC hk' (d:=⟨0, []⟩) (by rw [<-hx];exact hxf))]⟩
    ·have hxt:Gi d.cells.length x=true:=by rw [Gi,h,decide_eq_true (by omega)];rfl
     exact⟨k+1,⟨hk',HG (d:=⟨0, []⟩) hk' hI (by rw [<-hx];exact hxt)⟩,by omega,WkN.r (s:= [0]) ⟨⟨rfl,AA (by omega),trivial⟩,⟨rfl,trivial⟩,rfl,rfl,rfl,rfl,rfl⟩⟩
  ·have hB1:B=true:=by rw [hB,<-List.take_of_length_le (i:=k) (by omega:d.cache.length<=k)];exact hI
   exact⟨_,ri,by rw [hB1]⟩
def cel0:List AV:= [.v (.int .i64 0), .v (.slice none 0 0), .v (.slice none 0 0)]
theorem Uz (n:Nat) (hn:1<=n/\n<=300):ACalls Tryz.prog false 65 [.v (.int .i64 n)] [] fun r H=>r = .tp [.ag [.ow 0 n, .v (.slice none 0 0), .v (.int .i64 0), .v (.int .i64 (-1))], .v (.int .i64 0)]/\H=[.row 87 3 (List.replicate n cel0)]:=by
 have hi:=N7 n 1 300
 rw [show BP (n:Int) 1 300=true by simp [BP];omega] at hi
 refine ACalls.ofR tys_ok Tryz.func65 rfl rfl (Ad rfl) ?_
 conv=>whnf
 refine Fn.cl hi ?_
 refine⟨⟨rfl,by omega,by omega⟩,?_⟩
 conv=>whnf
 exact⟨_, .tp [.ag [.ow 0 n, .v (.slice none 0 0), .v (.int .i64 0), .v (.int .i64 (-1))], .v (.int .i64 0)], [.row 87 3 (List.replicate n cel0)],fun _ _ h=>h,WkN.r (s:= [1]) ⟨⟨by rw [Aa];rfl,trivial⟩,⟨by rw [Aa];rfl,trivial⟩,rfl,rfl,rfl,rfl,rfl⟩,rfl,rfl⟩
theorem To (n:Nat) (hn:1<=n/\n<=300):ACalls Tryz.prog false 78 [.v (.int .i64 n)] [] fun r H=>r = .ag [.ow 0 n, .v (.slice none 0 0), .v (.int .i64 0), .v (.int .i64 (-1))]/\H=[.row 87 3 (List.replicate n cel0)]:=by
 refine ACalls.ofR tys_ok Tryz.func78 rfl rfl (Ad rfl) ?_
 refine⟨⟨rfl,by omega,by omega⟩,?_⟩
 conv=>whnf
 exact⟨_, .ag [.ow 0 n, .v (.slice none 0 0), .v (.int .i64 0), .v (.int .i64 (-1))], [.row 87 3 (List.replicate n cel0)],fun _ _ h=>h,WkN.r (s:= [1]) ⟨⟨by rw [Aa];rfl,trivial⟩,⟨by rw [Aa];rfl,trivial⟩,rfl,rfl,rfl,rfl,rfl⟩,rfl,rfl⟩
@[reducible] def dkG (d:Dk):List AB:= [.box 164 (Lx (.ow 1 d.cells.length) (.ow 3 d.cache.length) d.reqs d.left), .row 87 3 (d.cells.map Bi), .dead, .row 130 2 (d.cache.map DA)]
theorem WV (d:Dk):ConvH (dkH d) (dkG d):=ConvH.move (H:=dkH d) 0 2 (by decide) rfl rfl
theorem Ly (d:Dk) (hl : -1<=d.left/\d.left<=1048576) (hc:d.cache.length<=2000) (ha:∀ w∈d.cache,0<=w.addr/\w.addr<d.cells.length) :
  ACalls Tryz.prog false 146 [.bp 0 0] (dkH d) fun r H=>r = .v (.int .i64 (if d.left=0 then 8 else 0))/\H=dkG (if d.left=0 then d else d.flush):=by
 by_cases h0:d.left=0
 ·rw [if_pos h0,if_pos h0]
  exact(Qm d hl h0).conv fun r H ⟨h1,h2⟩=>⟨_,h2 ▸ WV d,h1,rfl⟩
 ·rw [if_neg h0,if_neg h0]
  exact(S2 d hl h0 hc ha).conv fun r H ⟨h1,h2⟩=>⟨_,h2 ▸ ConvH.refl _,h1,rfl⟩
theorem FT {α β:Type} {f:α->β} {d:α} {l:List α} {k:Nat} (h:k<l.length):(l.take (k+1)).map f=(l.take k).map f ++ [f (l.getD k d)]:=by
 rw [Ar h,Aq,List.getD_eq_getElem?_getD,List.getElem?_eq_getElem h];rfl
theorem Mt (d:Dk) (h1:d.cells.length<=1000000) (h2:d.cache.length<=1000000) (hb:∀ c∈d.cells,c.bytes.length<=1000000000/\c.old.length<=1000000000) (hw:∀ w∈d.cache,w.bytes.length<=1000000000) :
  ACalls Tryz.prog false 23 [.ag (DG d)] [] fun r H=>r = .ag (Lx (.ow 0 d.cells.length) (.ow 1 d.cache.length) d.reqs d.left)/\H=[.row 87 3 (d.cells.map Bi), .row 130 2 (d.cache.map DA)]:=by
 refine ACalls.ofR tys_ok Tryz.func23 rfl rfl (Ad rfl) ?_
 conv=>whnf
 refine aLoop.ruleRR Nat (fun k=>([(1, .bp 0 0),(2, .bp 1 0),(3, .bp 2 0),(4, .v (.int .i64 k))], [.box 32 (DG d), .box 32 [.v (.slice none 0 0), .v (.slice none 0 0), .v (.int .i64 0), .v (.int .i64 0)], .box 32 [.ow 3 k, .v (.slice none 0 0), .v (.int .i64 d.reqs), .v (.int .i64 d.left)], .row 87 3 ((d.cells.take k).map Bi)])) (fun k=>k<=d.cells.length) (fun k=>d.cells.length - k) 0 (Ag _)
  ⟨_,_,ConvF.refl _ _, [(1002000,87,3)],⟨rfl,rfl,trivial⟩, [0,1,2,3],⟨⟨rfl,rfl,rfl,rfl,trivial⟩,⟨rfl,rfl,rfl,rfl,trivial⟩,rfl,rfl,rfl,rfl,rfl⟩⟩ ?_
 intro k hk
 conv=>whnf
 refine Al (fun h6=>?_) (fun h6=>?_) <;> (repeat rw [Aa] at h6) <;> conv=>whnf
 ·have hk':k<d.cells.length:=by omega
  obtain⟨c,hc⟩:∃ c,c=d.cells.getD k ⟨0, [], []⟩:=⟨_,rfl⟩
  have hm:=hb _ (AE (d:=(⟨0, [], []⟩:Cel)) hk')
  rw [<-hc] at hm
  have b1:=EO c.bytes hm.1
  have b2:=EO c.old hm.2
  rw [hc] at b1 b2
  have hl:k=((d.cells.take k).map Bi).length:=by simp;omega
  apply aDraw.treeK (0) tys_ok mixed (.one 0 (.one 1 (.one 2 (.one 3 (.one 4 (.one 5 (.one 6 (.one 7 (.one 8 (.one 9 (.one 10 (.one 11 (.one 12 (.one 13 (.one 15 (.one 16 (.one 17 (.one 18 (.one 19 (.one 20 (.one 14 (.one 21 (.one 22 (.one 23 (.one 24 (.one 25 (.one 26 .fin))))))))))))))))))))))))))) (by kernel_rfl)
  conv=>whnf
  try (refine And.intro (by first | omega | (simp;done)) ?_;conv=>whnf)
  try (refine And.intro (by first | omega | (simp;done)) ?_;conv=>whnf)
  try (refine And.intro (by first | omega | (simp;done)) ?_;conv=>whnf)
  refine Fn.cl b1 ?_
  conv=>whnf
  refine Fn.cl b2 ?_
  conv=>whnf
  try (refine And.intro (by first | rfl | omega) ?_;conv=>whnf)
  try (refine And.intro (by first | omega | exact⟨by first | rfl | (simp;done) | (simp;omega),by omega⟩) ?_;conv=>whnf)
  try (refine And.intro ⟨rfl,by first | rfl | (simp;done) | (simp;omega),by first | omega | (simp;omega)⟩ ?_;conv=>whnf)
  exact⟨k+1,hk',by omega,WkN.r (s:= [0,1,2,3]) ⟨⟨rfl,rfl,rfl,AA (by omega),trivial⟩,⟨rfl,rfl,rfl,congrArg (fun l=>some (AB.row _ _ l)) (FT hk').symm,trivial⟩,rfl,rfl,rfl,rfl,rfl⟩⟩
 ·have ek:k=d.cells.length:=by omega
  subst ek
  refine aLoop.ruleRR Nat (fun k=>([(1, .bp 0 0),(2, .bp 1 0),(3, .bp 2 0),(5, .v (.int .i64 k))], [.box 32 (DG d), .box 32 [.v (.slice none 0 0), .v (.slice none 0 0), .v (.int .i64 0), .v (.int .i64 0)], .box 32 [.ow 3 d.cells.length, .ow 4 k, .v (.int .i64 d.reqs), .v (.int .i64 d.left)], .row 87 3 (d.cells.map Bi), .row 130 2 ((d.cache.take k).map DA)])) (fun k=>k<=d.cache.length) (fun k=>d.cache.length - k) 0 (Ag _)
   ⟨_,_,ConvF.refl _ _, [(1002001,130,2)],⟨rfl,rfl,trivial⟩, [0,1,2,3,4],⟨⟨rfl,rfl,rfl,rfl,trivial⟩,⟨rfl,rfl,rfl,by rw [List.take_length];rfl,rfl,trivial⟩,rfl,rfl,rfl,rfl,rfl⟩⟩ ?_
  intro k hk
  conv=>whnf
  refine Al (fun h7=>?_) (fun h7=>?_) <;> (repeat rw [Aa] at h7) <;> conv=>whnf
  ·have hk':k<d.cache.length:=by omega
   have hm:=hw _ (AE (d:=(⟨0, []⟩:Wr)) hk')
   have b1:=EO (d.cache.getD k ⟨0, []⟩).bytes hm
   have hl:k=((d.cache.take k).map DA).length:=by simp;omega
   apply aDraw.treeK (0) tys_ok mixed (.one 0 (.one 1 (.one 2 (.one 3 (.one 4 (.one 5 (.one 6 (.one 7 (.one 8 (.one 9 (.one 10 (.one 11 (.one 12 (.one 13 (.one 14 (.one 15 (.one 16 (.one 17 (.one 18 (.one 19 .fin)))))))))))))))))))) (by kernel_rfl)
   conv=>whnf
   try (refine And.intro (by first | omega | (simp;done)) ?_;conv=>whnf)
   try (refine And.intro (by first | omega | (simp;done)) ?_;conv=>whnf)
   refine Fn.cl b1 ?_
   conv=>whnf
   try (refine And.intro (by first | rfl | omega) ?_;conv=>whnf)
   try (refine And.intro (by first | omega | exact⟨by first | rfl | (simp;done) | (simp;omega),by omega⟩) ?_;conv=>whnf)
   try (refine And.intro ⟨rfl,by first | rfl | (simp;done) | (simp;omega),by first | omega | (simp;omega)⟩ ?_;conv=>whnf)
   exact⟨k+1,hk',by omega,WkN.r (s:= [0,1,2,3,4]) ⟨⟨rfl,rfl,rfl,AA (by omega),trivial⟩,⟨rfl,rfl,rfl,rfl,congrArg (fun l=>some (AB.row _ _ l)) (FT hk').symm,trivial⟩,rfl,rfl,rfl,rfl,rfl⟩⟩
  ·have ek:k=d.cache.length:=by omega
   subst ek
   exact⟨_, .ag (Lx (.ow 0 d.cells.length) (.ow 1 d.cache.length) d.reqs d.left), [.row 87 3 (d.cells.map Bi), .row 130 2 (d.cache.map DA)],fun _ _ h=>h,WkN.r (s:= [3,4]) ⟨⟨rfl,trivial⟩,⟨rfl,by rw [List.take_length];rfl,trivial⟩,rfl,rfl,rfl,rfl,rfl⟩,rfl,rfl⟩
theorem Nu (d:Dk) (h1:d.cells.length<=1000000) (h2:d.cache.length<=1000000) (hb:∀ c∈d.cells,c.bytes.length<=1000000000/\c.old.length<=1000000000) (hw:∀ w∈d.cache,w.bytes.length<=1000000000) :
  Fn Tryz.prog 23 [.ag (DG d)] fun r=>r = .ag (DG d):=by
 refine ACalls.fn (Mt d h1 h2 hb hw) ?_
 rintro _ _ ⟨rfl,rfl⟩
 refine⟨_,ConvH.refl _,?_⟩
 refine And.intro (Ab _).symm ?_
 refine And.intro (Ab _).symm ?_
 exact⟨.ag (DG d),AG ⟨AJ (f:=Bi) d.cells rfl rfl,AJ (f:=DA) d.cache rfl rfl,ri,ri,trivial⟩,rfl⟩
@[reducible] def rkH (d:Dk):List AB:= [.box 73 (Lx (.ow 1 d.cells.length) (.ow 2 d.cache.length) d.reqs d.left), .row 87 3 (d.cells.map Bi), .row 130 2 (d.cache.map DA)]
theorem Ve (d:Dk) (h1:d.cells.length<=1000000) (h2:d.cache.length<=1000000) (hb:∀ c∈d.cells,c.bytes.length<=1000000000/\c.old.length<=1000000000) (hw:∀ w∈d.cache,w.bytes.length<=1000000000) :
  ACalls Tryz.prog false 44 [.ag (DG d)] [] fun r H=>r = .bp 0 0/\H=rkH d:=by
 have c1:=Mt d h1 h2 hb hw
 refine ACalls.ofR tys_ok Tryz.func44 rfl rfl (Ad rfl) ?_
 conv=>whnf
 refine ACalls.beside c1 rfl ?_
 rintro _ _ ⟨rfl,rfl⟩
 exact⟨_, .bp 0 0,rkH d,fun _ _ h=>h,WkN.r (s:= [3,1,2]) ⟨⟨rfl,trivial⟩,⟨rfl,rfl,rfl,trivial⟩,rfl,rfl,rfl,rfl,rfl⟩,rfl,rfl⟩
theorem MP (d:Dk) (hl : -1<=d.left/\d.left<=1048576):ACalls Tryz.prog false 202 [.bp 0 0] (rkH d) fun r H=>r = .v (.bool (decide (d.left≠0)))/\H=rkH (if d.left=0 then d else d.req):=by
 refine ACalls.ofR tys_ok Tryz.func202 rfl rfl (Ad rfl) ?_
 conv=>whnf
 refine Al (fun h=>?_) (fun h=>?_) <;> (repeat rw [Aa] at h) <;> conv=>whnf
 ·exact⟨_, .v (.bool false),rkH d,fun _ _ h=>h,WkN.r (s:= [0,1,2]) ⟨⟨rfl,trivial⟩,⟨rfl,rfl,rfl,trivial⟩,rfl,rfl,rfl,rfl,rfl⟩,by simp [h],by rw [if_pos h]⟩
 ·have hw:IntKind.i64.wrap (d.left - 1)=d.left - 1:=by rw [IntKind.wrap_i64];omega
  try
   refine aSeq.go ?_
   conv=>whnf
  refine Al (fun h2=>?_) (fun h2=>?_) <;> (repeat rw [Aa] at h2) <;> conv=>whnf
  ·exact⟨_, .v (.bool true),rkH d.req,fun _ _ h=>h,WkN.r (s:= [0,1,2]) ⟨⟨rfl,trivial⟩,⟨congrArg (fun x=>some (AB.box 73 (Lx (.ow 1 d.cells.length) (.ow 2 d.cache.length) d.req.reqs x))) (show IntKind.i64.wrap (d.left - 1)=d.req.left by simp [Dk.req,h2,hw]),rfl,rfl,trivial⟩,rfl,rfl,rfl,rfl,rfl⟩,by simp [h],by rw [if_neg h]⟩
  ·exact⟨_, .v (.bool true),rkH d.req,fun _ _ h=>h,WkN.r (s:= [0,1,2]) ⟨⟨rfl,trivial⟩,⟨congrArg (fun x=>some (AB.box 73 (Lx (.ow 1 d.cells.length) (.ow 2 d.cache.length) d.req.reqs x))) (show d.left=d.req.left by simp [Dk.req];omega),rfl,rfl,trivial⟩,rfl,rfl,rfl,rfl,rfl⟩,by simp [h],by rw [if_neg h]⟩
theorem Tm (d:Dk) (a:Int) (hl : -1<=d.left/\d.left<=1048576) (ha:0<=a/\a<d.cells.length) (hc:d.cache.length<=2000) (hb:∀ c∈d.cells,c.bytes.length<=100000) (hw:∀ w∈d.cache,w.bytes.length<=100000) :
  ACalls Tryz.prog false 173 [.bp 0 0, .v (.int .i64 a)] (rkH d) fun r H=>r = .ag (BB ⟨(d.read a).2.2,(d.read a).2.1⟩)/\H=rkH (d.read a).1:=by
 have hq:=MP d hl
 have no:∀ (e:Int) (c:Ctx) (v:Value),Rd (.ag [.v (.int .i64 e), .v (.slice none 0 0)]) c v->Rd (.ag (BB ⟨e, []⟩)) c v:=fun e=>AG ⟨ri,AP 1 _,trivial⟩
 by_cases h0:d.left=0
 ·rw [if_pos h0,show decide (d.left≠0)=false by simp [h0]] at hq
  refine ACalls.ofR tys_ok Tryz.func173 rfl rfl (Ad rfl) ?_
  conv=>whnf
  refine ACalls.frame [0,1,2] hq rfl rfl rfl rfl (by decide) (Mm rfl) ⟨rfl,rfl,rfl,trivial⟩ ?_
  rintro _ _ ⟨rfl,rfl⟩
  exact⟨.ag (BB ⟨8, []⟩), .ag (BB ⟨8, []⟩),rkH d,no 8,WkN.r (s:= [0,1,2]) ⟨⟨rfl,trivial⟩,⟨rfl,rfl,rfl,trivial⟩,rfl,rfl,rfl,rfl,rfl⟩,by simp [Dk.read,h0],by simp [Dk.read,h0]⟩
 ·rw [if_neg h0,show decide (d.left≠0)=true by simp [h0]] at hq
  have hE:∀ i,i<d.cache.length->(d.cache.map DA).getD i []=DA (d.cache.getD i ⟨0, []⟩):=fun i hi=>Bh hi
  have w1:IntKind.i64.wrap ((d.req.cache.length:Int) - 1)=(d.cache.length:Int) - 1:=by show IntKind.i64.wrap ((d.cache.length:Int) - 1)=_;exact wi (by omega)
  refine ACalls.ofR tys_ok Tryz.func173 rfl rfl (Ad rfl) ?_
  conv=>whnf
  refine ACalls.frame [0,1,2] hq rfl rfl rfl rfl (by decide) (Mm rfl) ⟨rfl,rfl,rfl,trivial⟩ ?_
  rintro _ _ ⟨rfl,rfl⟩
  conv=>whnf
  refine aLoop.ruleRR Nat (fun k=>([(0, .bp 0 0),(1, .v (.int .i64 a)),(4, .bp 3 0),(5, .v (.int .i64 ((k:Int) - 1)))], [.box 73 (Lx (.ow 1 d.cells.length) (.ow 2 d.cache.length) d.req.reqs d.req.left), .row 87 3 (d.cells.map Bi), .row 130 2 (d.cache.map DA), .box 187 [.v (.int .i64 0), .v (.slice none 0 0)]])) (fun k=>k<=d.cache.length/\∀ j,k<=j->j<d.cache.length->(d.cache.getD j ⟨0, []⟩).addr≠a) (fun k=>k) d.cache.length ⟨Nat.le_refl _,fun j h1 h2=>absurd h2 (by omega)⟩
   (WkN.r (s:= [0,1,2,3]) ⟨⟨rfl,rfl,rfl,congrArg (fun x=>AV.v (.int .i64 x)) w1,trivial⟩,⟨rfl,rfl,rfl,rfl,trivial⟩,rfl,rfl,rfl,rfl,rfl⟩) ?_
  rintro k ⟨hk,hI⟩
  conv=>whnf
  refine Al (fun h6=>?_) (fun h6=>?_) <;> (repeat rw [Aa] at h6) <;> conv=>whnf
  ·have hk':k - 1<d.cache.length:=by omega
   have ek:((k:Int) - 1).toNat=k - 1:=by omega
   have hE':(d.cache.map DA).getD ((k:Int) - 1).toNat []=DA (d.cache.getD (k - 1) ⟨0, []⟩):=by rw [ek];exact Bh hk'
   have hcw:=EO (d.cache.getD (k - 1) ⟨0, []⟩).bytes (by have:=hw _ (AE (d:=⟨0, []⟩) hk');omega)
   refine⟨⟨by omega,by omega⟩,?_⟩
   refine⟨⟨rfl,(Ab _).symm,by omega⟩,?_⟩
   conv=>whnf
   rw [hE']
   conv=>whnf
   refine Al (fun h7=>?_) (fun h7=>?_) <;> (repeat rw [Aa] at h7) <;> conv=>whnf
   ·refine⟨⟨by omega,by omega⟩,?_⟩
    refine⟨⟨rfl,(Ab _).symm,by omega⟩,?_⟩
    conv=>whnf
    rw [hE']
    conv=>whnf
    refine Fn.cl hcw ?_
    conv=>whnf
    have hg:d.got a=((d.cache.getD (k - 1) ⟨0, []⟩).bytes,0):=by
     unfold Dk.got
     rw [Jy _ _ rfl (k - 1) hk' h7 fun j q1 q2=>hI j (by omega) q2]
    exact⟨_, .ag (BB ⟨0,(d.cache.getD (k - 1) ⟨0, []⟩).bytes⟩),rkH d.req,fun _ _ h=>h,WkN.r (s:= [0,1,2]) ⟨⟨rfl,trivial⟩,⟨rfl,rfl,rfl,trivial⟩,rfl,rfl,rfl,rfl,rfl⟩,by simp [Dk.read,h0,hg],by simp [Dk.read,h0]⟩
   ·refine⟨k - 1,⟨by omega,fun j q1 q2=>?_⟩,by omega,WkN.r (s:= [0,1,2,3]) ⟨⟨rfl,rfl,rfl,congrArg (fun x=>AV.v (.int .i64 x)) (show IntKind.i64.wrap ((k:Int) - 1 - 1)=((k - 1:Nat):Int) - 1 by rw [wi (by omega)];omega),trivial⟩,⟨rfl,rfl,rfl,rfl,trivial⟩,rfl,rfl,rfl,rfl,rfl⟩⟩
    by_cases hj:j=k - 1
    ·rw [hj];exact h7
    ·exact hI j (by omega) q2
  ·have hg:d.got a=if (d.cells.getD a.toNat ⟨0, [], []⟩).state=0 then ((d.cells.getD a.toNat ⟨0, [], []⟩).bytes,0) else ([],6):=by
    unfold Dk.got
    rw [Ij _ _ rfl fun j q=>hI j (by omega) q]
   have hgc:(d.cells.map Bi).getD a.toNat []=Bi (d.cells.getD a.toNat ⟨0, [], []⟩):=Bh (by omega)
   have hcb:=EO (d.cells.getD a.toNat ⟨0, [], []⟩).bytes (by have:=hb _ (AE (d:=⟨0, [], []⟩) (show a.toNat<d.cells.length by omega));omega)
   refine⟨ha,?_⟩
   refine⟨⟨rfl,(Ab _).symm,show a.toNat<d.cells.length by omega⟩,?_⟩
   conv=>whnf
   rw [hgc]
   conv=>whnf
   refine Al (fun h1=>?_) (fun h1=>?_) <;> (repeat rw [Aa] at h1) <;> conv=>whnf
   ·rw [if_neg h1] at hg
    exact⟨.ag (BB ⟨6, []⟩), .ag (BB ⟨6, []⟩),rkH d.req,no 6,WkN.r (s:= [0,1,2]) ⟨⟨rfl,trivial⟩,⟨rfl,rfl,rfl,trivial⟩,rfl,rfl,rfl,rfl,rfl⟩,by simp only [Dk.read,if_neg h0,hg],by simp only [Dk.read,if_neg h0]⟩
   ·rw [if_pos h1] at hg
    refine⟨ha,?_⟩
    refine⟨⟨rfl,(Ab _).symm,show a.toNat<d.cells.length by omega⟩,?_⟩
    conv=>whnf
    rw [hgc]
    conv=>whnf
    refine Fn.cl hcb ?_
    exact⟨_, .ag (BB ⟨0,(d.cells.getD a.toNat ⟨0, [], []⟩).bytes⟩),rkH d.req,fun _ _ h=>h,WkN.r (s:= [0,1,2]) ⟨⟨rfl,trivial⟩,⟨rfl,rfl,rfl,trivial⟩,rfl,rfl,rfl,rfl,rfl⟩,by simp only [Dk.read,if_neg h0,hg],by simp only [Dk.read,if_neg h0]⟩
theorem R0 (d:Dk) (a:Int) (b:List UInt8) (hl : -1<=d.left/\d.left<=1048576) (ha:0<=a/\a<d.cells.length) (hc:d.cache.length<=2000) (hb:b.length<=100000) :
  ACalls Tryz.prog false 155 [.bp 0 0, .v (.int .i64 a),bA b] (rkH d) fun r H=>r = .v (.int .i64 (d.write a b).2)/\H=rkH (d.write a b).1:=by
 have hq:=MP d hl
 have hcb:=EO b (by omega)
 by_cases h0:d.left=0
 ·rw [if_pos h0,show decide (d.left≠0)=false by simp [h0]] at hq
  refine ACalls.ofR tys_ok Tryz.func155 rfl rfl (Ad rfl) ?_
  conv=>whnf
  refine hq.mono ?_
  rintro _ _ ⟨rfl,rfl⟩
  exact⟨_, .v (.int .i64 8),rkH d,fun _ _ h=>h,WkN.r (s:= [0,1,2]) ⟨⟨rfl,trivial⟩,⟨rfl,rfl,rfl,trivial⟩,rfl,rfl,rfl,rfl,rfl⟩,by simp only [Dk.write,if_pos h0],by simp only [Dk.write,if_pos h0]⟩
 ·rw [if_neg h0,show decide (d.left≠0)=true by simp [h0]] at hq
  have hgc:(d.cells.map Bi).getD a.toNat []=Bi (d.cells.getD a.toNat ⟨0, [], []⟩):=Bh (by omega)
  have hgc':(d.req.cells.map Bi).getD a.toNat []=Bi (d.cells.getD a.toNat ⟨0, [], []⟩):=hgc
  refine ACalls.ofR tys_ok Tryz.func155 rfl rfl (Ad rfl) ?_
  conv=>whnf
  refine hq.mono ?_
  rintro _ _ ⟨rfl,rfl⟩
  refine⟨ha,?_⟩
  refine⟨⟨rfl,(Ab _).symm,show a.toNat<d.cells.length by omega⟩,?_⟩
  conv=>whnf
  first | rw [hgc] | rw [hgc']
  conv=>whnf
  refine Al (fun h1=>?_) (fun h1=>?_) <;> (repeat rw [Aa] at h1) <;> conv=>whnf
  ·exact⟨_, .v (.int .i64 7),rkH d.req,fun _ _ h=>h,WkN.r (s:= [0,1,2]) ⟨⟨rfl,trivial⟩,⟨rfl,rfl,rfl,trivial⟩,rfl,rfl,rfl,rfl,rfl⟩,by simp only [Dk.write,if_neg h0,if_pos (Or.inl h1)],by simp only [Dk.write,if_neg h0,if_pos (Or.inl h1)]⟩
  ·by_cases h2:(2000:Int)<=d.cache.length
   ·rw [show decide ((d.req.cache.length:Int)>=2000)=true from decide_eq_true h2]
    exact⟨_, .v (.int .i64 7),rkH d.req,fun _ _ h=>h,WkN.r (s:= [0,1,2]) ⟨⟨rfl,trivial⟩,⟨rfl,rfl,rfl,trivial⟩,rfl,rfl,rfl,rfl,rfl⟩,by simp only [Dk.write,if_neg h0,if_pos (Or.inr h2)],by simp only [Dk.write,if_neg h0,if_pos (Or.inr h2)]⟩
   ·rw [show decide ((d.req.cache.length:Int)>=2000)=false from decide_eq_false h2]
    have hc':d.req.cache.length<=2000:=hc
    have h3:¬((d.cells.getD a.toNat ⟨0, [], []⟩).state=2\/(2000:Int)<=d.cache.length):=fun h=>h.elim h1 h2
    conv=>whnf
    apply aDraw.treeK (0) tys_ok mixed (.one 0 (.one 1 (.one 2 (.one 3 (.one 4 (.one 5 (.one 6 (.one 7 (.one 8 (.one 9 (.one 10 (.one 11 (.one 12 (.one 13 (.one 14 (.one 15 .fin)))))))))))))))) (by kernel_rfl)
    conv=>whnf
    refine Fn.cl hcb ?_
    conv=>whnf
    try (refine And.intro (by first | rfl | omega) ?_;conv=>whnf)
    try (refine And.intro (by first | omega | exact⟨by first | rfl | (simp;done) | (simp;omega),by omega⟩) ?_;conv=>whnf)
    try (refine And.intro ⟨rfl,by first | rfl | (simp;done) | (simp;omega),by first | omega | (simp;omega)⟩ ?_;conv=>whnf)
    have e:rkH { d.req with cache:=d.cache ++ [⟨a,b⟩] }=[.box 73 (Lx (.ow 1 d.cells.length) (.ow 2 (d.cache.length+1)) d.req.reqs d.req.left), .row 87 3 (d.cells.map Bi), .row 130 2 (d.cache.map DA ++ [DA ⟨a,b⟩])]:=by
     unfold rkH
     simp only [Ae,List.length_singleton,Aq,Ay,By]
     rfl
    refine⟨_, .v (.int .i64 0),rkH { d.req with cache:=d.cache ++ [⟨a,b⟩] },fun _ _ h=>h,WkN.r (s:= [0,1,2]) ?_,by simp only [Dk.write,if_neg h0,if_neg h3],by simp only [Dk.write,if_neg h0,if_neg h3]⟩
    rw [e]
    exact⟨⟨rfl,trivial⟩,⟨rfl,rfl,rfl,trivial⟩,rfl,rfl,rfl,rfl,rfl⟩
theorem T5 (d:Dk) (w:Wr) (ha:0<=w.addr/\w.addr<d.cells.length) (hb:w.bytes.length<=100000) :
  ACalls Tryz.prog false 203 [.bp 0 0, .ag (DA w)] (rkH d) fun r H=>r = .tp []/\H=rkH (d.fin w):=by
 have hgc:(d.cells.map Bi).getD w.addr.toNat []=Bi (d.cells.getD w.addr.toNat cz):=Bh (by omega)
 have hcb:=EO w.bytes (by omega)
 refine ACalls.ofR tys_ok Tryz.func203 rfl rfl (Ad rfl) ?_
 conv=>whnf
 apply aDraw.treeK (0) tys_ok mixed (.one 0 (.one 1 (.one 2 (.one 3 (.one 4 (.one 5 (.one 6 (.one 7 (.one 8 .fin))))))))) (by kernel_rfl)
 conv=>whnf
 try (refine And.intro (by first | omega | (simp;done)) ?_;conv=>whnf)
 refine⟨⟨rfl,(Ab _).symm,show w.addr.toNat<d.cells.length by omega⟩,?_⟩
 conv=>whnf
 rw [hgc]
 conv=>whnf
 refine Al (fun h1=>?_) (fun h1=>?_) <;> (repeat rw [Aa] at h1) <;> conv=>whnf
 ·exact⟨_, .tp [],rkH d,fun _ _ h=>h,WkN.r (s:= [0,1,2]) ⟨⟨rfl,trivial⟩,⟨rfl,rfl,rfl,trivial⟩,rfl,rfl,rfl,rfl,rfl⟩,rfl,by simp only [Dk.fin,if_pos h1]⟩
 ·have hmem:w.addr.toNat<d.cells.length:=by omega
  apply aDraw.treeK (0) tys_ok mixed (.one 0 (.one 1 (.one 2 (.one 3 (.one 4 (.one 5 (.one 6 (.one 7 (.one 8 (.one 9 (.one 10 (.one 11 (.one 12 (.one 13 (.one 14 (.one 15 (.one 16 (.one 17 (.one 18 .fin))))))))))))))))))) (by kernel_rfl)
  conv=>whnf
  try (first | (refine And.intro ⟨rfl,(Ab _).symm,hmem⟩ ?_;(conv=>whnf);rw [hgc]) | (refine And.intro ⟨rfl,by simp,hmem⟩ ?_;(conv=>whnf);rw [AR (by simpa using hmem)]) | skip;conv=>whnf)
  try (first | (refine And.intro ⟨rfl,(Ab _).symm,hmem⟩ ?_;(conv=>whnf);rw [hgc]) | (refine And.intro ⟨rfl,by simp,hmem⟩ ?_;(conv=>whnf);rw [AR (by simpa using hmem)]) | skip;conv=>whnf)
  refine Fn.cl hcb ?_
  conv=>whnf
  try (refine And.intro ⟨rfl,by first | rfl | (simp;done) | (simp;omega),by first | omega | (simp;omega)⟩ ?_;conv=>whnf)
  (first | rw [hgc] | rw [AR (by simpa using hmem)] | skip)
  conv=>whnf
  try (refine And.intro ⟨rfl,by first | rfl | (simp;done) | (simp;omega),by first | omega | (simp;omega)⟩ ?_;conv=>whnf)
  (first | rw [hgc] | rw [AR (by simpa using hmem)] | skip)
  conv=>whnf
  try (refine And.intro ⟨rfl,by first | rfl | (simp;done) | (simp;omega),by first | omega | (simp;omega)⟩ ?_;conv=>whnf)
  (first | rw [hgc] | rw [AR (by simpa using hmem)] | skip)
  conv=>whnf
  have e:rkH (d.fin w)=[.box 73 (Lx (.ow 1 d.cells.length) (.ow 2 d.cache.length) d.reqs d.left), .row 87 3 ((d.cells.map Bi).set w.addr.toNat (Bi ⟨0,w.bytes,(d.cells.getD w.addr.toNat cz).bytes⟩)), .row 130 2 (d.cache.map DA)]:=by
   rw [Dk.fin,if_neg h1]
   unfold rkH
   simp only [Bl,List.map_set]
  refine⟨_, .tp [],rkH (d.fin w),fun _ _ h=>h,WkN.r (s:= [0,1,2]) ?_,rfl,rfl⟩
  rw [e]
  exact⟨⟨rfl,trivial⟩,⟨rfl,congrArg (fun l=>some (AB.row _ _ l)) (by rw [List.set_set,List.set_set];rfl),rfl,trivial⟩,rfl,rfl,rfl,rfl,rfl⟩
@[reducible] def rkG (d:Dk):List AB:= [.box 73 (Lx (.ow 1 d.cells.length) (.ow 3 d.cache.length) d.reqs d.left), .row 87 3 (d.cells.map Bi), .dead, .row 130 2 (d.cache.map DA)]
theorem W7 (d:Dk):ConvH (rkH d) (rkG d):=ConvH.move (H:=rkH d) 0 2 (by decide) rfl rfl
theorem RI (d:Dk) (hl : -1<=d.left/\d.left<=1048576) (hc:d.cache.length<=2000) (ha:∀ w∈d.cache,0<=w.addr/\w.addr<d.cells.length) (hb:∀ w∈d.cache,w.bytes.length<=100000) :
  ACalls Tryz.prog false 156 [.bp 0 0] (rkH d) fun r H=>r = .v (.int .i64 (if d.left=0 then 8 else 0))/\H=rkG (if d.left=0 then d else d.flush):=by
 have hq:=MP d hl
 by_cases h0:d.left=0
 ·rw [if_pos h0,show decide (d.left≠0)=false by simp [h0]] at hq
  rw [if_pos h0,if_pos h0]
  refine ACalls.ofR tys_ok Tryz.func156 rfl rfl (Ad rfl) ?_
  conv=>whnf
  refine hq.mono ?_
  rintro _ _ ⟨rfl,rfl⟩
  exact⟨_, .v (.int .i64 8),rkG d,fun _ _ h=>h,WkN.rc (ConvF.ofH (W7 d)) (s:= [0,1,2,3]) ⟨⟨rfl,trivial⟩,⟨rfl,rfl,trivial,rfl,trivial⟩,rfl,rfl,rfl,rfl,rfl⟩,rfl,rfl⟩
 ·rw [if_neg h0,show decide (d.left≠0)=true by simp [h0]] at hq
  rw [if_neg h0,if_neg h0]
  have hE:∀ i,i<d.cache.length->(d.cache.map DA).getD i []=DA (d.cache.getD i ⟨0, []⟩):=fun i hi=>Bh hi
  refine ACalls.ofR tys_ok Tryz.func156 rfl rfl (Ad rfl) ?_
  conv=>whnf
  refine hq.mono ?_
  rintro _ _ ⟨rfl,rfl⟩
  conv=>whnf
  refine aLoop.ruleRR Nat (fun k=>([(0, .bp 0 0),(2, .v (.int .i64 0)),(3, .v (.int .i64 k))],rkH (d.req.allFin (d.cache.take k)))) (fun k=>k<=d.cache.length) (fun k=>d.cache.length - k) 0 (Ag _)
   (WkN.r (s:= [0,1,2]) ⟨⟨rfl,rfl,rfl,trivial⟩,⟨rfl,rfl,rfl,trivial⟩,rfl,rfl,rfl,rfl,rfl⟩) ?_
  intro k hk
  have hall:=Iq (d.cache.take k) d.req
  have hnext:k<d.cache.length->d.req.allFin (d.cache.take (k+1))=(d.req.allFin (d.cache.take k)).fin (d.cache.getD k ⟨0, []⟩):=fun h=>Kb d.req h
  have hlast:k=d.cache.length->d.flush={ d.req.allFin (d.cache.take k) with cache:= [] }:=fun h=>by rw [h,List.take_length];rfl
  generalize d.req.allFin (d.cache.take k)=X at hall hnext hlast |-
  obtain⟨xc,xw,xr,xl⟩:=X
  simp only at hall
  obtain⟨q1,q2,q3,q4⟩:=hall
  have q2:xw=d.cache:=q2
  subst q2
  have q1':xc.length=d.cells.length:=q1
  conv=>whnf
  refine Al (fun h=>?_) (fun h=>?_) <;> (repeat rw [Aa] at h) <;> conv=>whnf
  ·have hk':k<d.cache.length:=h
   have hd:=T5 ⟨xc,d.cache,xr,xl⟩ (d.cache.getD k ⟨0, []⟩) (by have:=ha _ (AE (d:=⟨0, []⟩) hk');show _/\_<((xc.length:Nat):Int);rw [q1'];exact this) (hb _ (AE (d:=⟨0, []⟩) hk'))
   refine⟨⟨by omega,by omega⟩,?_⟩
   refine⟨⟨rfl,(Ab _).symm,by simpa using hk'⟩,?_⟩
   conv=>whnf
   rw [show ((k:Int)).toNat=k from Aa k,hE k hk']
   conv=>whnf
   refine ACalls.frame [0,1,2] hd rfl rfl rfl rfl (by decide) (Mm rfl) ⟨rfl,rfl,rfl,trivial⟩ ?_
   rintro _ _ ⟨rfl,rfl⟩
   refine⟨k+1,hk',by omega,WkN.r (s:= [0,1,2]) ?_⟩
   rw [hnext hk']
   exact⟨⟨rfl,rfl,AA (by omega),trivial⟩,⟨rfl,rfl,rfl,trivial⟩,rfl,rfl,rfl,rfl,rfl⟩
  ·have ek:k=d.cache.length:=Nat.le_antisymm hk h
   rw [hlast ek]
   exact⟨_, .v (.int .i64 0),rkG { cells:=xc,cache:= [],reqs:=xr,left:=xl },fun _ _ h=>h,⟨_,_,ConvF.refl _ _, [(1000001,130,2)],⟨rfl,rfl,trivial⟩, [0,1,2,3],⟨⟨rfl,trivial⟩,⟨rfl,rfl,trivial,rfl,trivial⟩,rfl,rfl,rfl,rfl,rfl⟩⟩,rfl,rfl⟩
structure DkOk (d:Dk):Prop where
 n:1<=d.cells.length/\d.cells.length<=300
 m:d.cache.length<=2000
 r:0<=d.reqs/\d.reqs<=1048576
 l : -1<=d.left/\d.left<=1048576
 c:∀ c∈d.cells,(0<=c.state/\c.state<=2)/\c.bytes.length<=200/\c.old.length<=200
 w:∀ w∈d.cache,(0<=w.addr/\w.addr<d.cells.length)/\w.bytes.length<=200
theorem FY {d:Dk}:FZ d=true↔DkOk d:=by
 constructor
 ·intro h
  simp only [FZ,Bool.and_eq_true,AI,decide_eq_true_eq,A4,Fb,Gi] at h
  obtain⟨⟨h1,h2,h3,h4⟩,h5,h6⟩:=h
  exact⟨by omega,h2,h3,h4,fun c hc=>h5 c hc,fun w hw=>⟨by have:=(h6 w hw).1;omega,(h6 w hw).2⟩⟩
 ·intro h
  simp only [FZ,Bool.and_eq_true,AI,decide_eq_true_eq,A4,Fb,Gi]
  exact⟨⟨by have:=h.n;omega,h.m,h.r,h.l⟩,fun c hc=>h.c c hc,fun w hw=>⟨by have:=(h.w w hw).1;omega,(h.w w hw).2⟩⟩
theorem DkOk.req {d:Dk} (h:DkOk d):DkOk d.req:=by
 have hr:=h.r
 have hl:=h.l
 refine⟨h.n,h.m,?_,?_,h.c,h.w⟩
 ·show 0<=(if 1048576<IntKind.i64.wrap (d.reqs+1) then 1048576 else IntKind.i64.wrap (d.reqs+1))/\(if 1048576<IntKind.i64.wrap (d.reqs+1) then 1048576 else IntKind.i64.wrap (d.reqs+1))<=1048576
  rw [wi (by omega)]
  split <;> omega
 ·show -1<=(if d.left > 0 then d.left - 1 else d.left)/\(if d.left > 0 then d.left - 1 else d.left)<=1048576
  split <;> omega
theorem Sr {d:Dk} (h:DkOk d) (a:Int):(d.got a).1.length<=200:=by
 unfold Dk.got
 cases hl:II d.cache a with
 | some w=>
  have:∀ (l:List Wr) (r:Option Wr),(∀ x∈l,x.bytes.length<=200)->(∀ x,r=some x->x.bytes.length<=200)->∀ x,l.foldl (fun r w=>if w.addr=a then some w else r) r=some x->x.bytes.length<=200:=by
   intro l
   induction l with
   | nil=>intro r _ h2 x hx;exact h2 x hx
   | cons y l ih=>
    intro r h1 h2 x hx
    refine ih _ (fun x hx=>h1 x (A9 _ hx)) (fun x hx=>?_) x hx
    simp only at hx
    split at hx
    ·cases hx;exact h1 y (by simp)
    ·exact h2 x hx
  exact this d.cache none (fun x hx=>(h.w x hx).2) (fun x hx=>by cases hx) w hl
 | none=>
  simp only
  split
  ·by_cases ha:a.toNat<d.cells.length
   ·exact(h.c _ (AE (d:=⟨0, [], []⟩) ha)).2.1
   ·rw [List.getD_eq_getElem?_getD,List.getElem?_eq_none (by omega)];simp
  ·simp
theorem DkOk.read {d:Dk} (h:DkOk d) (a:Int):DkOk (d.read a).1:=by
 unfold Dk.read
 split
 ·exact h
 ·exact h.req
theorem DkOk.write {d:Dk} (h:DkOk d) {a:Int} {b:List UInt8} (ha:0<=a/\a<d.cells.length) (hb:b.length<=200):DkOk (d.write a b).1:=by
 unfold Dk.write
 split
 ·exact h
 ·split
  ·exact h.req
  ·rename_i h1
   have h2:=h.req
   refine⟨h2.n,?_,h2.r,h2.l,h2.c,fun w hw=>?_⟩
   ·simp only [Ae,List.length_singleton];omega
   ·rcases Ax.1 hw with hw | hw
    ·exact h.w w hw
    ·simp at hw;subst hw;exact⟨ha,hb⟩
theorem DkOk.fin {d:Dk} (h:DkOk d) {w:Wr} (hb:w.bytes.length<=200):DkOk (d.fin w):=by
 unfold Dk.fin
 split
 ·exact h
 ·refine⟨by simpa using h.n,h.m,h.r,h.l,fun c hc=>?_,fun x hx=>by simpa using h.w x hx⟩
  rcases Cp hc with hc | rfl
  ·exact h.c c hc
  ·refine⟨⟨Br _,show (0:Int)<=2 by decide⟩,hb,?_⟩
   show (d.cells.getD w.addr.toNat cz).bytes.length<=200
   by_cases ha:w.addr.toNat<d.cells.length
   ·exact(h.c _ (AE (d:=cz) ha)).2.1
   ·rw [List.getD_eq_getElem?_getD,List.getElem?_eq_none (by omega)];simp [cz]
theorem DkOk.allFin (l:List Wr):∀ {d:Dk},DkOk d->(∀ w∈l,w.bytes.length<=200)->DkOk (d.allFin l):=by
 induction l with
 | nil=>intro d h _;exact h
 | cons w l ih=>intro d h hw;exact ih (h.fin (hw w (by simp))) fun x hx=>hw x (A9 _ hx)
theorem DkOk.flush {d:Dk} (h:DkOk d):DkOk d.flush:=by
 have h1:=h.req.allFin d.cache (fun w hw=>(h.w w hw).2)
 exact⟨h1.n,by simp [Dk.flush],h1.r,h1.l,h1.c,fun w hw=>by simp [Dk.flush] at hw⟩
theorem UO (d:Dk) (a:Int) (b:List UInt8):(d.write a b).1.cells.length=d.cells.length:=by
 unfold Dk.write;split
 ·rfl
 ·split <;> rfl
theorem VN (d:Dk):d.flush.cells.length=d.cells.length:=(Iq d.cache d.req).1
def Dk.adv:Nat->Dk->Dk
 | 0,d=>d
 | k+1,d=>let e:=Dk.adv k d;if e.left=0 then e else e.req
def Dk.live (k:Nat) (d:Dk):Prop:=d.left<0\/(k:Int)<=d.left
instance (k:Nat) (d:Dk):Decidable (d.live k):=by unfold Dk.live;infer_instance
theorem D9 (k:Nat) (d:Dk):(d.adv k).cells=d.cells/\(d.adv k).cache=d.cache:=by
 induction k with
 | zero=>exact⟨rfl,rfl⟩
 | succ k ih=>show (if _ then _ else _:Dk).cells=_/\(if _ then _ else _:Dk).cache=_;split <;> exact ih
theorem Pu (k:Nat) (d:Dk) (h:d.live k):(d.adv k).left=if d.left<0 then d.left else d.left - k:=by
 induction k with
 | zero=>show d.left=_;simp
 | succ k ih=>
  have h':d.live k:=by unfold Dk.live at *;omega
  have ih:=ih h'
  have h0:¬(d.adv k).left=0:=by rw [ih];unfold Dk.live at h;split <;> omega
  show (if (d.adv k).left=0 then d.adv k else (d.adv k).req).left=_
  rw [if_neg h0]
  show (if (d.adv k).left > 0 then (d.adv k).left - 1 else (d.adv k).left)=_
  rw [ih]
  unfold Dk.live at h
  split <;> split <;> omega
theorem UI (k:Nat) (d:Dk) (h:¬d.live (k+1)) (h':d.live k):(d.adv k).left=0:=by
 rw [Pu k d h']
 unfold Dk.live at *
 split <;> omega
theorem FE (k n:Nat) (d:Dk) (h:(d.adv k).left=0) (hn:k<=n):d.adv n=d.adv k:=by
 induction n with
 | zero=>rw [show k=0 by omega]
 | succ n ih=>
  by_cases e:k=n+1
  ·rw [e]
  ·have:=ih (by omega)
   show (if (d.adv n).left=0 then d.adv n else (d.adv n).req)=_
   rw [this,if_pos h]
theorem UG (k:Nat) (d:Dk) (h:¬(d.adv k).left=0):d.adv (k+1)=(d.adv k).req:=if_neg h
theorem He (k:Nat) (d:Dk) (hl : -1<=d.left) (h:d.live k):(d.adv k).left=0↔¬d.live (k+1):=by
 rw [Pu k d h]
 unfold Dk.live at *
 split <;> omega
theorem DkOk.adv {d:Dk} (h:DkOk d) (k:Nat):DkOk (d.adv k):=by
 induction k with
 | zero=>exact h
 | succ k ih=>show DkOk (if _ then _ else _);split;exact ih;exact ih.req
theorem V_ (k:Nat) (d:Dk) (a:Int):(d.adv k).got a=d.got a:=by
 unfold Dk.got
 rw [(D9 k d).1,(D9 k d).2]
def Nx (d:Dk) (a:Int):Gt:=⟨(d.got a).2,(d.got a).1⟩
theorem Kr (d:Dk) (a:Int):(d.got a).2=0\/(d.got a).2=6:=by
 unfold Dk.got
 cases II d.cache a with
 | some w=>exact .inl rfl
 | none=>simp only;split;exact .inl rfl;exact .inr rfl
def Ft (s:Dk × Nat × Bool) (w:Wr):Dk × Nat × Bool:=
 if s.2.2 then s else
 match s.1.write w.addr w.bytes with
 | (d,e)=>if e=8 then (d,s.2.1,true) else (d,s.2.1+(if e=0 then 1 else 0),false)
def Dk.writes (d:Dk) (l:List Wr):Dk × Nat × Bool:=l.foldl Ft (d,0,false)
def Dk.putAll (d:Dk) (l:List Wr):Dk × Nat × Bool:=
 match d.writes l with
 | (d1,n,dead)=>if dead then (d1,n,true) else if d1.left=0 then (d1,n,true) else (d1.flush,n,false)
theorem FJ (d:Dk) {l:List Wr} {k:Nat} (h:k<l.length):d.writes (l.take (k+1))=Ft (d.writes (l.take k)) (l.getD k ⟨0, []⟩):=by
 unfold Dk.writes
 rw [Ba,List.foldl_append,List.getElem?_eq_getElem h]
 simp [List.getD_eq_getElem?_getD,List.getElem?_eq_getElem h]
theorem JF {s:Dk × Nat × Bool} (w:Wr) (h:s.2.2=true):Ft s w=s:=by unfold Ft;rw [if_pos h]
theorem JE (d:Dk) {l:List Wr} {k:Nat} (hk:k<=l.length) (h:(d.writes (l.take k)).2.2=true):d.writes l=d.writes (l.take k):=by
 have:∀ n,k<=n->n<=l.length->d.writes (l.take n)=d.writes (l.take k):=by
  intro n
  induction n with
  | zero=>intro h1 _;rw [show k=0 by omega]
  | succ n ih=>
   intro h1 h2
   by_cases e:k=n+1
   ·rw [e]
   ·rw [FJ d (by omega),ih (by omega) (by omega),JF _ h]
 have:=this l.length hk (Nat.le_refl _)
 rwa [List.take_length] at this
theorem Pv {P:Dk->Prop} (l:List Wr) (hw:∀ d,P d->∀ w∈l,P (d.write w.addr w.bytes).1) {d:Dk} (h:P d) (k:Nat):P (d.writes (l.take k)).1:=by
 induction k with
 | zero=>simpa [Dk.writes] using h
 | succ k ih=>
  by_cases hk:k<l.length
  ·rw [FJ d hk]
   unfold Ft
   split
   ·exact ih
   ·have:=hw _ ih _ (AE (d:=(⟨0, []⟩:Wr)) hk)
    simp only
    split <;> exact this
  ·rw [List.take_of_length_le (by omega)];rwa [List.take_of_length_le (by omega)] at ih
theorem Ho (x:Rc):rowB (BW x) szR=leB 1 x.kind.toNat ++ (leB 4 x.seq.toNat ++ (leB 4 x.epoch.toNat ++ (leB 1 x.at_.toNat ++ leB 1 x.of_.toNat))):=by
 simp [rowB,BW,szR]
theorem N8 {L:List UInt8} {n:Nat} {es:List (List AV)} (hn:n=L.length) (he:es=L.map EB) (c:Ctx) (v:Value) (h:Rd (.sl 1 n fun i=>es.getD i []) c v):Rd (bA L) c v:=by
 subst he
 exact Rd.congr hn (fun i hi=>Bh (f:=EB) (l:=L) (d:=0) (hn ▸ hi)) h
theorem RB (g:Geo) (x:Rc) (hok:DH g x=true):Fn Tryz.prog 96 [.ag (EE x)] fun r=>r=bA (D6 x):=by
 obtain⟨K,S,E,A,O,k1,k2,k3,k4,k5,hS,hE⟩:=Vx hok
 have p1:=MQ (leB 1 K) S 4 (by rw [leB_len];decide) hS (by decide)
 have p2:=GK (leB 1 K ++ leB 4 S) (E:Nat) 4 (by simp [leB_len]) (by omega) (by decide)
 have eK : [[AV.v (.int .u8 (IntKind.u8.wrap x.kind))]]=(leB 1 K).map EB:=by
  rw [k1]
  show _=[[AV.v (.int .u8 ((UInt8.ofNat (K % 256)).toNat:Nat))]]
  rw [Bp (show K % 256<256 by omega),IntKind.wrap_u8]
  rfl
 refine Fn.st Tryz.func96 rfl ?_
 conv=>whnf
 apply aDraw.treeK (0) tys_ok mixed (.one 0 (.one 1 (.one 2 (.one 4 (.one 5 (.one 7 (.one 8 (.one 3 (.one 6 (.one 9 (.one 10 .fin))))))))))) (by kernel_rfl)
 conv=>whnf
 (refine ACalls.shut p1.go ?_;(conv=>whnf);refine And.intro rfl ?_;(conv=>whnf);refine ACalls.sub [bA (leB 1 K), .v (.int .i64 S), .v (.int .i64 4)] ⟨N8 rfl eK,by rw [k2];exact fun _ _ h=>h,ri,trivial⟩ ?_;refine Fn.cl p1 ?_)
 conv=>whnf
 (rw [k3];refine ACalls.beside p2 rfl ?_;rintro _ _ ⟨rfl,rfl⟩)
 refine⟨rfl,?_⟩
 refine⟨⟨by simp,by simp [leB_len]⟩,?_⟩
 have eR:List.map EB (leB 1 K ++ leB 4 S ++ leB 4 ((E:Nat):Int).toNat) ++ [[AV.v (.int .u8 (IntKind.u8.wrap x.at_))], [AV.v (.int .u8 (IntKind.u8.wrap x.of_))]]=(rowB (BW x) szR).map EB:=by
  rw [Ho,k1,k2,k3,k4,k5]
  have e8:∀ n:Nat, [[AV.v (.int .u8 (IntKind.u8.wrap (n:Int)))]]=(leB 1 n).map EB:=fun n=>by
   show _=[[AV.v (.int .u8 ((UInt8.ofNat (n % 256)).toNat:Nat))]]
   rw [Bp (show n % 256<256 by omega),IntKind.wrap_u8]
   rfl
  simp only [Aq,<-e8,Aa,List.append_assoc]
  rfl
 rw [eR]
 conv=>whnf
 by_cases hk:x.kind=1
 ·rw [show (x.kind != 1)=false by simpa using hk]
  conv=>whnf
  repeat' (first | (refine aSeq.go ?_;conv=>whnf) | fail)
  obtain⟨Z,W,z1,z2,z3,z4⟩:=Vy hok hk
  have hpt:=KA x.img.bytes z4
  have hR11:(rowB (BW x) szR).length=11:=by rw [Ho];simp [leB_len]
  have hA:(leB 1 K ++ leB 4 S ++ leB 4 ((E:Nat):Int).toNat).length+2=(List.map EB (rowB (BW x) szR)).length:=by rw [Ab,hR11];simp [leB_len]
  have hA2:(leB 1 K ++ leB 4 S ++ leB 4 ((E:Nat):Int).toNat).length+2+2<=1000000000:=by simp [leB_len]
  have e8:∀ n:Nat, [[AV.v (.int .u8 (IntKind.u8.wrap (n:Int)))]]=(leB 1 n).map EB:=fun n=>by
   show _=[[AV.v (.int .u8 ((UInt8.ofNat (n % 256)).toNat:Nat))]]
   rw [Bp (show n % 256<256 by omega),IntKind.wrap_u8]
   rfl
  obtain⟨Q,hQ⟩:∃ Q,Q=rowB (BW x) szR ++ (leB 1 Z ++ leB 1 W):=⟨_,rfl⟩
  have hB:D6 x=Q ++ (UInt8.ofNat x.img.bytes.length::x.img.bytes):=by
   unfold D6
   rw [if_pos hk,hQ,List.append_assoc]
   unfold GX
   rw [z1,z2]
   simp [rowB]
  have eQ:List.map EB (rowB (BW x) szR) ++ [[AV.v (.int .u8 (IntKind.u8.wrap (Z:Int)))], [AV.v (.int .u8 (IntKind.u8.wrap (W:Int)))]]=Q.map EB:=by
   rw [hQ,Aq,Aq,<-e8,<-e8]
   rfl
  have hQl:Q.length=13:=by rw [hQ];simp [leB_len,hR11]
  have hP:(UInt8.ofNat x.img.bytes.length::x.img.bytes).length=(List.map EB (UInt8.ofNat x.img.bytes.length::x.img.bytes)).length:=(Ab _).symm
  have hP2:(UInt8.ofNat x.img.bytes.length::x.img.bytes).length<=256:=by rw [Ai];omega
  have hQ1:(leB 1 K ++ leB 4 S ++ leB 4 ((E:Nat):Int).toNat).length+2+2=(List.map EB Q).length:=by rw [Ab,hQl];simp [leB_len]
  have hQ2:(leB 1 K ++ leB 4 S ++ leB 4 ((E:Nat):Int).toNat).length=9:=by simp [leB_len]
  have hF1:(leB 1 K ++ leB 4 S ++ leB 4 ((E:Nat):Int).toNat).length+2+2+(UInt8.ofNat x.img.bytes.length::x.img.bytes).length=(List.map EB Q ++ List.map EB (UInt8.ofNat x.img.bytes.length::x.img.bytes)).length:=by rw [hQ1,hP];exact List.length_append.symm
  have hF2:(leB 1 K ++ leB 4 S ++ leB 4 ((E:Nat):Int).toNat).length+2+2+(UInt8.ofNat x.img.bytes.length::x.img.bytes).length=(Q ++ (UInt8.ofNat x.img.bytes.length::x.img.bytes)).length:=by rw [hQ1,Ab];exact List.length_append.symm
  by_cases hw:x.img.what = -1
  rw [show (x.img.what == -1)=true by simpa using hw]
  conv=>whnf
  have hW:(254:Int)=(W:Int):=by rw [<-z2,hw];rfl
  rotate_left 1
  rw [show (x.img.what == -1)=false by simpa using hw]
  conv=>whnf
  have hW:x.img.what=(W:Int):=by rw [<-z2];unfold CB;rw [if_neg hw]
  all_goals
   apply aDraw.treeK (3584) tys_ok mixed (.one 0 (.one 1 (.one 2 (.one 3 (.one 4 (.one 5 (.one 6 (.two 7 (.two 8 (.one 9 (.one 10 (.one 11 (.one 12 (.one 13 (.one 14 .fin)))))) 9 (.two 8 (.one 10 (.one 11 (.one 12 (.one 13 (.one 14 .fin))))) 10 (.two 8 (.one 11 (.one 12 (.one 13 (.one 14 .fin)))) 11 (.one 8 (.one 12 (.one 13 (.one 14 .fin))))))) 9 (.two 7 (.two 8 (.one 10 (.one 11 (.one 12 (.one 13 (.one 14 .fin))))) 10 (.two 8 (.one 11 (.one 12 (.one 13 (.one 14 .fin)))) 11 (.one 8 (.one 12 (.one 13 (.one 14 .fin)))))) 10 (.two 7 (.two 8 (.one 11 (.one 12 (.one 13 (.one 14 .fin)))) 11 (.one 8 (.one 12 (.one 13 (.one 14 .fin))))) 11 (.one 7 (.one 8 (.one 12 (.one 13 (.one 14 .fin))))))))))))))) (by kernel_rfl)
   refine And.intro ?_ ?_
   refine And.intro ?_ ?_
   conv=>whnf
   try (refine And.intro (by first | rfl | omega) ?_;conv=>whnf)
   try (refine And.intro (by first | omega | exact⟨by first | rfl | (simp;done) | (simp;omega),by omega⟩) ?_;conv=>whnf)
   (rw [z1,hW,eQ];refine ACalls.beside hpt rfl ?_;rintro _ _ ⟨rfl,rfl⟩)
   conv=>whnf
   try (refine And.intro (by first | rfl | omega) ?_;conv=>whnf)
   try (refine And.intro (by first | omega | exact⟨by first | rfl | (simp;done) | (simp;omega),by omega⟩) ?_;conv=>whnf)
   rotate_left 1
   refine And.intro ?_ ?_
   conv=>whnf
   try (refine And.intro (by first | rfl | omega) ?_;conv=>whnf)
   try (refine And.intro (by first | omega | exact⟨by first | rfl | (simp;done) | (simp;omega),by omega⟩) ?_;conv=>whnf)
   (rw [z1,hW,eQ];refine ACalls.beside hpt rfl ?_;rintro _ _ ⟨rfl,rfl⟩)
   conv=>whnf
   try (refine And.intro (by first | rfl | omega) ?_;conv=>whnf)
   try (refine And.intro (by first | omega | exact⟨by first | rfl | (simp;done) | (simp;omega),by omega⟩) ?_;conv=>whnf)
   rotate_left 1
   refine And.intro ?_ ?_
   conv=>whnf
   try (refine And.intro (by first | rfl | omega) ?_;conv=>whnf)
   try (refine And.intro (by first | omega | exact⟨by first | rfl | (simp;done) | (simp;omega),by omega⟩) ?_;conv=>whnf)
   (rw [z1,hW,eQ];refine ACalls.beside hpt rfl ?_;rintro _ _ ⟨rfl,rfl⟩)
   conv=>whnf
   try (refine And.intro (by first | rfl | omega) ?_;conv=>whnf)
   try (refine And.intro (by first | omega | exact⟨by first | rfl | (simp;done) | (simp;omega),by omega⟩) ?_;conv=>whnf)
   rotate_left 1
   conv=>whnf
   try (refine And.intro (by first | rfl | omega) ?_;conv=>whnf)
   try (refine And.intro (by first | omega | exact⟨by first | rfl | (simp;done) | (simp;omega),by omega⟩) ?_;conv=>whnf)
   (rw [z1,hW,eQ];refine ACalls.beside hpt rfl ?_;rintro _ _ ⟨rfl,rfl⟩)
   conv=>whnf
   try (refine And.intro (by first | rfl | omega) ?_;conv=>whnf)
   try (refine And.intro (by first | omega | exact⟨by first | rfl | (simp;done) | (simp;omega),by omega⟩) ?_;conv=>whnf)
   rotate_left 1
   refine And.intro ?_ ?_
   refine And.intro ?_ ?_
   conv=>whnf
   try (refine And.intro (by first | rfl | omega) ?_;conv=>whnf)
   try (refine And.intro (by first | omega | exact⟨by first | rfl | (simp;done) | (simp;omega),by omega⟩) ?_;conv=>whnf)
   (rw [z1,hW,eQ];refine ACalls.beside hpt rfl ?_;rintro _ _ ⟨rfl,rfl⟩)
   conv=>whnf
   try (refine And.intro (by first | rfl | omega) ?_;conv=>whnf)
   try (refine And.intro (by first | omega | exact⟨by first | rfl | (simp;done) | (simp;omega),by omega⟩) ?_;conv=>whnf)
   rotate_left 1
   refine And.intro ?_ ?_
   conv=>whnf
   try (refine And.intro (by first | rfl | omega) ?_;conv=>whnf)
   try (refine And.intro (by first | omega | exact⟨by first | rfl | (simp;done) | (simp;omega),by omega⟩) ?_;conv=>whnf)
   (rw [z1,hW,eQ];refine ACalls.beside hpt rfl ?_;rintro _ _ ⟨rfl,rfl⟩)
   conv=>whnf
   try (refine And.intro (by first | rfl | omega) ?_;conv=>whnf)
   try (refine And.intro (by first | omega | exact⟨by first | rfl | (simp;done) | (simp;omega),by omega⟩) ?_;conv=>whnf)
   rotate_left 1
   conv=>whnf
   try (refine And.intro (by first | rfl | omega) ?_;conv=>whnf)
   try (refine And.intro (by first | omega | exact⟨by first | rfl | (simp;done) | (simp;omega),by omega⟩) ?_;conv=>whnf)
   (rw [z1,hW,eQ];refine ACalls.beside hpt rfl ?_;rintro _ _ ⟨rfl,rfl⟩)
   conv=>whnf
   try (refine And.intro (by first | rfl | omega) ?_;conv=>whnf)
   try (refine And.intro (by first | omega | exact⟨by first | rfl | (simp;done) | (simp;omega),by omega⟩) ?_;conv=>whnf)
   rotate_left 1
   refine And.intro ?_ ?_
   refine And.intro ?_ ?_
   conv=>whnf
   try (refine And.intro (by first | rfl | omega) ?_;conv=>whnf)
   try (refine And.intro (by first | omega | exact⟨by first | rfl | (simp;done) | (simp;omega),by omega⟩) ?_;conv=>whnf)
   (rw [z1,hW,eQ];refine ACalls.beside hpt rfl ?_;rintro _ _ ⟨rfl,rfl⟩)
   conv=>whnf
   try (refine And.intro (by first | rfl | omega) ?_;conv=>whnf)
   try (refine And.intro (by first | omega | exact⟨by first | rfl | (simp;done) | (simp;omega),by omega⟩) ?_;conv=>whnf)
   rotate_left 1
   conv=>whnf
   try (refine And.intro (by first | rfl | omega) ?_;conv=>whnf)
   try (refine And.intro (by first | omega | exact⟨by first | rfl | (simp;done) | (simp;omega),by omega⟩) ?_;conv=>whnf)
   (rw [z1,hW,eQ];refine ACalls.beside hpt rfl ?_;rintro _ _ ⟨rfl,rfl⟩)
   conv=>whnf
   try (refine And.intro (by first | rfl | omega) ?_;conv=>whnf)
   try (refine And.intro (by first | omega | exact⟨by first | rfl | (simp;done) | (simp;omega),by omega⟩) ?_;conv=>whnf)
   rotate_left 1
   conv=>whnf
   try (refine And.intro (by first | rfl | omega) ?_;conv=>whnf)
   try (refine And.intro (by first | omega | exact⟨by first | rfl | (simp;done) | (simp;omega),by omega⟩) ?_;conv=>whnf)
   (rw [z1,hW,eQ];refine ACalls.beside hpt rfl ?_;rintro _ _ ⟨rfl,rfl⟩)
   conv=>whnf
   try (refine And.intro (by first | rfl | omega) ?_;conv=>whnf)
   try (refine And.intro (by first | omega | exact⟨by first | rfl | (simp;done) | (simp;omega),by omega⟩) ?_;conv=>whnf)
   rotate_left 1
   all_goals
    refine⟨hF1,?_⟩
    conv=>whnf
    rw [hB]
    exact⟨bA _,N8 hF2 List.map_append.symm,rfl⟩
 ·rw [show (x.kind != 1)=true by simpa using hk]
  conv=>whnf
  have hB:D6 x=rowB (BW x) szR:=by unfold D6;rw [if_neg hk,List.append_nil]
  rw [hB]
  refine And.intro (by rw [Ab,Ho];simp [leB_len]) ?_
  conv=>whnf
  exact⟨bA _,N8 (by rw [Ho];simp [leB_len]) rfl,rfl⟩
def F9 (a:An):Bool:=decide (10<a.homes.length) || (decide (200<a.label.size) || a.homes.any fun h=>decide (20<h.places.length))
theorem Hw (a:An):Fn Tryz.prog 21 [.ag (CE a)] fun r=>r = .v (.bool (F9 a)):=by
 refine Fn.st Tryz.func21 rfl ?_
 conv=>whnf
 refine Af (fun h1=>?_) (fun h1=>?_) <;> simp at h1 <;> conv=>whnf
 ·exact⟨_,ri,by simp [F9,show 10<a.homes.length by omega]⟩
 refine Af (fun h2=>?_) (fun h2=>?_) <;> simp at h2 <;> conv=>whnf
 ·exact⟨_,ri,by simp [F9,show 200<a.label.size by omega]⟩
 refine aLoop.rule Nat (fun k=>([(1, .bp 0 0),(3, .v (.int .i64 k))], [.box 40 (CE a)])) (fun k=>k<=a.homes.length/\(a.homes.take k).any (fun h=>decide (20<h.places.length))=false) (fun k=>a.homes.length - k) 0 ⟨Ag _,by simp⟩ ⟨[],trivial,⟨rfl,rfl,trivial⟩,⟨rfl,trivial⟩,rfl,rfl,rfl⟩ ?_
 rintro k ⟨hk,hI⟩
 conv=>whnf
 refine Af (fun h3=>?_) (fun h3=>?_) <;> simp at h3 <;> conv=>whnf
 ·refine⟨by first | omega | (refine⟨rfl,?_,?_⟩ <;> first | omega | (simp only [Ab];done) | (simp only [Ab];omega)) | (simp only [Ab];omega),?_⟩
  conv=>whnf
  have ek:((k:Nat):Int).toNat=k:=Aa k
  refine Af (fun h4=>?_) (fun h4=>?_) <;> simp only [ek,decide_eq_true_eq,decide_eq_false_iff_not,gt_iff_lt] at h4 <;> conv=>whnf
  ·have e:(a.homes.any fun h=>decide (20<h.places.length))=true:=B6.2 ⟨_,AE h3,decide_eq_true (show 20<(a.homes.getD k ⟨[],0,0⟩).places.length by omega)⟩
   exact⟨_,ri,by rw [F9,e];simp⟩
  ·refine⟨k+1,⟨by omega,?_⟩,by omega, [],trivial,⟨rfl,AA (by omega),trivial⟩,⟨rfl,trivial⟩,rfl,rfl,rfl⟩
   rw [Ar h3,C0,hI]
   rw [List.getD_eq_getElem?_getD,List.getElem?_eq_getElem h3] at h4
   simp at h4 |-
   omega
 ·have e:k=a.homes.length:=by omega
  rw [e,List.take_length] at hI
  exact⟨_,ri,by simp [F9,hI];omega⟩
theorem KE (b:List UInt8) (m:Nat) (hm:m<=b.length) (hm4:m<=4):Fn Tryz.prog 104 [bA b, .v (.int .i64 m)] fun r=>r = .v (.int .i64 (leN (b.take m):Nat)):=by
 refine Fn.st Tryz.func104 rfl ?_
 conv=>whnf
 rw [wi (show -9223372036854775808<=(m:Int) - 1/\(m:Int) - 1<=9223372036854775807 by omega)]
 have hl:(b.take m).length=m:=by rw [Ao];omega
 refine aLoop.ruleRR Nat (fun k=>([(0,bA b),(5, .v (.int .i64 (leN ((b.take m).drop k):Nat))),(6, .v (.int .i64 ((k:Int) - 1)))], [])) (fun k=>k<=m) (fun k=>k) m (Nat.le_refl _)
  (WkN.r (s:= []) ⟨⟨rfl,by rw [Av (by omega)];rfl,rfl,trivial⟩,trivial,rfl,rfl,rfl,rfl,rfl⟩) ?_
 intro k hk
 conv=>whnf
 refine Al (fun h5=>?_) (fun h5=>?_) <;> (repeat rw [Aa] at h5) <;> conv=>whnf
 ·obtain⟨j,rfl⟩:∃ j,k=j+1:=⟨k - 1,by omega⟩
  have e1:(((j+1:Nat):Int) - 1)=(j:Nat):=by omega
  have hj:j<(b.take m).length:=by omega
  have hb:b.getD j 0=(b.take m)[j]:=by rw [List.getElem_take,List.getD_eq_getElem?_getD,List.getElem?_eq_getElem (by omega)];rfl
  have hd:leN ((b.take m).drop j)=(b.take m)[j].toNat+256*leN ((b.take m).drop (j+1)):=by rw [AM hj];rfl
  have hlt:=leN_lt ((b.take m).drop (j+1))
  have hx:=(b.take m)[j].toNat_lt
  have hp:256 ^ ((b.take m).drop (j+1)).length<=256 ^ 3:=Nat.pow_le_pow_right (by decide) (by rw [Ac];omega)
  rw [e1]
  refine⟨⟨by omega,by omega⟩,?_⟩
  conv=>whnf
  have hv:IntKind.i64.wrap (IntKind.i64.wrap (256*((leN ((b.take m).drop (j+1)):Nat):Int))+IntKind.i64.wrap ((b.getD j 0).toNat:Nat))=((leN ((b.take m).drop j):Nat):Int):=by
   rw [hb,hd,wi (n:=(((b.take m)[j].toNat:Nat):Int)) (by omega),wi (n:=256*((leN ((b.take m).drop (j+1)):Nat):Int)) (by omega),wi (by omega)]
   omega
  exact⟨j,by omega,by omega,WkN.r (s:= []) ⟨⟨rfl,congrArg (fun n=>AV.v (.int .i64 n)) hv,congrArg (fun n=>AV.v (.int .i64 n)) (wi (n:=(j:Int) - 1) (by omega)),trivial⟩,trivial,rfl,rfl,rfl,rfl,rfl⟩⟩
 ·have ek:k=0:=by omega
  subst ek
  exact⟨_,ri,rfl⟩
theorem Q9 (b:List UInt8) (hb:b.length<=1000000000):Fn Tryz.prog 105 [bA b] fun r=>r = .v (.int .i64 (Fx b:Nat)):=Oc b hb
theorem EU (b:List UInt8) (m:Nat) (hm:m<=b.length) (hm4:m<=4):Fn Tryz.prog 104 [bA b, .v (.int .i64 m)] fun r=>r = .v (.int .i64 (leN (b.take m):Nat)):=KE b m hm hm4
theorem Is (c:Ctx) (u:Value) (e:Int) (h:Rd (.tp [.ag [.v (.int .i64 0), .v (.int .i64 0), .v (.slice none 0 0)], .v (.int .i64 e)]) c u):Rd (.tp [.ag (ML ⟨0,0, []⟩), .v (.int .i64 e)]) c u:=by
 refine Bu ?_ c u h
 exact⟨AG ⟨ri,ri,AP _ _,trivial⟩,ri,trivial⟩
theorem Ky {b:List UInt8} {lo:Int} {p:Nat} (h:lo.toNat=p) (hp:p<=b.length) (c:Ctx) (u:Value) (hr:Rd (.sl 1 (((b.length:Nat):Int).toNat - lo.toNat) fun i=>(fun i=> [AV.v (.int .u8 (b.getD i 0).toNat)]) (i+lo.toNat)) c u):Rd (bA (b.drop p)) c u:=
 Rd.congr (n':=(b.drop p).length) (by rw [Ac,h];omega) (fun i hi=>by simp only [List.getD_eq_getElem?_getD,List.getElem?_drop,h,BS]) hr
theorem Q1 {b:List UInt8} {lo hi:Int} {p q:Nat} (h:lo.toNat=p) (h2:hi.toNat=q) (hp:p<=q) (hq:q<=b.length) (c:Ctx) (u:Value) (hr:Rd (.sl 1 (hi.toNat - lo.toNat) fun i=>(fun i=> [AV.v (.int .u8 (b.getD i 0).toNat)]) (i+lo.toNat)) c u):Rd (bA ((b.drop p).take (q - p))) c u:=
 Rd.congr (n':=((b.drop p).take (q - p)).length) (by rw [Ao,Ac,h,h2];omega) (fun i hi=>by
  have hi':i<q - p:=by omega
  simp only [List.getD_eq_getElem?_getD,List.getElem?_take_of_lt hi',List.getElem?_drop,h,BS]) hr
theorem Tn (b:List UInt8) (hl:b.length<=100000):Fn Tryz.prog 38 [bA b] fun r=>r = .tp [.ag (if Cv b=0 then ML ⟨CX b,Cq b,BU b⟩ else ML ⟨0,0, []⟩), .v (.int .i64 (Cv b))]:=by
 refine Fn.st Tryz.func38 rfl ?_
 conv=>whnf
 refine Al (fun t1=>?_) (fun t1=>?_) <;> (repeat rw [Aa] at t1) <;> conv=>whnf
 ·have e:Cv b=4:=by rw [Cv,if_pos (by omega)]
  exact⟨_,fun c u h=>Is c u 4 h,by rw [e];rfl⟩
 refine Al (fun t2=>?_) (fun t2=>?_) <;> (repeat rw [Aa] at t2) <;> conv=>whnf
 ·have e:Cv b=4:=by rw [Cv,if_pos (by omega)]
  exact⟨_,fun c u h=>Is c u 4 h,by rw [e];rfl⟩
 have w4:IntKind.i64.wrap ((b.length:Int) - 4)=b.length - 4:=wi (by omega)
 have w11:IntKind.i64.wrap ((b.length:Int) - 11)=b.length - 11:=wi (by omega)
 have w10:IntKind.i64.wrap ((b.length:Int) - 10)=b.length - 10:=wi (by omega)
 have w8:IntKind.i64.wrap ((b.length:Int) - 8)=b.length - 8:=wi (by omega)
 have e4:(b.drop (b.length - 4)).take 4=b.drop (b.length - 4):=List.take_of_length_le (by rw [Ac];omega)
 have s1:=EU (b.drop (b.length - 4)) 4 (by rw [Ac];omega) (by omega)
 rw [e4] at s1
 have s2:=Q9 (b.take (b.length - 4)) (by rw [Ao];omega)
 have s3:=EO (BU b) (by simp [BU];omega)
 have s4:=EU (b.drop (b.length - 10)) 2 (by rw [Ac];omega) (by omega)
 have s5:=EU (b.drop (b.length - 8)) 4 (by rw [Ac];omega) (by omega)
 have x1:(IntKind.i64.wrap ((b.length:Int) - 4)).toNat=b.length - 4:=by rw [w4];omega
 have x2:(IntKind.i64.wrap ((b.length:Int) - 10)).toNat=b.length - 10:=by rw [w10];omega
 have x3:(IntKind.i64.wrap ((b.length:Int) - 8)).toNat=b.length - 8:=by rw [w8];omega
 refine aDraw.of tys_ok mixed [0,1,2,3,5,6,7,8,4,9,10] (by kernel_rfl) ?_
 refine⟨⟨by omega,by omega,by omega,by omega⟩,?_⟩
 refine⟨⟨by omega,by omega,by omega,by omega⟩,?_⟩
 conv=>whnf
 refine ACalls.sub _ ?_ (Fn.closed (s1) rfl ?_)
 ·repeat' (first | exact trivial | exact fun _ _ h=>h | exact AP _ _ | exact Ky x1 (by omega) | refine And.intro ?_ ?_ | refine AG ?_)
 rintro _ rfl
 conv=>whnf
 refine ACalls.sub _ ?_ (Fn.closed (s2) rfl ?_)
 ·repeat' (first | exact trivial | exact fun _ _ h=>h | exact AP _ _ | exact Q1 (p:=0) (q:=b.length - 4) (by simp) x1 (by omega) (by omega) | refine And.intro ?_ ?_ | refine AG ?_)
 rintro _ rfl
 conv=>whnf
 have hp0:BD b=(b.getD 0 0).toNat:=by
  unfold BD
  cases b <;> rfl
 have hpl:=(b.getD 0 0).toNat_lt
 refine Al (fun t3=>?_) (fun t3=>?_) <;> (repeat rw [Aa] at t3) <;> conv=>whnf
 ·have e:Cv b=5:=by rw [Cv,if_neg (by omega),if_pos t3]
  exact⟨_,fun c u h=>Is c u 5 h,by rw [e];rfl⟩
 refine⟨by first | omega | (refine⟨rfl,?_,?_⟩ <;> first | omega | (simp only [Ab];done) | (simp only [Ab];omega)) | (simp only [Ab];omega),?_⟩
 conv=>whnf
 refine Al (fun t4=>?_) (fun t4=>?_) <;> (repeat rw [Aa] at t4) <;> conv=>whnf
 ·have e:Cv b=4:=by
   rw [Cv,if_neg (by omega),if_neg (by rw [t3];simp),if_neg]
   rintro⟨h1,h2⟩
   simp only [Int.toNat_zero] at t4
   rw [w11,wi (by omega)] at t4
   omega
  exact⟨_,fun c u h=>Is c u 4 h,by rw [e];rfl⟩
 have e:Cv b=0:=by
  rw [Cv,if_neg (by omega),if_neg (by rw [t3];simp),if_pos]
  simp only [Int.toNat_zero] at t4
  rw [w11,wi (by omega)] at t4
  refine⟨?_,by omega⟩
  simp only [E1,decide_eq_true_eq]
  omega
 rw [e,if_pos rfl]
 refine aDraw.of tys_ok mixed [0,1,2,3,5,6,7,8,10,11,12,13,4,9,14,15,16,17] (by kernel_rfl) ?_
 refine⟨⟨by omega,by omega,by omega,by omega⟩,?_⟩
 refine⟨⟨by omega,by omega,by omega,by omega⟩,?_⟩
 refine⟨⟨by omega,by omega,by omega,by omega⟩,?_⟩
 conv=>whnf
 refine ACalls.sub _ ?_ (Fn.closed (s3) rfl ?_)
 ·repeat' (first | exact trivial | exact fun _ _ h=>h | exact AP _ _ | exact Q1 (p:=1) (q:=b.length - 10) (by simp) x2 (by omega) (by omega) | refine And.intro ?_ ?_ | refine AG ?_)
 rintro _ rfl
 conv=>whnf
 refine ACalls.sub _ ?_ (Fn.closed (s4) rfl ?_)
 ·repeat' (first | exact trivial | exact fun _ _ h=>h | exact AP _ _ | exact Ky x2 (by omega) | refine And.intro ?_ ?_ | refine AG ?_)
 rintro _ rfl
 conv=>whnf
 refine ACalls.sub _ ?_ (Fn.closed (s5) rfl ?_)
 ·repeat' (first | exact trivial | exact fun _ _ h=>h | exact AP _ _ | exact Ky x3 (by omega) | refine And.intro ?_ ?_ | refine AG ?_)
 rintro _ rfl
 exact⟨_,ri,rfl⟩
theorem KC (n lo hi:Int):Fn Tryz.prog 92 [.v (.int .i64 n), .v (.int .i64 lo), .v (.int .i64 hi)] fun r=>r = .v (.bool (BP n lo hi)):=by
 refine Fn.st Tryz.func92 rfl ?_
 conv=>whnf
 repeat' (first | (refine Af (fun h=>?_) (fun h=>?_) <;> (try simp at h) <;> conv=>whnf) | (refine aDraw.seq tys_ok mixed (by kernel_rfl) ?_;conv=>whnf) | (refine aSeq.go ?_;conv=>whnf) | (refine And.intro (by omega) ?_;conv=>whnf))
 all_goals exact⟨_,ri,by simp [BP, *] <;> omega⟩
theorem R3 (g:Geo) (n:Int) (hg:AS g=true):Fn Tryz.prog 200 [.ag (A7 g), .v (.int .i64 n)] fun r=>r = .v (.bool (BP n (-1) (g.d - 1))):=by
 obtain⟨h1,h2,h3,h4,h5⟩:=Am.1 hg
 have hi:=KC n (-1) (g.d - 1)
 refine Fn.st Tryz.func200 rfl ?_
 conv=>whnf
 rw [wi (show -9223372036854775808<=g.d - 1/\g.d - 1<=9223372036854775807 by omega)]
 refine Fn.cl hi ?_
 exact⟨_,ri,rfl⟩
theorem Ti (g:Geo) (l:List Ent) (hg:AS g=true) (hl:l.length<=1000000):Fn Tryz.prog 226 [.ag (A7 g), .ag [D8 l]] fun r=>r = .v (.bool (JQ g l)):=by
 obtain⟨h1,h2,h3,h4,h5⟩:=Am.1 hg
 have hw:IntKind.i64.wrap (g.d+1)=g.d+1:=wi (by omega)
 by_cases hn:(l.length:Int)=g.d+1
 ·have hlo:GV l g.d.toNat=(l.getD g.d.toNat ⟨0,0,false⟩).lost:=by
   rw [GV,List.getD_eq_getElem?_getD,List.getElem?_eq_getElem (by omega)];rfl
  have hO:JQ g l=(l.all E9&&!(l.getD g.d.toNat ⟨0,0,false⟩).lost):=by rw [JQ,hg,decide_eq_true hn,hlo];rfl
  rw [hO]
  refine Fn.st Tryz.func226 rfl ?_
  conv=>whnf
  rw [hw,show ((l.length:Int) != g.d+1)=false by rw [hn];exact bne_self_eq_false _]
  refine⟨⟨by omega,by omega⟩,?_⟩
  conv=>whnf
  cases hL:(l.getD g.d.toNat ⟨0,0,false⟩).lost with
  | true=>
   exact⟨_,ri,by rw [Bool.not_true,B4]⟩
  | false=>
   conv=>whnf
   rw [Bool.not_false,B7]
   refine aLoop.ruleRR Nat (fun k=>([(2, .bp 0 0),(3, .bp 1 0),(4, .v (.bool false)),(5, .v (.int .i64 k))], [.box 23 (A7 g), .box 147 [D8 l]])) (fun k=>k<=l.length/\(l.take k).all E9=true) (fun k=>l.length - k) 0 ⟨Ag _,rfl⟩
    (WkN.r (s:= [0,1]) ⟨⟨rfl,rfl,rfl,rfl,trivial⟩,⟨rfl,rfl,trivial⟩,rfl,rfl,rfl,rfl,rfl⟩) ?_
   rintro k ⟨hk,hI⟩
   conv=>whnf
   refine Al (fun h6=>?_) (fun h6=>?_) <;> (repeat rw [Aa] at h6) <;> conv=>whnf
   ·have hk':k<l.length:=by omega
    have i1:=KC (l.getD (k:Int).toNat ⟨0,0,false⟩).stamp 0 4294967295
    have i2:=KC (l.getD (k:Int).toNat ⟨0,0,false⟩).sum 0 4294967295
    have hst:(l.take (k+1)).all E9=(BP (l.getD (k:Int).toNat ⟨0,0,false⟩).stamp 0 4294967295&&BP (l.getD (k:Int).toNat ⟨0,0,false⟩).sum 0 4294967295):=by
     rw [Aa,List.getD_eq_getElem?_getD,List.getElem?_eq_getElem hk',Ba,List.getElem?_eq_getElem hk',C2,hI]
     simp [E9,JR]
    have hno:(l.take (k+1)).all E9=false->l.all E9=false:=fun h=>by
     rw [<-Bf (k+1) l,C2,h,Bd]
    refine⟨⟨by omega,by omega⟩,?_⟩
    conv=>whnf
    cases c1:BP (l.getD (k:Int).toNat ⟨0,0,false⟩).stamp 0 4294967295 with
    | false=>
     rw [c1] at i1
     refine Fn.cl i1 ?_
     exact⟨_,ri,by rw [hno (by rw [hst,c1,Bd])]⟩
    | true=>
     rw [c1] at i1
     refine Fn.cl i1 ?_
     refine⟨⟨by omega,by omega⟩,?_⟩
     conv=>whnf
     cases c2:BP (l.getD (k:Int).toNat ⟨0,0,false⟩).sum 0 4294967295 with
     | false=>
      rw [c2] at i2
      refine Fn.cl i2 ?_
      exact⟨_,ri,by rw [hno (by rw [hst,c2,B4])]⟩
     | true=>
      rw [c2] at i2
      refine Fn.cl i2 ?_
      conv=>whnf
      exact⟨k+1,⟨hk',by rw [hst,c1,c2];rfl⟩,by omega,WkN.r (s:= [0,1]) ⟨⟨rfl,rfl,rfl,AA (by omega),trivial⟩,⟨rfl,rfl,trivial⟩,rfl,rfl,rfl,rfl,rfl⟩⟩
   ·have ek:k=l.length:=by omega
    exact⟨_,ri,by rw [<-hI,ek,List.take_length]⟩
 ·have hO:JQ g l=false:=by rw [JQ,hg,decide_eq_false hn];rfl
  rw [hO]
  refine Fn.st Tryz.func226 rfl ?_
  conv=>whnf
  rw [hw,show ((l.length:Int) != g.d+1)=true from bne_iff_ne.2 hn]
  exact⟨_,ri,rfl⟩
theorem Fn.subA {P:Program} {f:FuncId} {args args':List AV} {K:AV->Prop} (h:Fn P f args' K) (hs:SubL args args'):Fn P f args K:=
 ⟨h.go,fun c us hd hM hg hr=>h.calls c us hd hM hg (hs.rdl hr)⟩
theorem S0 {b:List UInt8} {n m p:Nat} (hn:n=b.length - m - p) (c:Ctx) (u:Value) (h:Rd (.sl 1 n fun i=> [.v (.int .u8 (b.getD (i+p+m) 0).toNat)]) c u):Rd (bA ((b.drop m).drop p)) c u:=
 Rd.congr (by rw [Ac,Ac];exact hn) (fun i _=>by rw [List.getD_eq_getElem?_getD,List.getD_eq_getElem?_getD,List.getElem?_drop,List.getElem?_drop,show i+p+m=m+(p+i) by omega]) h
theorem Uv {x:List UInt8} (h:9<=x.length):Lp x=⟨(leN (x.take 4):Nat),(leN ((x.drop 4).take 4):Nat),(x[8].toNat:Int) == 1⟩:=by
 have h8:=OC h
 unfold Mo at h8
 unfold Lp
 rw [h8]
 rfl
theorem PD (g:Geo) (b:List UInt8) (hg:AS g=true):Fn Tryz.prog 199 [.ag (A7 g),bA b] fun r=>r = .tp [.ag [D8 ((D7 g b).getD [])], .v (.bool (D7 g b).isSome)]:=by
 obtain⟨h1,h2,h3,h4,h5⟩:=Am.1 hg
 have hw:IntKind.i64.wrap (g.d+1)=g.d+1:=wi (by omega)
 have hw9:IntKind.i64.wrap (9*(g.d+1))=9*(g.d+1):=wi (by omega)
 have zs:∀ (c:Ctx) (v:Value),Rd (.tp [.ag [.v (.slice none 0 0)], .v (.bool false)]) c v->Rd (.tp [.ag [D8 []], .v (.bool false)]) c v:=Bu (m:= [.ag [D8 []], .v (.bool false)]) ⟨AG ⟨AP 3 _,trivial⟩,ri,trivial⟩
 by_cases hn:b.length=9*(g.d+1).toNat
 ·refine Fn.st Tryz.func199 rfl ?_
  conv=>whnf
  rw [hw,hw9,show ((b.length:Int) != 9*(g.d+1))=false by simp only [bne_eq_false_iff_eq];omega]
  conv=>whnf
  refine aLoop.ruleRR Nat (fun k=>([(1,bA b),(2, .bp 0 0),(4, .bp 1 0),(5, .v (.bool false)),(6, .bp 2 0),(7, .v (.int .i64 k))], [.box 23 (A7 g), .box 147 [.v (.slice none 0 0)], .box 147 [.ow 3 k], .row 200 3 ((entsOf k b).map E4)])) (fun k=>(k:Int)<=g.d+1/\Ko k b) (fun k=>(g.d+1 - k).toNat) 0 ⟨by omega,fun i hi=>absurd hi (Aj i)⟩
   ⟨_,_,ConvF.refl _ _, [(1002000,200,3)],⟨rfl,rfl,trivial⟩, [0,1,2,3],⟨⟨rfl,rfl,rfl,rfl,rfl,rfl,trivial⟩,⟨rfl,rfl,rfl,rfl,trivial⟩,rfl,rfl,rfl,rfl,rfl⟩⟩ ?_
  rintro k ⟨hk,hA⟩
  conv=>whnf
  refine Al (fun h6=>?_) (fun h6=>?_) <;> (repeat rw [Aa] at h6) <;> conv=>whnf
  ·have wk9:IntKind.i64.wrap (9*(k:Int))=((9*k:Nat):Int):=by rw [wi (by omega)];omega
   have hlx:(b.drop (9*k)).length=b.length - 9*k:=Ac
   have hx9:9<=(b.drop (9*k)).length:=by omega
   rw [wk9]
   refine⟨⟨by omega,by omega,by omega,by omega⟩,?_⟩
   conv=>whnf
   rw [Aa]
   have hv:=OC hx9
   have he:=Uv hx9
   have hes:=entsOf_step k b
   refine⟨⟨by omega,by omega⟩,?_⟩
   conv=>whnf
   have hg8:(b.getD (Int.toNat 8+((9*k:Nat):Int).toNat) 0).toNat=(b.drop (9*k))[8].toNat:=by
    rw [List.getElem_drop,List.getD_eq_getElem?_getD,Aa,show Int.toNat 8+9*k=9*k+8 by omega,List.getElem?_eq_getElem (by omega)];rfl
   obtain⟨Y,hY⟩:∃ Y:Nat,Y=(b.drop (9*k))[8].toNat:=⟨_,rfl⟩
   rw [hg8,<-hY]
   rw [<-hY] at hv he
   by_cases h1Y:Y<=1
   ·rw [show decide ((Y:Int) > 1)=false from decide_eq_false (by omega)]
    conv=>whnf
    have q1:=KE (b.drop (9*k)) 4 (by omega) (by decide)
    have q2:=KE ((b.drop (9*k)).drop 4) 4 (by rw [Ac];omega) (by decide)
    have hml:k=((entsOf k b).map E4).length:=by rw [Ab,entsOf_len]
    apply aDraw.treeM (0) tys_ok mixed (.one 0 (.one 1 (.one 2 (.one 4 (.one 5 (.one 7 (.one 8 (.one 9 (.one 10 (.one 3 (.one 6 (.one 11 (.one 12 (.one 13 (.one 14 (.one 15 .fin)))))))))))))))) [32,33,34,35,36,37,38,39,40,41,42,43,44,45,46] (by kernel_rfl)
    ·conv=>whnf
     try (refine And.intro (by first | omega | (simp;done)) ?_;conv=>whnf)
     try (refine And.intro (by first | omega | (simp;done)) ?_;conv=>whnf)
     (refine ACalls.sub [bA (b.drop (9*k)), .v (.int .i64 4)] ⟨A6 rfl,ri,trivial⟩ ?_;refine Fn.cl q1 ?_)
     conv=>whnf
     (refine ACalls.sub [bA ((b.drop (9*k)).drop 4), .v (.int .i64 4)] ⟨S0 rfl,ri,trivial⟩ ?_;refine Fn.cl q2 ?_)
     conv=>whnf
     try (refine And.intro (by first | rfl | omega) ?_;conv=>whnf)
     try (refine And.intro (by first | omega | exact⟨by first | rfl | (simp;done) | (simp;omega),by omega⟩) ?_;conv=>whnf)
     try (refine And.intro ⟨rfl,by first | rfl | (simp;done) | (simp;omega),by first | omega | (simp;omega)⟩ ?_;conv=>whnf)
     exact⟨rfl,rfl⟩
    refine⟨k+1,⟨by omega,fun i hi=>?_⟩,by omega,WkN.r (s:= [0,1,2,3]) ⟨⟨rfl,rfl,rfl,rfl,rfl,AA (by omega),trivial⟩,⟨rfl,rfl,rfl,?_,trivial⟩,rfl,rfl,rfl,rfl,rfl⟩⟩
    ·by_cases hik:i=k
     ·rw [hik,hv];omega
     ·exact hA i (by omega)
    ·rw [hes,Aq,he]
     show hget _ 3=_
     rw [hg8,<-hY]
     rfl
   ·rw [show decide ((Y:Int) > 1)=true from decide_eq_true (by omega)]
    conv=>whnf
    rw [LZ (.inr fun hall=>h1Y (by have:=hall k (by omega);omega))]
    exact⟨_,zs,rfl⟩
  ·have ek:k=(g.d+1).toNat:=by omega
   subst ek
   have hT:=Ti g (entsOf (g.d+1).toNat b) hg (by rw [entsOf_len];omega)
   have hR:=RM hn hA
   have hS:=hT.subA (args:= [.ag (A7 g), .ag [.sl 3 (g.d+1).toNat fun i=>((entsOf (g.d+1).toNat b).map E4).getD i []]]) ⟨ri,AG ⟨AJ (f:=E4) (entsOf (g.d+1).toNat b) (by rw [entsOf_len]) rfl,trivial⟩,trivial⟩
   refine Fn.lend hS ⟨by rw [Ab,entsOf_len],rfl⟩ ?_
   rintro _ rfl
   refine⟨rfl,?_⟩
   conv=>whnf
   cases ho:JQ g (entsOf (g.d+1).toNat b) with
   | false=>
    rw [hR,ho,if_neg (by decide)]
    exact⟨_,zs,rfl⟩
   | true=>
    rw [hR,ho,if_pos rfl]
    refine⟨(by rw [Ab,entsOf_len]),?_⟩
    exact⟨.tp [.ag [D8 (entsOf (g.d+1).toNat b)], .v (.bool true)],Bu ⟨AG ⟨AJ (f:=E4) (entsOf (g.d+1).toNat b) (by rw [entsOf_len]) rfl,trivial⟩,ri,trivial⟩,rfl⟩
 ·refine Fn.st Tryz.func199 rfl ?_
  conv=>whnf
  rw [hw,hw9,show ((b.length:Int) != 9*(g.d+1))=true by simp only [bne_iff_ne,ne_eq];omega]
  conv=>whnf
  rw [LZ (.inl hn)]
  exact⟨_,zs,rfl⟩
theorem GL (n lo hi:Int):Fn Tryz.prog 198 [.v (.int .i64 n), .v (.int .i64 lo), .v (.int .i64 hi)] fun r=>r = .v (.bool (BP n lo hi)):=by
 refine Fn.st Tryz.func198 rfl ?_
 conv=>whnf
 repeat' (first | (refine Af (fun h=>?_) (fun h=>?_) <;> (try simp at h) <;> conv=>whnf) | (refine aDraw.seq tys_ok mixed (by kernel_rfl) ?_;conv=>whnf) | (refine aSeq.go ?_;conv=>whnf) | (refine And.intro (by omega) ?_;conv=>whnf))
 all_goals exact⟨_,ri,by simp [BP, *] <;> omega⟩
theorem KD (g:Geo) (x:Img) (hg:AS g=true):Fn Tryz.prog 151 [.ag (A7 g), .ag (D4 x)] fun r=>r = .v (.bool (B_ g x)):=by
 obtain⟨h1,h2,h3,h4,h5⟩:=Am.1 hg
 have i1:=GL x.zone 0 (g.z - 1)
 have i2:=PD g x.bytes hg
 have i3:=R3 g x.what hg
 have hE:B_ g x=(BP x.zone 0 (g.z - 1)&&(if x.what=255 then (D7 g x.bytes).isSome else BP x.what (-1) (g.d - 1)&&decide (x.bytes.length=8))):=by simp [B_,hg]
 rw [hE]
 refine Fn.st Tryz.func151 rfl ?_
 conv=>whnf
 rw [wi (show -9223372036854775808<=g.z - 1/\g.z - 1<=9223372036854775807 by omega)]
 cases hz:BP x.zone 0 (g.z - 1) with
 | false=>
  rw [hz] at i1
  refine Fn.cl i1 ?_
  exact⟨_,ri,rfl⟩
 | true=>
  rw [hz] at i1
  refine Fn.cl i1 ?_
  conv=>whnf
  by_cases h255:x.what=255
  ·rw [show (x.what == 255)=true by simpa using h255,if_pos h255]
   conv=>whnf
   refine Fn.cl i2 ?_
   exact⟨_,ri,rfl⟩
  ·rw [show (x.what == 255)=false by simpa using h255,if_neg h255]
   conv=>whnf
   cases hw:BP x.what (-1) (g.d - 1) with
   | false=>
    rw [hw] at i3
    refine Fn.cl i3 ?_
    exact⟨_,ri,rfl⟩
   | true=>
    rw [hw] at i3
    refine Fn.cl i3 ?_
    conv=>whnf
    exact⟨_,ri,congrArg (fun b=>AV.v (.bool b)) (by rw [Bz];simp;omega)⟩
theorem Xn (x:Img):decide (x=⟨0,0, []⟩)=Fe x:=by
 obtain⟨zone,what,bytes⟩:=x
 rw [Bz]
 simp only [decide_eq_true_eq,Fe,Img.mk.injEq,Bool.and_eq_true,beq_iff_eq]
 refine⟨fun⟨h1,h2,h3⟩=>⟨h1,h2,by rw [h3];rfl⟩,fun⟨h1,h2,h3⟩=>⟨h1,h2,?_⟩⟩
 exact AU.1 (by omega)
theorem Od (g:Geo) (x:Rc) (hl:x.img.bytes.length<=100000) (hg:AS g=true):Fn Tryz.prog 239 [.ag (A7 g), .ag (EE x)] fun r=>r = .v (.bool (DH g x)):=by
 have hE:DH g x=DQ g x:=by simp [DH,hg]
 have hi:=OP x.img ⟨0,0, []⟩ (by omega)
 rw [Xn] at hi
 have hm:=KD g x.img hg
 rw [hE]
 refine Fn.st Tryz.func239 rfl ?_
 conv=>whnf
 refine ACalls.sub [.ag (D4 x.img), .ag (D4 ⟨0,0, []⟩)] ⟨ri,AG ⟨ri,ri,AP 1 _,trivial⟩,trivial⟩ ?_
 refine Fn.cl hi ?_
 conv=>whnf
 by_cases k0:x.kind=0
 ·rw [show (x.kind == 0)=true by simpa using k0]
  have hB:DQ g x=(x.seq == 0&&(x.epoch == 0&&(x.at_ == 0&&(x.of_ == 0&&Fe x.img)))):=by unfold DQ;rw [if_pos k0]
  rw [hB]
  conv=>whnf
  cases h0:x.seq == 0 with
  | false=>
   exact⟨_,ri,rfl⟩
  | true=>
   conv=>whnf
   cases h1:x.epoch == 0 with
   | false=>
    exact⟨_,ri,rfl⟩
   | true=>
    conv=>whnf
    cases h2:x.at_ == 0 with
    | false=>
     exact⟨_,ri,rfl⟩
    | true=>
     conv=>whnf
     cases h3:x.of_ == 0 with
     | false=>
      exact⟨_,ri,rfl⟩
     | true=>
      exact⟨_,ri,rfl⟩
 ·rw [show (x.kind == 0)=false by simpa using k0]
  conv=>whnf
  have i1:=GL x.seq 0 4294967295
  have i2:=GL x.epoch 0 4294967295
  have i3:=GL x.of_ 2 30
  have i4:=GL x.at_ 0 (x.of_ - 2)
  have hB:DQ g x=if x.kind=1 then E8 x&&(BP x.at_ 0 (x.of_ - 2)&&B_ g x.img) else if x.kind=2 then E8 x&&(x.at_ == x.of_ - 1&&Fe x.img) else false:=by unfold DQ;rw [if_neg k0]
  rw [hB]
  by_cases hN:E8 x=true
  ·have hN':=hN
   simp only [E8,Bool.and_eq_true] at hN'
   obtain⟨n1,n2,n3⟩:=hN'
   have hof:=AI.1 n3
   rw [n1] at i1
   rw [n2] at i2
   rw [n3] at i3
   rw [hN,At,At]
   refine Fn.cl i1 ?_
   conv=>whnf
   refine Fn.cl i2 ?_
   conv=>whnf
   refine Fn.cl i3 ?_
   conv=>whnf
   by_cases k2:x.kind=2
   ·rw [show (x.kind == 2)=true by simpa using k2,if_neg (by omega),if_pos k2]
    conv=>whnf
    rw [wi (show -9223372036854775808<=x.of_ - 1/\x.of_ - 1<=9223372036854775807 by omega)]
    cases h1:x.at_ == x.of_ - 1 with
    | false=>
     exact⟨_,ri,rfl⟩
    | true=>
     exact⟨_,ri,rfl⟩
   ·rw [show (x.kind == 2)=false by simpa using k2,if_neg k2]
    conv=>whnf
    by_cases k1:x.kind=1
    ·rw [show (x.kind == 1)=true by simpa using k1,if_pos k1]
     conv=>whnf
     rw [wi (show -9223372036854775808<=x.of_ - 2/\x.of_ - 2<=9223372036854775807 by omega)]
     cases h1:BP x.at_ 0 (x.of_ - 2) with
     | false=>
      rw [h1] at i4
      refine Fn.cl i4 ?_
      exact⟨_,ri,rfl⟩
     | true=>
      rw [h1] at i4
      refine Fn.cl i4 ?_
      conv=>whnf
      refine Fn.cl hm ?_
      exact⟨_,ri,rfl⟩
    ·rw [show (x.kind == 1)=false by simpa using k1,if_neg k1]
     exact⟨_,ri,rfl⟩
  ·have hN:E8 x=false:=by simpa using hN
   have hF:(if x.kind=1 then E8 x&&(BP x.at_ 0 (x.of_ - 2)&&B_ g x.img) else if x.kind=2 then E8 x&&(x.at_ == x.of_ - 1&&Fe x.img) else false)=false:=by rw [hN];simp
   rw [hF]
   cases n1:BP x.seq 0 4294967295 with
   | false=>
    rw [n1] at i1
    refine Fn.cl i1 ?_
    exact⟨_,ri,rfl⟩
   | true=>
    rw [n1] at i1
    refine Fn.cl i1 ?_
    conv=>whnf
    cases n2:BP x.epoch 0 4294967295 with
    | false=>
     rw [n2] at i2
     refine Fn.cl i2 ?_
     exact⟨_,ri,rfl⟩
    | true=>
     rw [n2] at i2
     have n3:BP x.of_ 2 30=false:=by simpa [E8,n1,n2] using hN
     rw [n3] at i3
     refine Fn.cl i2 ?_
     conv=>whnf
     refine Fn.cl i3 ?_
     exact⟨_,ri,rfl⟩
theorem O0 {b:List UInt8} {i:Nat} (h:i<b.length):BD (b.drop i)=b[i].toNat:=by
 rw [AM h]
 show b[i].toNat+256*0=b[i].toNat
 omega
theorem Xb (x:UInt8):IntKind.i64.wrap (x.toNat:Int)=(x.toNat:Int):=wi (by have:=x.toNat_lt;omega)
theorem T3 (g:Geo) (b:List UInt8) (hl:b.length<=100000) (hg:AS g=true):Fn Tryz.prog 234 [.ag (A7 g),bA b] fun r=>r = .tp [.ag (EE ((C4 g b).getD zeroC)), .v (.bool (C4 g b).isSome)]:=by
 have zs:∀ (e:Value) (c:Ctx) (v:Value),Rd (.tp [.ag [.v (.int .i64 0), .v (.int .i64 0), .v (.int .i64 0), .v (.int .i64 0), .v (.int .i64 0), .v (.int .i64 0), .v (.int .i64 0), .v (.slice none 0 0)], .v e]) c v->Rd (.tp [.ag (EE zeroC), .v e]) c v:=fun e=>Bu (m:= [.ag (EE zeroC), .v e]) ⟨by repeat' (first | exact trivial | exact fun _ _ h=>h | exact AP _ _ | refine And.intro ?_ ?_ | refine AG ?_),ri,trivial⟩
 by_cases h11:b.length<11
 ·rw [Oo h11]
  refine Fn.st Tryz.func234 rfl ?_
  conv=>whnf
  refine Al (fun _=>?_) (fun hq=>absurd h11 (by omega))
  exact⟨_,zs _,rfl⟩
 ·have h11':11<=b.length:=by omega
  have hp:=O1 h11'
  have q1:=EU (b.drop 1) 4 (by rw [Ac];omega) (by decide)
  have q2:=EU (b.drop 5) 4 (by rw [Ac];omega) (by decide)
  have hgd:∀ i (h:i<b.length),b.getD i 0=b[i]:=fun i h=>by rw [List.getD_eq_getElem?_getD,List.getElem?_eq_getElem h];rfl
  refine Fn.st Tryz.func234 rfl ?_
  conv=>whnf
  refine Al (fun hq=>absurd hq (by omega)) (fun hq=>?_)
  conv=>whnf
  apply aDraw.treeM (0) tys_ok mixed (.one 0 (.one 1 (.one 2 (.one 3 (.one 4 (.one 5 (.one 7 (.one 8 (.one 10 (.one 11 (.one 12 (.one 13 (.one 14 (.one 15 (.one 16 (.one 17 (.two 6 (.two 9 (.one 18 (.one 19 (.one 20 .fin))) 19 (.one 9 (.one 18 (.one 20 .fin)))) 19 (.one 6 (.one 9 (.one 18 (.one 20 .fin))))))))))))))))))))) [6,11,12,13,14,15,16,17,18,19,20,21,22,23,24,25,26,27,28,29] (by kernel_rfl)
  ·conv=>whnf
   try (refine And.intro (by first | omega | (simp;done)) ?_;conv=>whnf)
   try (refine And.intro (by first | omega | (simp;done)) ?_;conv=>whnf)
   try (refine And.intro (by first | omega | (simp;done)) ?_;conv=>whnf)
   try (refine And.intro (by first | omega | (simp;done)) ?_;conv=>whnf)
   try (refine And.intro (by first | omega | (simp;done)) ?_;conv=>whnf)
   refine And.intro ?_ ?_
   ·conv=>whnf
    (refine ACalls.sub [bA (b.drop 1), .v (.int .i64 4)] ⟨A6 (by omega),ri,trivial⟩ ?_;refine Fn.cl q1 ?_)
    refine And.intro ?_ ?_
    ·conv=>whnf
     (refine ACalls.sub [bA (b.drop 5), .v (.int .i64 4)] ⟨A6 (by omega),ri,trivial⟩ ?_;refine Fn.cl q2 ?_)
     conv=>whnf
     try (refine And.intro ⟨rfl,by first | rfl | (simp;done) | (simp;omega),by first | omega | (simp;omega)⟩ ?_;conv=>whnf)
     exact⟨rfl,rfl⟩
    ·conv=>whnf
     (refine ACalls.sub [bA (b.drop 5), .v (.int .i64 4)] ⟨A6 (by omega),ri,trivial⟩ ?_;refine Fn.cl q2 ?_)
     conv=>whnf
     try (refine And.intro ⟨rfl,by first | rfl | (simp;done) | (simp;omega),by first | omega | (simp;omega)⟩ ?_;conv=>whnf)
     exact⟨rfl,rfl⟩
   ·conv=>whnf
    (refine ACalls.sub [bA (b.drop 1), .v (.int .i64 4)] ⟨A6 (by omega),ri,trivial⟩ ?_;refine Fn.cl q1 ?_)
    conv=>whnf
    (refine ACalls.sub [bA (b.drop 5), .v (.int .i64 4)] ⟨A6 (by omega),ri,trivial⟩ ?_;refine Fn.cl q2 ?_)
    conv=>whnf
    try (refine And.intro ⟨rfl,by first | rfl | (simp;done) | (simp;omega),by first | omega | (simp;omega)⟩ ?_;conv=>whnf)
    exact⟨rfl,rfl⟩
  conv=>whnf
  repeat' (first | (refine aSeq.go ?_;conv=>whnf) | fail)
  rw [Xb,Xb,Xb,show b.getD (Int.toNat 0) 0=b[0] from hgd 0 (by omega),show b.getD (Int.toNat 9) 0=b[9] from hgd 9 (by omega),show b.getD (Int.toNat 10) 0=b[10] from hgd 10 (by omega)]
  by_cases hk:b[0].toNat=1
  ·rw [show (((b[0].toNat:Nat):Int) == 1)=true by rw [hk];rfl]
   conv=>whnf
   by_cases h14:b.length<14
   ·refine Al (fun hq=>?_) (fun hq=>absurd h14 (by omega))
    conv=>whnf
    rw [Jp h11' (by rw [hp,if_pos (by simp only;omega)];omega)]
    exact⟨_,zs _,rfl⟩
   ·refine Al (fun hq=>absurd hq (by omega)) (fun hq=>?_)
    refine⟨⟨by omega,by omega⟩,?_⟩
    conv=>whnf
    have h13:BD (b.drop 13)=b[13].toNat:=O0 (by omega)
    have hx:=b[13].toNat_lt
    obtain⟨n13,e13⟩:∃ n,n=b[13].toNat:=⟨_,rfl⟩
    have g13:(b.getD (Int.toNat 13) 0).toNat=n13:=by rw [e13];exact congrArg UInt8.toNat (hgd 13 (by omega))
    rw [<-e13] at h13 hx
    rw [Xb,g13,wi (by omega)]
    by_cases hn:b.length=14+n13
    ·rw [show ((b.length:Int) != (14:Int)+((n13:Nat):Int))=false by simp only [bne_eq_false_iff_eq];omega]
     conv=>whnf
     have htw:=EO (b.drop 14) (by rw [Ac];omega)
     apply aDraw.treeM (0) tys_ok mixed (.one 0 (.one 1 (.one 2 (.one 3 (.one 4 (.one 5 (.one 6 (.one 7 (.one 8 (.one 9 (.one 10 (.one 11 (.one 12 (.one 13 .fin)))))))))))))) [47,48,49,50,51,52,53,54,55,56,57,58,59] (by kernel_rfl)
     ·conv=>whnf
      try (refine And.intro (by first | omega | (simp;done)) ?_;conv=>whnf)
      try (refine And.intro (by first | omega | (simp;done)) ?_;conv=>whnf)
      try (refine And.intro (by first | omega | (simp;done)) ?_;conv=>whnf)
      (refine ACalls.sub [bA (b.drop 14)] ⟨A6 (by omega),trivial⟩ ?_;refine Fn.cl htw ?_)
      conv=>whnf
      try (refine And.intro ⟨rfl,by first | rfl | (simp;done) | (simp;omega),by first | omega | (simp;omega)⟩ ?_;conv=>whnf)
      exact⟨rfl,rfl⟩
     conv=>whnf
     obtain⟨n12,e12⟩:∃ n:Nat,n=b[12].toNat:=⟨_,rfl⟩
     have g12:(b.getD (Int.toNat 12) 0).toNat=n12:=by rw [e12];exact congrArg UInt8.toNat (hgd 12 (by omega))
     obtain⟨n11,e11⟩:∃ n:Nat,n=b[11].toNat:=⟨_,rfl⟩
     have g11:(b.getD (Int.toNat 11) 0).toNat=n11:=by rw [e11];exact congrArg UInt8.toNat (hgd 11 (by omega))
     obtain⟨R,hR⟩:∃ R:Rc,R=⟨(b[0].toNat:Nat),(leN ((b.drop 1).take 4):Nat),(leN ((b.drop 5).take 4):Nat),(b[9].toNat:Nat),(b[10].toNat:Nat),⟨(n11:Nat),Ek (n12:Nat),b.drop 14⟩⟩:=⟨_,rfl⟩
     have hP:CV b=R:=by rw [hp,if_pos (by omega),Se (by rw [h13];exact hn),hR,e11,e12]
     have hRR:=L_ (g:=g) h11' (by rw [hp,if_pos (by simp only;omega),h13];exact hn)
     rw [hP] at hRR
     have hrec:=Od g R (by rw [hR];show (b.drop 14).length<=100000;rw [Ac];omega) hg
     rw [Xb,Xb,g12,g11]
     repeat' (first | (refine aSeq.go ?_;conv=>whnf) | fail)
     by_cases h254:n12=254
     ·have eW:Ek (n12:Nat) = -1:=by rw [h254];rfl
      rw [show (((n12:Nat):Int) == 254)=true by rw [h254];rfl]
      conv=>whnf
      refine ACalls.sub [.ag (A7 g), .ag (EE R)] ⟨ri,AG (show SubL _ (EE R) by rw [hR,eW];exact⟨ri,ri,ri,ri,ri,ri,ri,ri,trivial⟩),trivial⟩ ?_
      cases hok:DH g R with
      | false=>
       rw [hok] at hrec
       rw [hRR,if_neg (by rw [hok];simp)]
       refine Fn.cl hrec ?_
       exact⟨_,zs _,rfl⟩
      | true=>
       rw [hok] at hrec
       rw [hRR,if_pos hok]
       refine Fn.cl hrec ?_
       conv=>whnf
       exact⟨_,Bu (m:= [.ag (EE R), .v (.bool true)]) ⟨AG (show SubL _ (EE R) by rw [hR,eW];exact⟨ri,ri,ri,ri,ri,ri,ri,ri,trivial⟩),ri,trivial⟩,rfl⟩
     ·have eW:Ek (n12:Nat)=(n12:Nat):=if_neg (by omega)
      rw [show (((n12:Nat):Int) == 254)=false by rw [beq_eq_false_iff_ne];omega]
      conv=>whnf
      refine ACalls.sub [.ag (A7 g), .ag (EE R)] ⟨ri,AG (show SubL _ (EE R) by rw [hR,eW];exact⟨ri,ri,ri,ri,ri,ri,ri,ri,trivial⟩),trivial⟩ ?_
      cases hok:DH g R with
      | false=>
       rw [hok] at hrec
       rw [hRR,if_neg (by rw [hok];simp)]
       refine Fn.cl hrec ?_
       exact⟨_,zs _,rfl⟩
      | true=>
       rw [hok] at hrec
       rw [hRR,if_pos hok]
       refine Fn.cl hrec ?_
       conv=>whnf
       exact⟨_,Bu (m:= [.ag (EE R), .v (.bool true)]) ⟨AG (show SubL _ (EE R) by rw [hR,eW];exact⟨ri,ri,ri,ri,ri,ri,ri,ri,trivial⟩),ri,trivial⟩,rfl⟩
    ·rw [Jp h11' (by rw [hp,if_pos (by simp only;omega),h13];exact hn)]
     rw [show ((b.length:Int) != (14:Int)+((n13:Nat):Int))=true by rw [bne_iff_ne];omega]
     exact⟨_,zs _,rfl⟩
  ·rw [show (((b[0].toNat:Nat):Int) == 1)=false by simpa using (by omega:¬((b[0].toNat:Nat):Int)=1)]
   conv=>whnf
   by_cases hn:b.length=11
   ·obtain⟨R,hR⟩:∃ R:Rc,R=⟨(b[0].toNat:Nat),(leN ((b.drop 1).take 4):Nat),(leN ((b.drop 5).take 4):Nat),(b[9].toNat:Nat),(b[10].toNat:Nat),noImg⟩:=⟨_,rfl⟩
    have hP:CV b=R:=by rw [hp,if_neg (by omega),hR]
    have hRR:=L_ (g:=g) h11' (by rw [hp,if_neg (by simp only;omega)];exact hn)
    rw [hP] at hRR
    have hrec:=Od g R (by rw [hR];show 0<=100000;decide) hg
    have hsb:SubL [.v (.int .i64 (b[0].toNat:Nat)), .v (.int .i64 (leN ((b.drop 1).take 4):Nat)), .v (.int .i64 (leN ((b.drop 5).take 4):Nat)), .v (.int .i64 (b[9].toNat:Nat)), .v (.int .i64 (b[10].toNat:Nat)), .v (.int .i64 0), .v (.int .i64 0), .v (.slice none 0 0)] (EE R):=by
     rw [hR]
     exact⟨fun _ _ h=>h,fun _ _ h=>h,fun _ _ h=>h,fun _ _ h=>h,fun _ _ h=>h,fun _ _ h=>h,fun _ _ h=>h,AP 1 _,trivial⟩
    rw [show ((b.length:Int) != 11)=false by rw [hn];rfl]
    conv=>whnf
    refine ACalls.sub [.ag (A7 g), .ag (EE R)] ⟨ri,AG hsb,trivial⟩ ?_
    cases hok:DH g R with
    | false=>
     rw [hok] at hrec
     rw [hRR,if_neg (by rw [hok];simp)]
     refine Fn.cl hrec ?_
     exact⟨_,zs _,rfl⟩
    | true=>
     rw [hok] at hrec
     rw [hRR,if_pos hok]
     refine Fn.cl hrec ?_
     exact⟨_,Bu (m:= [.ag (EE R), .v (.bool true)]) ⟨AG hsb,ri,trivial⟩,rfl⟩
   ·rw [Jp h11' (by rw [hp,if_neg (by simp only;omega)];exact hn)]
    rw [show ((b.length:Int) != 11)=true by simpa using (by omega:¬(b.length:Int)=11)]
    exact⟨_,zs _,rfl⟩
theorem Dq (g:Geo) (copy slot:Int) (hg:AS g=true) (hl:Gh g copy slot=true):Fn Tryz.prog 32 [.ag (A7 g), .v (.int .i64 copy), .v (.int .i64 slot)] fun r=>r = .v (.int .i64 (AN g copy slot)):=by
 obtain⟨h1,h2,h3,h4,h5⟩:=Am.1 hg
 simp only [Gh,Bool.and_eq_true,AI] at hl
 refine Fn.st Tryz.func32 rfl ?_
 refine⟨_,fun _ _ h=>h,?_⟩
 have hm:0<=copy*g.sl/\copy*g.sl<=30:=by
  rcases(show copy=0\/copy=1 by omega) with rfl | rfl <;> omega
 rw [wi (n:=copy*g.sl) (by omega),wi (n:=g.an+copy*g.sl) (by omega),wi (n:=g.an+copy*g.sl+slot) (by omega)]
 rfl
def C8 (x:Gt) (addr:Int):Option Sec:=if x.err=0/\Cv x.bytes=0/\CX x.bytes=addr then some ⟨CX x.bytes,Cq x.bytes,BU x.bytes⟩ else none
def zeroS:Sec:=⟨0,0, []⟩
theorem Jf (c:Ctx) (u:Value) (b:Bool) (h:Rd (.tp [.ag [.v (.int .i64 0), .v (.int .i64 0), .v (.slice none 0 0)], .v (.bool b)]) c u):Rd (.tp [.ag (ML zeroS), .v (.bool b)]) c u:=by
 refine Bu ?_ c u h
 exact⟨AG ⟨ri,ri,AP _ _,trivial⟩,ri,trivial⟩
theorem LQ (x:Gt) (addr:Int) (hl:x.bytes.length<=100000):Fn Tryz.prog 211 [.ag (BB x), .v (.int .i64 addr)] fun r=>r = .tp [.ag (ML ((C8 x addr).getD zeroS)), .v (.bool (C8 x addr).isSome)]:=by
 have s1:=Tn x.bytes hl
 refine Fn.st Tryz.func211 rfl ?_
 conv=>whnf
 refine Al (fun t1=>?_) (fun t1=>?_) <;> (repeat rw [Aa] at t1) <;> conv=>whnf
 ·have e:C8 x addr=none:=by rw [C8,if_neg (fun h=>t1 h.1)]
  rw [e]
  exact⟨_,fun c v h=>Jf c v false h,rfl⟩
 by_cases hO:Cv x.bytes=0
 ·rw [if_pos hO,hO] at s1
  refine Fn.cl s1 ?_
  conv=>whnf
  refine Al (fun t2=>?_) (fun t2=>?_) <;> (repeat rw [Aa] at t2) <;> conv=>whnf
  ·have e:C8 x addr=none:=by rw [C8,if_neg (fun h=>t2 h.2.2)]
   rw [e]
   exact⟨_,fun c v h=>Jf c v false h,rfl⟩
  ·have e:C8 x addr=some ⟨CX x.bytes,Cq x.bytes,BU x.bytes⟩:=by rw [C8,if_pos ⟨t1,hO,t2⟩]
   rw [e]
   exact⟨_,ri,rfl⟩
 ·rw [if_neg hO] at s1
  refine Fn.cl s1 ?_
  conv=>whnf
  have e:C8 x addr=none:=by rw [C8,if_neg (fun h=>hO h.2.1)]
  rw [e]
  refine Al (fun t2=>?_) (fun t2=>?_) <;> (repeat rw [Aa] at t2) <;> conv=>whnf
  ·exact⟨_,fun c v h=>Jf c v false h,rfl⟩
  ·exact absurd t2 hO
theorem Tb (g:Geo) (x:Gt) (copy slot:Int) (hg:AS g=true) (hL:Gh g copy slot=true):Cc g x copy slot=match C8 x (AN g copy slot) with | none=>none | some s=>match C4 g s.pay with | some r=>if r.seq=s.stamp then some r else none | none=>none:=by
 unfold Cc C8
 rw [hg,hL]
 by_cases h1:x.err=0 <;> by_cases h2:Cv x.bytes=0 <;> by_cases h3:CX x.bytes=AN g copy slot <;> simp [h1,h2,h3] <;> rfl
theorem NV {x:Gt} {a:Int} {s:Sec} (h:C8 x a=some s):s.pay.length<=x.bytes.length:=by
 unfold C8 at h
 split at h
 ·cases h;simp [BU];omega
 ·cases h
theorem KH (g:Geo) (x:Gt) (copy slot:Int) (hl:x.bytes.length<=100000) (hg:AS g=true) (hL:Gh g copy slot=true):Fn Tryz.prog 213 [.ag (A7 g), .ag (BB x), .v (.int .i64 copy), .v (.int .i64 slot)] fun r=>r = .tp [.ag (EE ((Cc g x copy slot).getD zeroC)), .v (.bool (Cc g x copy slot).isSome)]:=by
 have s1:=LQ x (AN g copy slot) hl
 rw [Tb g x copy slot hg hL]
 cases hS:C8 x (AN g copy slot) with
 | none=>
  rw [hS] at s1
  refine Fn.st Tryz.func213 rfl ?_
  conv=>whnf
  apply aDraw.tree tys_ok mixed (.one 0 (.one 1 (.one 2 (.one 3 (.two 4 (.two 5 (.one 6 (.one 7 (.one 8 (.one 9 (.one 10 (.one 11 .fin)))))) 9 (.one 5 (.one 6 (.one 7 (.one 8 (.one 10 (.one 11 .fin))))))) 9 (.one 4 (.one 5 (.one 6 (.one 7 (.one 8 (.one 10 (.one 11 .fin)))))))))))) [10,11,13,14,15,16,17,18,19,20,21] (by kernel_rfl)
  ·refine And.intro ?_ ?_
   ·conv=>whnf
    refine Fn.cl (Dq g copy slot hg hL) ?_
    refine And.intro ?_ ?_
    ·conv=>whnf
     refine Fn.cl s1 ?_
     conv=>whnf
     try (refine And.intro ⟨rfl,by first | rfl | (simp;done) | (simp;omega),by first | omega | (simp;omega)⟩ ?_;conv=>whnf)
     exact⟨rfl,rfl⟩
    ·conv=>whnf
     refine Fn.cl s1 ?_
     conv=>whnf
     try (refine And.intro ⟨rfl,by first | rfl | (simp;done) | (simp;omega),by first | omega | (simp;omega)⟩ ?_;conv=>whnf)
     exact⟨rfl,rfl⟩
   ·conv=>whnf
    refine Fn.cl (Dq g copy slot hg hL) ?_
    conv=>whnf
    refine Fn.cl s1 ?_
    conv=>whnf
    try (refine And.intro ⟨rfl,by first | rfl | (simp;done) | (simp;omega),by first | omega | (simp;omega)⟩ ?_;conv=>whnf)
    exact⟨rfl,rfl⟩
  exact⟨_,fun c v h=>DZ c v false h,rfl⟩
 | some s=>
  rw [hS] at s1
  have hp:=NV hS
  have s2:=T3 g s.pay (by omega) hg
  cases hR:C4 g s.pay with
  | none=>
   rw [hR] at s2
   refine Fn.st Tryz.func213 rfl ?_
   conv=>whnf
   apply aDraw.tree tys_ok mixed (.one 0 (.one 1 (.one 2 (.one 3 (.two 4 (.two 5 (.one 6 (.one 7 (.one 8 (.one 9 (.one 10 (.one 11 .fin)))))) 9 (.one 5 (.one 6 (.one 7 (.one 8 (.one 10 (.one 11 .fin))))))) 9 (.one 4 (.one 5 (.one 6 (.one 7 (.one 8 (.one 10 (.one 11 .fin)))))))))))) [10,11,13,14,15,16,17,18,19,20,21] (by kernel_rfl)
   ·refine And.intro ?_ ?_
    ·conv=>whnf
     refine Fn.cl (Dq g copy slot hg hL) ?_
     refine And.intro ?_ ?_
     ·conv=>whnf
      refine Fn.cl s1 ?_
      conv=>whnf
      try (refine And.intro ⟨rfl,by first | rfl | (simp;done) | (simp;omega),by first | omega | (simp;omega)⟩ ?_;conv=>whnf)
      exact⟨rfl,rfl⟩
     ·conv=>whnf
      refine Fn.cl s1 ?_
      conv=>whnf
      try (refine And.intro ⟨rfl,by first | rfl | (simp;done) | (simp;omega),by first | omega | (simp;omega)⟩ ?_;conv=>whnf)
      exact⟨rfl,rfl⟩
    ·conv=>whnf
     refine Fn.cl (Dq g copy slot hg hL) ?_
     conv=>whnf
     refine Fn.cl s1 ?_
     conv=>whnf
     try (refine And.intro ⟨rfl,by first | rfl | (simp;done) | (simp;omega),by first | omega | (simp;omega)⟩ ?_;conv=>whnf)
     exact⟨rfl,rfl⟩
   conv=>whnf
   refine Fn.cl s2 ?_
   conv=>whnf
   exact⟨_,fun c v h=>DZ c v false h,by simp only [hR];rfl⟩
  | some r=>
   rw [hR] at s2
   refine Fn.st Tryz.func213 rfl ?_
   conv=>whnf
   apply aDraw.tree tys_ok mixed (.one 0 (.one 1 (.one 2 (.one 3 (.two 4 (.two 5 (.one 6 (.one 7 (.one 8 (.one 9 (.one 10 (.one 11 .fin)))))) 9 (.one 5 (.one 6 (.one 7 (.one 8 (.one 10 (.one 11 .fin))))))) 9 (.one 4 (.one 5 (.one 6 (.one 7 (.one 8 (.one 10 (.one 11 .fin)))))))))))) [10,11,13,14,15,16,17,18,19,20,21] (by kernel_rfl)
   ·refine And.intro ?_ ?_
    ·conv=>whnf
     refine Fn.cl (Dq g copy slot hg hL) ?_
     refine And.intro ?_ ?_
     ·conv=>whnf
      refine Fn.cl s1 ?_
      conv=>whnf
      try (refine And.intro ⟨rfl,by first | rfl | (simp;done) | (simp;omega),by first | omega | (simp;omega)⟩ ?_;conv=>whnf)
      exact⟨rfl,rfl⟩
     ·conv=>whnf
      refine Fn.cl s1 ?_
      conv=>whnf
      try (refine And.intro ⟨rfl,by first | rfl | (simp;done) | (simp;omega),by first | omega | (simp;omega)⟩ ?_;conv=>whnf)
      exact⟨rfl,rfl⟩
    ·conv=>whnf
     refine Fn.cl (Dq g copy slot hg hL) ?_
     conv=>whnf
     refine Fn.cl s1 ?_
     conv=>whnf
     try (refine And.intro ⟨rfl,by first | rfl | (simp;done) | (simp;omega),by first | omega | (simp;omega)⟩ ?_;conv=>whnf)
     exact⟨rfl,rfl⟩
   conv=>whnf
   refine Fn.cl s2 ?_
   conv=>whnf
   refine Al (fun t=>?_) (fun t=>?_) <;> (repeat rw [Aa] at t) <;> (try simp only [Bj] at t) <;> conv=>whnf
   ·exact⟨_,fun c v h=>DZ c v false h,by simp only [hR,if_neg t];rfl⟩
   ·exact⟨_,ri,by simp only [hR,if_pos t];rfl⟩
def CJ (o:Option Rc) (a:An) (seq at_ of_ left:Int):Bool:=match o with | some r=>C_ r a seq at_ of_ left | none=>false
def BT (p q:Option Rc) (b1 b2:Bool):Rc × List Int × Int:=
 if b1&&b2 then (p.getD zeroC, [],1) else if b1 then (p.getD zeroC, [1],1) else if b2 then (q.getD zeroC, [0],1) else if p.isSome || q.isSome then (zeroC, [],2) else (zeroC, [],3)
def Dv (g:Geo) (a:An) (x y:Gt) (slot seq at_ of_ left:Int):Rc × List Int × Int:=
 BT (Cc g x 0 slot) (Cc g y 1 slot) (CJ (Cc g x 0 slot) a seq at_ of_ left) (CJ (Cc g y 1 slot) a seq at_ of_ left)
theorem Gb (c:Ctx) (u:Value) (how e:Int) (h:Rd (.tp [.ag [.v (.int .i64 0), .v (.int .i64 0), .v (.int .i64 0), .v (.int .i64 0), .v (.int .i64 0), .v (.int .i64 0), .v (.int .i64 0), .v (.slice none 0 0)], .v (.slice none 0 0), .v (.int .i64 how), .v (.int .i64 e)]) c u):Rd (.tp [.ag (EE zeroC),iA [], .v (.int .i64 how), .v (.int .i64 e)]) c u:=by
 refine Bu ?_ c u h
 exact⟨AG ⟨ri,ri,ri,ri,ri,ri,ri,AP _ _,trivial⟩,AP _ _,ri,ri,trivial⟩
theorem I3 (g:Geo) (x:Rc) (copy slot:Int) (hok:DH g x=true) (hl:Gh g copy slot=true):Fn Tryz.prog 33 [.ag (A7 g), .ag (EE x), .v (.int .i64 copy), .v (.int .i64 slot)] fun r=>r=bA (C6 g x copy slot):=by
 have hg:AS g=true:=by unfold DH at hok;simp only [Bool.and_eq_true] at hok;exact hok.1
 have hb:=Gx hg hl
 have hs:=Ng hok
 have hn:=Eh hok
 have h1:=Dq g copy slot hg hl
 have h2:=RB g x hok
 have h3:=Hr (AN g copy slot) x.seq (D6 x) ⟨hb.1,by omega,hs.1,hs.2,by omega⟩
 refine Fn.st Tryz.func33 rfl ?_
 conv=>whnf
 apply aDraw.treeM (0) tys_ok mixed (.one 0 (.one 1 (.one 2 (.one 4 (.one 5 (.one 6 (.one 3 (.one 7 (.one 8 (.one 9 .fin)))))))))) [8,9,10,11,12,13,14,15,16,17] (by kernel_rfl)
 ·conv=>whnf
  refine Fn.cl h1 ?_
  conv=>whnf
  refine Fn.cl h2 ?_
  conv=>whnf
  refine Fn.cl h3 ?_
  exact⟨rfl,rfl⟩
 exact⟨_,ri,rfl⟩
theorem QO {x:Int} (c:Ctx) (u:Value) (h:Rd (.sl 1 1 fun i=> [[AV.v (.int .i64 x)]].getD i []) c u):Rd (iA [x]) c u:=
 Rd.congr (n:=1) (n':= [x].length) rfl (fun i hi=>by
  have:i=0:=by simp at hi;omega
  subst this
  rfl) h
theorem WM (r:Rc) (c:Ctx) (u:Value) (h:Rd (.tp [.ag (EE r), .v (.slice none 0 0), .v (.int .i64 1), .v (.int .i64 0)]) c u):Rd (.tp [.ag (EE r),iA [], .v (.int .i64 1), .v (.int .i64 0)]) c u:=by
 refine Bu ?_ c u h
 exact⟨fun _ _ h=>h,AP _ _,fun _ _ h=>h,fun _ _ h=>h,trivial⟩
theorem WL (r:Rc) (x:Int) (c:Ctx) (u:Value) (h:Rd (.tp [.ag (EE r), .sl 1 1 fun i=> [[AV.v (.int .i64 x)]].getD i [], .v (.int .i64 1), .v (.int .i64 0)]) c u):Rd (.tp [.ag (EE r),iA [x], .v (.int .i64 1), .v (.int .i64 0)]) c u:=by
 refine Bu ?_ c u h
 exact⟨fun _ _ h=>h,QO,fun _ _ h=>h,fun _ _ h=>h,trivial⟩
theorem Tq (how:Int) (c:Ctx) (u:Value) (h:Rd (.tp [.ag [.v (.int .i64 0), .v (.int .i64 0), .v (.int .i64 0), .v (.int .i64 0), .v (.int .i64 0), .v (.int .i64 0), .v (.int .i64 0), .v (.slice none 0 0)], .v (.slice none 0 0), .v (.int .i64 how)]) c u):Rd (.tp [.ag (EE zeroC),iA [], .v (.int .i64 how)]) c u:=by
 refine Bu ?_ c u h
 exact⟨AG ⟨ri,ri,ri,ri,ri,ri,ri,AP _ _,trivial⟩,AP _ _,ri,trivial⟩
theorem Vh (r:Rc) (c:Ctx) (u:Value) (h:Rd (.tp [.ag (EE r), .v (.slice none 0 0), .v (.int .i64 1)]) c u):Rd (.tp [.ag (EE r),iA [], .v (.int .i64 1)]) c u:=by
 refine Bu ?_ c u h
 exact⟨fun _ _ h=>h,AP _ _,fun _ _ h=>h,trivial⟩
theorem Vg (r:Rc) (x:Int) (c:Ctx) (u:Value) (h:Rd (.tp [.ag (EE r), .sl 1 1 fun i=> [[AV.v (.int .i64 x)]].getD i [], .v (.int .i64 1)]) c u):Rd (.tp [.ag (EE r),iA [x], .v (.int .i64 1)]) c u:=by
 refine Bu ?_ c u h
 exact⟨fun _ _ h=>h,QO,fun _ _ h=>h,trivial⟩
theorem VA (g:Geo) (a:An) (x y:Gt) (slot seq at_ of_ left:Int) (hl:a.label.size<=1000000) (hh:a.homes.length<=1000000) (hx:x.bytes.length<=100000) (hy:y.bytes.length<=100000) :
  Fn Tryz.prog 232 [.ag (A7 g), .ag (CE a), .ag (BB x), .ag (BB y), .v (.int .i64 slot), .v (.int .i64 seq), .v (.int .i64 at_), .v (.int .i64 of_), .v (.int .i64 left)]
   fun r=>r=if AS g&&AY g a&&BP slot 0 (g.sl - 1) then .tp [.ag (EE (Dv g a x y slot seq at_ of_ left).1),iA (Dv g a x y slot seq at_ of_ left).2.1, .v (.int .i64 (Dv g a x y slot seq at_ of_ left).2.2), .v (.int .i64 0)] else .tp [.ag (EE zeroC),iA [], .v (.int .i64 0), .v (.int .i64 1)]:=by
 have s1:=Fs g a hl hh
 cases hA:AS g&&AY g a with
 | false=>
  rw [hA] at s1
  refine Fn.st Tryz.func232 rfl ?_
  conv=>whnf
  refine Fn.cl s1 ?_
  exact⟨_,fun c u h=>Gb c u 0 1 h,rfl⟩
 | true=>
  rw [hA] at s1
  have s2:=Q6 g x 0 slot hx
  have s3:=Q6 g y 1 slot hy
  unfold Dv
  generalize Cc g x 0 slot=p at s2 |-
  generalize Cc g y 1 slot=q at s3 |-
  have i1:∀ r,p=some r->Fn Tryz.prog 238 [.ag (EE r), .ag (CE a), .v (.int .i64 seq), .v (.int .i64 at_), .v (.int .i64 of_), .v (.int .i64 left)] fun x=>x = .v (.bool (CJ p a seq at_ of_ left)):=by
   rintro r rfl;exact Wg r a seq at_ of_ left
  have i2:∀ r,q=some r->Fn Tryz.prog 238 [.ag (EE r), .ag (CE a), .v (.int .i64 seq), .v (.int .i64 at_), .v (.int .i64 of_), .v (.int .i64 left)] fun x=>x = .v (.bool (CJ q a seq at_ of_ left)):=by
   rintro r rfl;exact Wg r a seq at_ of_ left
  have n1:p=none->CJ p a seq at_ of_ left=false:=by rintro rfl;rfl
  have n2:q=none->CJ q a seq at_ of_ left=false:=by rintro rfl;rfl
  generalize CJ p a seq at_ of_ left=b1 at i1 n1 |-
  generalize CJ q a seq at_ of_ left=b2 at i2 n2 |-
  by_cases hs:0<=slot/\slot<g.sl
  ·rw [show BP slot 0 (g.sl - 1)=true from AI.2 (by omega)]
   rcases p with _ | p <;> rcases q with _ | q <;> cases b1 <;> cases b2
   all_goals first
    | exact absurd (n1 rfl) (by decide)
    | exact absurd (n2 rfl) (by decide)
    | skip
   all_goals
    refine Fn.st Tryz.func232 rfl ?_
    conv=>whnf
    refine Fn.cl s1 ?_
    conv=>whnf
    refine Al (fun t1=>?_) (fun t1=>?_) <;> (repeat rw [Aa] at t1) <;> conv=>whnf
    ·exfalso;omega
    refine Al (fun t2=>?_) (fun t2=>?_) <;> (repeat rw [Aa] at t2) <;> conv=>whnf
    ·exfalso;omega
    refine aLoop.rounds 3 ?_
    conv=>whnf
    repeat' (first | (refine aSeq.go ?_;conv=>whnf) | (refine Al (fun _=>?_) (fun _=>?_) <;> conv=>whnf) | (refine Fn.cl s2 ?_;conv=>whnf) | (refine Fn.cl s3 ?_;conv=>whnf) | (refine Fn.cl (i1 _ rfl) ?_;conv=>whnf) | (refine Fn.cl (i2 _ rfl) ?_;conv=>whnf) | (refine And.intro (by first | omega | exact of_decide_eq_true rfl) ?_;conv=>whnf) | fail)
    first
     | exact⟨_,fun c u h=>Gb c u 2 0 h,rfl⟩
     | exact⟨_,fun c u h=>Gb c u 3 0 h,rfl⟩
     | exact⟨_,fun c u h=>WM _ c u h,rfl⟩
     | exact⟨_,fun c u h=>WL _ _ c u h,rfl⟩
  ·rw [show BP slot 0 (g.sl - 1)=false by rw [Bool.eq_false_iff];intro h;have:=AI.1 h;omega]
   refine Fn.st Tryz.func232 rfl ?_
   conv=>whnf
   refine Fn.cl s1 ?_
   conv=>whnf
   refine Al (fun t1=>?_) (fun t1=>?_) <;> (repeat rw [Aa] at t1) <;> conv=>whnf
   ·exact⟨_,fun c u h=>Gb c u 0 1 h,rfl⟩
   refine Al (fun t2=>?_) (fun t2=>?_) <;> (repeat rw [Aa] at t2) <;> conv=>whnf
   ·exact⟨_,fun c u h=>Gb c u 0 1 h,rfl⟩
   ·exfalso;omega
theorem Tp (g:Geo) (a:An) (x y:Gt) (slot seq at_ of_ left:Int) (hg:AS g=true) (hs:BP slot 0 (g.sl - 1)=true) (hx:x.bytes.length<=100000) (hy:y.bytes.length<=100000) :
  Fn Tryz.prog 175 [.ag (A7 g), .ag (CE a), .ag (BB x), .ag (BB y), .v (.int .i64 slot), .v (.int .i64 seq), .v (.int .i64 at_), .v (.int .i64 of_), .v (.int .i64 left)]
   fun r=>r = .tp [.ag (EE (Dv g a x y slot seq at_ of_ left).1),iA (Dv g a x y slot seq at_ of_ left).2.1, .v (.int .i64 (Dv g a x y slot seq at_ of_ left).2.2)]:=by
 have s2:=KH g x 0 slot hx hg (by rw [Gh,hs];rfl)
 have s3:=KH g y 1 slot hy hg (by rw [Gh,hs];rfl)
 unfold Dv
 generalize Cc g x 0 slot=p at s2 |-
 generalize Cc g y 1 slot=q at s3 |-
 have i1:∀ r,p=some r->Fn Tryz.prog 214 [.ag (EE r), .ag (CE a), .v (.int .i64 seq), .v (.int .i64 at_), .v (.int .i64 of_), .v (.int .i64 left)] fun x=>x = .v (.bool (CJ p a seq at_ of_ left)):=by
  rintro r rfl;exact QE r a seq at_ of_ left
 have i2:∀ r,q=some r->Fn Tryz.prog 214 [.ag (EE r), .ag (CE a), .v (.int .i64 seq), .v (.int .i64 at_), .v (.int .i64 of_), .v (.int .i64 left)] fun x=>x = .v (.bool (CJ q a seq at_ of_ left)):=by
  rintro r rfl;exact QE r a seq at_ of_ left
 have n1:p=none->CJ p a seq at_ of_ left=false:=by rintro rfl;rfl
 have n2:q=none->CJ q a seq at_ of_ left=false:=by rintro rfl;rfl
 generalize CJ p a seq at_ of_ left=b1 at i1 n1 |-
 generalize CJ q a seq at_ of_ left=b2 at i2 n2 |-
 rcases p with _ | p <;> rcases q with _ | q <;> cases b1 <;> cases b2
 all_goals first
  | exact absurd (n1 rfl) (by decide)
  | exact absurd (n2 rfl) (by decide)
  | skip
 all_goals
  refine Fn.st Tryz.func175 rfl ?_
  conv=>whnf
  repeat' (first | (refine aSeq.go ?_;conv=>whnf) | (refine Al (fun _=>?_) (fun _=>?_) <;> conv=>whnf) | (refine Fn.cl s2 ?_;conv=>whnf) | (refine Fn.cl s3 ?_;conv=>whnf) | (refine Fn.cl (i1 _ rfl) ?_;conv=>whnf) | (refine Fn.cl (i2 _ rfl) ?_;conv=>whnf) | (refine And.intro (by first | omega | exact of_decide_eq_true rfl) ?_;conv=>whnf) | fail)
  first
   | exact⟨_,fun c u h=>Tq 2 c u h,rfl⟩
   | exact⟨_,fun c u h=>Tq 3 c u h,rfl⟩
   | exact⟨_,fun c u h=>Vh _ c u h,rfl⟩
   | exact⟨_,fun c u h=>Vg _ _ c u h,rfl⟩
end Go.Proofs.YtldngmdpiifamaaGreatDoor.A
end
section
namespace Go.Proofs.YtldngmdpiifamaaGreatDoor

theorem Kw {l m:List UInt8} {n:Nat} (h:l.length=n):(l ++ m).take n=l:=by subst h;simp
theorem Lt {l m:List UInt8} {n:Nat} (h:l.length=n):(l ++ m).drop n=m:=by subst h;simp
theorem Gl (a s:Int) (p:List UInt8):(Ea a s p).length=p.length+7:=by
 simp only [Ea,Ae,Ai,leB_len]
theorem Fo (a s:Int) (p:List UInt8):(CD a s p).length=p.length+11:=by
 simp only [CD,Ae,Gl,leB_len]
theorem LR {a s:Int} {p:List UInt8} (h:WD a s p):Cv (CD a s p)=0/\CX (CD a s p)=a/\Cq (CD a s p)=s/\BU (CD a s p)=p:=by
 obtain⟨h1,h2,h3,h4,h5⟩:=h
 have hl:=Fo a s p
 have hs:=Kl (Ea a s p)
 have e1:CD a s p=Ea a s p ++ leB 4 (Fx (Ea a s p)):=rfl
 have e2:CD a s p=(UInt8.ofNat p.length::p) ++ (leB 2 a.toNat ++ (leB 4 s.toNat ++ leB 4 (Fx (Ea a s p)))):=by rw [e1];simp only [Ea,List.append_assoc]
 have e3:CD a s p=((UInt8.ofNat p.length::p) ++ leB 2 a.toNat) ++ (leB 4 s.toNat ++ leB 4 (Fx (Ea a s p))):=by rw [e2,List.append_assoc]
 have hpn:BD (CD a s p)=p.length:=by
  rw [e2]
  show (UInt8.ofNat p.length).toNat=p.length
  rw [Bp]
  exact Nat.lt_of_le_of_lt h5 (by decide)
 refine⟨?_,?_,?_,?_⟩
 ·unfold Cv
  rw [if_neg (by omega),if_neg,if_pos]
  ·refine⟨?_,by omega⟩
   simp only [E1,decide_eq_true_eq]
   omega
  ·rw [hl,show p.length+11 - 4=p.length+7 by omega,e1,Lt (Gl a s p),Kw (Gl a s p),leN_leB _ _ (by have:(256:Nat) ^ 4=4294967296:=rfl;omega)]
   simp
 ·unfold CX
  rw [hl,show p.length+11 - 10=p.length+1 by omega,e2,Lt (by simp),Kw (leB_len 2 _),leN_leB _ _ (by have:(256:Nat) ^ 2=65536:=rfl;omega)]
  omega
 ·unfold Cq
  rw [hl,show p.length+11 - 8=p.length+3 by omega,e3,Lt (by simp [leB_len]),Kw (leB_len 4 _),leN_leB _ _ (by have:(256:Nat) ^ 4=4294967296:=rfl;omega)]
  omega
 ·unfold BU
  rw [hl,show p.length+11 - 11=p.length by omega,e2]
  simp
end Go.Proofs.YtldngmdpiifamaaGreatDoor
end
section
namespace Go.Proofs.YtldngmdpiifamaaGreatDoor.A
open Go.RowKit
def Ke (x:Int) (n:Int):Int:=IntKind.i64.wrap ((IntKind.u64.wrap x).tmod n)
theorem Fj {x n:Int} (h:0<n) (h2:n<=4611686018427387904):0<=Ke x n/\Ke x n<n:=by
 have h0:0<=IntKind.u64.wrap x:=by rw [IntKind.wrap_u64];omega
 have h1:=AD n h0
 have h3:=A3 (IntKind.u64.wrap x) h
 unfold Ke
 rw [wi (by omega)]
 exact⟨h1,h3⟩
def K1 (z d sp sl an:Int):Geo:=⟨1+Ke z 4,1+Ke d 4,Ke sp 3,14+Ke sl 17,1+Ke an 3⟩
theorem SZ (z d sp sl an:Int):AS (K1 z d sp sl an)=true:=by
 have h1:=Fj (x:=z) (n:=4) (by decide) (by decide)
 have h2:=Fj (x:=d) (n:=4) (by decide) (by decide)
 have h3:=Fj (x:=sp) (n:=3) (by decide) (by decide)
 have h4:=Fj (x:=sl) (n:=17) (by decide) (by decide)
 have h5:=Fj (x:=an) (n:=3) (by decide) (by decide)
 refine Am.2 ?_
 simp only [K1]
 omega
theorem UY (z d sp sl an:Int):Fn Tryz.prog 35 [.v (.int .i64 z), .v (.int .i64 d), .v (.int .i64 sp), .v (.int .i64 sl), .v (.int .i64 an)] fun r=>r = .ag (A7 (K1 z d sp sl an)):=by
 have h1:=Fj (x:=z) (n:=4) (by decide) (by decide)
 have h2:=Fj (x:=d) (n:=4) (by decide) (by decide)
 have h4:=Fj (x:=sl) (n:=17) (by decide) (by decide)
 have h5:=Fj (x:=an) (n:=3) (by decide) (by decide)
 refine Fn.st Tryz.func35 rfl ?_
 conv=>whnf
 repeat' (refine And.intro (by decide) ?_;conv=>whnf)
 refine⟨_,fun _ _ h=>h,?_⟩
 simp only [A7,K1]
 rw [<-wi (n:=1+Ke z 4) (by omega),<-wi (n:=1+Ke d 4) (by omega),<-wi (n:=14+Ke sl 17) (by omega),<-wi (n:=1+Ke an 3) (by omega)]
 rfl
def A5 (g:Geo) (s:ByteArray):An:=⟨1,0,0,1,0,s,List.replicate g.z.toNat ⟨(List.range (g.d+1).toNat).map Int.ofNat,g.d+1,0⟩⟩
def EF (n:Nat):List (List AV):=(List.range n).map fun i=> [.v (.int .i64 (i:Nat))]
theorem FN (n:Nat):EF (n+1)=EF n ++ [[.v (.int .i64 (n:Nat))]]:=by simp [EF,Bo]
theorem PS {n i:Nat} (h:i<n):(EF n).getD i []=[.v (.int .i64 (i:Nat))]:=Ei h
def G7 (g:Geo):List AV:= [.sl 1 (g.d+1).toNat fun i=>(EF (g.d+1).toNat).getD i [], .v (.int .i64 (g.d+1)), .v (.int .i64 0)]
theorem Mv (g:Geo):SubL (G7 g) (H8 ⟨(List.range (g.d+1).toNat).map Int.ofNat,g.d+1,0⟩):=
 ⟨fun _ _ h=>Rd.congr (by simp) (fun i hi=>by rw [PS hi,Ei hi];rfl) h,fun _ _ h=>h,fun _ _ h=>h,trivial⟩
theorem Ur (g:Geo) (s:ByteArray) (hg:AS g=true):Fn Tryz.prog 41 [.ag (A7 g), .v (.string s)] fun r=>r = .ag (CE (A5 g s)):=by
 obtain⟨h1,h2,h3,h4,h5⟩:=Am.1 hg
 have w1:IntKind.i64.wrap (g.d+1)=g.d+1:=wi (by omega)
 refine Fn.st Tryz.func41 rfl ?_
 conv=>whnf
 refine aLoop.rule Nat (fun k=>([(2, .bp 0 0),(4, .bp 1 0),(5, .bp 2 0),(6, .v (.int .i64 k))], [.box 23 (A7 g), .box 40 [.v (.int .i64 0), .v (.int .i64 0), .v (.int .i64 0), .v (.int .i64 0), .v (.int .i64 0), .v (.string ⟨#[]⟩), .v (.slice none 0 0)], .box 40 [.v (.int .i64 1), .v (.int .i64 0), .v (.int .i64 0), .v (.int .i64 1), .v (.int .i64 0), .v (.string s), .ow 3 k], .row 132 3 (List.replicate k (G7 g))])) (fun k=>k<=g.z.toNat) (fun k=>g.z.toNat - k) 0 (Ag _) ⟨[(1002006,132,3)],⟨rfl,rfl,trivial⟩,⟨rfl,rfl,rfl,rfl,trivial⟩,⟨rfl,rfl,rfl,rfl,trivial⟩,rfl,rfl,rfl⟩ ?_
 intro k hk
 conv=>whnf
 refine Al (fun t1=>?_) (fun t1=>?_) <;> (repeat rw [Aa] at t1) <;> conv=>whnf
 ·refine aLoop.rule Nat (fun j=>([(2, .bp 0 0),(4, .bp 1 0),(5, .bp 2 0),(6, .v (.int .i64 k)),(7, .bp 4 0),(8, .v (.int .i64 j))], [.box 23 (A7 g), .box 40 [.v (.int .i64 0), .v (.int .i64 0), .v (.int .i64 0), .v (.int .i64 0), .v (.int .i64 0), .v (.string ⟨#[]⟩), .v (.slice none 0 0)], .box 40 [.v (.int .i64 1), .v (.int .i64 0), .v (.int .i64 0), .v (.int .i64 1), .v (.int .i64 0), .v (.string s), .ow 3 k], .row 132 3 (List.replicate k (G7 g)), .box 132 [.ow 5 j, .v (.int .i64 (g.d+1)), .v (.int .i64 0)], .row 3 1 (EF j)])) (fun j=>j<=(g.d+1).toNat) (fun j=>(g.d+1).toNat - j) 0 (Ag _) ⟨[(1004000,3,1)],⟨rfl,rfl,trivial⟩,⟨rfl,rfl,rfl,rfl,rfl,rfl,trivial⟩,⟨rfl,rfl,rfl,rfl,by rw [w1];rfl,rfl,trivial⟩,rfl,rfl,rfl⟩ ?_
  intro j hj
  conv=>whnf
  refine Al (fun t2=>?_) (fun t2=>?_) <;> (repeat rw [Aa] at t2) <;> conv=>whnf
  ·refine⟨rfl,?_⟩
   refine⟨⟨by simp [EF],by omega⟩,?_⟩
   exact⟨j+1,by omega,by omega,(Wk.plain (by repeat' first | exact trivial | exact rfl | refine And.intro ?_ ?_ | exact AA (by omega) | exact congrArg (AB.row _ _) (FN j)) (by repeat' first | exact trivial | exact rfl | refine And.intro ?_ ?_ | exact AA (by omega) | exact congrArg (AB.row _ _) (FN j)) rfl rfl rfl)⟩
  ·have ej:j=(g.d+1).toNat:=by omega
   refine⟨(by simp [EF]),?_⟩
   refine⟨rfl,?_⟩
   refine⟨⟨by simp,by omega⟩,?_⟩
   conv=>whnf
   have er:AB.row 132 3 (List.replicate (k+1) (G7 g)) = .row 132 3 (List.replicate k (G7 g) ++ [[AV.sl 1 j fun i=>(EF j).getD i [], .v (.int .i64 (g.d+1)), .v (.int .i64 0)]]):=by
    rw [List.replicate_succ',G7,<-ej]
   exact⟨k+1,by omega,by omega,(Wk.plain (by repeat' first | exact trivial | exact rfl | refine And.intro ?_ ?_ | exact AA (by omega) | exact er) (by repeat' first | exact trivial | exact rfl | refine And.intro ?_ ?_ | exact AA (by omega) | exact er) rfl rfl rfl)⟩
 ·refine⟨by simp,?_⟩
  conv=>whnf
  have ek:k=g.z.toNat:=by omega
  refine⟨.ag (CE (A5 g s)),fun c u h=>?_,rfl⟩
  refine AG ?_ c u h
  refine⟨fun _ _ h=>h,fun _ _ h=>h,fun _ _ h=>h,fun _ _ h=>h,fun _ _ h=>h,fun _ _ h=>h,fun c u h=>Rd.sub (by simp [A5,ek]) (fun i hi=>?_) h,trivial⟩
  rw [A5,List.getD_eq_getElem?_getD,List.getD_eq_getElem?_getD,List.getElem?_replicate_of_lt hi,List.getElem?_replicate_of_lt (by omega)]
  exact Mv g
theorem LU {g:Geo} {r:Rc} {copy slot:Int} (hg:AS g=true) (hok:DH g r=true) (hl:Gh g copy slot=true):Cc g ⟨0,C6 g r copy slot⟩ copy slot=some r:=by
 have hb:=Gx hg hl
 have hs:=Ng hok
 have hn:=Eh hok
 obtain⟨h1,h2,h3,h4⟩:=LR (a:=AN g copy slot) (s:=r.seq) (p:=D6 r) ⟨hb.1,hb.2,hs.1,hs.2,by omega⟩
 unfold Cc
 rw [hg,hl]
 simp only [C6,h1,h2,h3,h4,PO hok]
 rfl
def an0:An:=⟨0,0,0,0,0,⟨#[]⟩, []⟩
def GN (g:Geo) (b:List UInt8):Int:=if AS g=false then 1 else if (Cu g b).isSome then 0 else 4
theorem an0_sub:SubL [.v (.int .i64 0), .v (.int .i64 0), .v (.int .i64 0), .v (.int .i64 0), .v (.int .i64 0), .v (.string ⟨#[]⟩), .v (.slice none 0 0)] (CE an0):=
 ⟨fun _ _ h=>h,fun _ _ h=>h,fun _ _ h=>h,fun _ _ h=>h,fun _ _ h=>h,fun _ _ h=>h,AP 3 _,trivial⟩
theorem Hd (e:Int):∀ (c:Ctx) (v:Value),Rd (.tp [.ag [.v (.int .i64 0), .v (.int .i64 0), .v (.int .i64 0), .v (.int .i64 0), .v (.int .i64 0), .v (.string ⟨#[]⟩), .v (.slice none 0 0)], .v (.int .i64 e)]) c v->Rd (.tp [.ag (CE an0), .v (.int .i64 e)]) c v:=
 Bu (m:= [.ag (CE an0), .v (.int .i64 e)]) ⟨AG an0_sub,ri,trivial⟩
theorem UC (g:Geo) (b:List UInt8) (hl:b.length<=100000):Fn Tryz.prog 209 [.ag (A7 g),bA b] fun r=>r = .tp [.ag (CE (if AS g then (Cu g b).getD an0 else an0)), .v (.int .i64 (GN g b))]:=by
 have hG:Fn Tryz.prog 46 [.ag (A7 g)] fun r=>r = .v (Ed (AS g)):=Ct g.z g.d g.sp g.sl g.an
 cases hg:AS g with
 | false=>
  rw [hg] at hG
  rw [show GN g b=1 by rw [GN,if_pos hg]]
  refine Fn.st Tryz.func209 rfl ?_
  conv=>whnf
  refine Fn.cl hG ?_
  exact⟨_,Hd 1,rfl⟩
 | true=>
  rw [hg] at hG
  obtain⟨g1,g2,g3,g4,g5⟩:=Am.1 hg
  have hE:∀ (h:Cu g b=none),(if true=true then (Cu g b).getD an0 else an0)=an0/\GN g b=4:=fun h=>⟨by rw [h];rfl,by rw [GN,if_neg (by rw [hg];decide),h];rfl⟩
  by_cases h17:b.length<17
  ·have hN:Cu g b=none:=by rw [Cu,if_pos h17]
   have hu:=GA b szA (by decide) (by omega) (by decide) h17
   rw [(hE hN).1,(hE hN).2]
   refine Fn.st Tryz.func209 rfl ?_
   conv=>whnf
   refine Fn.cl hG ?_
   conv=>whnf
   refine ACalls.shut hu.go ?_
   refine⟨rfl,?_⟩
   conv=>whnf
   refine ACalls.sub [bA b,iA szA] ⟨ri,(AT (l:=szA) rfl).1,trivial⟩ ?_
   refine Fn.cl hu ?_
   exact⟨_,Hd 4,rfl⟩
  ·have hu:=Ji b szA (by decide) (by omega) (by decide) (by show 17<=_;omega)
   rw [show tot szA=17 from rfl] at hu
   have hr:=TN (b.drop 17) (by rw [Ac];omega)
   cases hL:Gz (b.drop 17) with
   | none=>
    have hN:Cu g b=none:=by rw [Cu,if_neg h17,hL]
    rw [K_,hL] at hr
    rw [(hE hN).1,(hE hN).2]
    refine Fn.st Tryz.func209 rfl ?_
    conv=>whnf
    refine Fn.cl hG ?_
    conv=>whnf
    refine ACalls.shut hu.go ?_
    refine⟨rfl,?_⟩
    conv=>whnf
    refine ACalls.sub [bA b,iA szA] ⟨ri,(AT (l:=szA) rfl).1,trivial⟩ ?_
    refine Fn.cl hu ?_
    conv=>whnf
    refine Fn.cl hr ?_
    exact⟨_,Hd 4,rfl⟩
   | some q=>
    obtain⟨s,u⟩:=q
    obtain⟨u1,u2,u3,u4⟩:=J0 hL
    rw [K_,hL] at hr
    simp only at hr
    have hlu:17+u<=b.length:=by rw [Ac] at u1;omega
    have hh:=TY g (b.drop (17+u)) hg (by rw [Ac];omega)
    have hs24:=Ge u4
    have hss:s.size=s.data.toList.length:=rfl
    have hnl:(nums szA b).length=5:=by rw [nums_len];rfl
    have hdl:(b.drop (17+u)).length=b.length - (17+u):=Ac ..
    have hLs:s.size<=1000000:=by omega
    obtain⟨A,hA⟩:∃ A,A=J5 (g.d.toNat+1) g.z.toNat b s u:=⟨_,rfl⟩
    have hLA:A.label.size<=1000000:=by rw [hA];exact hLs
    by_cases hs:g.z.toNat*(g.d.toNat+6)<=(b.drop (17+u)).length
    ·rw [if_pos hs,if_pos hs] at hh
     have hHA:A.homes.length<=1000000:=by
      rw [hA];show (Dm (g.d.toNat+1) g.z.toNat (b.drop (17+u))).length<=_
      rw [Ep];omega
     have hB:=JB g A hLA hHA
     rw [hg,At] at hB
     have hR0:Cu g b=if b.length≠17+u+g.z.toNat*(g.d.toNat+6) then none else if AY g A then some A else none:=by rw [Cu,if_neg h17,hL,hA]
     cases hok:AY g A with
     | false=>
      have hN:Cu g b=none:=by rw [hR0,hok];split <;> rfl
      rw [hok,if_neg (by decide)] at hB
      rw [(hE hN).1,(hE hN).2]
      subst hA
      refine Fn.st Tryz.func209 rfl ?_
      conv=>whnf
      refine Fn.cl hG ?_
      conv=>whnf
      refine ACalls.shut hu.go ?_
      refine⟨rfl,?_⟩
      conv=>whnf
      refine ACalls.sub [bA b,iA szA] ⟨ri,(AT (l:=szA) rfl).1,trivial⟩ ?_
      refine Fn.cl hu ?_
      conv=>whnf
      refine Fn.cl hr ?_
      conv=>whnf
      apply aDraw.treeK (0) tys_ok mixed (.one 0 (.one 1 (.one 2 (.one 3 (.one 4 (.one 5 (.one 6 (.one 7 (.one 8 (.one 9 .fin)))))))))) (by kernel_rfl)
      conv=>whnf
      try (refine And.intro (by first | omega | (simp;done)) ?_;conv=>whnf)
      (refine ACalls.sub [.ag (A7 g),bA (b.drop (17+u))] ⟨ri,fun c v h=>(by rw [<-Aw];exact A6 (b:=b.drop 17) (by rw [Ac];omega) c v h),trivial⟩ ?_;refine Fn.cl hh ?_)
      conv=>whnf
      apply aDraw.treeK (0) tys_ok mixed (.one 0 (.one 1 (.one 2 (.one 3 (.one 4 (.one 5 (.one 6 (.one 7 (.one 8 (.one 9 (.one 10 (.one 11 (.one 12 (.one 13 (.one 14 (.one 15 (.one 16 (.one 17 (.one 18 (.one 19 .fin)))))))))))))))))))) (by kernel_rfl)
      conv=>whnf
      try (refine And.intro (by first | omega | (simp;done)) ?_;conv=>whnf)
      try (refine And.intro (by first | omega | (simp;done)) ?_;conv=>whnf)
      try (refine And.intro (by first | omega | (simp;done)) ?_;conv=>whnf)
      try (refine And.intro (by first | omega | (simp;done)) ?_;conv=>whnf)
      try (refine And.intro (by first | omega | (simp;done)) ?_;conv=>whnf)
      try (refine And.intro ⟨rfl,by first | rfl | (simp;done) | (simp;omega),by first | omega | (simp;omega)⟩ ?_;conv=>whnf)
      refine Fn.cl hB ?_
      exact⟨_,Hd 4,rfl⟩
     | true=>
      rw [hok,if_pos rfl] at hB
      have hab:Ir A=b.take (17+u+g.z.toNat*(g.d.toNat+6)):=by
       rw [hA,Pt (g.d.toNat+1) g.z.toNat b s u (by omega) hL (by show 17+u+(g.d.toNat+6)*g.z.toNat<=_;rw [Dd];omega)];show List.take (17+u+(g.d.toNat+6)*g.z.toNat) b=_;rw [Dd]
      have hq:=I_ (Ir A) b
      by_cases hlen:b.length=17+u+g.z.toNat*(g.d.toNat+6)
      ·have hbb:Ir A=b:=by rw [hab,<-hlen,List.take_length]
       have hY:Cu g b=some A:=by rw [hR0,if_neg (by omega),hok];rfl
       have hT:=Po A (by have:=hHA;rw [hA] at this |-;show (Dm (g.d.toNat+1) g.z.toNat (b.drop (17+u))).length<=_;rw [Ep];omega) (fun x hx=>by have:=(Le hg ((Db hg hok 0 (Ag _)).2.2.2.2 x hx)).1;omega)
       rw [show GN g b=0 by rw [GN,if_neg (by rw [hg];decide),hY];rfl,hY]
       rw [decide_eq_true hbb] at hq
       subst hA
       refine Fn.st Tryz.func209 rfl ?_
       conv=>whnf
       refine Fn.cl hG ?_
       conv=>whnf
       refine ACalls.shut hu.go ?_
       refine⟨rfl,?_⟩
       conv=>whnf
       refine ACalls.sub [bA b,iA szA] ⟨ri,(AT (l:=szA) rfl).1,trivial⟩ ?_
       refine Fn.cl hu ?_
       conv=>whnf
       refine Fn.cl hr ?_
       conv=>whnf
       apply aDraw.treeK (0) tys_ok mixed (.one 0 (.one 1 (.one 2 (.one 3 (.one 4 (.one 5 (.one 6 (.one 7 (.one 8 (.one 9 .fin)))))))))) (by kernel_rfl)
       conv=>whnf
       try (refine And.intro (by first | omega | (simp;done)) ?_;conv=>whnf)
       (refine ACalls.sub [.ag (A7 g),bA (b.drop (17+u))] ⟨ri,fun c v h=>(by rw [<-Aw];exact A6 (b:=b.drop 17) (by rw [Ac];omega) c v h),trivial⟩ ?_;refine Fn.cl hh ?_)
       conv=>whnf
       apply aDraw.treeK (0) tys_ok mixed (.one 0 (.one 1 (.one 2 (.one 3 (.one 4 (.one 5 (.one 6 (.one 7 (.one 8 (.one 9 (.one 10 (.one 11 (.one 12 (.one 13 (.one 14 (.one 15 (.one 16 (.one 17 (.one 18 (.one 19 .fin)))))))))))))))))))) (by kernel_rfl)
       conv=>whnf
       try (refine And.intro (by first | omega | (simp;done)) ?_;conv=>whnf)
       try (refine And.intro (by first | omega | (simp;done)) ?_;conv=>whnf)
       try (refine And.intro (by first | omega | (simp;done)) ?_;conv=>whnf)
       try (refine And.intro (by first | omega | (simp;done)) ?_;conv=>whnf)
       try (refine And.intro (by first | omega | (simp;done)) ?_;conv=>whnf)
       try (refine And.intro ⟨rfl,by first | rfl | (simp;done) | (simp;omega),by first | omega | (simp;omega)⟩ ?_;conv=>whnf)
       refine Fn.cl hB ?_
       conv=>whnf
       refine Fn.cl hq ?_
       conv=>whnf
       refine Fn.cl hT ?_
       exact⟨_,ri,rfl⟩
      ·have hbb:Ir A≠b:=fun h=>hlen (by rw [<-h,hab,Ao];omega)
       have hN:Cu g b=none:=by rw [hR0,if_pos hlen]
       rw [decide_eq_false hbb] at hq
       rw [(hE hN).1,(hE hN).2]
       subst hA
       refine Fn.st Tryz.func209 rfl ?_
       conv=>whnf
       refine Fn.cl hG ?_
       conv=>whnf
       refine ACalls.shut hu.go ?_
       refine⟨rfl,?_⟩
       conv=>whnf
       refine ACalls.sub [bA b,iA szA] ⟨ri,(AT (l:=szA) rfl).1,trivial⟩ ?_
       refine Fn.cl hu ?_
       conv=>whnf
       refine Fn.cl hr ?_
       conv=>whnf
       apply aDraw.treeK (0) tys_ok mixed (.one 0 (.one 1 (.one 2 (.one 3 (.one 4 (.one 5 (.one 6 (.one 7 (.one 8 (.one 9 .fin)))))))))) (by kernel_rfl)
       conv=>whnf
       try (refine And.intro (by first | omega | (simp;done)) ?_;conv=>whnf)
       (refine ACalls.sub [.ag (A7 g),bA (b.drop (17+u))] ⟨ri,fun c v h=>(by rw [<-Aw];exact A6 (b:=b.drop 17) (by rw [Ac];omega) c v h),trivial⟩ ?_;refine Fn.cl hh ?_)
       conv=>whnf
       apply aDraw.treeK (0) tys_ok mixed (.one 0 (.one 1 (.one 2 (.one 3 (.one 4 (.one 5 (.one 6 (.one 7 (.one 8 (.one 9 (.one 10 (.one 11 (.one 12 (.one 13 (.one 14 (.one 15 (.one 16 (.one 17 (.one 18 (.one 19 .fin)))))))))))))))))))) (by kernel_rfl)
       conv=>whnf
       try (refine And.intro (by first | omega | (simp;done)) ?_;conv=>whnf)
       try (refine And.intro (by first | omega | (simp;done)) ?_;conv=>whnf)
       try (refine And.intro (by first | omega | (simp;done)) ?_;conv=>whnf)
       try (refine And.intro (by first | omega | (simp;done)) ?_;conv=>whnf)
       try (refine And.intro (by first | omega | (simp;done)) ?_;conv=>whnf)
       try (refine And.intro ⟨rfl,by first | rfl | (simp;done) | (simp;omega),by first | omega | (simp;omega)⟩ ?_;conv=>whnf)
       refine Fn.cl hB ?_
       conv=>whnf
       refine Fn.cl hq ?_
       exact⟨_,Hd 4,rfl⟩
    ·rw [if_neg hs,if_neg hs] at hh
     have hB:=JB g { J5 (g.d.toNat+1) g.z.toNat b s u with homes:= [] } hLs (by simp)
     rw [hg,At] at hB
     have hN:Cu g b=none:=by rw [Cu,if_neg h17,hL];exact if_pos (by omega)
     rw [(hE hN).1,(hE hN).2]
     refine Fn.st Tryz.func209 rfl ?_
     conv=>whnf
     refine Fn.cl hG ?_
     conv=>whnf
     refine ACalls.shut hu.go ?_
     refine⟨rfl,?_⟩
     conv=>whnf
     refine ACalls.sub [bA b,iA szA] ⟨ri,(AT (l:=szA) rfl).1,trivial⟩ ?_
     refine Fn.cl hu ?_
     conv=>whnf
     refine Fn.cl hr ?_
     conv=>whnf
     apply aDraw.treeK (0) tys_ok mixed (.one 0 (.one 1 (.one 2 (.one 3 (.one 4 (.one 5 (.one 6 (.one 7 (.one 8 (.one 9 .fin)))))))))) (by kernel_rfl)
     conv=>whnf
     try (refine And.intro (by first | omega | (simp;done)) ?_;conv=>whnf)
     (refine ACalls.sub [.ag (A7 g),bA (b.drop (17+u))] ⟨ri,fun c v h=>(by rw [<-Aw];exact A6 (b:=b.drop 17) (by rw [Ac];omega) c v h),trivial⟩ ?_;refine Fn.cl hh ?_)
     conv=>whnf
     apply aDraw.treeK (0) tys_ok mixed (.one 0 (.one 1 (.one 2 (.one 3 (.one 4 (.one 5 (.one 6 (.one 7 (.one 8 (.one 9 (.one 10 (.one 11 (.one 12 (.one 13 (.one 14 (.one 15 (.one 16 (.one 17 (.one 18 (.one 19 .fin)))))))))))))))))))) (by kernel_rfl)
     conv=>whnf
     try (refine And.intro (by first | omega | (simp;done)) ?_;conv=>whnf)
     try (refine And.intro (by first | omega | (simp;done)) ?_;conv=>whnf)
     try (refine And.intro (by first | omega | (simp;done)) ?_;conv=>whnf)
     try (refine And.intro (by first | omega | (simp;done)) ?_;conv=>whnf)
     try (refine And.intro (by first | omega | (simp;done)) ?_;conv=>whnf)
     try (refine And.intro ⟨rfl,by first | rfl | (simp;done) | (simp;omega),by first | omega | (simp;omega)⟩ ?_;conv=>whnf)
     refine Fn.cl hB ?_
     exact⟨_,Hd 4,rfl⟩
def zero8:List UInt8:= [0,0,0,0,0,0,0,0]
def ent0:Ent:=⟨0,(Fx zero8:Nat),false⟩
def DF (g:Geo):List Ent:=List.replicate (g.d+1).toNat ent0
theorem Ut (stamp:Int) (b:List UInt8) (hb:b.length<=1000000000):Fn Tryz.prog 149 [.v (.int .i64 stamp),bA b] fun r=>r = .ag (E4 ⟨stamp,(Fx b:Nat),false⟩):=by
 refine Fn.st Tryz.func149 rfl ?_
 conv=>whnf
 repeat' (first | (refine aSeq.go ?_;conv=>whnf) | (refine Al (fun _=>?_) (fun _=>?_) <;> conv=>whnf) | (refine Fn.cl (Q9 b hb) ?_;conv=>whnf) | (refine And.intro (by first | omega | exact of_decide_eq_true rfl) ?_;conv=>whnf) | fail)
 exact⟨_,ri,rfl⟩
def bv (l:List Ent):Nat->AV
 | 0=> .v (.slice none 0 0)
 | k+1=>bA (CT (l.take (k+1)))
theorem UU (l:List Ent) (hl:l.length<=1000) (hb:∀ e∈l,(0<=e.stamp/\e.stamp<=4294967295)/\0<=e.sum/\e.sum<=4294967295):Fn Tryz.prog 81 [.ag [D8 l]] fun r=>r=bA (CT l):=by
 refine Fn.st Tryz.func81 rfl ?_
 conv=>whnf
 refine aLoop.rule Nat (fun k=>([(1, .bp 0 0),(3,bv l k),(4, .v (.int .i64 k))], [.box 147 [D8 l]])) (fun k=>k<=l.length) (fun k=>l.length - k) 0 (Ag _) ⟨[],trivial,⟨rfl,rfl,rfl,trivial⟩,⟨rfl,trivial⟩,rfl,rfl,rfl⟩ ?_
 intro k hk
 conv=>whnf
 refine Al (fun c1=>?_) (fun c1=>?_) <;> (repeat rw [Aa] at c1) <;> conv=>whnf
 ·have he:=hb _ (AE (d:=⟨0,0,false⟩) c1)
  refine aSeq.go ?_
  conv=>whnf
  refine⟨by first | omega | (refine⟨rfl,?_,?_⟩ <;> first | omega | (simp only [Ab];done) | (simp only [Ab];omega)) | (simp only [Ab];omega),?_⟩
  conv=>whnf
  have hlt:(CT (l.take k)).length<=9000:=by rw [Fw,Ao];omega
  have p1:=Eb (CT (l.take k)) (l.getD k ⟨0,0,false⟩).stamp 4 (by omega) he.1 (by decide)
  have p2:=Eb (CT (l.take k) ++ leB 4 (l.getD k ⟨0,0,false⟩).stamp.toNat) (l.getD k ⟨0,0,false⟩).sum 4 (by rw [Ae,leB_len];omega) he.2 (by decide)
  have p3:=Eb (CT (l.take k) ++ leB 4 (l.getD k ⟨0,0,false⟩).stamp.toNat ++ leB 4 (l.getD k ⟨0,0,false⟩).sum.toNat) (Dr (l.getD k ⟨0,0,false⟩).lost) 1 (by rw [Ae,Ae,leB_len,leB_len];omega) (by unfold Dr;split <;> omega) (by decide)
  have hst:bv l (k+1)=bA (CT (l.take k) ++ leB 4 (l.getD k ⟨0,0,false⟩).stamp.toNat ++ leB 4 (l.getD k ⟨0,0,false⟩).sum.toNat ++ leB 1 (Dr (l.getD k ⟨0,0,false⟩).lost).toNat):=by
   rw [bv,LM c1,Lq]
   rw [List.getD_eq_getElem?_getD,List.getElem?_eq_getElem c1]
   simp [rowB,List.append_assoc]
  obtain⟨L,hLe⟩:∃ L,(l.getD k ⟨0,0,false⟩).lost=L:=⟨_,rfl⟩
  rw [hLe] at p3 hst
  rcases k with _ | k
  all_goals
   refine aDraw.of tys_ok mixed [0,1,2,4,5,3,6,7] (by kernel_rfl) ?_
   conv=>whnf
   refine ACalls.sub _ ?_ (Fn.closed (p1) rfl ?_)
   ·repeat' (first | exact trivial | exact fun _ _ h=>h | exact AP _ _ | refine And.intro ?_ ?_ | refine AG ?_)
   rintro _ rfl
   conv=>whnf
   refine ACalls.sub _ ?_ (Fn.closed (p2) rfl ?_)
   ·repeat' (first | exact trivial | exact fun _ _ h=>h | exact AP _ _ | refine And.intro ?_ ?_ | refine AG ?_)
   rintro _ rfl
   conv=>whnf
   refine aSeq.go ?_
   conv=>whnf
   rw [Aa,hLe]
   cases L
  all_goals
   conv=>whnf
   refine Fn.cl p3 ?_
   refine⟨_,by omega,by omega, [],trivial,⟨rfl,hst.symm,AA (by omega),trivial⟩,⟨rfl,trivial⟩,rfl,rfl,rfl⟩
 ·have ek:k=l.length:=by omega
  rcases k with _ | k
  ·have e:l=[]:=AU.1 ek.symm
   subst e
   exact⟨bA (CT []),AP 1 _,rfl⟩
  ·conv=>whnf
   exact⟨_,ri,by rw [ek,List.take_length];rfl⟩
theorem UW (g:Geo) (hg:AS g=true):Fn Tryz.prog 82 [.ag (A7 g)] fun r=>r = .ag [D8 (DF g)]:=by
 obtain⟨h1,h2,h3,h4,h5⟩:=Am.1 hg
 refine Fn.st Tryz.func82 rfl ?_
 conv=>whnf
 have w1:IntKind.i64.wrap (g.d+1)=g.d+1:=by rw [IntKind.wrap_i64];omega
 refine aLoop.rule Nat (fun k=>([(1, .bp 0 0),(2, .bp 1 0),(3, .bp 2 0),(4, .v (.int .i64 k))], [.box 23 (A7 g), .box 147 [.v (.slice none 0 0)], .box 147 [.ow 3 k], .row 200 3 ((List.replicate k ent0).map E4)])) (fun k=>(k:Int)<=g.d+1) (fun k=>(g.d+1 - k).toNat) 0 (show (0:Int)<=g.d+1 by omega) ⟨[(1002000,200,3)],⟨rfl,rfl,trivial⟩,⟨rfl,rfl,rfl,rfl,trivial⟩,⟨rfl,rfl,rfl,rfl,trivial⟩,rfl,rfl,rfl⟩ ?_
 intro k hk
 conv=>whnf
 refine Al (fun c1=>?_) (fun c1=>?_) <;> (repeat rw [Aa] at c1) <;> conv=>whnf
 ·refine aDraw.of tys_ok mixed [0,1,2,3,4,5,6,7] (by kernel_rfl) ?_
  conv=>whnf
  repeat' (refine And.intro (by first | omega | exact of_decide_eq_true rfl) ?_;conv=>whnf)
  have e0:=Ut 0 zero8 (by decide)
  refine ACalls.shut (e0).go ?_
  conv=>whnf
  repeat' (refine And.intro (by first | rfl | omega | (simp;done) | (simp only [Ab];omega)) ?_;conv=>whnf)
  refine ACalls.sub _ ?_ (Fn.closed (e0) rfl ?_)
  ·repeat' (first | exact trivial | exact fun _ _ h=>h | exact AP _ _ | exact S8 zero8 rfl rfl | refine And.intro ?_ ?_ | refine AG ?_)
  rintro _ rfl
  conv=>whnf
  repeat' (first | (refine And.intro (by first | rfl | omega) ?_;conv=>whnf) | fail)
  refine⟨⟨by rw [Ab,Bm],by omega⟩,?_⟩
  conv=>whnf
  exact⟨k+1,by omega,by omega, [],trivial,⟨rfl,rfl,rfl,AA (by omega),trivial⟩,⟨rfl,rfl,rfl,by rw [List.replicate_succ',Aq];rfl,trivial⟩,rfl,rfl,rfl⟩
 ·refine⟨(by rw [Ab,Bm]),?_⟩
  conv=>whnf
  have ek:k=(g.d+1).toNat:=by omega
  refine⟨.ag [D8 (DF g)],AG ⟨AJ (DF g) ?_ ?_,trivial⟩,rfl⟩
  ·rw [DF,Bm,ek]
  ·rw [DF,ek]
theorem Qj (g:Geo) (s:ByteArray) {n:Nat} (hn:n=g.z.toNat):SubL [.v (.int .i64 1), .v (.int .i64 0), .v (.int .i64 0), .v (.int .i64 1), .v (.int .i64 0), .v (.string s), .sl 3 n fun i=>(List.replicate n (G7 g)).getD i []] (CE (A5 g s)):=by
 refine⟨fun _ _ h=>h,fun _ _ h=>h,fun _ _ h=>h,fun _ _ h=>h,fun _ _ h=>h,fun _ _ h=>h,fun c u h=>Rd.sub (by simp [A5,hn]) (fun i hi=>?_) h,trivial⟩
 rw [A5,List.getD_eq_getElem?_getD,List.getD_eq_getElem?_getD,List.getElem?_replicate_of_lt hi,List.getElem?_replicate_of_lt (by omega)]
 exact Mv g
theorem JA (g:Geo) (s:ByteArray) (hs:s.size<=1000000):Fn Tryz.prog 63 [.ag (A7 g), .v (.string s)] fun r=>r = .tp [.ag (CE (if AS g then if C5 s.data.toList=0 then A5 g s else an0 else an0)), .v (.int .i64 (if AS g then C5 s.data.toList else 1))]:=by
 have hG:Fn Tryz.prog 46 [.ag (A7 g)] fun r=>r = .v (Ed (AS g)):=Ct g.z g.d g.sp g.sl g.an
 cases hg:AS g with
 | false=>
  rw [hg] at hG
  refine Fn.st Tryz.func63 rfl ?_
  conv=>whnf
  refine Fn.cl hG ?_
  exact⟨_,Hd 1,rfl⟩
 | true=>
  rw [hg] at hG
  obtain⟨h1,h2,h3,h4,h5⟩:=Am.1 hg
  have hL:=Gy s hs
  by_cases hl:C5 s.data.toList=0
  ·rw [hl] at hL
   rw [if_pos rfl,if_pos hl,if_pos rfl,hl]
   have w1:IntKind.i64.wrap (g.d+1)=g.d+1:=wi (by omega)
   refine Fn.st Tryz.func63 rfl ?_
   conv=>whnf
   refine Fn.cl hG ?_
   conv=>whnf
   refine Fn.cl hL ?_
   conv=>whnf
   refine aLoop.rule Nat (fun k=>([(2, .bp 0 0),(4, .bp 1 0),(7, .bp 2 0),(23, .v (.int .i64 g.z)),(24, .v (.int .i64 k))], [.box 23 (A7 g), .box 40 [.v (.int .i64 0), .v (.int .i64 0), .v (.int .i64 0), .v (.int .i64 0), .v (.int .i64 0), .v (.string ⟨#[]⟩), .v (.slice none 0 0)], .box 40 [.v (.int .i64 1), .v (.int .i64 0), .v (.int .i64 0), .v (.int .i64 1), .v (.int .i64 0), .v (.string s), .ow 3 k], .row 132 3 (List.replicate k (G7 g))])) (fun k=>k<=g.z.toNat) (fun k=>g.z.toNat - k) 0 (Ag _) ⟨[(1002006,132,3)],⟨rfl,rfl,trivial⟩,⟨rfl,rfl,rfl,rfl,rfl,trivial⟩,⟨rfl,rfl,rfl,rfl,trivial⟩,rfl,rfl,rfl⟩ ?_
   intro k hk
   conv=>whnf
   refine Al (fun t1=>?_) (fun t1=>?_) <;> (repeat rw [Aa] at t1) <;> conv=>whnf
   ·refine aLoop.rule Nat (fun j=>([(2, .bp 0 0),(4, .bp 1 0),(7, .bp 2 0),(8, .bp 4 0),(23, .v (.int .i64 g.z)),(24, .v (.int .i64 k)),(32, .v (.int .i64 (g.d+1))),(33, .v (.int .i64 j))], [.box 23 (A7 g), .box 40 [.v (.int .i64 0), .v (.int .i64 0), .v (.int .i64 0), .v (.int .i64 0), .v (.int .i64 0), .v (.string ⟨#[]⟩), .v (.slice none 0 0)], .box 40 [.v (.int .i64 1), .v (.int .i64 0), .v (.int .i64 0), .v (.int .i64 1), .v (.int .i64 0), .v (.string s), .ow 3 k], .row 132 3 (List.replicate k (G7 g)), .box 132 [.ow 5 j, .v (.int .i64 (g.d+1)), .v (.int .i64 0)], .row 3 1 (EF j)])) (fun j=>j<=(g.d+1).toNat) (fun j=>(g.d+1).toNat - j) 0 (Ag _) ⟨[(1004000,3,1)],⟨rfl,rfl,trivial⟩,⟨rfl,rfl,rfl,rfl,rfl,rfl,congrArg (fun x=>AV.v (Value.int IntKind.i64 x)) w1,rfl,trivial⟩,⟨rfl,rfl,rfl,rfl,by rw [w1];rfl,rfl,trivial⟩,rfl,rfl,rfl⟩ ?_
    intro j hj
    conv=>whnf
    refine Al (fun t2=>?_) (fun t2=>?_) <;> (repeat rw [Aa] at t2) <;> conv=>whnf
    ·refine⟨rfl,?_⟩
     refine⟨⟨by simp [EF],by omega⟩,?_⟩
     exact⟨j+1,by omega,by omega,(Wk.plain (by repeat' first | exact trivial | exact rfl | refine And.intro ?_ ?_ | exact AA (by omega) | exact congrArg (AB.row _ _) (FN j)) (by repeat' first | exact trivial | exact rfl | refine And.intro ?_ ?_ | exact AA (by omega) | exact congrArg (AB.row _ _) (FN j)) rfl rfl rfl)⟩
    ·have ej:j=(g.d+1).toNat:=by omega
     refine⟨(by simp [EF]),?_⟩
     refine⟨rfl,?_⟩
     refine⟨⟨by simp,by omega⟩,?_⟩
     conv=>whnf
     have er:AB.row 132 3 (List.replicate (k+1) (G7 g)) = .row 132 3 (List.replicate k (G7 g) ++ [[AV.sl 1 j fun i=>(EF j).getD i [], .v (.int .i64 (g.d+1)), .v (.int .i64 0)]]):=by
      rw [List.replicate_succ',G7,<-ej]
     exact⟨k+1,by omega,by omega,(Wk.plain (by repeat' first | exact trivial | exact rfl | refine And.intro ?_ ?_ | exact AA (by omega) | exact er) (by repeat' first | exact trivial | exact rfl | refine And.intro ?_ ?_ | exact AA (by omega) | exact er) rfl rfl rfl)⟩
   ·refine⟨by simp,?_⟩
    exact⟨.tp [.ag (CE (A5 g s)), .v (.int .i64 0)],Bu ⟨AG (Qj g s (by omega)),ri,trivial⟩,rfl⟩
  ·obtain⟨e0,he0⟩:∃ e0,C5 s.data.toList=e0:=⟨_,rfl⟩
   rw [he0] at hL hl
   rw [if_pos rfl,if_neg (by rw [he0];exact hl),if_pos rfl,he0]
   have hb:(e0 != 0)=true:=bne_iff_ne.2 hl
   refine Fn.st Tryz.func63 rfl ?_
   conv=>whnf
   refine Fn.cl hG ?_
   conv=>whnf
   refine Fn.cl hL ?_
   conv=>whnf
   rw [hb]
   exact⟨_,Hd e0,rfl⟩
theorem T1 (n:Nat):List.replicate n (E4 ent0)=(List.replicate n ent0).map E4:=by simp
theorem FA {α:Type} {n i:Nat} {a d:α} (h:i<n):(List.replicate n a).getD i d=a:=by rw [List.getD_eq_getElem?_getD,List.getElem?_replicate_of_lt h];rfl
theorem Jg {i:Nat} (h:i<8):zero8.getD i 0=0:=by
 have:i=0\/i=1\/i=2\/i=3\/i=4\/i=5\/i=6\/i=7:=by omega
 rcases this with rfl | rfl | rfl | rfl | rfl | rfl | rfl | rfl <;> rfl
theorem Rr (g:Geo) (hg:AS g=true):Fn Tryz.prog 70 [.ag (A7 g)] fun r=>r = .tp [.ag [D8 (DF g)], .v (.int .i64 0)]:=by
 have hG:Fn Tryz.prog 46 [.ag (A7 g)] fun r=>r = .v (Ed (AS g)):=Ct g.z g.d g.sp g.sl g.an
 rw [hg] at hG
 obtain⟨h1,h2,h3,h4,h5⟩:=Am.1 hg
 have w1:IntKind.i64.wrap (g.d+1)=((g.d+1).toNat:Int):=by rw [wi (by omega)];omega
 have hS:=NQ zero8
 refine Fn.st Tryz.func70 rfl ?_
 conv=>whnf
 refine Fn.cl hG ?_
 refine⟨⟨rfl,by decide,by decide⟩,?_⟩
 conv=>whnf
 refine ACalls.shut hS.go ?_
 refine⟨rfl,?_⟩
 conv=>whnf
 refine ACalls.sub [bA zero8] ⟨fun c v h=>Rd.congr rfl (fun i hi=>?_) h,trivial⟩ ?_
 ·have hi':i<8:=hi
  rw [FA (by exact hi'),Jg hi'];rfl
 refine Fn.cl hS ?_
 conv=>whnf
 rw [w1]
 have hr:=T2 (g.d+1).toNat (by omega) 0 (Fx zero8:Nat) false (fun i=> [E4 ent0].getD i []) rfl
 refine ACalls.shut hr.go ?_
 refine⟨rfl,?_⟩
 conv=>whnf
 refine ACalls.beside hr rfl ?_
 rintro _ _ ⟨rfl,rfl⟩
 refine⟨by simp,?_⟩
 exact⟨.tp [.ag [D8 (DF g)], .v (.int .i64 0)],Bu ⟨AG ⟨AJ (f:=E4) (DF g) (by simp [DF]) (T1 _),trivial⟩,ri,trivial⟩,rfl⟩
structure Stt where
 a:An
 txns:List Tx
 only:Bool
 cursor:Int
 found:Int
 fixed:Int
 moved:Int
 lost:List Int
 deriving DecidableEq
def Fg (s:Stt):List AV:= [.v (.int .i64 s.a.gen), .v (.int .i64 s.a.epoch), .v (.int .i64 s.a.pos), .v (.int .i64 s.a.seq), .v (.int .i64 s.a.last), .v (.string s.a.label),H4 s.a.homes,DS s.txns, .v (.bool s.only), .v (.int .i64 s.cursor), .v (.int .i64 s.found), .v (.int .i64 s.fixed), .v (.int .i64 s.moved),iA s.lost]
def st0:Stt:=⟨an0, [],false,0,0,0,0, []⟩
@[reducible] def WY (g:Geo) (x:AV) (s:Stt):List AV:= [.v (.int .i64 g.z), .v (.int .i64 g.d), .v (.int .i64 g.sp), .v (.int .i64 g.sl), .v (.int .i64 g.an),x, .v (.int .i64 s.a.gen), .v (.int .i64 s.a.epoch), .v (.int .i64 s.a.pos), .v (.int .i64 s.a.seq), .v (.int .i64 s.a.last), .v (.string s.a.label),H4 s.a.homes,DS s.txns, .v (.bool s.only), .v (.int .i64 s.cursor), .v (.int .i64 s.found), .v (.int .i64 s.fixed), .v (.int .i64 s.moved),iA s.lost]
@[reducible] def NF (g:Geo) (s:Stt) (d:Dk):List AB:= [.box 116 (WY g (.bp 1 0) s), .box 164 (Lx (.ow 2 d.cells.length) (.ow 3 d.cache.length) d.reqs d.left), .row 87 3 (d.cells.map Bi), .row 130 2 (d.cache.map DA)]
@[reducible] def bwG (g:Geo) (s:Stt) (d:Dk):List AB:= [.box 116 (WY g (.bp 1 0) s), .box 164 (Lx (.ow 2 d.cells.length) (.ow 4 d.cache.length) d.reqs d.left), .row 87 3 (d.cells.map Bi), .dead, .row 130 2 (d.cache.map DA)]
theorem U6 (g:Geo) (s:Stt) (d:Dk):ConvH (NF g s d) (bwG g s d):=ConvH.move (H:=NF g s d) 1 3 (by decide) rfl rfl
theorem KU {m:Nat} (h:Nat.ble 4 m=true):∀ z∈ [1,2,3],z<m:=fun z hz=>by
 have:=Ad h
 simp at hz
 omega
theorem Ce {m:Nat} (h:Nat.ble 4 m=true):∀ z∈ [0,1,2,3],z<m:=fun z hz=>by
 have:=Ad h
 simp at hz
 omega
theorem Qe (g:Geo) (s:Stt) (d:Dk) (a:Int) (h:DkOk d) (ha:0<=a/\a<d.cells.length) :
  ACalls Tryz.prog false 167 [.bp 0 0, .v (.int .i64 a)] (NF g s d) fun r H=>r = .ag (BB ⟨(d.read a).2.2,(d.read a).2.1⟩)/\H=NF g s (d.read a).1:=by
 have hr:=Ux CH d a h.l ha h.m (fun c hc=>by have:=(h.c c hc).2.1;omega) (fun w hw=>by have:=(h.w w hw).2;omega)
 refine ACalls.ofR tys_ok Tryz.func167 rfl rfl (Ad rfl) ?_
 conv=>whnf
 refine ACalls.frame [1,2,3] hr rfl rfl rfl rfl (by decide) (KU rfl) ⟨rfl,rfl,rfl,trivial⟩ ?_
 rintro _ _ ⟨rfl,rfl⟩
 exact⟨_, .ag (BB ⟨(d.read a).2.2,(d.read a).2.1⟩),NF g s (d.read a).1,fun _ _ h=>h,WkN.r (s:= [0,1,2,3]) ⟨⟨rfl,trivial⟩,⟨rfl,rfl,rfl,rfl,trivial⟩,rfl,rfl,rfl,rfl,rfl⟩,rfl,rfl⟩
theorem Re (g:Geo) (s:Stt) (d:Dk) (a:Int) (b:List UInt8) (h:DkOk d) (ha:0<=a/\a<d.cells.length) (hb:b.length<=200) :
  ACalls Tryz.prog false 145 [.bp 0 0, .v (.int .i64 a),bA b] (NF g s d) fun r H=>r = .tp [.v (.bool (decide ((d.write a b).2=0))), .v (.int .i64 (if (d.write a b).2=8 then 8 else 0))]/\H=NF g s (d.write a b).1:=by
 have hr:=Sz CH d a b h.l ha h.m (by omega)
 have he:(d.write a b).2=8\/(d.write a b).2=7\/(d.write a b).2=0:=by
  unfold Dk.write;split
  ·exact .inl rfl
  ·split
   ·exact .inr (.inl rfl)
   ·exact .inr (.inr rfl)
 generalize d.write a b=q at hr he |-
 obtain⟨d',e⟩:=q
 simp only at hr he |-
 refine ACalls.ofR tys_ok Tryz.func145 rfl rfl (Ad rfl) ?_
 conv=>whnf
 refine ACalls.frame [1,2,3] hr rfl rfl rfl rfl (by decide) (KU rfl) ⟨rfl,rfl,rfl,trivial⟩ ?_
 rintro _ _ ⟨rfl,rfl⟩
 rcases he with rfl | rfl | rfl
 all_goals
  exact⟨_,_,NF g s d',fun _ _ h=>h,WkN.r (s:= [0,1,2,3]) ⟨⟨rfl,trivial⟩,⟨rfl,rfl,rfl,rfl,trivial⟩,rfl,rfl,rfl,rfl,rfl⟩,rfl,rfl⟩
@[reducible] def Wm (g:Geo) (s:Stt) (d:Dk) (l:List AB):List AB:= .box 116 (WY g (.bp 1 0) s):: .box 164 (Lx (.ow 2 d.cells.length) (.ow 3 d.cache.length) d.reqs d.left):: .row 87 3 (d.cells.map Bi):: .row 130 2 (d.cache.map DA)::l
def AF (d:Dk) (ats:List Int):List Gt:=ats.map (Nx d)
def BE (g:Geo):List Int:=(List.range g.an.toNat).map Int.ofNat
theorem Hp {d:Dk} {k:Nat} (a:Int) (h:¬(d.adv k).left=0):(d.adv k).read a=(d.adv (k+1),d.got a):=by
 rw [Dk.read,if_neg h,UG k d h,V_]
theorem Hq {d:Dk} {k:Nat} (a:Int) (h:(d.adv k).left=0):(d.adv k).read a=(d.adv k, [],8):=by rw [Dk.read,if_pos h]
theorem Im {d:Dk} {ats:List Int} {k:Nat} (h:k<ats.length):(AF d (ats.take (k+1))).map BB=(AF d (ats.take k)).map BB ++ [BB (Nx d (ats.getD k 0))]:=by
 rw [AF,AF,Ar h,Aq,Aq,List.getD_eq_getElem?_getD,List.getElem?_eq_getElem h];rfl
theorem CI (g:Geo):(BE g).length=g.an.toNat:=by simp [BE]
theorem J9 {g:Geo} {k:Nat} (h:k<g.an.toNat):(BE g).getD k 0=k:=by
 rw [BE,Bh (d:=0) (by simpa using h),List.getD_eq_getElem?_getD,List.getElem?_range h];rfl
theorem BY (d:Dk) (ats:List Int):(AF d ats).length=ats.length:=by simp [AF]
theorem Qs (g:Geo) (s:Stt) (d:Dk) (hg:AS g=true) (h:DkOk d) (hn:g.an<=d.cells.length) :
  ACalls Tryz.prog false 111 [.bp 0 0] (NF g s d) fun r H=>
   (d.live g.an.toNat->r = .tp [.ow 4 g.an.toNat, .v (.bool false)]/\H=Wm g s (d.adv g.an.toNat) [.row 187 2 ((AF d (BE g)).map BB)])/\
   (¬d.live g.an.toNat->r = .tp [.v (.slice none 0 0), .v (.bool true)]/\H=NF g s (d.adv g.an.toNat)):=by
 obtain⟨g1,g2,g3,g4,g5⟩:=Am.1 hg
 have hl:=h.l
 refine ACalls.ofR tys_ok Tryz.func111 rfl rfl (Ad rfl) ?_
 conv=>whnf
 refine aLoop.ruleRR Nat (fun k=>([(0, .bp 0 0),(2, .ow 4 k),(12, .v (.int .i64 g.an)),(13, .v (.int .i64 k))],Wm g s (d.adv k) [.row 187 2 ((AF d ((BE g).take k)).map BB)])) (fun k=>k<=g.an.toNat/\d.live k) (fun k=>g.an.toNat - k) 0 ⟨Ag _,by unfold Dk.live;omega⟩
  ⟨_,_,ConvF.refl _ _, [(2,187,2)],⟨rfl,rfl,trivial⟩, [0,1,2,3,4],⟨⟨rfl,rfl,rfl,rfl,trivial⟩,⟨rfl,rfl,rfl,rfl,rfl,trivial⟩,rfl,rfl,rfl,rfl,rfl⟩⟩ ?_
 rintro k ⟨hk,hlv⟩
 have hd:=h.adv k
 have hs:=D9 k d
 have hL:=He k d hl.1 hlv
 conv=>whnf
 refine Al (fun h6=>?_) (fun h6=>?_) <;> (repeat rw [Aa] at h6) <;> conv=>whnf
 ·have hk':k<g.an.toNat:=by omega
  have ha:=FB g k hg (by omega)
  have hgot:=Qe g s (d.adv k) k hd (by rw [hs.1];omega)
  refine Fn.cl ha ?_
  conv=>whnf
  by_cases h0:(d.adv k).left=0
  ·rw [Hq _ h0] at hgot
   refine ACalls.frame [0,1,2,3] hgot rfl rfl rfl rfl (by decide) (Ce rfl) ⟨rfl,rfl,rfl,rfl,trivial⟩ ?_
   rintro _ _ ⟨rfl,rfl⟩
   conv=>whnf
   have hnl:¬d.live g.an.toNat:=by have:=hL.1 h0;unfold Dk.live at *;omega
   have hst:=FE k g.an.toNat d h0 hk
   exact⟨_, .tp [.v (.slice none 0 0), .v (.bool true)],NF g s (d.adv k),fun _ _ h=>h,WkN.r (s:= [0,1,2,3]) ⟨⟨rfl,trivial⟩,⟨rfl,rfl,rfl,rfl,trivial⟩,rfl,rfl,rfl,rfl,rfl⟩,fun hh=>absurd hh hnl,fun _=>⟨rfl,by rw [hst]⟩⟩
  ·rw [Hp _ h0] at hgot
   have hlv':d.live (k+1):=by
    by_cases e:d.live (k+1)
    ·exact e
    ·exact absurd (hL.2 e) h0
   have he:¬(d.got (k:Int)).2=8:=by have:=Kr d (k:Int);omega
   have hG:Nx d ((BE g).getD k 0)=⟨(d.got (k:Int)).2,(d.got (k:Int)).1⟩:=by rw [J9 hk'];rfl
   generalize d.got (k:Int)=q at hgot he hG
   obtain⟨bs,e⟩:=q
   refine ACalls.frame [0,1,2,3] hgot rfl rfl rfl rfl (by decide) (Ce rfl) ⟨rfl,rfl,rfl,rfl,trivial⟩ ?_
   rintro _ _ ⟨rfl,rfl⟩
   conv=>whnf
   refine Af (fun h8=>absurd (by simpa using h8) he) (fun _=>?_)
   refine⟨rfl,?_⟩
   conv=>whnf
   refine And.intro ⟨by simp [BY,CI];omega,by omega⟩ ?_
   conv=>whnf
   exact⟨k+1,⟨hk',hlv'⟩,by omega,WkN.r (s:= [0,1,2,3,4]) ⟨⟨rfl,rfl,rfl,AA (by omega),trivial⟩,⟨rfl,rfl,rfl,rfl,congrArg (fun l=>some (AB.row _ _ l)) (by rw [Im (by rw [CI];exact hk'),hG];rfl),trivial⟩,rfl,rfl,rfl,rfl,rfl⟩⟩
 ·have ek:k=g.an.toNat:=by omega
  subst ek
  exact⟨_, .tp [.ow 4 g.an.toNat, .v (.bool false)],Wm g s (d.adv g.an.toNat) [.row 187 2 ((AF d (BE g)).map BB)],fun _ _ h=>h,WkN.r (s:= [0,1,2,3,4]) ⟨⟨rfl,trivial⟩,⟨rfl,rfl,rfl,rfl,by rw [show (BE g).take g.an.toNat=BE g from List.take_of_length_le (by rw [CI];exact Nat.le_refl _)];rfl,trivial⟩,rfl,rfl,rfl,rfl,rfl⟩,fun _=>⟨rfl,rfl⟩,fun hh=>absurd hlv hh⟩
def AL (g:Geo) (copy:Int):List Int:=(List.range g.sl.toNat).map fun i=>AN g copy (i:Nat)
theorem Cf (g:Geo) (c:Int):(AL g c).length=g.sl.toNat:=by simp [AL]
theorem KY {g:Geo} {c:Int} {k:Nat} (h:k<g.sl.toNat):(AL g c).getD k 0=AN g c k:=by
 rw [AL,Bh (d:=0) (by simpa using h),List.getD_eq_getElem?_getD,List.getElem?_range h];rfl
theorem Dt {g:Geo} (hg:AS g=true):g.an+2*g.sl+2*g.z<=A0 g:=by
 obtain⟨g1,g2,g3,g4,g5⟩:=Am.1 hg
 have hp:=GP hg
 have:0<=g.z*Cs g:=CP (by omega) (by omega)
 unfold A0
 omega
theorem Gc {g:Geo} {n:Nat} (hg:AS g=true) (hn:(n:Int)=A0 g) {c s:Int} (hc:c=0\/c=1) (hs:0<=s/\s<g.sl):0<=AN g c s/\AN g c s<n:=by
 obtain⟨g1,g2,g3,g4,g5⟩:=Am.1 hg
 have:=Dt hg
 unfold AN
 rcases hc with rfl | rfl <;> omega
theorem PY (g:Geo) (c s:Int) (hg:AS g=true) (hc:c=0\/c=1) (hs:0<=s/\s<g.sl):Fn Tryz.prog 68 [.ag (A7 g), .v (.int .i64 c), .v (.int .i64 s)] fun r=>r = .tp [.v (.int .i64 (AN g c s)), .v (.int .i64 0)]:=by
 have h:=Nq g c s
 have hl:Gh g c s=true:=by simp only [Gh,Bool.and_eq_true,AI];omega
 rwa [hg,hl] at h
theorem VU (g:Geo) (s:Stt) (d:Dk) (hg:AS g=true) (h:DkOk d) (hn:(d.cells.length:Int)=A0 g) :
  ACalls Tryz.prog false 113 [.bp 0 0] (NF g s d) fun r H=>
   (d.live (2*g.sl.toNat)->r = .tp [.ow 4 g.sl.toNat, .ow 5 g.sl.toNat, .v (.bool false)]/\H=Wm g s (d.adv (2*g.sl.toNat)) [.row 187 2 ((AF d (AL g 0)).map BB), .row 187 2 ((AF d (AL g 1)).map BB)])/\
   (¬d.live (2*g.sl.toNat)->r = .tp [.v (.slice none 0 0), .v (.slice none 0 0), .v (.bool true)]/\H=NF g s (d.adv (2*g.sl.toNat))):=by
 obtain⟨g1,g2,g3,g4,g5⟩:=Am.1 hg
 have hl:=h.l
 refine ACalls.ofR tys_ok Tryz.func113 rfl rfl (Ad rfl) ?_
 conv=>whnf
 refine aLoop.ruleRR Nat (fun k=>([(0, .bp 0 0),(2, .ow 4 k),(3, .ow 5 k),(14, .v (.int .i64 g.sl)),(15, .v (.int .i64 k))],Wm g s (d.adv (2*k)) [.row 187 2 ((AF d ((AL g 0).take k)).map BB), .row 187 2 ((AF d ((AL g 1).take k)).map BB)])) (fun k=>k<=g.sl.toNat/\d.live (2*k)) (fun k=>g.sl.toNat - k) 0 ⟨Ag _,by unfold Dk.live;omega⟩
  ⟨_,_,ConvF.refl _ _, [(2,187,2),(3,187,2)],⟨rfl,rfl,rfl,rfl,trivial⟩, [0,1,2,3,4,5],⟨⟨rfl,rfl,rfl,rfl,rfl,trivial⟩,⟨rfl,rfl,rfl,rfl,rfl,rfl,trivial⟩,rfl,rfl,rfl,rfl,rfl⟩⟩ ?_
 rintro k ⟨hk,hlv⟩
 have hd:=h.adv (2*k)
 have hs:=D9 (2*k) d
 have hL:=He (2*k) d hl.1 hlv
 conv=>whnf
 refine Al (fun h6=>?_) (fun h6=>?_) <;> (repeat rw [Aa] at h6) <;> conv=>whnf
 ·have hk':k<g.sl.toNat:=by omega
  have ha:=PY g 0 k hg (.inl rfl) (by omega)
  have ha1:=PY g 1 k hg (.inr rfl) (by omega)
  have hgot:=Qe g s (d.adv (2*k)) (AN g 0 k) hd (Gc hg (by rw [hs.1];exact hn) (.inl rfl) (by omega))
  have stop:(d.adv (2*k)).left=0->¬d.live (2*g.sl.toNat)/\d.adv (2*g.sl.toNat)=d.adv (2*k):=fun h0=>⟨by have:=hL.1 h0;unfold Dk.live at *;omega,FE _ _ d h0 (by omega)⟩
  refine aLoop.rounds 3 ?_
  conv=>whnf
  refine aSeq.go ?_
  conv=>whnf
  refine Fn.cl ha ?_
  conv=>whnf
  by_cases h0:(d.adv (2*k)).left=0
  ·rw [Hq _ h0] at hgot
   refine ACalls.frame [0,1,2,3] hgot rfl rfl rfl rfl (by decide) (Ce rfl) ⟨rfl,rfl,rfl,rfl,trivial⟩ ?_
   rintro _ _ ⟨rfl,rfl⟩
   exact⟨_, .tp [.v (.slice none 0 0), .v (.slice none 0 0), .v (.bool true)],NF g s (d.adv (2*k)),fun _ _ h=>h,WkN.r (s:= [0,1,2,3]) ⟨⟨rfl,trivial⟩,⟨rfl,rfl,rfl,rfl,trivial⟩,rfl,rfl,rfl,rfl,rfl⟩,fun hh=>absurd hh (stop h0).1,fun _=>⟨rfl,by rw [(stop h0).2]⟩⟩
  ·rw [Hp _ h0] at hgot
   have hlv':d.live (2*k+1):=by
    by_cases e:d.live (2*k+1)
    ·exact e
    ·exact absurd (hL.2 e) h0
   have hd1:=h.adv (2*k+1)
   have hs1:=D9 (2*k+1) d
   have hL1:=He (2*k+1) d hl.1 hlv'
   have hgot1:=Qe g s (d.adv (2*k+1)) (AN g 1 k) hd1 (Gc hg (by rw [hs1.1];exact hn) (.inr rfl) (by omega))
   have stop1:(d.adv (2*k+1)).left=0->¬d.live (2*g.sl.toNat)/\d.adv (2*g.sl.toNat)=d.adv (2*k+1):=fun h0=>⟨by have:=hL1.1 h0;unfold Dk.live at *;omega,FE _ _ d h0 (by omega)⟩
   have he:¬(d.got (AN g 0 k)).2=8:=by have:=Kr d (AN g 0 k);omega
   have hG:Nx d ((AL g 0).getD k 0)=⟨(d.got (AN g 0 k)).2,(d.got (AN g 0 k)).1⟩:=by rw [KY hk'];rfl
   generalize d.got (AN g 0 k)=q at hgot he hG
   obtain⟨bs,e⟩:=q
   refine ACalls.frame [0,1,2,3] hgot rfl rfl rfl rfl (by decide) (Ce rfl) ⟨rfl,rfl,rfl,rfl,trivial⟩ ?_
   rintro _ _ ⟨rfl,rfl⟩
   conv=>whnf
   refine Af (fun h8=>absurd (by simpa using h8) he) (fun _=>?_)
   refine⟨rfl,?_⟩
   conv=>whnf
   refine And.intro ⟨by simp [BY,Cf];omega,by omega⟩ ?_
   conv=>whnf
   repeat' (first | (refine aSeq.go ?_;conv=>whnf) | fail)
   refine Fn.cl ha1 ?_
   conv=>whnf
   by_cases h1:(d.adv (2*k+1)).left=0
   ·rw [Hq _ h1] at hgot1
    refine ACalls.frame [0,1,2,3] hgot1 rfl rfl rfl rfl (by decide) (Ce rfl) ⟨rfl,rfl,rfl,rfl,trivial⟩ ?_
    rintro _ _ ⟨rfl,rfl⟩
    exact⟨_, .tp [.v (.slice none 0 0), .v (.slice none 0 0), .v (.bool true)],NF g s (d.adv (2*k+1)),fun _ _ h=>h,WkN.r (s:= [0,1,2,3]) ⟨⟨rfl,trivial⟩,⟨rfl,rfl,rfl,rfl,trivial⟩,rfl,rfl,rfl,rfl,rfl⟩,fun hh=>absurd hh (stop1 h1).1,fun _=>⟨rfl,by rw [(stop1 h1).2]⟩⟩
   ·rw [Hp _ h1] at hgot1
    have hlv1:d.live (2*(k+1)):=by
     by_cases e:d.live (2*k+1+1)
     ·exact e
     ·exact absurd (hL1.2 e) h1
    have he1:¬(d.got (AN g 1 k)).2=8:=by have:=Kr d (AN g 1 k);omega
    have hG1:Nx d ((AL g 1).getD k 0)=⟨(d.got (AN g 1 k)).2,(d.got (AN g 1 k)).1⟩:=by rw [KY hk'];rfl
    generalize d.got (AN g 1 k)=q1 at hgot1 he1 hG1
    obtain⟨bs1,e1⟩:=q1
    refine ACalls.frame [0,1,2,3] hgot1 rfl rfl rfl rfl (by decide) (Ce rfl) ⟨rfl,rfl,rfl,rfl,trivial⟩ ?_
    rintro _ _ ⟨rfl,rfl⟩
    conv=>whnf
    refine Af (fun h8=>absurd (by simpa using h8) he1) (fun _=>?_)
    refine⟨rfl,?_⟩
    conv=>whnf
    refine And.intro ⟨by simp [BY,Cf];omega,by omega⟩ ?_
    conv=>whnf
    repeat' (first | (refine aSeq.go ?_;conv=>whnf) | fail)
    exact⟨k+1,⟨hk',hlv1⟩,by omega,WkN.r (s:= [0,1,2,3,4,5]) ⟨⟨rfl,rfl,rfl,rfl,AA (by omega),trivial⟩,⟨rfl,rfl,rfl,rfl,congrArg (fun l=>some (AB.row _ _ l)) (by rw [Im (by rw [Cf];exact hk'),hG];rfl),congrArg (fun l=>some (AB.row _ _ l)) (by rw [Im (by rw [Cf];exact hk'),hG1];rfl),trivial⟩,rfl,rfl,rfl,rfl,rfl⟩⟩
 ·have ek:k=g.sl.toNat:=by omega
  subst ek
  exact⟨_, .tp [.ow 4 g.sl.toNat, .ow 5 g.sl.toNat, .v (.bool false)],Wm g s (d.adv (2*g.sl.toNat)) [.row 187 2 ((AF d (AL g 0)).map BB), .row 187 2 ((AF d (AL g 1)).map BB)],fun _ _ h=>h,WkN.r (s:= [0,1,2,3,4,5]) ⟨⟨rfl,trivial⟩,⟨rfl,rfl,rfl,rfl,by rw [show (AL g 0).take g.sl.toNat=AL g 0 from List.take_of_length_le (by rw [Cf];exact Nat.le_refl _)];rfl,by rw [show (AL g 1).take g.sl.toNat=AL g 1 from List.take_of_length_le (by rw [Cf];exact Nat.le_refl _)];rfl,trivial⟩,rfl,rfl,rfl,rfl,rfl⟩,fun _=>⟨rfl,rfl⟩,fun hh=>absurd hlv hh⟩
def NE (n:Nat) (w:Wr):Prop:=(0<=w.addr/\w.addr<n)/\w.bytes.length<=200
theorem Fm {d:Dk} (h:DkOk d) {l:List Wr} (hl:∀ w∈l,NE d.cells.length w) (k:Nat):DkOk (d.writes (l.take k)).1/\(d.writes (l.take k)).1.cells.length=d.cells.length:=
 Pv (P:=fun x=>DkOk x/\x.cells.length=d.cells.length) l (fun x hx w hw=>⟨hx.1.write (by rw [hx.2];exact(hl w hw).1) (hl w hw).2,by rw [UO,hx.2]⟩) ⟨h,rfl⟩ k
theorem Hg (d:Dk) (a:Int) (b:List UInt8):(d.write a b).2=8\/(d.write a b).2=7\/(d.write a b).2=0:=by
 unfold Dk.write;split
 ·exact .inl rfl
 ·split
  ·exact .inr (.inl rfl)
  ·exact .inr (.inr rfl)
theorem Kh {d:Dk} {l:List Wr} {k:Nat} (hk:k<l.length) (h:(d.writes (l.take k)).2.2=false) :
  d.writes (l.take (k+1))=(((d.writes (l.take k)).1.write (l.getD k ⟨0, []⟩).addr (l.getD k ⟨0, []⟩).bytes).1,(d.writes (l.take k)).2.1+(if ((d.writes (l.take k)).1.write (l.getD k ⟨0, []⟩).addr (l.getD k ⟨0, []⟩).bytes).2=0 then 1 else 0),decide (((d.writes (l.take k)).1.write (l.getD k ⟨0, []⟩).addr (l.getD k ⟨0, []⟩).bytes).2=8)):=by
 rw [FJ d hk]
 unfold Ft
 rw [if_neg (by rw [h];decide)]
 simp only
 by_cases h8:((d.writes (l.take k)).1.write (l.getD k ⟨0, []⟩).addr (l.getD k ⟨0, []⟩).bytes).2=8
 ·rw [if_pos h8,h8];simp
 ·rw [if_neg h8,decide_eq_false h8]
theorem DM {d:Dk} {l:List Wr} (h:(d.writes l).2.2=true):d.putAll l=((d.writes l).1,(d.writes l).2.1,true):=by
 unfold Dk.putAll
 generalize d.writes l=q at h |-
 obtain⟨a,b,c⟩:=q
 simp only at h |-
 rw [if_pos h]
theorem DL {d:Dk} {l:List Wr} (h:(d.writes l).2.2=false):d.putAll l=if (d.writes l).1.left=0 then ((d.writes l).1,(d.writes l).2.1,true) else ((d.writes l).1.flush,(d.writes l).2.1,false):=by
 unfold Dk.putAll
 generalize d.writes l=q at h |-
 obtain⟨a,b,c⟩:=q
 simp only at h |-
 rw [if_neg (by rw [h];decide)]
theorem Fq {d:Dk} (h:DkOk d) {l:List Wr} (hl:∀ w∈l,NE d.cells.length w):DkOk (d.putAll l).1/\(d.putAll l).1.cells.length=d.cells.length:=by
 have hw:=Fm h hl l.length
 rw [List.take_length] at hw
 cases hd:(d.writes l).2.2 with
 | true=>rw [DM hd];exact hw
 | false=>
  rw [DL hd]
  split
  ·exact hw
  ·exact⟨hw.1.flush,by rw [VN,hw.2]⟩
def Dk.mend (d:Dk) (l:List Wr):Dk × Bool:=if l=[] then (d,false) else ((d.putAll l).1,(d.putAll l).2.2)
theorem TJ (g:Geo) (s:Stt) (d:Dk) (l:List Wr) (h:DkOk d) (hl:∀ w∈l,NE d.cells.length w) (hn:l.length<=1000000) :
  ACalls Tryz.prog false 115 [.bp 0 0,FF l] (NF g s d) fun r H=>r = .v (.int .i64 (if (d.mend l).2 then 8 else 0))/\H=bwG g s (d.mend l).1:=by
 refine ACalls.ofR tys_ok Tryz.func115 rfl rfl (Ad rfl) ?_
 conv=>whnf
 refine aLoop.ruleRR Nat (fun k=>([(0, .bp 0 0),(1,FF l),(9,FF l),(10, .v (.int .i64 l.length)),(11, .v (.int .i64 k))],Wm g s (d.writes (l.take k)).1 [])) (fun k=>k<=l.length/\(d.writes (l.take k)).2.2=false) (fun k=>l.length - k) 0 ⟨Ag _,rfl⟩
  (WkN.r (s:= [0,1,2,3]) ⟨⟨rfl,rfl,rfl,rfl,rfl,trivial⟩,⟨rfl,rfl,rfl,rfl,trivial⟩,rfl,rfl,rfl,rfl,rfl⟩) ?_
 rintro k ⟨hk,hlv⟩
 have hd:=Fm h hl k
 conv=>whnf
 refine Al (fun h6=>?_) (fun h6=>?_) <;> (repeat rw [Aa] at h6) <;> conv=>whnf
 ·have hk':k<l.length:=by omega
  have hm:=hl _ (AE (d:=(⟨0, []⟩:Wr)) hk')
  have hx:=Kh hk' hlv
  generalize hX:(d.writes (l.take k)).1=X at hd hx |-
  have hc:=Re g s X (l.getD k ⟨0, []⟩).addr (l.getD k ⟨0, []⟩).bytes hd.1 (by rw [hd.2];exact hm.1) hm.2
  refine⟨⟨by omega,by omega⟩,?_⟩
  conv=>whnf
  rw [Aa]
  generalize hW:l.getD k ⟨0, []⟩=W at hc hx hm |-
  have hE:=Hg X W.addr W.bytes
  generalize hQ:X.write W.addr W.bytes=Q at hc hx hE
  obtain⟨D,e⟩:=Q
  simp only at hx hE hc
  conv=>whnf
  refine ACalls.frame [0,1,2,3] hc rfl rfl rfl rfl (by decide) (Ce rfl) ⟨rfl,rfl,rfl,rfl,trivial⟩ ?_
  rintro _ _ ⟨rfl,rfl⟩
  rcases hE with rfl | hE
  ·rw [if_pos rfl]
   conv=>whnf
   have hdd:(d.writes (l.take (k+1))).2.2=true:=by rw [hx];rfl
   have hdl:d.writes l=d.writes (l.take (k+1)):=JE d hk' hdd
   have hne:l≠ []:=fun e=>by rw [e] at hk';simp at hk'
   have hp:d.mend l=(D,true):=by
    rw [Dk.mend,if_neg hne,DM (by rw [hdl];exact hdd),hdl,hx]
   rw [hp]
   exact⟨_, .v (.int .i64 8),bwG g s D,fun _ _ h=>h,WkN.rc (ConvF.ofH (ConvH.move 1 3 (by decide) rfl rfl)) (s:= [0,1,2,3,5]) ⟨⟨rfl,trivial⟩,⟨rfl,rfl,rfl,trivial,rfl,trivial⟩,rfl,rfl,rfl,rfl,rfl⟩,rfl,rfl⟩
  ·rw [if_neg (by omega)]
   conv=>whnf
   have h1:(d.writes (l.take (k+1))).1=D:=by rw [hx]
   have h2:(d.writes (l.take (k+1))).2.2=false:=by rw [hx];exact decide_eq_false (by omega)
   refine⟨k+1,⟨hk',h2⟩,by omega,?_⟩
   rw [h1]
   exact WkN.r (s:= [0,1,2,3]) ⟨⟨rfl,rfl,rfl,rfl,AA (by omega),trivial⟩,⟨rfl,rfl,rfl,rfl,trivial⟩,rfl,rfl,rfl,rfl,rfl⟩
 ·have ek:k=l.length:=by omega
  subst ek
  rw [List.take_length] at hlv hd
  rw [List.take_length]
  by_cases h0:l=[]
  ·have e:d.mend l=(d,false):=by rw [Dk.mend,if_pos h0]
   have e2:d.writes l=(d,0,false):=by rw [h0];rfl
   rw [e,e2]
   rw [show ((l.length:Int) == 0)=true by rw [h0];rfl]
   exact⟨_, .v (.int .i64 0),bwG g s d,fun _ _ h=>h,WkN.rc (ConvF.ofH (U6 g s d)) (s:= [0,1,2,3,4]) ⟨⟨rfl,trivial⟩,⟨rfl,rfl,rfl,trivial,rfl,trivial⟩,rfl,rfl,rfl,rfl,rfl⟩,rfl,rfl⟩
  ·rw [show ((l.length:Int) == 0)=false by rw [beq_eq_false_iff_ne];intro e;exact h0 (AU.1 (by omega))]
   have hp:d.mend l=(if (d.writes l).1.left=0 then ((d.writes l).1,true) else ((d.writes l).1.flush,false)):=by
    rw [Dk.mend,if_neg h0,DL hlv]
    split <;> rfl
   generalize (d.writes l).1=X at hp hd |-
   have hf:=Ly X hd.1.l hd.1.m (fun w hw=>(hd.1.w w hw).1)
   rw [hp]
   conv=>whnf
   refine ACalls.frame [1,2,3] hf rfl rfl rfl rfl (by decide) (KU rfl) ⟨rfl,rfl,rfl,trivial⟩ ?_
   rintro _ _ ⟨rfl,rfl⟩
   by_cases hX:X.left=0
   all_goals
    simp only [hX,if_true,if_false]
    exact⟨_,_,bwG g s _,fun _ _ h=>h,WkN.r (s:= [0,1,2,3,4]) ⟨⟨rfl,trivial⟩,⟨rfl,rfl,rfl,trivial,rfl,trivial⟩,rfl,rfl,rfl,rfl,rfl⟩,rfl,rfl⟩
def Au (g:Geo) (a:An):List Wr:=(List.range g.an.toNat).map fun i=>⟨(i:Nat),Cw a (i:Nat)⟩
theorem Dw (g:Geo) (a:An):(Au g a).length=g.an.toNat:=by simp [Au]
theorem FQ {g:Geo} {a:An} {k:Nat} (h:k<g.an.toNat):(Au g a).getD k ⟨0, []⟩=⟨(k:Nat),Cw a (k:Nat)⟩:=by
 rw [Au,Bh (d:=0) (by simpa using h),List.getD_eq_getElem?_getD,List.getElem?_range h];rfl
theorem Ka (g:Geo) (s:Stt) (d:Dk) (a:An) (hg:AS g=true) (ha:AY g a=true) (h:DkOk d) (hl:∀ w∈Au g a,NE d.cells.length w) :
  ACalls Tryz.prog false 77 [.bp 0 0, .ag (CE a)] (NF g s d) fun r H=>r = .tp [.v (.int .i64 (if (d.putAll (Au g a)).2.2 then 0 else ((d.putAll (Au g a)).2.1:Nat))), .v (.int .i64 (if (d.putAll (Au g a)).2.2 then 8 else 0))]/\H=bwG g s (d.putAll (Au g a)).1:=by
 obtain⟨g1,g2,g3,g4,g5⟩:=Am.1 hg
 have hlen:=Dw g a
 refine ACalls.ofR tys_ok Tryz.func77 rfl rfl (Ad rfl) ?_
 conv=>whnf
 refine aLoop.ruleRR Nat (fun k=>([(0, .bp 0 0),(3, .bp 4 0),(6, .v (.int .i64 (d.writes ((Au g a).take k)).2.1)),(19, .v (.int .i64 g.an)),(20, .v (.int .i64 k))],Wm g s (d.writes ((Au g a).take k)).1 [.box 40 (CE a)])) (fun k=>k<=(Au g a).length/\(d.writes ((Au g a).take k)).2.2=false/\(d.writes ((Au g a).take k)).2.1<=k) (fun k=>(Au g a).length - k) 0 ⟨Ag _,rfl,Nat.le_refl _⟩
  (WkN.r (s:= [0,1,2,3,4]) ⟨⟨rfl,rfl,rfl,rfl,rfl,trivial⟩,⟨rfl,rfl,rfl,rfl,rfl,trivial⟩,rfl,rfl,rfl,rfl,rfl⟩) ?_
 rintro k ⟨hk,hlv,hnk⟩
 have hd:=Fm h hl k
 conv=>whnf
 refine Al (fun h6=>?_) (fun h6=>?_) <;> (repeat rw [Aa] at h6) <;> conv=>whnf
 ·have hk':k<(Au g a).length:=by omega
  have hm:=hl _ (AE (d:=(⟨0, []⟩:Wr)) hk')
  have hx:=Kh hk' hlv
  rw [FQ (by omega)] at hx hm
  generalize hX:(d.writes ((Au g a).take k)).1=X at hd hx |-
  generalize hN:(d.writes ((Au g a).take k)).2.1=N at hx hnk |-
  have hga:=FB g k hg (by omega)
  have hnc:=O8 g a k hg ha (by omega)
  have hc:=Re g s X k (Cw a k) hd.1 (by rw [hd.2];exact hm.1) hm.2
  repeat' (first | (refine aSeq.go ?_;conv=>whnf) | fail)
  refine Fn.cl hga ?_
  conv=>whnf
  apply aDraw.treeK (0) tys_ok mixed (.one 0 (.one 1 (.one 2 (.one 3 (.one 4 (.one 5 (.one 6 (.one 7 (.one 8 (.one 9 (.one 10 (.one 11 .fin)))))))))))) (by kernel_rfl)
  conv=>whnf
  refine Fn.cl hnc ?_
  conv=>whnf
  have hE:=Hg X k (Cw a k)
  generalize hQ:X.write k (Cw a k)=Q at hc hx hE
  obtain⟨D,e⟩:=Q
  simp only at hx hE hc
  refine ACalls.frame [0,1,2,3] hc rfl rfl rfl rfl (by decide) (Ce rfl) ⟨rfl,rfl,rfl,rfl,trivial⟩ ?_
  rintro _ _ ⟨rfl,rfl⟩
  rcases hE with rfl | hE
  ·rw [if_pos rfl]
   conv=>whnf
   have hdd:(d.writes ((Au g a).take (k+1))).2.2=true:=by rw [hx];rfl
   have hdl:d.writes (Au g a)=d.writes ((Au g a).take (k+1)):=JE d hk' hdd
   have hp:(d.putAll (Au g a)).1=D/\(d.putAll (Au g a)).2.2=true:=by
    rw [DM (by rw [hdl];exact hdd),hdl,hx];exact⟨rfl,rfl⟩
   rw [hp.1,hp.2]
   exact⟨_, .tp [.v (.int .i64 0), .v (.int .i64 8)],bwG g s D,fun _ _ h=>h,WkN.rc (ConvF.ofH (ConvH.move 1 3 (by decide) rfl rfl)) (s:= [0,1,2,3,5]) ⟨⟨rfl,trivial⟩,⟨rfl,rfl,rfl,trivial,rfl,trivial⟩,rfl,rfl,rfl,rfl,rfl⟩,rfl,rfl⟩
  ·rw [if_neg (by omega)]
   have h1:(d.writes ((Au g a).take (k+1))).1=D:=by rw [hx]
   have h2:(d.writes ((Au g a).take (k+1))).2.2=false:=by rw [hx];exact decide_eq_false (by omega)
   have h3:(d.writes ((Au g a).take (k+1))).2.1=N+if e=0 then 1 else 0:=by rw [hx]
   rcases hE with rfl | rfl
   all_goals
    conv=>whnf
    repeat' (first | (refine aSeq.go ?_;conv=>whnf) | fail)
    refine⟨k+1,⟨hk',h2,by rw [h3];simp;omega⟩,by omega,?_⟩
    rw [h1,h3]
   ·exact WkN.r (s:= [0,1,2,3,4]) ⟨⟨rfl,rfl,rfl,rfl,AA (by omega),trivial⟩,⟨rfl,rfl,rfl,rfl,rfl,trivial⟩,rfl,rfl,rfl,rfl,rfl⟩
   ·exact WkN.r (s:= [0,1,2,3,4]) ⟨⟨rfl,rfl,AA (by omega),rfl,AA (by omega),trivial⟩,⟨rfl,rfl,rfl,rfl,rfl,trivial⟩,rfl,rfl,rfl,rfl,rfl⟩
 ·have ek:k=(Au g a).length:=by omega
  subst ek
  rw [List.take_length] at hlv hd hnk
  rw [List.take_length]
  have hp:=DL hlv
  generalize (d.writes (Au g a)).1=X at hp hd |-
  generalize (d.writes (Au g a)).2.1=N at hp |-
  have hf:=Ly X hd.1.l hd.1.m (fun w hw=>(hd.1.w w hw).1)
  rw [hp]
  refine ACalls.frame [1,2,3] hf rfl rfl rfl rfl (by decide) (KU rfl) ⟨rfl,rfl,rfl,trivial⟩ ?_
  rintro _ _ ⟨rfl,rfl⟩
  by_cases hX:X.left=0
  ·simp only [hX,if_true]
   exact⟨_, .tp [.v (.int .i64 0), .v (.int .i64 8)],bwG g s _,fun _ _ h=>h,WkN.r (s:= [0,1,2,3,5]) ⟨⟨rfl,trivial⟩,⟨rfl,rfl,rfl,trivial,rfl,trivial⟩,rfl,rfl,rfl,rfl,rfl⟩,rfl,rfl⟩
  ·simp only [hX,if_false]
   exact⟨_, .tp [.v (.int .i64 (N:Nat)), .v (.int .i64 0)],bwG g s _,fun _ _ h=>h,WkN.r (s:= [0,1,2,3,5]) ⟨⟨rfl,trivial⟩,⟨rfl,rfl,rfl,trivial,rfl,trivial⟩,rfl,rfl,rfl,rfl,rfl⟩,rfl,rfl⟩
theorem EN {g:Geo} {a:An} {n:Nat} (hg:AS g=true) (ha:AY g a=true) (hn:(n:Int)=A0 g):∀ w∈Au g a,NE n w:=by
 obtain⟨g1,g2,g3,g4,g5⟩:=Am.1 hg
 have hc:=Dt hg
 intro w hw
 simp only [Au,AH,AC] at hw
 obtain⟨i,hi,rfl⟩:=hw
 refine⟨⟨by show (0:Int)<=(i:Nat);omega,by show ((i:Nat):Int)<n;omega⟩,?_⟩
 show (CD (i:Nat) a.gen (Ir a)).length<=200
 rw [Fo]
 have:=J8 hg ha
 omega
theorem V9 {g:Geo} {a:An} {x y:Gt} {slot seq at_ of_ left:Int} {q:Rc × List Int × Int} (hl:a.label.size<=1000000) (hh:a.homes.length<=1000000) (hx:x.bytes.length<=100000) (hy:y.bytes.length<=100000) (hg:AS g=true) (ha:AY g a=true) (hs:BP slot 0 (g.sl - 1)=true)
  (h:Dv g a x y slot seq at_ of_ left=q) :
  Fn Tryz.prog 232 [.ag (A7 g), .ag (CE a), .ag (BB x), .ag (BB y), .v (.int .i64 slot), .v (.int .i64 seq), .v (.int .i64 at_), .v (.int .i64 of_), .v (.int .i64 left)]
   fun r=>r = .tp [.ag (EE q.1),iA q.2.1, .v (.int .i64 q.2.2), .v (.int .i64 0)]:=by
 have s:=VA g a x y slot seq at_ of_ left hl hh hx hy
 rw [hg,ha,hs,h] at s
 exact s
theorem Et {g:Geo} {s:ByteArray} (hg:AS g=true) (hs:C5 s.data.toList=0):AY g (A5 g s)=true:=by
 obtain⟨h1,h2,h3,h4,h5⟩:=Am.1 hg
 have hp:Ow ((List.range (g.d+1).toNat).map Int.ofNat) (g.d+1)=true:=by
  rcases(show g.d=1\/g.d=2\/g.d=3\/g.d=4 by omega) with h | h | h | h <;> rw [h] <;> decide
 have hh:DV g ⟨(List.range (g.d+1).toNat).map Int.ofNat,g.d+1,0⟩=true:=by
  simp [DV,hp,BP]
  omega
 simp [AY,A5,hs,BP]
 exact⟨by omega,by omega, .inr hh⟩
def IU (cs:List Cel) (w:Wr):List Cel:=cs.set w.addr.toNat { cs.getD w.addr.toNat cz with bytes:=w.bytes }
def Cr (cs:List Cel) (l:List Wr):List Cel:=l.foldl IU cs
theorem Lj (cs:List Cel) (w:Wr):(IU cs w).length=cs.length:=by simp [IU]
theorem CM (l:List Wr):∀ cs:List Cel,(Cr cs l).length=cs.length:=by
 induction l with
 | nil=>intro cs;rfl
 | cons w l ih=>intro cs;show (Cr (IU cs w) l).length=_;rw [ih,Lj]
theorem Es (cs:List Cel) {l:List Wr} {k:Nat} (h:k<l.length):Cr cs (l.take (k+1))=IU (Cr cs (l.take k)) (l.getD k ⟨0, []⟩):=by
 unfold Cr
 rw [Ba,List.foldl_append,List.getElem?_eq_getElem h]
 simp [List.getD_eq_getElem?_getD,List.getElem?_eq_getElem h]
theorem Fa (cs:List Cel) (w:Wr):(IU cs w).map Bi=(cs.map Bi).set w.addr.toNat (Bi { cs.getD w.addr.toNat cz with bytes:=w.bytes }):=by rw [IU,List.map_set]
def FH (g:Geo):List Cel:=List.replicate (A0 g).toNat cz
def E7 (g:Geo) (c:Int):List Wr:=(List.range g.sl.toNat).map fun i=>⟨AN g c (i:Nat),C6 g zeroC c (i:Nat)⟩
def Ew (g:Geo) (z:Int):List Wr:=(List.range 2).map fun k=>⟨CC g z (k:Nat),CD (CC g z (k:Nat)) 0 (CT (DF g))⟩
def D_ (g:Geo) (z:Int):List Wr:=(List.range (Cs g).toNat).map fun i=>⟨BI g z (i:Nat),CD (BI g z (i:Nat)) 0 zero8⟩
def Up (g:Geo) (s:ByteArray):List Cel:=Cr (FH g) (Au g (A5 g s))
def IY (g:Geo) (s:ByteArray):Nat->List Cel
 | 0=>Up g s
 | c+1=>Cr (IY g s c) (E7 g (c:Nat))
def E2 (g:Geo) (s:ByteArray):Nat->List Cel
 | 0=>IY g s 2
 | z+1=>Cr (Cr (E2 g s z) (Ew g (z:Nat))) (D_ g (z:Nat))
def FG (g:Geo) (s:ByteArray):Dk:=⟨E2 g s g.z.toNat, [],0, -1⟩
theorem IZ (g:Geo):(FH g).length=(A0 g).toNat:=by simp [FH]
theorem Uo (g:Geo) (s:ByteArray):(Up g s).length=(A0 g).toNat:=by rw [Up,CM,IZ]
theorem IX (g:Geo) (s:ByteArray):∀ c,(IY g s c).length=(A0 g).toNat
 | 0=>Uo g s
 | c+1=>by rw [IY,CM,IX g s c]
theorem Ec (g:Geo) (s:ByteArray):∀ z,(E2 g s z).length=(A0 g).toNat
 | 0=>IX g s 2
 | z+1=>by rw [E2,CM,CM,Ec g s z]
theorem Fp {α:Type} {f:Nat->α} {n k:Nat} {d:α} (h:k<n):((List.range n).map f).getD k d=f k:=by
 rw [Bh (d:=0) (by simpa using h),List.getD_eq_getElem?_getD,List.getElem?_range h];rfl
theorem Mf {g:Geo} (hg:AS g=true):DH g zeroC=true:=by
 simp [DH,hg,DQ,zeroC,Fe]
theorem IV (cs:List Cel) (l m:List Wr):Cr cs (l ++ m)=Cr (Cr cs l) m:=by unfold Cr;rw [List.foldl_append]
theorem IQ (cs:List Cel) (i a:Nat) (x:Cel) (ha:a<cs.length):(cs.set i x).getD a cz=if i=a then x else cs.getD a cz:=by
 rw [List.getD_eq_getElem?_getD,List.getElem?_set]
 by_cases h:i=a
 ·subst h;rw [if_pos rfl,if_pos rfl,if_pos ha];rfl
 ·rw [if_neg h,if_neg h,<-List.getD_eq_getElem?_getD]
theorem OV (cs:List Cel) (w:Wr) (a:Nat) (ha:a<cs.length):(IU cs w).getD a cz=if w.addr.toNat=a then { cs.getD a cz with bytes:=w.bytes } else cs.getD a cz:=by
 unfold IU
 rw [IQ _ _ _ _ ha]
 split
 ·rename_i h;rw [h]
 ·rfl
theorem J2 {F:List UInt8}:∀ (l:List Wr) (cs:List Cel) (a:Nat),a<cs.length->(∀ w∈l,w.addr.toNat=a->w.bytes=F)->((∃ w∈l,w.addr.toNat=a)\/(cs.getD a cz).bytes=F)->(Cr cs l).getD a cz={ cs.getD a cz with bytes:=F }
 | [],cs,a,_,_,h=>by
  rcases h with ⟨w,hw,_⟩ | h
  ·cases hw
  ·show cs.getD a cz=_
   rw [<-h]
 | w::l,cs,a,ha,hF,h=>by
  have hs:=OV cs w a ha
  have ha':a<(IU cs w).length:=by rw [Lj];exact ha
  have ih:=J2 (F:=F) l (IU cs w) a ha' (fun x hx=>hF x (A9 _ hx))
  show (Cr (IU cs w) l).getD a cz=_
  by_cases e:w.addr.toNat=a
  ·rw [if_pos e,hF w (by simp) e] at hs
   rw [ih (.inr (by rw [hs])),hs]
  ·rw [if_neg e] at hs
   rw [ih ?_,hs]
   rcases h with ⟨x,hx,hxa⟩ | h
   ·rcases Bq.1 hx with rfl | hx
    ·exact absurd hxa e
    ·exact .inl ⟨x,hx,hxa⟩
   ·exact .inr (by rw [hs];exact h)
theorem fmtL_miss:∀ (l:List Wr) (cs:List Cel) (a:Nat),a<cs.length->(∀ w∈l,w.addr.toNat≠a)->(Cr cs l).getD a cz=cs.getD a cz
 | [],_,_,_,_=>rfl
 | w::l,cs,a,ha,h=>by
  have hs:=OV cs w a ha
  rw [if_neg (h w (by simp))] at hs
  show (Cr (IU cs w) l).getD a cz=_
  rw [fmtL_miss l (IU cs w) a (by rw [Lj];exact ha) (fun x hx=>h x (A9 _ hx)),hs]
def JC (g:Geo):Nat->List Wr
 | 0=> []
 | z+1=>JC g z ++ (Ew g (z:Nat) ++ D_ g (z:Nat))
def Nz (g:Geo) (s:ByteArray):List Wr:=Au g (A5 g s) ++ (E7 g 0 ++ (E7 g 1 ++ JC g g.z.toNat))
theorem Un (g:Geo) (s:ByteArray):∀ z,E2 g s z=Cr (FH g) (Au g (A5 g s) ++ (E7 g 0 ++ (E7 g 1 ++ JC g z)))
 | 0=>by
  show Cr (Cr (Up g s) (E7 g 0)) (E7 g 1)=_
  rw [Up,<-IV,<-IV,JC,List.append_nil]
 | z+1=>by
  rw [E2,Un g s z,<-IV,<-IV,JC]
  simp only [List.append_assoc]
def IW (g:Geo) (s:ByteArray) (a:Int):List UInt8:=
 if a<g.an then Cw (A5 g s) a else if a<g.an+g.sl then C6 g zeroC 0 (a - g.an) else if a<g.an+2*g.sl then C6 g zeroC 1 (a - g.an - g.sl)
 else if a<g.an+2*g.sl+2*g.z then CD a 0 (CT (DF g)) else CD a 0 zero8
theorem Hf {g:Geo} (hg:AS g=true):∀ (n:Nat) (w:Wr),(n:Int)<=g.z->(w∈JC g n↔(∃ z k:Nat,z<n/\k<2/\w=⟨CC g z k,CD (CC g z k) 0 (CT (DF g))⟩)\/∃ z i:Nat,z<n/\i<(Cs g).toNat/\w=⟨BI g z i,CD (BI g z i) 0 zero8⟩)
 | 0,w,_=>by simp [JC]
 | n+1,w,h=>by
  rw [JC,Ax,Ax,Hf hg n w (by omega)]
  simp only [Ew,D_,AH,AC]
  constructor
  ·rintro((⟨z,k,h1,h2,h3⟩ | ⟨z,i,h1,h2,h3⟩) | ⟨k,h1,h2⟩ | ⟨i,h1,h2⟩)
   ·exact .inl ⟨z,k,by omega,h2,h3⟩
   ·exact .inr ⟨z,i,by omega,h2,h3⟩
   ·exact .inl ⟨n,k,by omega,h1,h2.symm⟩
   ·exact .inr ⟨n,i,by omega,h1,h2.symm⟩
  ·rintro(⟨z,k,h1,h2,h3⟩ | ⟨z,i,h1,h2,h3⟩)
   ·by_cases e:z=n
    ·subst e;exact .inr (.inl ⟨k,h2,h3.symm⟩)
    ·exact .inl (.inl ⟨z,k,by omega,h2,h3⟩)
   ·by_cases e:z=n
    ·subst e;exact .inr (.inr ⟨i,h2,h3.symm⟩)
    ·exact .inl (.inr ⟨z,i,by omega,h2,h3⟩)
theorem Q_ {g:Geo} {s:ByteArray} {a:Int} (h:a<g.an):IW g s a=Cw (A5 g s) a:=if_pos h
theorem Lk {g:Geo} {s:ByteArray} {c:Int} {i:Nat} (hc:c=0\/c=1) (hi:(i:Int)<g.sl):IW g s (AN g c i)=C6 g zeroC c i:=by
 unfold IW AN
 rcases hc with rfl | rfl
 ·rw [if_neg (by omega),if_pos (by omega)];congr 1;omega
 ·rw [if_neg (by omega),if_neg (by omega),if_pos (by omega)];congr 1;omega
theorem Um {g:Geo} {s:ByteArray} {z k:Nat} (h0:0<=g.sl) (hz:(z:Int)<g.z) (hk:k<2):IW g s (CC g z k)=CD (CC g z k) 0 (CT (DF g)):=by
 unfold IW
 have:CC g z k=g.an+2*g.sl+2*z+k:=rfl
 rw [if_neg (by omega),if_neg (by omega),if_neg (by omega),if_pos (by omega)]
theorem Ss {g:Geo} {s:ByteArray} {z i:Nat} (h0:0<=g.sl) (h1:0<=g.z) (h2:0<=Cs g):IW g s (BI g z i)=CD (BI g z i) 0 zero8:=by
 unfold IW
 have:BI g z i=g.an+2*g.sl+2*g.z+z*Cs g+i:=rfl
 have:0<=(z:Int)*Cs g:=CP (by omega) h2
 rw [if_neg (by omega),if_neg (by omega),if_neg (by omega),if_neg (by omega)]
theorem Oy {g:Geo} (hg:AS g=true):0<Cs g:=by
 obtain⟨g1,g2,g3,g4,g5⟩:=Am.1 hg
 unfold Cs;omega
theorem Ul {g:Geo} {s:ByteArray} (hg:AS g=true):∀ w∈Nz g s,0<=w.addr/\w.bytes=IW g s w.addr:=by
 obtain⟨g1,g2,g3,g4,g5⟩:=Am.1 hg
 have hp:=Oy hg
 intro w hw
 simp only [Nz,Ax,Hf hg g.z.toNat w (by omega)] at hw
 rcases hw with hw | hw | hw | ⟨z,k,h1,h2,rfl⟩ | ⟨z,i,h1,h2,rfl⟩
 ·simp only [Au,AH,AC] at hw
  obtain⟨i,hi,rfl⟩:=hw
  exact⟨by show (0:Int)<=(i:Nat);omega,(Q_ (by show ((i:Nat):Int)<g.an;omega)).symm⟩
 ·simp only [E7,AH,AC] at hw
  obtain⟨i,hi,rfl⟩:=hw
  exact⟨by show 0<=AN g 0 i;unfold AN;omega,(Lk (.inl rfl) (by omega)).symm⟩
 ·simp only [E7,AH,AC] at hw
  obtain⟨i,hi,rfl⟩:=hw
  exact⟨by show 0<=AN g 1 i;unfold AN;omega,(Lk (.inr rfl) (by omega)).symm⟩
 ·exact⟨by show 0<=CC g z k;unfold CC;omega,(Um (by omega) (by omega) h2).symm⟩
 ·have:0<=(z:Int)*Cs g:=CP (by omega) (by omega)
  exact⟨by show 0<=BI g z i;unfold BI;omega,(Ss (by omega) (by omega) (by omega)).symm⟩
theorem Uk {g:Geo} {s:ByteArray} (hg:AS g=true) {a:Int} (h0:0<=a) (h:a<A0 g):∃ w∈Nz g s,w.addr=a:=by
 obtain⟨g1,g2,g3,g4,g5⟩:=Am.1 hg
 have hp:=Oy hg
 by_cases h1:a<g.an
 ·refine⟨⟨a,Cw (A5 g s) a⟩,?_,rfl⟩
  simp only [Nz,Ax,Au,AH,AC]
  exact .inl ⟨a.toNat,by omega,by rw [B9 h0]⟩
 ·have hlog:∀ (c:Int) (i:Nat),(c=0\/c=1)->(i:Int)<g.sl->∃ w∈Nz g s,w.addr=AN g c i:=fun c i hc hi=>by
   refine⟨⟨AN g c i,C6 g zeroC c i⟩,?_,rfl⟩
   simp only [Nz,Ax,E7,AH,AC]
   rcases hc with rfl | rfl
   ·exact .inr (.inl ⟨i,by omega,rfl⟩)
   ·exact .inr (.inr (.inl ⟨i,by omega,rfl⟩))
  by_cases h2:a<g.an+g.sl
  ·obtain⟨w,hw,e⟩:=hlog 0 (a - g.an).toNat (.inl rfl) (by omega)
   exact⟨w,hw,by rw [e];unfold AN;omega⟩
  ·by_cases h3:a<g.an+2*g.sl
   ·obtain⟨w,hw,e⟩:=hlog 1 (a - g.an - g.sl).toNat (.inr rfl) (by omega)
    exact⟨w,hw,by rw [e];unfold AN;omega⟩
   ·by_cases h4:a<g.an+2*g.sl+2*g.z
    ·refine⟨⟨CC g (((a - (g.an+2*g.sl)).toNat / 2:Nat)) ((a - (g.an+2*g.sl)).toNat % 2:Nat),CD (CC g (((a - (g.an+2*g.sl)).toNat / 2:Nat)) ((a - (g.an+2*g.sl)).toNat % 2:Nat)) 0 (CT (DF g))⟩,?_,by show CC g _ _=a;unfold CC;omega⟩
     simp only [Nz,Ax,Hf hg g.z.toNat _ (by omega)]
     exact .inr (.inr (.inr (.inl ⟨_,_,by omega,by omega,rfl⟩)))
    ·have hq:a - (g.an+2*g.sl+2*g.z)=((a - (g.an+2*g.sl+2*g.z)).toNat:Int):=by omega
     generalize hX:(a - (g.an+2*g.sl+2*g.z)).toNat=X at hq
     have hP:Cs g=((Cs g).toNat:Int):=by omega
     have hX2:X<g.z.toNat*(Cs g).toNat:=by
      have:(X:Int)<g.z*Cs g:=by unfold A0 at h;omega
      rw [hP,show g.z=(g.z.toNat:Int) by omega] at this
      exact_mod_cast this
     generalize hPn:(Cs g).toNat=p at hP hX2
     have hp0:0<p:=by omega
     have hdm:(X / p)*p+X % p=X:=Nat.div_add_mod' X p
     refine⟨⟨BI g ((X / p:Nat)) ((X % p:Nat)),CD (BI g ((X / p:Nat)) ((X % p:Nat))) 0 zero8⟩,?_,?_⟩
     ·simp only [Nz,Ax,Hf hg g.z.toNat _ (by omega)]
      exact .inr (.inr (.inr (.inr ⟨X / p,X % p,Nat.div_lt_of_lt_mul (by rw [Dd];exact hX2),by rw [hPn];exact Nat.mod_lt _ hp0,rfl⟩)))
     ·show BI g _ _=a
      unfold BI
      rw [hP]
      have:((X / p:Nat):Int)*(p:Int)+((X % p:Nat):Int)=(X:Int):=by exact_mod_cast hdm
      omega
theorem OU {g:Geo} {s:ByteArray} (hg:AS g=true) {a:Int} (h0:0<=a) (h:a<A0 g):(FG g s).cells.getD a.toNat cz=⟨0,IW g s a, []⟩:=by
 have hl:a.toNat<(FH g).length:=by rw [IZ];omega
 obtain⟨w,hw,e⟩:=Uk (s:=s) hg h0 h
 have hall:=Ul (s:=s) hg
 show (E2 g s g.z.toNat).getD a.toNat cz=_
 rw [Un]
 refine(J2 (F:=IW g s a) (Nz g s) (FH g) a.toNat hl (fun x hx hxa=>?_) (.inl ⟨w,hw,by rw [e]⟩)).trans ?_
 ·have:=hall x hx
  rw [this.2]
  congr 1
  omega
 ·have:(FH g).getD a.toNat cz=cz:=by
   unfold FH
   rw [List.getD_eq_getElem?_getD,List.getElem?_replicate]
   split <;> rfl
  rw [this]
  rfl
structure Holds (d:Dk) (n:Int) (F:Int->List UInt8):Prop where
 len:(d.cells.length:Int)=n
 cache:d.cache=[]
 cell:∀ a:Int,0<=a->a<n->(d.cells.getD a.toNat cz).state=0/\(d.cells.getD a.toNat cz).bytes=F a
theorem Holds.got {d:Dk} {n:Int} {F:Int->List UInt8} (h:Holds d n F) {a:Int} (h0:0<=a) (h1:a<n):Nx d a=⟨0,F a⟩:=by
 obtain⟨e1,e2⟩:=h.cell a h0 h1
 have hg:d.got a=((d.cells.getD a.toNat cz).bytes,0):=by
  unfold Dk.got
  rw [h.cache]
  simp only [R_]
  rw [show (d.cells.getD a.toNat ⟨0, [], []⟩)=d.cells.getD a.toNat cz from rfl,if_pos e1]
 rw [Nx,hg,e2]
theorem M6 {g:Geo} {s:ByteArray} (hg:AS g=true):Holds (FG g s) (A0 g) (IW g s):=by
 have hc:=Dt hg
 obtain⟨g1,g2,g3,g4,g5⟩:=Am.1 hg
 refine⟨?_,rfl,fun a h0 h1=>by rw [OU hg h0 h1];exact⟨rfl,rfl⟩⟩
 show ((E2 g s g.z.toNat).length:Int)=_
 rw [Ec]
 omega
def C3 (g:Geo) (x:Gt) (addr:Int):Option An:=
 if x.err=0/\Cv x.bytes=0/\CX x.bytes=addr then
  match Cu g (BU x.bytes) with
  | some a=>if a.gen=Cq x.bytes then some a else none
  | none=>none
 else none
theorem DW (e:Value):∀ (c:Ctx) (v:Value),Rd (.tp [.ag [.v (.int .i64 0), .v (.int .i64 0), .v (.int .i64 0), .v (.int .i64 0), .v (.int .i64 0), .v (.string ⟨#[]⟩), .v (.slice none 0 0)], .v e]) c v->Rd (.tp [.ag (CE an0), .v e]) c v:=
 Bu (m:= [.ag (CE an0), .v e]) ⟨AG an0_sub,ri,trivial⟩
theorem K6 (b:List UInt8):(BU b).length<=b.length:=by simp [BU];omega
theorem TE (g:Geo) (x:Gt) (addr:Int) (hg:AS g=true) (hx:x.bytes.length<=100000) (ha:0<=addr/\addr<=65535):Fn Tryz.prog 168 [.ag (A7 g), .ag (BB x), .v (.int .i64 addr)] fun r=>r = .tp [.ag (CE ((C3 g x addr).getD an0)), .v (.bool (C3 g x addr).isSome)]:=by
 have hG:Fn Tryz.prog 46 [.ag (A7 g)] fun r=>r = .v (Ed (AS g)):=Ct g.z g.d g.sp g.sl g.an
 rw [hg] at hG
 have ho:=NR x.bytes hx
 by_cases h1:x.err=0
 ·by_cases h2:Cv x.bytes=0
  ·rw [if_pos h2,h2] at ho
   by_cases h3:CX x.bytes=addr
   ·have hr:=UC g (BU x.bytes) (by have:=K6 x.bytes;omega)
    have hS:C3 g x addr=match Cu g (BU x.bytes) with | some a=>if a.gen=Cq x.bytes then some a else none | none=>none:=by rw [C3,if_pos ⟨h1,h2,h3⟩]
    simp only [GN,hg,if_true,Bool.true_eq_false,if_false] at hr
    cases hR:Cu g (BU x.bytes) with
    | none=>
     rw [hR] at hr hS
     rw [hS]
     refine Fn.st Tryz.func168 rfl ?_
     conv=>whnf
     repeat' (first | (refine Af (fun h=>?_) (fun h=>?_) <;> (try simp at h) <;> conv=>whnf) | (refine aDraw.seq tys_ok mixed (by kernel_rfl) ?_;conv=>whnf) | (refine aSeq.go ?_;conv=>whnf) | (refine Fn.cl hG ?_;conv=>whnf) | (refine Fn.cl ho ?_;conv=>whnf) | (refine Fn.cl hr ?_;conv=>whnf) | (refine And.intro (by omega) ?_;conv=>whnf))
     all_goals first | exact⟨_,DW _,rfl⟩ | (exfalso;first | omega | (simp_all;done) | (simp_all;omega))
    | some a=>
     rw [hR] at hr hS
     by_cases h4:a.gen=Cq x.bytes
     ·have hS:C3 g x addr=some a:=hS.trans (if_pos h4)
      rw [hS]
      refine Fn.st Tryz.func168 rfl ?_
      conv=>whnf
      repeat' (first | (refine Af (fun h=>?_) (fun h=>?_) <;> (try simp at h) <;> conv=>whnf) | (refine aDraw.seq tys_ok mixed (by kernel_rfl) ?_;conv=>whnf) | (refine aSeq.go ?_;conv=>whnf) | (refine Fn.cl hG ?_;conv=>whnf) | (refine Fn.cl ho ?_;conv=>whnf) | (refine Fn.cl hr ?_;conv=>whnf) | (refine And.intro (by omega) ?_;conv=>whnf))
      all_goals first | exact⟨_,ri,rfl⟩ | (exfalso;first | omega | (simp_all;done) | (simp_all;omega))
     ·have hS:C3 g x addr=none:=hS.trans (if_neg h4)
      rw [hS]
      refine Fn.st Tryz.func168 rfl ?_
      conv=>whnf
      repeat' (first | (refine Af (fun h=>?_) (fun h=>?_) <;> (try simp at h) <;> conv=>whnf) | (refine aDraw.seq tys_ok mixed (by kernel_rfl) ?_;conv=>whnf) | (refine aSeq.go ?_;conv=>whnf) | (refine Fn.cl hG ?_;conv=>whnf) | (refine Fn.cl ho ?_;conv=>whnf) | (refine Fn.cl hr ?_;conv=>whnf) | (refine And.intro (by omega) ?_;conv=>whnf))
      all_goals first | exact⟨_,DW _,rfl⟩ | (exfalso;first | omega | (simp_all;done) | (simp_all;omega))
   ·have hS:C3 g x addr=none:=by rw [C3,if_neg (fun h=>h3 h.2.2)]
    rw [hS]
    refine Fn.st Tryz.func168 rfl ?_
    conv=>whnf
    repeat' (first | (refine Af (fun h=>?_) (fun h=>?_) <;> (try simp at h) <;> conv=>whnf) | (refine aDraw.seq tys_ok mixed (by kernel_rfl) ?_;conv=>whnf) | (refine aSeq.go ?_;conv=>whnf) | (refine Fn.cl hG ?_;conv=>whnf) | (refine Fn.cl ho ?_;conv=>whnf) | (refine And.intro (by omega) ?_;conv=>whnf))
    all_goals first | exact⟨_,DW _,rfl⟩ | (exfalso;first | omega | (simp_all;done) | (simp_all;omega))
  ·have hS:C3 g x addr=none:=by rw [C3,if_neg (fun h=>h2 h.2.1)]
   rw [if_neg h2] at ho
   obtain⟨e,he⟩:∃ e,Cv x.bytes=e:=⟨_,rfl⟩
   rw [he] at ho h2
   rw [hS]
   refine Fn.st Tryz.func168 rfl ?_
   conv=>whnf
   repeat' (first | (refine Af (fun h=>?_) (fun h=>?_) <;> (try simp at h) <;> conv=>whnf) | (refine aDraw.seq tys_ok mixed (by kernel_rfl) ?_;conv=>whnf) | (refine aSeq.go ?_;conv=>whnf) | (refine Fn.cl hG ?_;conv=>whnf) | (refine Fn.cl ho ?_;conv=>whnf) | (refine And.intro (by omega) ?_;conv=>whnf))
   all_goals first | exact⟨_,DW _,rfl⟩ | (exfalso;first | omega | (simp_all;done) | (simp_all;omega))
 ·have hS:C3 g x addr=none:=by rw [C3,if_neg (fun h=>h1 h.1)]
  rw [hS]
  refine Fn.st Tryz.func168 rfl ?_
  conv=>whnf
  repeat' (first | (refine Af (fun h=>?_) (fun h=>?_) <;> (try simp at h) <;> conv=>whnf) | (refine aDraw.seq tys_ok mixed (by kernel_rfl) ?_;conv=>whnf) | (refine aSeq.go ?_;conv=>whnf) | (refine Fn.cl hG ?_;conv=>whnf) | (refine And.intro (by omega) ?_;conv=>whnf))
  all_goals first | exact⟨_,DW _,rfl⟩ | (exfalso;first | omega | (simp_all;done) | (simp_all;omega))
theorem ConvH.subBox {H:List AB} (k:Nat) {t:TypeId} {cs cs':List AV} (hk:H[k]? = some (.box t cs)) (h:SubL cs cs'):ConvH H (H.set k (.box t cs')):=fun _ _ c hs=>
 ⟨c,rfl,hs.recell hk rfl fun⟨g,xs,h1,h2,h3,h4⟩=>⟨g,xs,h1,h2,h.rdl h3,h4⟩,Ext.refl c⟩
def Mb (g:Geo) (l:List Gt) (st:Option (An × Nat)) (i:Nat):Option (An × Nat):=
 match C3 g (l.getD i ⟨0, []⟩) (i:Nat) with
 | none=>st
 | some b=>match st with
  | none=>some (b,i)
  | some (a,j)=>if a.gen<b.gen then some (b,i) else some (a,j)
def Du (g:Geo) (l:List Gt) (k:Nat):Option (An × Nat):=(List.range k).foldl (Mb g l) none
def En (g:Geo) (l:List Gt):Option (An × Nat):=Du g l l.length
theorem Gs (g:Geo) (l:List Gt) (k:Nat):Du g l (k+1)=Mb g l (Du g l k) k:=by rw [Du,Bo,List.foldl_append];rfl
def X5 (p:Option (An × Nat)):An:=match p with | some (a,_)=>a | none=>an0
def XB (p:Option (An × Nat)):Nat:=match p with | some (_,i)=>i | none=>0
def XR (p:Option (An × Nat)):Int:=match p with | some _=>0 | none=>11
theorem Vt (g:Geo) (l:List Gt) (hg:AS g=true) (hl:(l.length:Int)=g.an) (hb:∀ x∈l,x.bytes.length<=100000):Fn Tryz.prog 112 [.ag (A7 g),BZ l] fun r=>r = .tp [.ag (CE (X5 (En g l))), .v (.int .i64 (XB (En g l):Nat)), .v (.int .i64 (XR (En g l)))]:=by
 have hG:Fn Tryz.prog 46 [.ag (A7 g)] fun r=>r = .v (Ed (AS g)):=Ct g.z g.d g.sp g.sl g.an
 rw [hg] at hG
 obtain⟨g1,g2,g3,g4,g5⟩:=Am.1 hg
 refine Fn.st Tryz.func112 rfl ?_
 conv=>whnf
 refine Fn.cl hG ?_
 conv=>whnf
 refine Al (fun hq=>absurd hl hq) (fun _=>?_)
 conv=>whnf
 refine aLoop.ruleRR Nat (fun k=>([(1,BZ l),(2, .bp 0 0),(4, .bp 1 0),(5, .v (.int .i64 (XB (Du g l k):Nat))),(6, .v (.int .i64 (XR (Du g l k)))),(25,BZ l),(26, .v (.int .i64 l.length)),(27, .v (.int .i64 k))], [.box 23 (A7 g), .box 40 (CE (X5 (Du g l k)))])) (fun k=>k<=l.length) (fun k=>l.length - k) 0 (Ag _)
  (WkN.rc (ConvF.ofH (ConvH.subBox 1 rfl an0_sub)) (s:= [0,1]) ⟨⟨rfl,rfl,rfl,rfl,rfl,rfl,rfl,rfl,trivial⟩,⟨rfl,rfl,trivial⟩,rfl,rfl,rfl,rfl,rfl⟩) ?_
 intro k hk
 have hsucc:=Gs g l k
 conv=>whnf
 refine Al (fun h6=>?_) (fun h6=>?_) <;> (repeat rw [Aa] at h6) <;> conv=>whnf
 ·have hk':k<l.length:=by omega
  have hx:=hb _ (AE (d:=(⟨0, []⟩:Gt)) hk')
  have h1:=FB g k hg (by omega)
  have h2:=TE g (l.getD k ⟨0, []⟩) k hg hx (by omega)
  rw [Mb] at hsucc
  repeat' (first | (refine aSeq.go ?_;conv=>whnf) | fail)
  refine⟨⟨by omega,by omega⟩,?_⟩
  conv=>whnf
  repeat' (first | (refine aSeq.go ?_;conv=>whnf) | fail)
  refine Fn.cl h1 ?_
  conv=>whnf
  rw [Aa]
  refine Fn.cl h2 ?_
  conv=>whnf
  generalize C3 g (l.getD k ⟨0, []⟩) (k:Nat)=S at hsucc |-
  generalize Du g l k=P at hsucc |-
  cases S with
  | none=>
   conv=>whnf
   repeat' (first | (refine aSeq.go ?_;conv=>whnf) | fail)
   refine⟨k+1,hk',by omega,?_⟩
   rw [show Du g l (k+1)=P from hsucc]
   exact WkN.r (s:= [0,1]) ⟨⟨rfl,rfl,rfl,rfl,rfl,rfl,rfl,AA (by omega),trivial⟩,⟨rfl,rfl,trivial⟩,rfl,rfl,rfl,rfl,rfl⟩
  | some b=>
   cases P with
   | none=>
    conv=>whnf
    repeat' (first | (refine aSeq.go ?_;conv=>whnf) | fail)
    refine⟨k+1,hk',by omega,?_⟩
    rw [show Du g l (k+1)=some (b,k) from hsucc]
    exact WkN.r (s:= [0,1]) ⟨⟨rfl,rfl,rfl,rfl,rfl,rfl,rfl,AA (by omega),trivial⟩,⟨rfl,rfl,trivial⟩,rfl,rfl,rfl,rfl,rfl⟩
   | some q=>
    obtain⟨a,j⟩:=q
    by_cases h5:a.gen<b.gen
    ·have e:Du g l (k+1)=some (b,k):=hsucc.trans (if_pos h5)
     conv=>whnf
     refine Al (fun h7=>?_) (fun h7=>absurd h5 (Int.not_lt.2 (show b.gen<=a.gen from h7)))
     conv=>whnf
     repeat' (first | (refine aSeq.go ?_;conv=>whnf) | fail)
     refine⟨k+1,hk',by omega,?_⟩
     rw [e]
     exact WkN.r (s:= [0,1]) ⟨⟨rfl,rfl,rfl,rfl,rfl,rfl,rfl,AA (by omega),trivial⟩,⟨rfl,rfl,trivial⟩,rfl,rfl,rfl,rfl,rfl⟩
    ·have e:Du g l (k+1)=some (a,j):=hsucc.trans (if_neg h5)
     conv=>whnf
     refine Al (fun h7=>absurd (show a.gen<b.gen from h7) h5) (fun h7=>?_)
     conv=>whnf
     repeat' (first | (refine aSeq.go ?_;conv=>whnf) | fail)
     refine⟨k+1,hk',by omega,?_⟩
     rw [e]
     exact WkN.r (s:= [0,1]) ⟨⟨rfl,rfl,rfl,rfl,rfl,rfl,rfl,AA (by omega),trivial⟩,⟨rfl,rfl,trivial⟩,rfl,rfl,rfl,rfl,rfl⟩
 ·have ek:k=l.length:=by omega
  subst ek
  exact⟨_,ri,rfl⟩
theorem Ww {x y:Tx} (h1:x.seq=y.seq) (h2:x.pos=y.pos) (h3:x.n=y.n) (h4:x.images=y.images):x=y:=by
 cases x;cases y;simp_all
theorem UR (l m:List Tx) (hl:l.length<=1000000000) (hb:∀ t∈l,t.images.length<=1000000000/\∀ x∈t.images,x.bytes.length<=100000000000):Fn Tryz.prog 18 [DS l,DS m] fun r=>r = .v (.bool (decide (l=m))):=by
 refine Fn.st Tryz.func18 rfl ?_
 conv=>whnf
 refine Al (fun h=>?_) (fun h=>?_) <;> (repeat rw [Aa] at h) <;> conv=>whnf
 ·exact⟨_,ri,by rw [decide_eq_false (fun e=>h (by rw [e]))]⟩
 refine aLoop.rule Nat (fun k=>([(0,DS l),(1,DS m),(5, .v (.int .i64 k))], [])) (fun k=>k<=l.length/\l.take k=m.take k) (fun k=>l.length - k) 0 ⟨Ag _,by simp⟩ ⟨[],trivial,⟨rfl,rfl,rfl,trivial⟩,trivial,rfl,rfl,rfl⟩ ?_
 rintro k ⟨hk,hI⟩
 conv=>whnf
 refine Al (fun h2=>?_) (fun h2=>?_) <;> (repeat rw [Aa] at h2) <;> conv=>whnf
 ·have hm:=hb _ (AE (d:=⟨0,0,0, []⟩) (show k<l.length by omega))
  refine aDraw.seq tys_ok mixed (by kernel_rfl) ?_
  conv=>whnf
  repeat' (first | (refine aSeq.go ?_;conv=>whnf) | (refine Al (fun _=>?_) (fun _=>?_) <;> conv=>whnf) | (refine Fn.cl (Si (l.getD k ⟨0,0,0, []⟩).images (m.getD k ⟨0,0,0, []⟩).images hm.1 hm.2) ?_;conv=>whnf) | (refine And.intro (by first | omega | exact of_decide_eq_true rfl) ?_;conv=>whnf) | fail)
  all_goals first
   | exact⟨_,ri,by rw [decide_eq_false (D0 (fun e=>absurd (congrArg Tx.seq e) ‹_›))]⟩
   | exact⟨_,ri,by rw [decide_eq_false (D0 (fun e=>absurd (congrArg Tx.pos e) ‹_›))]⟩
   | exact⟨_,ri,by rw [decide_eq_false (D0 (fun e=>absurd (congrArg Tx.n e) ‹_›))]⟩
   | exact⟨_,ri,by rw [decide_eq_false (D0 (fun e=>absurd (congrArg Tx.images e) ‹_›))]⟩
   | exact⟨k+1,⟨by omega,Ev hI (by omega) (by omega) (Ww ‹_› ‹_› ‹_› ‹_›)⟩,by omega,⟨[],trivial,⟨rfl,rfl,AA (by omega),trivial⟩,trivial,rfl,rfl,rfl⟩⟩
 ·exact⟨_,ri,by rw [decide_eq_true (FD hI (by omega) (by omega))]⟩

theorem My {a:An} (h:F9 a=false):a.homes.length<=10/\a.label.size<=200:=by
 simp only [F9,Dh,decide_eq_false_iff_not] at h
 omega
end Go.Proofs.YtldngmdpiifamaaGreatDoor.A
end
section
namespace Go.Proofs.YtldngmdpiifamaaGreatDoor
open Go.ChangeShapes Go.WideShapes Go.ChangeAt Go.RowKit Go.Deep
variable {H:Type} {enc:TypeId × Value->H}

theorem Ru {w:World} {a:Addr} {u:Value} (h:w.cell? a=some u):a.spot=none:=by
 unfold World.cell? at h
 split at h
 ·split at h
  ·cases h
  ·rename_i hn
   cases hs:a.spot with
   | none=>rfl
   | some x=>rw [hs] at hn;exact absurd rfl hn
 ·cases h

theorem VG {k:Int} (h:(Lit.int .i64 k).wf=true):k<=9223372036854775807:=by
 have h2:IntKind.i64.min<=k/\k<=IntKind.i64.max:=by
  simp only [Lit.wf,Bool.and_eq_true,decide_eq_true_eq] at h
  exact h
 have e2:IntKind.i64.max=9223372036854775807:=by decide
 omega
theorem VF {k:Int} (h:(Lit.int .i64 k).wf=true) : -9223372036854775808<=k:=by
 have h2:IntKind.i64.min<=k/\k<=IntKind.i64.max:=by
  simp only [Lit.wf,Bool.and_eq_true,decide_eq_true_eq] at h
  exact h
 have e2:IntKind.i64.min = -9223372036854775808:=by decide
 omega
theorem Xj {k:Int} (h:(Lit.int .u8 k).wf=true):∃ x:UInt8,k=x.toNat:=by
 have h2:0<=k/\k<256:=by
  simp only [Lit.wf,Bool.and_eq_true,decide_eq_true_eq] at h
  have e1:IntKind.u8.min=0:=by decide
  have e2:IntKind.u8.max=255:=by decide
  omega
 obtain⟨j,rfl⟩:=Cx h2.1
 exact⟨UInt8.ofNat j,by rw [Bp (show j<256 by omega)]⟩
instance:Rp Geo where
 sz:=5
 agg:=true
 pos:=by omega
 E:=fun _ _ cs g=>cs=[.int .i64 g.z, .int .i64 g.d, .int .i64 g.sp, .int .i64 g.sl, .int .i64 g.an]
 len:=fun h=>by rw [h];rfl
 one:=fun h u hu=>by rw [h] at hu;simp at hu;rcases hu with rfl | rfl | rfl | rfl | rfl <;> rfl
 mono:=fun _ h=>h
end Go.Proofs.YtldngmdpiifamaaGreatDoor
end
section
namespace Go.Proofs.YtldngmdpiifamaaGreatDoor.A
open Go.RowKit
def Kg (w:World):Ctx:={ w:=w,M:=noM,base:=w.heap.size,dom:=0,len:=fun _=>0,rho:=fun _=>undef }
theorem Fn.any {P:Program} {f:FuncId} {args:List AV} {a:AV} (h:Fn P f args fun r=>r=a) (w:World) (hg:globOk w) (us:List Value) (hr:RdL args (Kg w) us) :
  Calls P f us.toArray w fun e w'=>∃ v,e = .returned v/\Below w.heap.size w w'/\Rd a { Kg w with w:=w' } v:=by
 refine(h.calls (Kg w) us rfl (fun _ h=>h.elim) hg hr).mono ?_
 rintro e w' ⟨v,r,rfl,rfl,h1,h2⟩
 exact⟨v,rfl,h1,h2⟩
theorem Fn.anyV {P:Program} {f:FuncId} {args:List AV} {a:Value} (h:Fn P f args fun r=>r = .v a) (w:World) (hg:globOk w) (us:List Value) (hr:RdL args (Kg w) us) :
  Calls P f us.toArray w fun e w'=>e = .returned a/\Below w.heap.size w w':=by
 refine(h.any w hg us hr).mono ?_
 rintro e w' ⟨v,rfl,h1,h2⟩
 simp only [Rd] at h2
 exact⟨by rw [h2],h1⟩
end Go.Proofs.YtldngmdpiifamaaGreatDoor.A
end
section
namespace Go.Proofs.YtldngmdpiifamaaGreatDoor.A
open Go.RowKit Go.ChangeShapes Go.WideShapes Go.ChangeAt Go.Deep
open Go.ChangeMaps (open_string)

section
variable {H:Type} {enc:TypeId × Value->H} {w:World}
def OpenE (enc:TypeId × Value->H) (w:World) (t:TypeId) (sz:Nat) (G:List AV->Prop):Prop:=
 Tryz.prog.cellsOf t=sz/\∀ n cs x,DataW.trod enc Tryz.prog w 0 (fun _=>true) true n t cs=some x->∃ L,G L/\RdL L (Kg w) cs/\(∀ u∈cs,u.oneCell'=true)/\L.length=sz
theorem OpenE.mono {t sz:Nat} {G G':List AV->Prop} (h:OpenE enc w t sz G) (hg:∀ L,G L->G' L):OpenE enc w t sz G':=
 ⟨h.1,fun n cs x hx=>let ⟨L,h1,h2⟩:=h.2 n cs x hx;⟨L,hg L h1,h2⟩⟩
def Xq (L:List AV):Prop:=∃ k:Int,L=[.v (.int .i64 k)]/\ -9223372036854775808<=k/\k<=9223372036854775807
def XY (L:List AV):Prop:=∃ k:UInt8,L=[.v (.int .u8 k.toNat)]
def Wh (L:List AV):Prop:=∃ k:Bool,L=[.v (.bool k)]
def Xp (L:List AV):Prop:=∃ k:ByteArray,L=[.v (.string k)]
theorem WG {t:Nat} (ht:Tryz.prog.underlying t=some (.int .i64)) (hc:Tryz.prog.cellsOf t=1):OpenE enc w t 1 Xq:=⟨hc,fun n cs x h=>by
 obtain⟨k,rfl, -,hw⟩:=DataW.trod_int ht h
 exact⟨_,⟨k,rfl,VF hw,VG hw⟩,by simp only [RdL,Rd];exact⟨_,_,rfl,rfl,rfl⟩,by simp [Value.oneCell'],rfl⟩⟩
theorem Xm {t:Nat} (ht:Tryz.prog.underlying t=some (.int .u8)) (hc:Tryz.prog.cellsOf t=1):OpenE enc w t 1 XY:=⟨hc,fun n cs x h=>by
 obtain⟨k,rfl, -,hw⟩:=DataW.trod_int ht h
 obtain⟨y,rfl⟩:=Xj hw
 exact⟨_,⟨y,rfl⟩,by simp only [RdL,Rd];exact⟨_,_,rfl,rfl,rfl⟩,by simp [Value.oneCell'],rfl⟩⟩
theorem Vz {t:Nat} (ht:Tryz.prog.underlying t=some .bool) (hc:Tryz.prog.cellsOf t=1):OpenE enc w t 1 Wh:=⟨hc,fun n cs x h=>by
 obtain⟨k,rfl, -⟩:=DataW.trod_bool ht h
 exact⟨_,⟨k,rfl⟩,by simp only [RdL,Rd];exact⟨_,_,rfl,rfl,rfl⟩,by simp [Value.oneCell'],rfl⟩⟩
theorem WF {t:Nat} (ht:Tryz.prog.underlying t=some .string) (hc:Tryz.prog.cellsOf t=1):OpenE enc w t 1 Xp:=⟨hc,fun n cs x h=>by
 obtain⟨k,rfl, -⟩:=DataW.trod_string ht h
 exact⟨_,⟨k,rfl⟩,by simp only [RdL,Rd];exact⟨_,_,rfl,rfl,rfl⟩,by simp [Value.oneCell'],rfl⟩⟩
def XZ {α:Type} (sz:Nat) (f:α->List AV) (d:α) (L:List AV):Prop:=∃ l:List α,L=[.sl sz l.length fun i=>f (l.getD i d)]
theorem KO {α:Type} {t e sz:Nat} {f:α->List AV} {d:α} (ht:Tryz.prog.underlying t=some (.slice e)) (hc:Tryz.prog.cellsOf t=1) (hsz:0<sz) (he:OpenE enc w e sz fun L=>∃ a,L=f a):OpenE enc w t 1 (XZ sz f d):=⟨hc,fun n cs x h=>by
 have hnil:∀ (u:Value),Rd (.v (.slice none 0 0)) (Kg w) u->Rd (.sl sz ([]:List α).length fun i=>f (([]:List α).getD i d)) (Kg w) u:=fun u h=>by
  simp only [Rd] at h |-
  exact⟨none,0,h,by simp,by simp [maxLen], .inl rfl⟩
 rcases open_slice ht h with ⟨rfl, -⟩ | ⟨a,len,cap,m,n',D,Pl,rfl, -,hlc,hcm,hm, -,hel'⟩
 ·exact⟨_,⟨[],rfl⟩,by simp only [RdL];exact⟨_,_,rfl,hnil _ (by simp [Rd]),rfl⟩,by simp [Value.oneCell'],rfl⟩
 ·simp only [if_true] at hm
  subst hm
  obtain⟨b,off,spot⟩:=a
  by_cases h0:len=0
  ·subst h0
   refine⟨_,⟨[],rfl⟩,?_,by simp [Value.oneCell'],rfl⟩
   simp only [RdL,Rd]
   exact⟨_,_,rfl,⟨_,m,rfl,by simp,hcm, .inl rfl⟩,rfl⟩
  ·have hsp:spot=none:=by
    obtain⟨cs',hc',htr⟩:=hel' 0 (by omega)
    obtain⟨L,⟨a,rfl⟩,hR,h1,hl⟩:=he.2 n' cs' _ htr
    obtain⟨-,hl2,hcell⟩:=World.cells?_some hc'
    have hlen:=hR.length
    have:=hcell 0 (by rw [he.1];omega)
    rw [List.getElem?_eq_getElem (by omega)] at this
    simp only [Addr.add,Nat.zero_mul,if_true] at this
    exact Ru this
   subst hsp
   have key:∀ i,i<len->∃ cs,∃ a:α,RdL (f a) (Kg w) cs/\(∀ u∈cs,u.oneCell'=true)/\(f a).length=sz/\∀ j u,cs[j]? = some u->w.cell? ⟨b,off+(i*sz+j),none⟩=some u:=fun i hi=>by
    obtain⟨cs',hc',htr⟩:=hel' i (by omega)
    obtain⟨L,⟨a,rfl⟩,hR,h1,hl⟩:=he.2 n' cs' _ htr
    refine⟨cs',a,hR,h1,hl,fun j u hu=>?_⟩
    obtain⟨-,hl2,hcell⟩:=World.cells?_some hc'
    have hj:j<Tryz.prog.cellsOf e:=by rw [<-hl2];exact(List.getElem?_eq_some_iff.1 hu).1
    have h3:=(hcell j hj).trans hu
    rw [he.1,Addr.add_lit,Addr.add_lit,CF] at h3
    exact h3
   have hex:∀ k,k<=len->∃ l:List α,l.length=k/\∀ i,i<k->(f (l.getD i d)).length=sz/\RdAt (f (l.getD i d)) (Kg w) b (off+i*sz):=by
    intro k
    induction k with
    | zero=>exact fun _=>⟨[],rfl,fun i hi=>absurd hi (Aj i)⟩
    | succ k ih=>
     intro hk
     obtain⟨l,hl,hr⟩:=ih (by omega)
     obtain⟨cs',a,hR,h1,hla,h2⟩:=key k (by omega)
     refine⟨l ++ [a],by simp [hl],fun i hi=>?_⟩
     by_cases hik:i<k
     ·have e:(l ++ [a]).getD i d=l.getD i d:=by rw [List.getD_eq_getElem?_getD,List.getD_eq_getElem?_getD,List.getElem?_append_left (by omega)]
      rw [e]
      exact hr i hik
     ·have e2:i=k:=by omega
      subst e2
      have e:(l ++ [a]).getD i d=a:=by rw [List.getD_eq_getElem?_getD,List.getElem?_append_right (by omega),hl];simp
      rw [e]
      refine⟨hla,RdAt.of hR h1 fun j u hu=>?_⟩
      have:=h2 j u hu
      rw [CF]
      exact this
   obtain⟨l,hl,hr⟩:=hex len (Nat.le_refl _)
   refine⟨_,⟨l,rfl⟩,?_,by simp [Value.oneCell'],rfl⟩
   simp only [RdL,Rd]
   refine⟨_,_,rfl,⟨_,m,by rw [hl],by omega,hcm, .inr ⟨b,off,rfl,fun h=>h,?_,fun i hi=>hr i (by omega)⟩⟩,rfl⟩
   obtain⟨cs',a,hR,h1,hla,h2⟩:=key 0 (by omega)
   have hlen:=hR.length
   have h3:=h2 0 cs'[0] (List.getElem?_eq_getElem (by omega))
   exact World.block_lt_of_cell? _ _ h3⟩
def catG:List (List AV->Prop)->List AV->Prop
 | [],L=>L=[]
 | G::r,L=>∃ A B,L=A ++ B/\G A/\catG r B
structure FieldE (enc:TypeId × Value->H) (w:World) where
 t:TypeId
 sz:Nat
 G:List AV->Prop
 ok:OpenE enc w t sz G
theorem Mg {n:Nat} {cs:List Value}:∀ (fs:List (FieldE enc w)) (off:Nat),off+(fs.map (·.sz)).sum=cs.length->
  (∀ i f,fs[i]? = some f->∃ x,DataW.trod enc Tryz.prog w 0 (fun _=>true) true n f.t ((cs.drop (off+((fs.take i).map (·.sz)).sum)).take f.sz)=some x)->
  ∃ L,catG (fs.map (·.G)) L/\RdL L (Kg w) (cs.drop off)/\(∀ u∈cs.drop off,u.oneCell'=true)/\L.length=(fs.map (·.sz)).sum
 | [],off,hl,_=>⟨[],rfl,by simp only [RdL];exact Av (by simp at hl;omega),by rw [Av (by simp at hl;omega)];simp,rfl⟩
 | f::r,off,hl,h=>by
  simp only [Ay,List.sum_cons] at hl |-
  obtain⟨x,hx⟩:=h 0 f rfl
  simp only [List.take_zero,By,List.sum_nil,BL] at hx
  obtain⟨A,hA,hRA,h1A,hlA⟩:=f.ok.2 _ _ _ hx
  obtain⟨B,hB,hRB,h1B,hlB⟩:=Mg (cs:=cs) r (off+f.sz) (by omega) (fun i g hg=>by
   obtain⟨y,hy⟩:=h (i+1) g (by simpa using hg)
   refine⟨y,?_⟩
   simp only [B8,Ay,List.sum_cons] at hy
   rw [CF]
   exact hy)
  have e:cs.drop off=(cs.drop off).take f.sz ++ cs.drop (off+f.sz):=by rw [<-Aw,Bf]
  refine⟨A ++ B,⟨A,B,rfl,hA,hB⟩,?_,?_,by simp [hlA,hlB]⟩
  ·rw [e];exact hRA.append hRB
  ·intro u hu
   rw [e,Ax] at hu
   exact hu.elim (h1A u) (h1B u)
theorem DC {t:Nat} (fs:List (FieldE enc w)) {F:Array Field} (ht:Tryz.prog.underlying t=some (.struct F)) (hc:Tryz.prog.cellsOf t=(fs.map (·.sz)).sum)
  (hF:F.toList.map (fun f=>(f.type,f.offset))=fs.zipIdx.map fun p=>(p.1.t,((fs.take p.2).map (·.sz)).sum)):OpenE enc w t (fs.map (·.sz)).sum (catG (fs.map (·.G))):=⟨hc,fun n cs x h=>by
 obtain⟨xs,n',_,rfl,hl,hlen,hf⟩:=DataW.trod_struct ht h
 have hsz:F.size=fs.length:=by have:=congrArg List.length hF;simpa using this
 obtain⟨L,h1,h2,h3,h4⟩:=Mg (n:=n') (cs:=cs) fs 0 (by rw [hl,hc];omega) (fun i f hi=>by
  have hi':i<fs.length:=(List.getElem?_eq_some_iff.1 hi).1
  have hFi:F[i]? = some F[i]:=Array.getElem?_eq_getElem (by omega)
  have hx:=hf i F[i] hFi
  have he:(F[i].type,F[i].offset)=(f.t,((fs.take i).map (·.sz)).sum):=by
   have:=congrArg (fun l=>l[i]?) hF
   simp only [List.getElem?_map,List.getElem?_zipIdx,hi,Array.getElem?_toList,hFi,Option.map_some,Ap,Option.some.injEq] at this
   exact this
  injection he with e1 e2
  rw [e1,e2,f.ok.1] at hx
  rw [List.getElem?_eq_getElem (by omega)] at hx
  rw [Ap]
  exact⟨_,hx⟩)
 exact⟨L,h1,by simpa using h2,by simpa using h3,h4⟩⟩
end
section
variable {H:Type} {enc:TypeId × Value->H} {w:World}
theorem oI:OpenE enc w 3 1 Xq:=WG Tryz.underlying3 (by kernel_rfl)
theorem oBool:OpenE enc w 4 1 Wh:=Vz Tryz.underlying4 (by kernel_rfl)
theorem oStr:OpenE enc w 9 1 Xp:=WF Tryz.underlying9 (by kernel_rfl)
def Ya (L:List AV):Prop:=∃ b:List UInt8,L=[bA b]
theorem oBy:OpenE enc w 80 1 Ya:=
 (KO (α:=UInt8) (sz:=1) (f:=fun k=> [.v (.int .u8 k.toNat)]) (d:=0) Tryz.underlying80 (by kernel_rfl) (by decide) ((Xm Tryz.underlying5 (by kernel_rfl)).mono fun _ h=>h)).mono fun L ⟨l,h⟩=>⟨l,h⟩
def X_ (L:List AV):Prop:=∃ b:List Int,L=[iA b]
theorem oIs:OpenE enc w 24 1 X_:=
 (KO (α:=Int) (sz:=1) (f:=fun k=> [.v (.int .i64 k)]) (d:=0) Tryz.underlying24 (by kernel_rfl) (by decide) (oI.mono fun _ ⟨k,h,_⟩=>⟨k,h⟩)).mono fun L ⟨l,h⟩=>⟨l,h⟩
def fI:FieldE enc w:=⟨_,_,_,oI⟩
def fBy:FieldE enc w:=⟨_,_,_,oBy⟩
def fIs:FieldE enc w:=⟨_,_,_,oIs⟩
def fStr:FieldE enc w:=⟨_,_,_,oStr⟩
theorem oImg:OpenE enc w 83 3 fun L=>∃ x,L=D4 x:=
 (DC [fI,fI,fBy] Tryz.underlying83 (by kernel_rfl) (by kernel_rfl)).mono fun L h=>by
  obtain⟨_,_,rfl,⟨a,rfl,_⟩,_,_,rfl,⟨b,rfl,_⟩,_,_,rfl,⟨c,rfl⟩,rfl⟩:=h
  exact⟨⟨a,b,c⟩,rfl⟩
theorem oGeo:OpenE enc w 23 5 fun L=>∃ x,L=A7 x:=
 (DC [fI,fI,fI,fI,fI] Tryz.underlying23 (by kernel_rfl) (by kernel_rfl)).mono fun L h=>by
  obtain⟨_,_,rfl,⟨a,rfl,_⟩,_,_,rfl,⟨b,rfl,_⟩,_,_,rfl,⟨c,rfl,_⟩,_,_,rfl,⟨d,rfl,_⟩,_,_,rfl,⟨e,rfl,_⟩,rfl⟩:=h
  exact⟨⟨a,b,c,d,e⟩,rfl⟩
theorem oHome:OpenE enc w 132 3 fun L=>∃ x,L=H8 x:=
 (DC [fIs,fI,fI] Tryz.underlying132 (by kernel_rfl) (by kernel_rfl)).mono fun L h=>by
  obtain⟨_,_,rfl,⟨a,rfl⟩,_,_,rfl,⟨b,rfl,_⟩,_,_,rfl,⟨c,rfl,_⟩,rfl⟩:=h
  exact⟨⟨a,b,c⟩,rfl⟩
theorem oHomes:OpenE enc w 38 1 fun L=>∃ l,L=[H4 l]:=
 (KO (α:=Hm) (sz:=3) (f:=H8) (d:=⟨[],0,0⟩) Tryz.underlying38 (by kernel_rfl) (by decide) oHome).mono fun L ⟨l,h⟩=>⟨l,h⟩
def fHms:FieldE enc w:=⟨_,_,_,oHomes⟩
theorem oAnchor:OpenE enc w 40 7 fun L=>∃ x,L=CE x:=
 (DC [fI,fI,fI,fI,fI,fStr,fHms] Tryz.underlying40 (by kernel_rfl) (by kernel_rfl)).mono fun L h=>by
  obtain⟨_,_,rfl,⟨a,rfl,_⟩,_,_,rfl,⟨b,rfl,_⟩,_,_,rfl,⟨c,rfl,_⟩,_,_,rfl,⟨d,rfl,_⟩,_,_,rfl,⟨e,rfl,_⟩,_,_,rfl,⟨s,rfl⟩,_,_,rfl,⟨l,rfl⟩,rfl⟩:=h
  exact⟨⟨a,b,c,d,e,s,l⟩,rfl⟩
theorem oImgs:OpenE enc w 76 1 fun L=>∃ l,L=[Ff l]:=
 (KO (α:=Img) (sz:=3) (f:=D4) (d:=⟨0,0, []⟩) Tryz.underlying76 (by kernel_rfl) (by decide) oImg).mono fun L ⟨l,h⟩=>⟨l,h⟩
theorem Kt {t sz:Nat} {G:List AV->Prop} {cs:Array Value} {d:DataW H} {ps:List MemPlace} (ho:OpenE enc w t sz G) (h:DataW.Trod enc Tryz.prog w 0 (fun _=>true) true t (.agg cs) d ps):∃ L,G L/\Rd (.ag L) (Kg w) (.agg cs):=by
 obtain⟨n,hn⟩:=h
 obtain⟨L,h1,h2,_⟩:=ho.2 n _ _ hn
 refine⟨L,h1,?_⟩
 simp only [Rd]
 exact⟨cs.toList,rfl,h2⟩
end
end Go.Proofs.YtldngmdpiifamaaGreatDoor.A
end
section
namespace Go.Proofs.YtldngmdpiifamaaGreatDoor.A
open Go.RowKit
theorem P8 {g:Geo} {x:Gt} {copy slot:Int} (h:(AS g&&Gh g copy slot)=false):Cc g x copy slot=none:=by
 unfold Cc
 rw [h]
 rfl
end Go.Proofs.YtldngmdpiifamaaGreatDoor.A
end
