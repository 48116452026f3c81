/-
Several texts in one.
-/
import Derived.Test.YtkolckdakddggaaGreatDoorPPC3P3
import Derived.Test.YtkolckdakddggaaGreatDoorPPC3P2
import Derived.Test.YtkolckdakddggaaGreatDoorPPC3P4
import Derived.Test.YtkolckdakddggaaGreatDoorPPC3P5
import Derived.Maps.OwnSet
import Derived.Test.YtkolckdakddggaaGreatDoorPPC3P1
import Derived.Test.YtkolckdakddggaaGreatDoorRows
import Derived.Below
import Derived.ChangeSame
import Derived.Carry
import Derived.Lib.LaidIn
import Derived.Lib.LaidU8T
import Derived.LaidHandle
import Derived.MakeChecks
import Derived.Handed
set_option maxRecDepth 100000
set_option maxHeartbeats 8000000
set_option linter.unusedSimpArgs false
set_option linter.unusedVariables false
set_option linter.deprecated false
namespace Go.Proofs.YtkolckdakddggaaGreatDoor.A
section
open Go.RowKit Go.Shelf
attribute [local go_sem] Oper.semAt_some

theorem Xy (F:Fence) (n:Nat) (h7:F.fn 265) (hro:F.round=none) (hn:1<=n) (l Bs n₀ b off len cap:Nat) (X0 X1 X2 X3:Nat->Value) (hlen:len<=1000000000) (hb:b<n₀) (hBn:Bs<n₀) (J Jx:List Nat->World->Prop)
  (hY:∀ pre x W,J pre W->pre.length<len->x<len->YieldAt F (n - 1) Tryz.prog l #[.int .i64 (x:Nat), .agg #[X0 x,X1 x,X2 x,X3 x]] W fun e W'=>
   (e = .returned (.bool true)/\J (pre ++ [x]) W'/\Below n₀ W W')\/(e = .returned (.bool false)/\Jx (pre ++ [x]) W'))
  (W:World) (hBs:W.cell? ⟨Bs,0,none⟩=some (.slice (some ⟨b,off,none⟩) len cap)) (hc0:∀ j,j<len->W.cell? ⟨b,off+j*4,none⟩=some (X0 j)) (hc1:∀ j,j<len->W.cell? ⟨b,off+j*4+1,none⟩=some (X1 j)) (hc2:∀ j,j<len->W.cell? ⟨b,off+j*4+2,none⟩=some (X2 j)) (hc3:∀ j,j<len->W.cell? ⟨b,off+j*4+3,none⟩=some (X3 j)) (h0:J [] W) :
  CallsIn F n Tryz.prog 265 #[.func (.yield l) #[] #[], .pointer (some ⟨Bs,0,none⟩)] W fun e W'=>(∃ v,e = .returned v)/\
   ((∃ ys,ys=Dt len len/\J ys W')\/(∃ pre,(∃ k,k<=len/\pre=Dt len k)/\Jx pre W')):=by
 have Hc0:=Lib.hid hc0;have Hc1:=Lib.hid hc1;have Hc2:=Lib.hid hc2;have Hc3:=Lib.hid hc3;clear hc0 hc1 hc2 hc3;refine callsIn_of_wp Tryz.func265 rfl h7 ?_ hro;simp only [Tryz.ntmps265,BT,Al,AY,Nat.reduceAdd,Nat.reduceSub,Dg,Df,DK,Dq,B3,Bu]
 gi_wp2
 gi_loopw [3] (fun i wr=>∃ k:Nat,k<=len/\i = .int .i64 ((len:Int) - 1 - k)/\J (Dt len k) wr/\Below n₀ W wr)
  (fun i _=>(intOf i+1).toNat)
 case atStart=>exact⟨0,Aj _,by simp,h0,Below.refl _ _⟩
 case round=>
  obtain⟨k,hk,rfl,hJs,hnx⟩:=hrel;by_cases hlt:k<len
  ·obtain⟨m,hmk⟩:∃ m,len=k+1+m:=⟨len - (k+1),by omega⟩;rw [show (len:Int) - 1 - k=(m:Int) by omega];obtain⟨fn,tmps,assign,body,hy,hR⟩:=hY _ m wr hJs (by rw [HT];exact hlt) (by omega);have e0:=(hnx.cell (p:=⟨b,off+m*4,none⟩) hb).trans (Hc0.out m (by omega));have e1:=(hnx.cell (p:=⟨b,off+m*4+1,none⟩) hb).trans (Hc1.out m (by omega));have e2:=(hnx.cell (p:=⟨b,off+m*4+2,none⟩) hb).trans (Hc2.out m (by omega));have e3:=(hnx.cell (p:=⟨b,off+m*4+3,none⟩) hb).trans (Hc3.out m (by omega));have eb:=(hnx.cell (p:=⟨Bs,0,none⟩) hBn).trans hBs;have hm:(m:Int)<(len:Int):=by omega
   have Hm:=Lib.hid hmk;clear hmk
   gi_wp2
   refine hR.mono ?_;rintro e W3 (⟨rfl,hJ3,hk3⟩ | ⟨rfl,hJx3⟩)
   ·gi_wp2
    go_roundw
    case rel=>exact⟨k+1,by omega,congrArg (Value.int .i64) (by have:=Hm.out;omega),by rw [FP,show len - 1 - k=m by have:=Hm.out;omega];exact hJ3,hnx.trans hk3⟩
    case measure=>simp [intOf]
   ·gi_wp2
    refine bodyPost_ret (results_none rfl _ _ _) rfl ?_;exact⟨⟨_,rfl⟩, .inr ⟨_,⟨k+1,by omega,by rw [FP,show len - 1 - k=m by have:=Hm.out;omega]⟩,hJx3⟩⟩
  ·obtain rfl:k=len:=by omega
   rw [show ((k:Nat):Int) - 1 - k = -1 by omega]
   gi_wp2
   go_end0
   exact⟨⟨_,rfl⟩, .inl ⟨_,rfl,hJs⟩⟩

theorem Xz (F:Fence) (n:Nat) (h7:F.fn 265) (hro:F.round=none) (l Bs:Nat) (a:Option Addr) (cap:Nat) (J:List Nat->World->Prop) (W:World) (hBs:W.cell? ⟨Bs,0,none⟩=some (.slice a 0 cap)) (h0:J [] W) :
  CallsIn F n Tryz.prog 265 #[.func (.yield l) #[] #[], .pointer (some ⟨Bs,0,none⟩)] W fun e W'=>(∃ v,e = .returned v)/\J [] W':=by
 refine callsIn_of_wp Tryz.func265 rfl h7 ?_ hro;simp only [Tryz.ntmps265,BT,Al,AY,Nat.reduceAdd,Nat.reduceSub,Dg,Df,DK,Dq,B3,Bu]
 gi_wp2
 gi_loopw [3] (fun i wr=>i = .int .i64 (-1)/\J [] wr) (fun _ _=>0)
 case atStart=>exact⟨rfl,h0⟩
 case round=>
  obtain⟨rfl,hJs⟩:=hrel
  gi_wp2
  go_end0
  exact⟨⟨_,rfl⟩,hJs⟩

theorem Sn (F:Fence) (n:Nat) (h7:F.fn 265) (hro:F.round=none) (hn:1<=n) (Bs n₀:Nat) (a:Option Addr) (len cap:Nat) (X0 X1 X2 X3:Nat->Value) (hlen:len<=1000000000) (w:World) (hBs:Bs<n₀) (hn₀:n₀<=w.heap.size)
  (hc:w.cell? ⟨Bs,0,none⟩=some (.slice a len cap)) (hI:0<len->∃ b off,a=some ⟨b,off,none⟩/\b<n₀/\∀ j,j<len->w.cell? ⟨b,off+j*4,none⟩=some (X0 j)/\w.cell? ⟨b,off+j*4+1,none⟩=some (X1 j)/\w.cell? ⟨b,off+j*4+2,none⟩=some (X2 j)/\w.cell? ⟨b,off+j*4+3,none⟩=some (X3 j)) :
  SeqStopsK F n Tryz.prog 265 #[.pointer (some ⟨Bs,0,none⟩)] (fun x:Fin len=> #[Value.int .i64 x.val, .agg #[X0 x,X1 x,X2 x,X3 x]]) (Below n₀) (fun ys=>ys.map Fin.val=Dt len len) (fun pre=>∃ k,k<=len/\pre.map Fin.val=Dt len k) len w:=fun l J Jx W hW _ _ hY h0=>by
 have hc':=(hW.cell (p:=⟨Bs,0,none⟩) (by show Bs<_;omega)).trans hc;rcases D3 len with rfl | hp
 ·exact(Xz F n h7 hro l Bs a cap (fun _ W=>J [] W) W hc' h0).mono fun e W' ⟨he,hj⟩=>⟨he, .inl ⟨[],rfl,hj⟩⟩
 ·obtain⟨b,off,rfl,hb,hj⟩:=hI hp;refine(Xy F n h7 hro hn l Bs n₀ b off len cap X0 X1 X2 X3 hlen hb hBs (fun pre W=>∃ q:List (Fin len),q.map Fin.val=pre/\J q W) (fun pre W=>∃ q:List (Fin len),q.map Fin.val=pre/\Jx q W) ?_ W hc' (fun j h=>(hW.cell (p:=⟨b,off+j*4,none⟩) (by show b<_;omega)).trans (hj j h).1) (fun j h=>(hW.cell (p:=⟨b,off+j*4+1,none⟩) (by show b<_;omega)).trans (hj j h).2.1) (fun j h=>(hW.cell (p:=⟨b,off+j*4+2,none⟩) (by show b<_;omega)).trans (hj j h).2.2.1) (fun j h=>(hW.cell (p:=⟨b,off+j*4+3,none⟩) (by show b<_;omega)).trans (hj j h).2.2.2) ⟨[],rfl,h0⟩).mono ?_
  ·rintro pre x W1 ⟨q,hq,hJ⟩ hlt hx;obtain⟨fn,tmps,assign,body,hy,hR⟩:=hY q ⟨x,hx⟩ W1 hJ (by rw [<-hq,Aa] at hlt;exact hlt);refine⟨fn,tmps,assign,body,hy,hR.mono ?_⟩;rintro e W' (⟨he,h1,h2⟩ | ⟨he,h1⟩)
   ·exact .inl ⟨he,⟨_,by simp [hq],h1⟩,h2⟩
   ·exact .inr ⟨he,⟨_,by simp [hq],h1⟩⟩
  ·rintro e W' ⟨he,⟨ys,rfl,q,hq,hJ⟩ | ⟨pre,⟨k,hk,rfl⟩,q,hq,hJ⟩⟩
   ·exact⟨he, .inl ⟨q,hq,hJ⟩⟩
   ·exact⟨he, .inr ⟨q,⟨k,hk,hq⟩,hJ⟩⟩

theorem bktx_is:IsBack Tryz.prog 265 4:=by
 refine⟨enters_of Tryz.func265 (by kernel_rfl) rfl,fun m hm B a len cap X w hlen hc hl hI=>?_⟩;have e:(fun x:Fin len=>(#[Value.int .i64 x.val, .agg (X x.val).toArray]:Array Value))=fun x:Fin len=> #[Value.int .i64 x.val, .agg #[(X x.val).getD 0 undef,(X x.val).getD 1 undef,(X x.val).getD 2 undef,(X x.val).getD 3 undef]]:=by
  funext x;have:=hl x.val;match h:X x.val with
  | [u0,u1,u2,u3]=>rfl
  | []=>rw [h] at this;simp at this
  | [_]=>rw [h] at this;simp at this
  | [_,_]=>rw [h] at this;simp at this
  | [_,_,_]=>rw [h] at this;simp at this
  | _::_::_::_::_::_=>rw [h] at this;simp at this
 rw [e];refine Sn Fence.wide m trivial rfl hm B w.heap.size a len cap (fun j=>(X j).getD 0 undef) (fun j=>(X j).getD 1 undef) (fun j=>(X j).getD 2 undef) (fun j=>(X j).getD 3 undef) hlen w (World.block_lt_of_cell? w _ hc) (Ah _) hc fun hp=>?_
 obtain⟨b,off,h1,h2,h3⟩:=hI hp;refine⟨b,off,h1,h2,fun j hj=>?_⟩;have h4:=hl j;match h:X j with
 | [u0,u1,u2,u3]=>exact⟨h3 j hj 0 u0 (by rw [h];rfl),h3 j hj 1 u1 (by rw [h];rfl),h3 j hj 2 u2 (by rw [h];rfl),h3 j hj 3 u3 (by rw [h];rfl)⟩
 | []=>rw [h] at h4;simp at h4
 | [_]=>rw [h] at h4;simp at h4
 | [_,_]=>rw [h] at h4;simp at h4
 | [_,_,_]=>rw [h] at h4;simp at h4
 | _::_::_::_::_::_=>rw [h] at h4;simp at h4

theorem X4 (F:Fence) (n:Nat) (h7:F.fn 266) (hro:F.round=none) (hn:1<=n) (l Bs n₀ b off len cap:Nat) (X0 X1 X2:Nat->Value) (hlen:len<=1000000000) (hb:b<n₀) (hBn:Bs<n₀) (J Jx:List Nat->World->Prop)
  (hY:∀ pre x W,J pre W->pre.length<len->x<len->YieldAt F (n - 1) Tryz.prog l #[.int .i64 (x:Nat), .agg #[X0 x,X1 x,X2 x]] W fun e W'=>
   (e = .returned (.bool true)/\J (pre ++ [x]) W'/\Below n₀ W W')\/(e = .returned (.bool false)/\Jx (pre ++ [x]) W'))
  (W:World) (hBs:W.cell? ⟨Bs,0,none⟩=some (.slice (some ⟨b,off,none⟩) len cap)) (hc0:∀ j,j<len->W.cell? ⟨b,off+j*3,none⟩=some (X0 j)) (hc1:∀ j,j<len->W.cell? ⟨b,off+j*3+1,none⟩=some (X1 j)) (hc2:∀ j,j<len->W.cell? ⟨b,off+j*3+2,none⟩=some (X2 j)) (h0:J [] W) :
  CallsIn F n Tryz.prog 266 #[.func (.yield l) #[] #[], .pointer (some ⟨Bs,0,none⟩)] W fun e W'=>(∃ v,e = .returned v)/\
   ((∃ ys,ys=Dt len len/\J ys W')\/(∃ pre,(∃ k,k<=len/\pre=Dt len k)/\Jx pre W')):=by
 have Hc0:=Lib.hid hc0;have Hc1:=Lib.hid hc1;have Hc2:=Lib.hid hc2;clear hc0 hc1 hc2;refine callsIn_of_wp Tryz.func266 rfl h7 ?_ hro;simp only [Tryz.ntmps266,BT,Al,AY,Nat.reduceAdd,Nat.reduceSub,Dg,Df,DK,Dq,B3,Bu]
 gi_wp2
 gi_loopw [3] (fun i wr=>∃ k:Nat,k<=len/\i = .int .i64 ((len:Int) - 1 - k)/\J (Dt len k) wr/\Below n₀ W wr)
  (fun i _=>(intOf i+1).toNat)
 case atStart=>exact⟨0,Aj _,by simp,h0,Below.refl _ _⟩
 case round=>
  obtain⟨k,hk,rfl,hJs,hnx⟩:=hrel;by_cases hlt:k<len
  ·obtain⟨m,hmk⟩:∃ m,len=k+1+m:=⟨len - (k+1),by omega⟩;rw [show (len:Int) - 1 - k=(m:Int) by omega];obtain⟨fn,tmps,assign,body,hy,hR⟩:=hY _ m wr hJs (by rw [HT];exact hlt) (by omega);have e0:=(hnx.cell (p:=⟨b,off+m*3,none⟩) hb).trans (Hc0.out m (by omega));have e1:=(hnx.cell (p:=⟨b,off+m*3+1,none⟩) hb).trans (Hc1.out m (by omega));have e2:=(hnx.cell (p:=⟨b,off+m*3+2,none⟩) hb).trans (Hc2.out m (by omega));have eb:=(hnx.cell (p:=⟨Bs,0,none⟩) hBn).trans hBs;have hm:(m:Int)<(len:Int):=by omega
   have Hm:=Lib.hid hmk;clear hmk
   gi_wp2
   refine hR.mono ?_;rintro e W3 (⟨rfl,hJ3,hk3⟩ | ⟨rfl,hJx3⟩)
   ·gi_wp2
    go_roundw
    case rel=>exact⟨k+1,by omega,congrArg (Value.int .i64) (by have:=Hm.out;omega),by rw [FP,show len - 1 - k=m by have:=Hm.out;omega];exact hJ3,hnx.trans hk3⟩
    case measure=>simp [intOf]
   ·gi_wp2
    refine bodyPost_ret (results_none rfl _ _ _) rfl ?_;exact⟨⟨_,rfl⟩, .inr ⟨_,⟨k+1,by omega,by rw [FP,show len - 1 - k=m by have:=Hm.out;omega]⟩,hJx3⟩⟩
  ·obtain rfl:k=len:=by omega
   rw [show ((k:Nat):Int) - 1 - k = -1 by omega]
   gi_wp2
   go_end0
   exact⟨⟨_,rfl⟩, .inl ⟨_,rfl,hJs⟩⟩

theorem X5 (F:Fence) (n:Nat) (h7:F.fn 266) (hro:F.round=none) (l Bs:Nat) (a:Option Addr) (cap:Nat) (J:List Nat->World->Prop) (W:World) (hBs:W.cell? ⟨Bs,0,none⟩=some (.slice a 0 cap)) (h0:J [] W) :
  CallsIn F n Tryz.prog 266 #[.func (.yield l) #[] #[], .pointer (some ⟨Bs,0,none⟩)] W fun e W'=>(∃ v,e = .returned v)/\J [] W':=by
 refine callsIn_of_wp Tryz.func266 rfl h7 ?_ hro;simp only [Tryz.ntmps266,BT,Al,AY,Nat.reduceAdd,Nat.reduceSub,Dg,Df,DK,Dq,B3,Bu]
 gi_wp2
 gi_loopw [3] (fun i wr=>i = .int .i64 (-1)/\J [] wr) (fun _ _=>0)
 case atStart=>exact⟨rfl,h0⟩
 case round=>
  obtain⟨rfl,hJs⟩:=hrel
  gi_wp2
  go_end0
  exact⟨⟨_,rfl⟩,hJs⟩

theorem So (F:Fence) (n:Nat) (h7:F.fn 266) (hro:F.round=none) (hn:1<=n) (Bs n₀:Nat) (a:Option Addr) (len cap:Nat) (X0 X1 X2:Nat->Value) (hlen:len<=1000000000) (w:World) (hBs:Bs<n₀) (hn₀:n₀<=w.heap.size)
  (hc:w.cell? ⟨Bs,0,none⟩=some (.slice a len cap)) (hI:0<len->∃ b off,a=some ⟨b,off,none⟩/\b<n₀/\∀ j,j<len->w.cell? ⟨b,off+j*3,none⟩=some (X0 j)/\w.cell? ⟨b,off+j*3+1,none⟩=some (X1 j)/\w.cell? ⟨b,off+j*3+2,none⟩=some (X2 j)) :
  SeqStopsK F n Tryz.prog 266 #[.pointer (some ⟨Bs,0,none⟩)] (fun x:Fin len=> #[Value.int .i64 x.val, .agg #[X0 x,X1 x,X2 x]]) (Below n₀) (fun ys=>ys.map Fin.val=Dt len len) (fun pre=>∃ k,k<=len/\pre.map Fin.val=Dt len k) len w:=fun l J Jx W hW _ _ hY h0=>by
 have hc':=(hW.cell (p:=⟨Bs,0,none⟩) (by show Bs<_;omega)).trans hc;rcases D3 len with rfl | hp
 ·exact(X5 F n h7 hro l Bs a cap (fun _ W=>J [] W) W hc' h0).mono fun e W' ⟨he,hj⟩=>⟨he, .inl ⟨[],rfl,hj⟩⟩
 ·obtain⟨b,off,rfl,hb,hj⟩:=hI hp;refine(X4 F n h7 hro hn l Bs n₀ b off len cap X0 X1 X2 hlen hb hBs (fun pre W=>∃ q:List (Fin len),q.map Fin.val=pre/\J q W) (fun pre W=>∃ q:List (Fin len),q.map Fin.val=pre/\Jx q W) ?_ W hc' (fun j h=>(hW.cell (p:=⟨b,off+j*3,none⟩) (by show b<_;omega)).trans (hj j h).1) (fun j h=>(hW.cell (p:=⟨b,off+j*3+1,none⟩) (by show b<_;omega)).trans (hj j h).2.1) (fun j h=>(hW.cell (p:=⟨b,off+j*3+2,none⟩) (by show b<_;omega)).trans (hj j h).2.2) ⟨[],rfl,h0⟩).mono ?_
  ·rintro pre x W1 ⟨q,hq,hJ⟩ hlt hx;obtain⟨fn,tmps,assign,body,hy,hR⟩:=hY q ⟨x,hx⟩ W1 hJ (by rw [<-hq,Aa] at hlt;exact hlt);refine⟨fn,tmps,assign,body,hy,hR.mono ?_⟩;rintro e W' (⟨he,h1,h2⟩ | ⟨he,h1⟩)
   ·exact .inl ⟨he,⟨_,by simp [hq],h1⟩,h2⟩
   ·exact .inr ⟨he,⟨_,by simp [hq],h1⟩⟩
  ·rintro e W' ⟨he,⟨ys,rfl,q,hq,hJ⟩ | ⟨pre,⟨k,hk,rfl⟩,q,hq,hJ⟩⟩
   ·exact⟨he, .inl ⟨q,hq,hJ⟩⟩
   ·exact⟨he, .inr ⟨q,⟨k,hk,hq⟩,hJ⟩⟩

theorem bkim_is:IsBack Tryz.prog 266 3:=by
 refine⟨enters_of Tryz.func266 (by kernel_rfl) rfl,fun m hm B a len cap X w hlen hc hl hI=>?_⟩;have e:(fun x:Fin len=>(#[Value.int .i64 x.val, .agg (X x.val).toArray]:Array Value))=fun x:Fin len=> #[Value.int .i64 x.val, .agg #[(X x.val).getD 0 undef,(X x.val).getD 1 undef,(X x.val).getD 2 undef]]:=by
  funext x;have:=hl x.val;match h:X x.val with
  | [u0,u1,u2]=>rfl
  | []=>rw [h] at this;simp at this
  | [_]=>rw [h] at this;simp at this
  | [_,_]=>rw [h] at this;simp at this
  | _::_::_::_::_=>rw [h] at this;simp at this
 rw [e];refine So Fence.wide m trivial rfl hm B w.heap.size a len cap (fun j=>(X j).getD 0 undef) (fun j=>(X j).getD 1 undef) (fun j=>(X j).getD 2 undef) hlen w (World.block_lt_of_cell? w _ hc) (Ah _) hc fun hp=>?_
 obtain⟨b,off,h1,h2,h3⟩:=hI hp;refine⟨b,off,h1,h2,fun j hj=>?_⟩;have h4:=hl j;match h:X j with
 | [u0,u1,u2]=>exact⟨h3 j hj 0 u0 (by rw [h];rfl),h3 j hj 1 u1 (by rw [h];rfl),h3 j hj 2 u2 (by rw [h];rfl)⟩
 | []=>rw [h] at h4;simp at h4
 | [_]=>rw [h] at h4;simp at h4
 | [_,_]=>rw [h] at h4;simp at h4
 | _::_::_::_::_=>rw [h] at h4;simp at h4

end
section
open Go.RowKit
def Gg (l:List Img) (z w:Int):Nat->Option Nat
 | 0=>none
 | k+1=>if (l.getD k iz).zone=z/\(l.getD k iz).what=w then some k else Gg l z w k
def Hj (l:List Tx) (z w:Int):Nat->Option (Nat × Nat)
 | 0=>none
 | k+1=>match Gg (l.getD k tz).images z w (l.getD k tz).images.length with
  | some i=>some (k,i)
  | none=>Hj l z w k
theorem Tb (l:List Img) (z w:Int):∀ k,Cy l z w k=(Gg l z w k).map fun i=>l.getD i iz
 | 0=>rfl
 | k+1=>by
  rw [Cy,Gg,Tb l z w k];split <;> rfl
theorem LG (l:List Tx) (z w:Int):∀ k,EO l z w k=(Hj l z w k).map fun p=>((l.getD p.1 tz).images.getD p.2 iz,(l.getD p.1 tz).seq)
 | 0=>rfl
 | k+1=>by
  rw [EO,Hj,Tb];cases Gg (l.getD k tz).images z w (l.getD k tz).images.length with
  | some i=>rfl
  | none=>exact LG l z w k
theorem MT {l:List Img} {z w:Int}:∀ {k:Nat},Gg l z w k=none->∀ j,j<k->¬((l.getD j iz).zone=z/\(l.getD j iz).what=w)
 | k+1,h,j,hj=>by
  rw [Gg] at h;split at h
  ·cases h
  ·rename_i hc;rcases Nat.lt_succ_iff_lt_or_eq.1 hj with q | rfl
   ·exact MT h j q
   ·exact hc
theorem Om {l:List Img} {z w:Int} {j:Nat} (h:(l.getD j iz).zone=z/\(l.getD j iz).what=w):∀ (k:Nat),j<k->(∀ i,j<i->i<k->¬((l.getD i iz).zone=z/\(l.getD i iz).what=w))->Gg l z w k=some j
 | k+1,hj,hn=>by
  rw [Gg];by_cases e:j=k
  ·subst e;rw [if_pos h]
  ·rw [if_neg (hn k (by omega) (by omega))];exact Om h k (by omega) fun i q1 q2=>hn i q1 (by omega)
theorem MU {l:List Img} {z w:Int} {j:Nat}:∀ {k:Nat},Gg l z w k=some j->j<k/\(l.getD j iz).zone=z/\(l.getD j iz).what=w
 | k+1,h=>by
  rw [Gg] at h;split at h
  ·rename_i hc;obtain rfl:=Option.some.inj h;exact⟨by omega,hc⟩
  ·have:=MU h;exact⟨by omega,this.2⟩
theorem On {l:List Tx} {z w:Int} {j i:Nat} (h:Gg (l.getD j tz).images z w (l.getD j tz).images.length=some i):∀ (k:Nat),j<k->(∀ q,j<q->q<k->Gg (l.getD q tz).images z w (l.getD q tz).images.length=none)->Hj l z w k=some (j,i)
 | k+1,hj,hn=>by
  rw [Hj];by_cases e:j=k
  ·subst e;rw [h]
  ·rw [hn k (by omega) (by omega)];exact On h k (by omega) fun q q1 q2=>hn q q1 (by omega)
theorem MV {l:List Tx} {z w:Int}:∀ (k:Nat),(∀ q,q<k->Gg (l.getD q tz).images z w (l.getD q tz).images.length=none)->Hj l z w k=none
 | 0,_=>rfl
 | k+1,hn=>by
  rw [Hj,hn k (by omega)];exact MV k fun q hq=>hn q (by omega)
theorem Kn {l:List Tx} {z w:Int} {p:Nat × Nat}:∀ {k:Nat},Hj l z w k=some p->p.1<k/\p.2<(l.getD p.1 tz).images.length
 | k+1,h=>by
  rw [Hj] at h;split at h
  ·rename_i i hi;obtain rfl:=Option.some.inj h;exact⟨Nat.lt_succ_self k,(MU hi).1⟩
  ·have:=Kn h;exact⟨by omega,this.2⟩
theorem Xx (a:Option Addr) (len cap:Nat) (w:World) :
  Calls Tryz.prog 231 #[.slice a len cap] w fun e w'=>e = .returned (.func (.func 265) #[] #[.pointer (some ⟨w.heap.size,0,none⟩)])/\w.alloc (.cells #[.slice a len cap] 29)=w':=by
 go_enter Tryz.func231,Tryz.ntmps231
 go_wp2
 go_ret
 exact tA
theorem QT (a:Option Addr) (len cap:Nat) (w:World) :
  Calls Tryz.prog 232 #[.slice a len cap] w fun e w'=>e = .returned (.func (.func 266) #[] #[.pointer (some ⟨w.heap.size,0,none⟩)])/\w.alloc (.cells #[.slice a len cap] 43)=w':=by
 go_enter Tryz.func232,Tryz.ntmps232
 go_wp2
 go_ret
 exact tA
theorem Ps {P:Program} {f g:FuncId} {t:TypeId} (hg:XI P f) (h:∀ a len cap w,Calls P f #[.slice a len cap] w fun e w'=>e = .returned (.func (.func g) #[] #[.pointer (some ⟨w.heap.size,0,none⟩)])/\w.alloc (.cells #[.slice a len cap] t)=w') (x:AV) (Hin:List AB) (hx:∀ c u,Rd x c u->∃ a len cap,u = .slice a len cap):ACalls P false f [x] Hin fun r H=>r = .fn g [.bp Hin.length 0]/\H=Hin ++ [.box t [x]]:=by
 refine⟨hg,fun w0 M0 c us hs hr=>?_⟩;have hr0:=hr;simp only [RdL] at hr;obtain⟨u,_,rfl,hu,rfl⟩:=hr;obtain⟨a,len,cap,rfl⟩:=hx _ _ hu;obtain⟨c',e1,e2,e3,e4⟩:=hs.box t hr0 (by simp [Value.oneCell']);refine(h a len cap c.w).mono ?_;rintro e w' ⟨rfl,rfl⟩;refine⟨_,c',_,_,rfl,by rw [e1],tA,e2,e3,?_,fun e=>by cases e⟩;simp only [Rd,RdL];exact⟨_,rfl,_,_,rfl,by simpa only [Rd] using e4,rfl⟩
theorem OE {sz n:Nat} {get:Nat->List AV} (c:Ctx) (u:Value) (hu:Rd (.sl sz n get) c u):∃ a len cap,u = .slice a len cap:=by
 simp only [Rd] at hu;obtain⟨a,p,h, -⟩:=hu;exact⟨_,_,_,h⟩
theorem Qk (l:List Tx) (z w:Int) (hl:l.length<=1000000) (hi:∀ t∈l,t.images.length<=1000000):Fn Tryz.prog 182 [Dh l,iv z,iv w] fun r=>r=(match Hj l z w l.length with | some p=> .tp [iv (p.1:Nat),iv (p.2:Nat), .v (.bool true)] | none=> .tp [iv 0,iv 0, .v (.bool false)]):=by
 refine zS Tryz.func182 rfl ?_;conv=>whnf
 refine(Ps ⟨_,Tryz.func231,rfl,by decide⟩ Xx (Dh l) _ OE).mono ?_;rintro _ _ ⟨rfl,rfl⟩;conv=>whnf
 refine aRF.back tys_ok bktx_is (B:=5) (len:=l.length) (E:=fun i=>CI (l.getD i ⟨0,0,0, []⟩)) rfl rfl tA (by omega) rfl (by decide) rfl [(4, .rp [iv z]),(5, .rp [iv w])] ⟨.inr ⟨0,_,_,rfl,rfl,rfl,rfl⟩, .inr ⟨1,_,_,rfl,rfl,rfl,rfl⟩,tv⟩ (fun i=>(Gg (l.getD i tz).images z w (l.getD i tz).images.length).isSome) ?_ ?_ ?_
 ·intro i hik hh;have hn:Gg (l.getD i tz).images z w (l.getD i tz).images.length=none:=by simpa using hh
  have him:=hi _ (A7 (d:=tz) hik);obtain⟨t,ht⟩:∃ t,t=l.getD i tz:=⟨_,rfl⟩;rw [show l.getD i ⟨0,0,0, []⟩=t from ht.symm];rw [<-ht] at hn him;refine⟨rfl,?_⟩;conv=>whnf
  refine(Ps ⟨_,Tryz.func232,rfl,by decide⟩ QT (DH t.images) _ OE).mono ?_;rintro _ _ ⟨rfl,rfl⟩;conv=>whnf
  refine aRF.back tys_ok bkim_is (B:=2) (len:=t.images.length) (E:=fun j=>D9 (t.images.getD j ⟨0,0, []⟩)) rfl rfl tA (by omega) rfl (by decide) rfl [(4, .rp [iv z]),(5, .rp [iv w])] ⟨.inl tA, .inl tA,tv⟩ (fun _=>false) ?_ ?_ ?_
  ·intro j hj _;have hnj:=MT hn j hj;refine⟨rfl,?_⟩;conv=>whnf
   by_cases hz:(t.images.getD j ⟨0,0, []⟩).zone=z
   ·rw [show ((t.images.getD j ⟨0,0, []⟩).zone == z)=true from beq_iff_eq.2 hz];conv=>whnf
    rw [show ((t.images.getD j ⟨0,0, []⟩).what == w)=false from beq_eq_false_iff_ne.2 fun e=>hnj ⟨hz,e⟩];conv=>whnf
   ·rw [show ((t.images.getD j ⟨0,0, []⟩).zone == z)=false from beq_eq_false_iff_ne.2 hz];conv=>whnf
  ·intro j hj h;cases h
  ·intro _;conv=>whnf
 ·intro i hik hh;obtain⟨i0,hi0⟩:=C6.1 hh;have him:=hi _ (A7 (d:=tz) hik);obtain⟨t,ht⟩:∃ t,t=l.getD i tz:=⟨_,rfl⟩;rw [show l.getD i ⟨0,0,0, []⟩=t from ht.symm];rw [<-ht] at hi0 him;refine⟨rfl,?_⟩;conv=>whnf
  refine(Ps ⟨_,Tryz.func232,rfl,by decide⟩ QT (DH t.images) _ OE).mono ?_;rintro _ _ ⟨rfl,rfl⟩;conv=>whnf
  refine aRF.back tys_ok bkim_is (B:=8) (len:=t.images.length) (E:=fun j=>D9 (t.images.getD j ⟨0,0, []⟩)) rfl rfl tA (by omega) rfl (by decide) rfl [(4, .rp [iv z]),(5, .rp [iv w])] ⟨.inr ⟨0,_,_,rfl,rfl,rfl,rfl⟩, .inr ⟨1,_,_,rfl,rfl,rfl,rfl⟩,tv⟩ (fun j=>decide ((t.images.getD j iz).zone=z/\(t.images.getD j iz).what=w)) ?_ ?_ ?_
  ·intro j hj hnj;have hnj:=of_decide_eq_false hnj;refine⟨rfl,?_⟩;conv=>whnf
   by_cases hz:(t.images.getD j ⟨0,0, []⟩).zone=z
   ·rw [show ((t.images.getD j ⟨0,0, []⟩).zone == z)=true from beq_iff_eq.2 hz];conv=>whnf
    rw [show ((t.images.getD j ⟨0,0, []⟩).what == w)=false from beq_eq_false_iff_ne.2 fun e=>hnj ⟨hz,e⟩];conv=>whnf
   ·rw [show ((t.images.getD j ⟨0,0, []⟩).zone == z)=false from beq_eq_false_iff_ne.2 hz];conv=>whnf
  ·intro j hj hy;have hy:=of_decide_eq_true hy;refine⟨rfl,?_⟩;conv=>whnf
   rw [show ((t.images.getD j ⟨0,0, []⟩).zone == z)=true from beq_iff_eq.2 hy.1];conv=>whnf
   rw [show ((t.images.getD j ⟨0,0, []⟩).what == w)=true from beq_iff_eq.2 hy.2];refine⟨by simp,rfl,fun hord=>?_⟩;refine⟨by simp,rfl,fun hord2=>?_⟩;conv=>whnf
   have hJ:Gg (l.getD i tz).images z w (l.getD i tz).images.length=some j:=by
    rw [<-ht];exact Om hy _ hj fun q q1 q2=>of_decide_eq_false (hord q q1 q2)
   rw [On hJ l.length hik fun q q1 q2=>by simpa using hord2 q q1 q2];exact⟨_,ri,rfl⟩
  ·intro hno;exfalso;have:=MU hi0;exact of_decide_eq_false (hno i0 this.1) this.2
 ·intro hh;have hn:=MV (l:=l) (z:=z) (w:=w) l.length fun q hq=>by simpa using hh q hq
  conv=>whnf
  rw [hn];exact⟨_,ri,rfl⟩
def Ha (x:Gt) (addr stamp:Int):Option (List UInt8):=match BR x addr with
 | some s=>if s.stamp=stamp then some s.pay else none
 | none=>none
theorem Wn {x:Gt} {addr stamp:Int} {b:List UInt8} (h:Ha x addr stamp=some b):b.length<=x.bytes.length:=by
 unfold Ha BR at h;split at h
 ·rename_i s hs;split at hs
  ·obtain rfl:=Option.some.inj hs;split at h
   ·obtain rfl:=Option.some.inj h;simp [C9];omega
   ·cases h
  ·cases hs
 ·cases h
theorem G8 (b:Bool):∀ (c:Ctx) (v:Value),Rd (.tp [.v (.slice none 0 0), .v (.bool b)]) c v->Rd (.tp [bA [], .v (.bool b)]) c v:=BX ⟨Bt 1 _,ri,tv⟩
theorem Tc (x:Gt) (addr stamp:Int) (hl:x.bytes.length<=100000):Fn Tryz.prog 230 [.ag (Dz x),iv addr,iv stamp] fun r=>r = .tp [bA ((Ha x addr stamp).getD []), .v (.bool (Ha x addr stamp).isSome)]:=by
 have ho:=V8 x.bytes hl;by_cases h0:x.err=0;rotate_left 1
 ·have e:Ha x addr stamp=none:=by
   unfold Ha BR;rw [if_neg (fun h=>h0 h.1)]
  rw [e];refine zS Tryz.func230 rfl ?_;conv=>whnf
  rw [show (x.err != 0)=true from bne_iff_ne.2 h0];exact⟨_,G8 false,rfl⟩
 by_cases h1:Di x.bytes=0;rotate_left 1
 ·have e:Ha x addr stamp=none:=by
   unfold Ha BR;rw [if_neg (fun h=>h1 h.2.1)]
  rw [e];rw [if_neg h1] at ho;refine zS Tryz.func230 rfl ?_;conv=>whnf
  rw [show (x.err != 0)=false from bne_eq_false_iff_eq.2 h0];conv=>whnf
  refine z_ ho ?_;conv=>whnf
  rw [show (Di x.bytes != 0)=true from bne_iff_ne.2 h1];exact⟨_,G8 false,rfl⟩
 rw [if_pos h1,h1] at ho;by_cases h2:CZ x.bytes=addr;rotate_left 1
 ·have e:Ha x addr stamp=none:=by
   unfold Ha BR;rw [if_neg (fun h=>h2 h.2.2)]
  rw [e];refine zS Tryz.func230 rfl ?_;conv=>whnf
  rw [show (x.err != 0)=false from bne_eq_false_iff_eq.2 h0];conv=>whnf
  refine z_ ho ?_;conv=>whnf
  rw [show ((⟨CZ x.bytes,Cv x.bytes,C9 x.bytes⟩:Sec).addr != addr)=true from bne_iff_ne.2 h2];exact⟨_,G8 false,rfl⟩
 have es:BR x addr=some ⟨CZ x.bytes,Cv x.bytes,C9 x.bytes⟩:=by unfold BR;rw [if_pos ⟨h0,h1,h2⟩]
 by_cases h3:Cv x.bytes=stamp
 ·have e:Ha x addr stamp=some (C9 x.bytes):=by unfold Ha;rw [es];simp only;rw [if_pos h3]
  rw [e];refine zS Tryz.func230 rfl ?_;conv=>whnf
  rw [show (x.err != 0)=false from bne_eq_false_iff_eq.2 h0];conv=>whnf
  refine z_ ho ?_;conv=>whnf
  rw [show ((⟨CZ x.bytes,Cv x.bytes,C9 x.bytes⟩:Sec).addr != addr)=false from bne_eq_false_iff_eq.2 h2];conv=>whnf
  rw [show ((⟨CZ x.bytes,Cv x.bytes,C9 x.bytes⟩:Sec).stamp != stamp)=false from bne_eq_false_iff_eq.2 h3];exact⟨_,ri,rfl⟩
 ·have e:Ha x addr stamp=none:=by unfold Ha;rw [es];simp only;rw [if_neg h3]
  rw [e];refine zS Tryz.func230 rfl ?_;conv=>whnf
  rw [show (x.err != 0)=false from bne_eq_false_iff_eq.2 h0];conv=>whnf
  refine z_ ho ?_;conv=>whnf
  rw [show ((⟨CZ x.bytes,Cv x.bytes,C9 x.bytes⟩:Sec).addr != addr)=false from bne_eq_false_iff_eq.2 h2];conv=>whnf
  rw [show ((⟨CZ x.bytes,Cv x.bytes,C9 x.bytes⟩:Sec).stamp != stamp)=true from bne_iff_ne.2 h3];exact⟨_,G8 false,rfl⟩
theorem Sm (x:Gt) (addr:Int) (e:Ent):En x addr e=match Ha x addr e.stamp with
  | some b=>if b.length=8/\((CR b:Nat):Int)=e.sum then some b else none
  | none=>none:=by
 unfold En Ha;cases BR x addr with
 | none=>rfl
 | some s=>
  simp only;by_cases h:s.stamp=e.stamp
  ·rw [if_pos h];simp only;by_cases h2:s.pay.length=8/\((CR s.pay:Nat):Int)=e.sum
   ·rw [if_pos h2,if_pos ⟨h,h2⟩]
   ·rw [if_neg h2,if_neg (fun q=>h2 q.2)]
  ·rw [if_neg h,if_neg (fun q=>h q.1)]
theorem U9 (x:Gt) (addr:Int) (e:Ent) (hl:x.bytes.length<=100000):Fn Tryz.prog 184 [.ag (Dz x),iv addr, .ag (Co e)] fun r=>r = .tp [bA ((En x addr e).getD []), .v (.bool (En x addr e).isSome)]:=by
 have hp:=Tc x addr e.stamp hl;rw [Sm];cases hq:Ha x addr e.stamp with
 | none=>
  rw [hq] at hp;refine zS Tryz.func184 rfl ?_;conv=>whnf
  refine z_ hp ?_;conv=>whnf
  apply zV (0) tys_ok mixed (.o [0,1,2,3,4,5,6,7,8,10,11,9,12,13] .fin) (by kernel_rfl);conv=>whnf
  (skip)
  exact⟨_,G8 false,rfl⟩
 | some b=>
  rw [hq] at hp;replace hp:Fn Tryz.prog 230 [.ag (Dz x),iv addr,iv e.stamp] fun r=>r = .tp [bA b, .v (.bool true)]:=hp
  have hs:=LV b;simp only;by_cases h8:b.length=8;rotate_left 1
  ·rw [if_neg (fun h=>h8 h.1)];refine zS Tryz.func184 rfl ?_;conv=>whnf
   refine z_ hp ?_;conv=>whnf
   apply zV (0) tys_ok mixed (.o [0,1,2,3,4,5,6,7,8,10,11,9,12,13] .fin) (by kernel_rfl);conv=>whnf
   (rw [show ((b.length:Int) != 8)=true from bne_iff_ne.2 (by omega)])
   conv=>whnf
   all_goals
    exact⟨_,G8 false,rfl⟩
  by_cases hE:((CR b:Nat):Int)=e.sum
  ·rw [if_pos ⟨h8,hE⟩];refine zS Tryz.func184 rfl ?_;conv=>whnf
   refine z_ hp ?_;conv=>whnf
   apply zV (0) tys_ok mixed (.o [0,1,2,3,4,5,6,7,8,10,11,9,12,13] .fin) (by kernel_rfl);conv=>whnf
   (rw [show ((b.length:Int) != 8)=false from bne_eq_false_iff_eq.2 (by omega)];(conv=>whnf);refine z_ hs ?_)
   conv=>whnf
   all_goals
    rw [show (((CR b:Nat):Int) != e.sum)=false from bne_eq_false_iff_eq.2 hE];exact⟨_,ri,rfl⟩
  ·rw [if_neg (fun h=>hE h.2)];refine zS Tryz.func184 rfl ?_;conv=>whnf
   refine z_ hp ?_;conv=>whnf
   apply zV (0) tys_ok mixed (.o [0,1,2,3,4,5,6,7,8,10,11,9,12,13] .fin) (by kernel_rfl);conv=>whnf
   (rw [show ((b.length:Int) != 8)=false from bne_eq_false_iff_eq.2 (by omega)];(conv=>whnf);refine z_ hs ?_)
   conv=>whnf
   all_goals
    rw [show (((CR b:Nat):Int) != e.sum)=true from bne_iff_ne.2 hE];exact⟨_,G8 false,rfl⟩
theorem LU (g:Geo) (x:Gt) (addr root:Int):BV g x addr root=match Ha x addr root with
  | some b=>C8 g b
  | none=>none:=by
 unfold BV Ha;cases BR x addr with
 | none=>rfl
 | some s=>
  simp only;by_cases h:s.stamp=root
  ·rw [if_pos h,if_pos h]
  ·rw [if_neg h,if_neg h]
theorem Rh {g:Geo} {b:List UInt8} (hg:Bq g=true):(Eh g b=0↔(C8 g b).isSome=true):=by
 unfold Eh;rw [hg,if_neg (by decide)];split <;> simp_all
theorem U5 (g:Geo) (x:Gt) (addr root:Int) (hg:Bq g=true) (hl:x.bytes.length<=100000):Fn Tryz.prog 181 [.ag (AT g), .ag (Dz x),iv addr,iv root] fun r=>r = .tp [.ag [Bv ((BV g x addr root).getD [])], .v (.bool (BV g x addr root).isSome)]:=by
 have hp:=Tc x addr root hl;have hG:Fn Tryz.prog 46 [.ag (AT g)] fun r=>r = .v (FM (Bq g)):=Ec g.z g.d g.sp g.sl g.an
 rw [hg] at hG;rw [LU];cases hq:Ha x addr root with
 | none=>
  rw [hq] at hp;refine zS Tryz.func181 rfl ?_;conv=>whnf
  refine z_ hp ?_;exact⟨_,BX (m:= [.ag [Bv []], .v (.bool false)]) ⟨Be ⟨Bt 3 _,tv⟩,ri,tv⟩,rfl⟩
 | some b=>
  rw [hq] at hp;replace hp:Fn Tryz.prog 230 [.ag (Dz x),iv addr,iv root] fun r=>r = .tp [bA b, .v (.bool true)]:=hp
  have hbl:=Wn hq;have hr:=LR g b (by omega);rw [hg,if_pos rfl] at hr;have hz:=Rh (b:=b) hg;simp only;refine zS Tryz.func181 rfl ?_;conv=>whnf
  refine z_ hp ?_;conv=>whnf
  refine z_ hG ?_;conv=>whnf
  refine z_ hr ?_;conv=>whnf
  cases hR:C8 g b with
  | none=>
   rw [hR] at hz;rw [show (Eh g b == 0)=false from beq_eq_false_iff_ne.2 fun e=>by have:=hz.1 e;cases this];exact⟨_,ri,rfl⟩
  | some t=>
   rw [hR] at hz;rw [show (Eh g b == 0)=true from beq_iff_eq.2 (hz.2 rfl)];exact⟨_,ri,rfl⟩
theorem Ws (a:An) (l:List Tx) (z:Int) (hz:0<=z/\z<a.homes.length) (hl:l.length<=1000000) (hi:∀ t∈l,t.images.length<=1000000):Fn Tryz.prog 178 [.ag (Ew a),Dh l,iv z] fun r=>r = .tp [iv (Cs a l z),iv 0]:=by
 have hf:=Qk l z 255 hl hi;have e:CO l z 255=_:=LG l z 255 l.length;unfold Cs;rw [e];cases hA:Hj l z 255 l.length with
 | none=>
  rw [hA] at hf;refine zS Tryz.func178 rfl ?_;conv=>whnf
  rw [show decide (z<0)=false from decide_eq_false (by omega)];conv=>whnf
  rw [show decide (z>=(a.homes.length:Nat))=false from decide_eq_false (by omega)];conv=>whnf
  refine z_ hf ?_;refine⟨⟨by omega,by omega⟩,?_⟩;exact⟨_,ri,rfl⟩
 | some p=>
  obtain⟨k,i⟩:=p;rw [hA] at hf;obtain⟨hk,hi2⟩:=Kn hA;simp only at hk hi2;replace hf:Fn Tryz.prog 182 [Dh l,iv z,iv 255] fun r=>r = .tp [iv (k:Nat),iv (i:Nat), .v (.bool true)]:=hf
  have ixA:(0:Int)<=(k:Nat)/\((k:Nat):Int)<(l.length:Nat):=by omega
  refine zS Tryz.func178 rfl ?_;conv=>whnf
  rw [show decide (z<0)=false from decide_eq_false (by omega)];conv=>whnf
  rw [show decide (z>=(a.homes.length:Nat))=false from decide_eq_false (by omega)];conv=>whnf
  refine z_ hf ?_;refine⟨ixA,?_⟩;exact⟨_,ri,rfl⟩
theorem Uv (g:Geo) (lba:Int) (hg:Bq g=true) (h:0<=lba/\lba<g.z*g.d):Fn Tryz.prog 108 [.ag (AT g),iv lba] fun r=>r = .tp [iv (lba.tdiv g.d),iv (lba.tmod g.d),iv 0]:=by
 obtain⟨h1,h2,h3,h4,h5⟩:=Aq.1 hg;have hG:Fn Tryz.prog 46 [.ag (AT g)] fun r=>r = .v (FM (Bq g)):=Ec g.z g.d g.sp g.sl g.an
 rw [hg] at hG;have hp:g.z*g.d<=16:=Int.le_trans (BH h1.2 (by omega)) (by omega);have hw:IntKind.i64.wrap (IntKind.i64.wrap (g.z*g.d) - 1)=g.z*g.d - 1:=by rw [wi (n:=g.z*g.d) (by omega),wi (by omega)]
 have hn:=I6 lba 0 (IntKind.i64.wrap (IntKind.i64.wrap (g.z*g.d) - 1));rw [show CK lba 0 (IntKind.i64.wrap (IntKind.i64.wrap (g.z*g.d) - 1))=true from AI.2 (by rw [hw];omega)] at hn;have hq:lba.tdiv g.d=lba / g.d:=Bb h.1;have hq2:0<=lba / g.d/\lba / g.d<=lba:=⟨CP h.1 (by omega),Int.ediv_le_self _ h.1⟩;refine zS Tryz.func108 rfl ?_;conv=>whnf
 refine z_ hG ?_;conv=>whnf
 refine z_ hn ?_;conv=>whnf
 have hd0:g.d≠0:=by omega
 refine z7 tys_ok mixed [0,1,2,3,4,5,6,7,8,9,10] (by kernel_rfl) ?_;refine⟨hd0,?_⟩;refine⟨hd0,?_⟩;exact⟨_,ri,by rw [wi (n:=lba.tdiv g.d) (by omega)]⟩
theorem UJ (g:Geo) (w:Int):Fn Tryz.prog 185 [.ag (AT g),iv w] fun r=>r = iv (E7 g w):=by
 unfold E7;by_cases h:w = -1
 ·rw [if_pos h];refine zS Tryz.func185 rfl ?_;conv=>whnf
  rw [show (w == -1)=true by simpa using h];exact⟨_,ri,rfl⟩
 ·rw [if_neg h];refine zS Tryz.func185 rfl ?_;conv=>whnf
  rw [show (w == -1)=false by simpa using h];exact⟨_,ri,rfl⟩
end
section
open Go.RowKit Go.Maps
theorem Fn.at {P:Program} {f:FuncId} {args:List AV} {K:AV->Prop} (h:Fn P f args K) {c0:Ctx} (hd:c0.dom=0) (hM:∀ b,c0.M b->b<c0.w.heap.size) (hg:globOk c0.w) {W:World} (hB:Below c0.w.heap.size c0.w W) {us:List Value} (hr:RdL args { c0 with w:=W } us) :
  Calls P f us.toArray W fun e w'=>∃ v r,e = .returned v/\K r/\Below W.heap.size W w'/\Rd r { c0 with w:=w' } v:=
 h.2 { c0 with w:=W } us hd (fun b hb=>At (hM b hb) hB.size) (hg.keep hB.size hB.block) hr
theorem NL {w w':World} {P:Program} {k:TypeId} {R:Value->Option (DataW Unit × List MemPlace)} {b n:Nat} {D:DataW Unit} (h:w.ownsMap P k R b n D) (hB:Below w.heap.size w w'):w'.ownsMap P k R b n D:=by
 have hl:=h.lt;obtain⟨es,clock,hb,r⟩:=h;exact⟨es,clock,(hB.block b hl).trans hb,r⟩
theorem und_map:Tryz.prog.underlying 328=some (.map 3 4):=by kernel_rfl
theorem und_int:Tryz.prog.underlying 3=some (.int .i64):=by kernel_rfl
theorem und_bool:Tryz.prog.underlying 4=some .bool:=by kernel_rfl
theorem TC (g:Geo) (A:Int) (hg:Bq g=true) (h:0<=A/\A<g.z*g.d):Fn Tryz.prog 193 [.ag (AT g),iA [A]] fun r=>r = .tp [iv 4,iv 0]:=by
 refine⟨⟨_,Tryz.func193,rfl,by decide⟩,fun c0 us hd hM hgl hr=>?_⟩;obtain⟨u1,u2,rfl,h1,h2⟩:=aR hr;have hu1:u1 = .agg #[.int .i64 g.z, .int .i64 g.d, .int .i64 g.sp, .int .i64 g.sl, .int .i64 g.an]:=by
  simp only [AT,Rd,RdL] at h1;obtain⟨xs,rfl,a1,_,rfl,rfl,a2,_,rfl,rfl,a3,_,rfl,rfl,a4,_,rfl,rfl,a5,_,rfl,rfl,rfl⟩:=h1;rfl
 have hs:=Ri h2;obtain⟨a,k,rfl⟩:=hs.form;subst hu1;have hC:Fn Tryz.prog 46 [.ag (AT g)] fun r=>r = .v (FM (Bq g)):=Ec g.z g.d g.sp g.sl g.an
 rw [hg] at hC;have hS:=Uv g A hg h;have hX:=Qx [] A (by decide);have hkb:k<=maxLen:=hs.cap.2.2;obtain⟨b,o,rfl, -,hx⟩:=Pe hs (k:=0) (show 0<1 by decide);have rg:∀ W,Rd (.ag (AT g)) { c0 with w:=W } (.agg #[.int .i64 g.z, .int .i64 g.d, .int .i64 g.sp, .int .i64 g.sl, .int .i64 g.an]):=fun W=>by
  simp [Rd,RdL,AT]
 have cC:∀ W,Below c0.w.heap.size c0.w W->Calls Tryz.prog 46 #[.agg #[.int .i64 g.z, .int .i64 g.d, .int .i64 g.sp, .int .i64 g.sl, .int .i64 g.an]] W fun e w'=>e = .returned (.int .i64 0)/\Below W.heap.size W w':=fun W hB=>(hC.at hd hM hgl hB (us:= [_]) (by simpa [RdL] using rg W)).mono fun e w' ⟨v,r,h1,h2,h3,h4⟩=>by
  subst h2;simp only [Rd] at h4;subst h4;exact⟨h1,h3⟩
 have cS:∀ W,Below c0.w.heap.size c0.w W->Calls Tryz.prog 108 #[.agg #[.int .i64 g.z, .int .i64 g.d, .int .i64 g.sp, .int .i64 g.sl, .int .i64 g.an], .int .i64 A] W fun e w'=>e = .returned (.tuple #[.int .i64 (A.tdiv g.d), .int .i64 (A.tmod g.d), .int .i64 0])/\Below W.heap.size W w':=fun W hB=>(hS.at hd hM hgl hB (us:= [_,_]) (by simpa [RdL,Rd] using rg W)).mono fun e w' ⟨v,r,h1,h2,h3,h4⟩=>by
  subst h2;simp only [Rd,RdL] at h4;obtain⟨xs,rfl,a1,_,rfl,rfl,a2,_,rfl,rfl,a3,_,rfl,rfl,rfl⟩:=h4;exact⟨h1,h3⟩
 have cX:∀ W v,Below c0.w.heap.size c0.w W->Rd (iA []) { c0 with w:=W } v->Calls Tryz.prog 128 #[v, .int .i64 A] W fun e w'=>e = .returned (.bool false)/\Below W.heap.size W w':=fun W v hB hv=>(hX.at hd hM hgl hB (us:= [v,_]) (by simpa [RdL,Rd] using hv)).mono fun e w' ⟨v,r,h1,h2,h3,h4⟩=>by
  subst h2;simp only [Rd] at h4;subst h4;exact⟨h1,h3⟩
 have hmm:=@run_makeMap Tryz.prog;clear hC hS hX hr h2 h1 hs rg
 go_enter Tryz.func193,Tryz.ntmps193
 go_wp2_with fail
 have hB1:Below c0.w.heap.size c0.w (c0.w.alloc (.cells #[.int .i64 g.z, .int .i64 g.d, .int .i64 g.sp, .int .i64 g.sl, .int .i64 g.an] 23)):=(Below.refl _ _).alloc (Ah _) _;((with_reducible refine(cC _ hB1).mono ?_);rintro e w1 ⟨rfl,hBa⟩);have hs1:c0.w.heap.size+1<=w1.heap.size:=by have:=hBa.size;simpa using this
 have hBw:=Lib.hid (hB1.trans (hBa.mono (by simp)));have hbk:=Lib.hid ((hBa.block c0.w.heap.size (by simp)).trans (heap_alloc_new _ _));clear hB1 hBa cC
 go_wp2_with fail
 refine wp_loop_rounds 2 ?_;rw [rounds_succ];have hB2:=Lib.hid (hBw.out.alloc (by omega) (.map #[] 0));have hcell:∀ i,(w1.alloc (.map #[] 0)).cell? ⟨c0.w.heap.size,i,none⟩ = #[Value.int .i64 g.z, .int .i64 g.d, .int .i64 g.sp, .int .i64 g.sl, .int .i64 g.an][i]? :=fun i=>by
  simp only [World.cell?];rw [Below.heap_alloc _ _ _ (by omega),hbk.out];rfl
 have hx2:(w1.alloc (.map #[] 0)).cell? ⟨b,o,none⟩=some (.int .i64 A):=by
  have q:=World.block_lt_of_cell? c0.w _ hx;exact(hB2.out.cell (by exact q)).trans hx
 have hown:(w1.alloc (.map #[] 0)).ownsMap Tryz.prog 3 (plainElem (H:=Unit) Tryz.prog 4) w1.heap.size 0 (.map []):=World.ownsMap_made _ _ _ _;generalize hW:w1.alloc (.map #[] 0)=W2 at *
 go_wp2_with fail
 ((with_reducible refine(cS _ hB2.out).mono ?_);rintro e w2 ⟨rfl,hBb⟩);have hB3:=Lib.hid (hB2.out.trans (hBb.mono hB2.out.size));have hown2:=NL hown hBb;have hs2:=hBb.size;have hs3:c0.w.heap.size<W2.heap.size:=by rw [<-hW];simp;omega
 have hcell2:∀ i,w2.cell? ⟨c0.w.heap.size,i,none⟩ = #[Value.int .i64 g.z, .int .i64 g.d, .int .i64 g.sp, .int .i64 g.sl, .int .i64 g.an][i]? :=fun i=>(hBb.cell (p:=⟨c0.w.heap.size,i,none⟩) hs3).trans (hcell i)
 clear hcell hx2 hown cS
 go_wp2_with fail
 ((with_reducible refine(cX _ _ hB3.out ?_).mono ?_))
 ·simp only [iA,Rd];exact⟨_,k,rfl,Aj _,hkb, .inl rfl⟩
 rintro e w3 ⟨rfl,hBc⟩;have hB4:=Lib.hid (hB3.out.trans (hBc.mono hB3.out.size));have hown3:=NL hown2 hBc;have hs4:=hBc.size;have hZ:(Lit.int .i64 (A.tdiv g.d)).wf=true:=by
  obtain⟨h1,h2,h3,h4,h5⟩:=Aq.1 hg;have hp:g.z*g.d<=16:=Int.le_trans (BH h1.2 (by omega)) (by omega);have hq:A.tdiv g.d=A / g.d:=Bb h.1;have hq2:0<=A / g.d/\A / g.d<=A:=⟨CP h.1 (by omega),Int.ediv_le_self _ h.1⟩;have : -9223372036854775808<=A.tdiv g.d/\A.tdiv g.d<=9223372036854775807:=by omega
  simp only [Lit.wf];rw [Ae];exact⟨decide_eq_true this.1,decide_eq_true this.2⟩
 have hkey:keyOf Tryz.prog 3 (.int .i64 (A.tdiv g.d))=some (.int .i64 (A.tdiv g.d)):=keyOf_int_mk und_int hZ;clear hcell2 hown2 cX
 go_wp2_with (first
  | (at_mapUpdate;refine wpList_mapUpdate_own _ rfl _ _ _ 328 rfl 3 4 (int_keyed und_int) und_map (plainElem (H:=Unit) Tryz.prog 4) w1.heap.size 0 _ rfl hown3 (by unfold maxLen;omega) _ _ _ rfl rfl hkey _ [] (plainElem_bool und_bool true) ?_;intro w4 hown4 hgrow4)
  | go_in)
 rw [rounds_succ];have hsz:Maps.size ((DataW.map (H:=Unit) []).put (Lit.int .i64 (A.tdiv g.d)) (.lit (.bool true)))=1:=rfl;have hB5:=Lib.hid (hB4.out.grown hgrow4 (by have:=hB4.out.size;omega) (fun j hj=>by cases hj;omega))
 go_wp2_with (first
  | (at_len;refine wpList_len_own _ rfl _ 328 rfl 3 4 und_map _ w1.heap.size (0+1) _ rfl hown4 ?_)
  | go_in)
 go_ret2
 refine⟨_,_,rfl,rfl,hB5.out,?_⟩;simp only [Rd,RdL];exact⟨_,rfl,_,_,rfl,rfl,_,_,rfl,rfl,rfl⟩
end
section
open Go.RowKit
theorem KG (l:List Tx) (z w:Int) (hl:l.length<=1000000) (hi:∀ t∈l,t.images.length<=1000000/\∀ x∈t.images,x.bytes.length<=1000000000):ACalls Tryz.prog false 110 [.ow 0 l.length,iv z,iv w] [.row 45 4 (l.map CI)] fun r H=>r=(match CO l z w with | some p=> .tp [bA p.1.bytes,iv p.2, .v (.bool true)] | none=> .tp [bA [],iv 0, .v (.bool false)])/\H=[.row 45 4 (l.map CI)]:=by
 have hf:=Qk l z w hl (fun t ht=>(hi t ht).1);have e:CO l z w=_:=LG l z w l.length;rw [e];have tsub:SubL [.sl 4 l.length fun i=>(l.map CI).getD i [],iv z,iv w] [Dh l,iv z,iv w]:=⟨Ba (f:=CI) l rfl rfl,ri,ri,tv⟩;cases hA:Hj l z w l.length with
 | none=>
  rw [hA] at hf;refine zT tys_ok Tryz.func110 rfl rfl (Ag rfl) ?_;conv=>whnf
  refine zp (args':= [.sl 4 l.length fun i=>(l.map CI).getD i [],iv z,iv w]) (hf.subA tsub) ⟨(Aa _).symm,rfl⟩ ?_;rintro _ rfl;refine⟨rfl,?_⟩;exact⟨_, .tp [bA [],iv 0, .v (.bool false)], [.row 45 4 (l.map CI)],BX (m:= [bA [],iv 0, .v (.bool false)]) ⟨Bt 1 _,ri,ri,tv⟩,zR (s:= [0]) tA,rfl,rfl⟩
 | some p=>
  obtain⟨k,i⟩:=p;rw [hA] at hf;obtain⟨hk,hi2⟩:=Kn hA;simp only at hk hi2;have hm:=hi _ (A7 (d:=tz) hk);have hc:=Ck ((l.getD k tz).images.getD i iz).bytes (hm.2 _ (A7 hi2));replace hf:Fn Tryz.prog 182 [Dh l,iv z,iv w] fun r=>r = .tp [iv (k:Nat),iv (i:Nat), .v (.bool true)]:=hf
  have ixA:(0:Int)<=(k:Nat)/\((k:Nat):Int)<(l.length:Nat):=by omega
  have ixB:(0:Int)<=(i:Nat)/\((i:Nat):Int)<((l.getD k tz).images.length:Nat):=⟨Int.natCast_nonneg _,Int.ofNat_lt.2 hi2⟩;have hE:(l.map CI).getD (k:Int).toNat []=CI (l.getD k tz):=by rw [Ac];exact Bg hk
  refine zT tys_ok Tryz.func110 rfl rfl (Ag rfl) ?_;conv=>whnf
  refine zp (args':= [.sl 4 l.length fun i=>(l.map CI).getD i [],iv z,iv w]) (hf.subA tsub) ⟨(Aa _).symm,rfl⟩ ?_;rintro _ rfl;refine⟨rfl,?_⟩;conv=>whnf
  apply zV (0) tys_ok mixed (.o [0,1,2,3,4,5,6,7,8,10,11,12,13,14,9,15,16,17] .fin) (by kernel_rfl);conv=>whnf
  try (refine tI ?_;conv=>whnf)
  try (first | (refine Ad ⟨rfl,(Aa _).symm,by rw [Ac];exact hk⟩ ?_;(conv=>whnf);rw [hE]) | skip;conv=>whnf)
  try (refine tI ?_;conv=>whnf)
  try (first | (refine Ad ⟨rfl,(Aa _).symm,by rw [Ac];exact hk⟩ ?_;(conv=>whnf);rw [hE]) | skip;conv=>whnf)
  try (refine tI ?_;conv=>whnf)
  try (first | (refine Ad ⟨rfl,(Aa _).symm,by rw [Ac];exact hk⟩ ?_;(conv=>whnf);rw [hE]) | skip;conv=>whnf)
  refine z_ hc ?_;conv=>whnf
  all_goals exact⟨_, .tp [bA ((l.getD k tz).images.getD i iz).bytes, .v (.int .i64 (l.getD k tz).seq), .v (.bool true)], [.row 45 4 (l.map CI)],fun _ _ h=>h,zR (s:= [0]) tA,rfl,rfl⟩
theorem Wp (l:List Tx) (hl:l.length<=1000000) (hi:∀ t∈l,t.images.length<=1000000/\∀ x∈t.images,x.bytes.length<=1000000000):ACalls Tryz.prog false 88 [Dh l] [] fun r H=>r = .ow 0 l.length/\H=[.row 45 4 (l.map CI)]:=by
 have hc:=K2 l (by omega);refine zT tys_ok Tryz.func88 rfl rfl (Ag rfl) ?_;conv=>whnf
 refine zW hc rfl ?_;rintro _ _ ⟨rfl,rfl⟩;conv=>whnf
 refine zU Nat (fun k=>([(0, .ow 0 l.length),(9,iv l.length),(10,iv k)], [.row 45 4 (l.map CI)])) (fun k=>k<=l.length) (fun k=>l.length - k) 0 (Aj _)
  (zR (s:= [0]) tA) ?_
 intro k hk;conv=>whnf
 refine A8 (fun h6=>?_) (fun h6=>?_) <;> (repeat rw [Ac] at h6) <;> conv=>whnf
 ·have hk':k<l.length:=by omega
  have hm:=hi _ (A7 (d:=(⟨0,0,0, []⟩:Tx)) hk');have hE:(l.map CI).getD (k:Int).toNat []=CI (l.getD k ⟨0,0,0, []⟩):=by rw [Ac];exact Bg hk'
  have ho:=NZ (l.getD k ⟨0,0,0, []⟩).images (by omega);repeat' (refine zY ?_;conv=>whnf)
  refine⟨⟨by omega,by omega⟩,?_⟩;conv=>whnf
  refine Ad ⟨rfl,(Aa _).symm,by rw [Ac];exact hk'⟩ ?_;conv=>whnf
  rw [hE];conv=>whnf
  refine zg (ConvH.rowo (k:=0) rfl) ?_;refine zW ho rfl ?_;rintro _ _ ⟨rfl,rfl⟩;refine⟨⟨by omega,by omega⟩,?_⟩;conv=>whnf
  refine Ad ⟨rfl,(Aa _).symm,by rw [Ac];exact hk'⟩ ?_;conv=>whnf
  rw [hE];refine⟨⟨by omega,by omega⟩,?_⟩;conv=>whnf
  refine Ad ⟨rfl,by rw [AW,Aa],by rw [Ac];exact hk'⟩ ?_;conv=>whnf
  rw [BQ (by rw [Ac,Aa];exact hk')];conv=>whnf
  obtain⟨t,ht⟩:∃ t,t=l.getD k ⟨0,0,0, []⟩:=⟨_,rfl⟩;rw [<-ht] at hm hE |-
  have hS:∀ x∈l.map CI,AV.ltL x 0=true:=V1 l;have hro:AV.ltL ((l.map CI).set k (Vi t 1)).flatten 2=true:=Ma hS rfl;refine zU Nat (fun j=>([(0, .ow 0 l.length),(3,iv k),(9,iv l.length),(10,iv k),(27, .ow 1 t.images.length),(28,iv t.images.length),(29,iv j)], [.rowo 45 4 ((l.map CI).set k (Vi t 1)) 2, .row 51 3 (t.images.map D9)])) (fun j=>j<=t.images.length) (fun j=>t.images.length - j) 0 (Aj _)
   (zR (s:= [0,1]) ⟨tA,⟨⟨hro,_,by rw [IH hS rfl];rfl⟩,rfl,tv⟩,rfl,rfl,rfl,rfl,rfl⟩) ?_
  intro j hj;conv=>whnf
  refine A8 (fun h7=>?_) (fun h7=>?_) <;> (repeat rw [Ac] at h7) <;> conv=>whnf
  ·have hj':j<t.images.length:=by omega
   have hF:(t.images.map D9).getD (j:Int).toNat []=D9 (t.images.getD j ⟨0,0, []⟩):=by rw [Ac];exact Bg hj'
   have hG:((l.map CI).set k (Vi t 1)).getD (k:Int).toNat []=Vi t 1:=by rw [Ac];exact BQ (by rw [Aa];exact hk')
   have b1:=Ck (t.images.getD j ⟨0,0, []⟩).bytes (hm.2 _ (A7 hj'));refine⟨⟨by omega,by omega⟩,?_⟩;conv=>whnf
   refine Ad ⟨rfl,(Aa _).symm,by rw [Ac];exact hj'⟩ ?_;conv=>whnf
   rw [hF];conv=>whnf
   apply zV (0) tys_ok mixed (.o [0,1,2,3,4,5,6,7,8,9,10,11] .fin) (by kernel_rfl);conv=>whnf
   try (refine tI ?_;conv=>whnf)
   try (first | (refine Ad ⟨rfl,by rw [AW,Aa],by rw [Ac];exact hk'⟩ ?_;(conv=>whnf);rw [hG]) | skip;conv=>whnf)
   try (first | (refine Ad ⟨rfl,by rw [AW,Aa],by rw [Ac];exact hk'⟩ ?_;(conv=>whnf);rw [hG]) | skip;conv=>whnf)
   refine z_ b1 ?_;conv=>whnf
   try (refine tI ?_;conv=>whnf)
   try (refine tS ?_;conv=>whnf)
   (first | rw [hF] | skip)
   conv=>whnf
   all_goals refine⟨j+1,hj',by omega,zI (zK (zB (k:=1) rfl (es':=t.images.map D9) (by simp) ?_)) (s:= [0,1]) ⟨⟨rfl,rfl,rfl,rfl,rfl,rfl,AL (by omega),tv⟩,⟨⟨hro,_,by rw [IH hS rfl];rfl⟩,rfl,tv⟩,rfl,rfl,rfl,rfl,rfl⟩⟩
   all_goals
    intro i;rw [Ac];refine G2 (f:=D9) (d:=(⟨0,0, []⟩:Img)) hj' ?_ i;exact⟨fun _ _ h=>h,fun _ _ h=>h,fun _ _ h=>h,tv⟩
  ·exact⟨k+1,hk',by omega,zI (zK (NM hk' ht)) (s:= [0]) ⟨⟨rfl,rfl,AL (by omega),tv⟩,tA,rfl,rfl,rfl,rfl,rfl⟩⟩
 ·exact⟨.ow 0 l.length, .ow 0 l.length, [.row 45 4 (l.map CI)],fun _ _ h=>h,zR (s:= [0]) tA,rfl,rfl⟩
@[reducible] def stT (s:Stt) (tx lo:AV):List AV:= [iv s.a.gen,iv s.a.epoch,iv s.a.pos,iv s.a.seq,iv s.a.last, .v (.string s.a.label),Ig s.a.homes,tx, .v (.bool s.only),iv s.cursor,iv s.found,iv s.fixed,iv s.moved,lo]
theorem UZ (s:Stt) (h:StSm s):ACalls Tryz.prog false 37 [.ag (Fh s)] [] fun r H=>r = .ag (stT s (.ow 0 s.txns.length) (.ow 1 s.lost.length))/\H=[.row 45 4 (s.txns.map CI), .row 3 1 (s.lost.map Pw)]:=by
 have c1:=QW s.a (by have:=h.h.1;omega) h.h.2;have c2:=Wp s.txns (by have:=h.t.1;omega) (fun t ht=>⟨by have:=(h.t.2 t ht).1;omega,fun x hx=>by have:=(h.t.2 t ht).2 x hx;omega⟩);have c3:=Ke s.lost (by have:=h.o;omega);refine zT tys_ok Tryz.func37 rfl rfl (Ag rfl) ?_;conv=>whnf
 apply zV (0) tys_ok mixed (.o [0,1,3,4,6,7,8,2,10,5,9,11,12,13,14,15,16] .fin) (by kernel_rfl);conv=>whnf
 refine z_ c1 ?_;conv=>whnf
 (refine zW c2 rfl ?_;rintro _ _ ⟨rfl,rfl⟩)
 conv=>whnf
 (refine zW c3 rfl ?_;rintro _ _ ⟨rfl,rfl⟩)
 conv=>whnf
 try (refine tS ?_;conv=>whnf)
 try (refine tS ?_;conv=>whnf)
 try (refine tS ?_;conv=>whnf)
 all_goals exact⟨_, .ag (stT s (.ow 0 s.txns.length) (.ow 1 s.lost.length)), [.row 45 4 (s.txns.map CI), .row 3 1 (s.lost.map Pw)],fun _ _ h=>h,zR (s:= [2,3]) tA,rfl,rfl⟩
@[reducible] def ZV (g:Geo) (x tx lo:AV) (s:Stt):List AV:= [iv g.z,iv g.d,iv g.sp,iv g.sl,iv g.an,x,iv s.a.gen,iv s.a.epoch,iv s.a.pos,iv s.a.seq,iv s.a.last, .v (.string s.a.label),Ig s.a.homes,tx, .v (.bool s.only),iv s.cursor,iv s.found,iv s.fixed,iv s.moved,lo]
@[reducible] def Hp (g:Geo) (s:Stt) (d:Dk):List AB:= [.box 107 (ZV g (.bp 1 0) (.ow 4 s.txns.length) (iA s.lost) s), .box 113 (Hr (.ow 2 d.cells.length) (.ow 3 d.cache.length) d.reqs d.left), .row 84 3 (d.cells.map BG), .row 131 2 (d.cache.map EK), .row 45 4 (s.txns.map CI)]
@[reducible] def bwM (g:Geo) (s:Stt) (d:Dk):List AB:= [.box 23 (AT g), .box 38 (FX d), .box 34 (Fh s), .box 113 (Hr (.ow 4 d.cells.length) (.ow 5 d.cache.length) d.reqs d.left), .row 84 3 (d.cells.map BG), .row 131 2 (d.cache.map EK), .row 45 4 (s.txns.map CI)]
theorem YO (g:Geo) (d:Dk) (s:Stt) (h:DkOk d) (hst:P9 g d s=true) (hs:StSm s):ACalls Tryz.prog false 34 [.ag (AT g), .ag (FX d), .ag (Fh s)] [] fun r H=>r = .tp [.bp 0 0,iv 0]/\H=Hp g s d:=by
 have hN:=h.n;have hM:=h.m;have c1:=O1 g d s (by omega) (by omega) hs.big;rw [hst] at c1;have c2:=Td d (by omega) (by omega);have c3:=UZ s hs;refine zT tys_ok Tryz.func34 rfl rfl (Ag rfl) ?_;conv=>whnf
 refine z_ c1 ?_;conv=>whnf
 apply zV (0) tys_ok mixed (.o [0,1,3,2,4,5,6,7,8] .fin) (by kernel_rfl);conv=>whnf
 (refine zW c2 rfl ?_;rintro _ _ ⟨rfl,rfl⟩)
 conv=>whnf
 (refine zW c3 rfl ?_;rintro _ _ ⟨rfl,rfl⟩)
 conv=>whnf
 have hx:ConvH (bwM g s d ++ [.row 3 1 (s.lost.map Pw), .box 107 (ZV g (.bp 3 0) (.ow 6 s.txns.length) (.ow 7 s.lost.length) s)]) (bwM g s d ++ [.dead, .box 107 (ZV g (.bp 3 0) (.ow 6 s.txns.length) (iA s.lost) s)]):=by
  refine zt (zw 8 7 (cs2:=ZV g (.bp 3 0) (.ow 6 s.txns.length) (.sl 1 (s.lost.map Pw).length fun i=>(s.lost.map Pw).getD i []) s) rfl rfl ?_) (zu 8 rfl ⟨ri,ri,ri,ri,ri,ri,ri,ri,ri,ri,ri,ri,ri,ri,ri,ri,ri,ri,ri,Ba (f:=Pw) (d:=0) s.lost (Aa _) rfl,tv⟩);simp only [A0,Bn,Ft (Aa _).symm];rfl
 all_goals exact⟨_, .tp [.bp 0 0,iv 0],Hp g s d,fun _ _ h=>h,zI (zK hx) (s:= [8,3,4,5,6]) tA,rfl,rfl⟩
theorem SK {g:Geo} {b:List UInt8} {t:List Ent} (h:C8 g b=some t):t.length=(g.d+1).toNat:=by
 unfold C8 at h;split at h
 ·rw [<-Option.some.inj h,entsOf_len]
 ·cases h
theorem P7 {g:Geo} {x:Gt} {q r:Int} {t:List Ent} (h:BV g x q r=some t):t.length=(g.d+1).toNat:=by
 rw [LU] at h;split at h
 ·exact SK h
 ·cases h
theorem Zs {g:Geo} (hg:Bq g=true) {s:Stt} {F:Int->List UInt8} {z:Int} {t:List Ent} (h:Ex g s F z=some t):(t.length:Int)=g.d+1:=by
 have g5:=Aq.1 hg;have:t.length=(g.d+1).toNat:=by
  unfold Ex at h;split at h
  ·exact SK h
  ·split at h
   ·rename_i q;rw [<-Option.some.inj h];exact P7 q
   ·exact P7 h
 omega
def Zd (g:Geo) (i:Nat):Int:=if (i:Int)=g.d then -1 else (i:Nat)
def U0 (g:Geo) (s:Stt) (F:Int->List UInt8) (t:List Ent) (z:Int) (k:Nat):List (List UInt8):=(List.range k).map fun i=>G6 g s F t z (Zd g i)
theorem YA {g:Geo} (hg:Bq g=true) (s:Stt) (F:Int->List UInt8) (t:List Ent) (z:Int):U0 g s F t z (g.d.toNat+1)=Cx g s F t z:=by
 obtain⟨g1,g2,g3,g4,g5⟩:=Aq.1 hg;unfold U0 Cx J0;rw [Bm,A9,A0,Bn,show Zd g g.d.toNat = -1 by unfold Zd;rw [if_pos (by omega)]];congr 1;refine C0 fun i hi=>?_
 have:=AO.1 hi;unfold Zd;rw [if_neg (by omega)]
theorem Y8 (g:Geo) (s:Stt) (d:Dk) (a:Int) (h:DkOk d) (ha:0<=a/\a<d.cells.length) :
  ACalls Tryz.prog false 180 [.bp 0 0,iv a] (Hp g s d) fun r H=>r = .ag (Dz ⟨(d.read a).2.2,(d.read a).2.1⟩)/\H=Hp g s (d.read a).1:=by
 have hr:=Xi Ck d a h.l ha h.m (fun c hc=>by have:=(h.c c hc).2.1;omega) (fun w hw=>by have:=(h.w w hw).2;omega);refine zT tys_ok Tryz.func180 rfl rfl (Ag rfl) ?_;conv=>whnf
 refine ze9 [1,2,3] hr ?_;rintro _ _ ⟨rfl,rfl⟩;exact⟨_, .ag (Dz ⟨(d.read a).2.2,(d.read a).2.1⟩),Hp g s (d.read a).1,fun _ _ h=>h,zR (s:= [0,1,2,3,4]) tA,rfl,rfl⟩
theorem QQ (g:Geo) (s:Stt) (d:Dk) (a:Int) (b:List UInt8) (h:DkOk d) (ha:0<=a/\a<d.cells.length) (hb:b.length<=200) :
  ACalls Tryz.prog false 160 [.bp 0 0,iv a,bA b] (Hp g s d) fun r H=>r = .tp [.v (.bool (decide ((d.write a b).2=0))),iv (if (d.write a b).2=8 then 8 else 0)]/\H=Hp g s (d.write a b).1:=by
 have hr:=Oq Ck d a b h.l ha h.m (by omega);have he:(d.write a b).2=8\/(d.write a b).2=7\/(d.write a b).2=0:=by
  unfold Dk.write;split
  ·exact .inl rfl
  ·split
   ·exact .inr (.inl rfl)
   ·exact .inr (.inr rfl)
 generalize d.write a b=q at hr he |-
 obtain⟨d',e⟩:=q;simp only at hr he |-
 refine zT tys_ok Tryz.func160 rfl rfl (Ag rfl) ?_;conv=>whnf
 refine ze9 [1,2,3] hr ?_;rintro _ _ ⟨rfl,rfl⟩;rcases he with rfl | rfl | rfl
 all_goals
  exact⟨_,_,Hp g s d',fun _ _ h=>h,zR (s:= [0,1,2,3,4]) tA,rfl,rfl⟩
theorem Q5 (g:Geo) (s:Stt) (d:Dk) (F:Int->List UInt8) (a:Int) (h:Gd (Aw g) d F) (ha:0<=a/\a<Aw g) :
  ACalls Tryz.prog false 180 [.bp 0 0,iv a] (Hp g s d) fun r H=>r = .ag (Dz ⟨0,F a⟩)/\∃ d',Gd (Aw g) d' F/\H=Hp g s d':=by
 have hr:=Y8 g s d a h.ok (by rw [h.len];exact ha);rw [h.read ha.1 ha.2] at hr;exact hr.mono fun r H hh=>⟨hh.1,d.req,h.req,hh.2⟩
theorem Xn (g:Geo) (s:Stt) (d:Dk) (F:Int->List UInt8) (z:Int) (hg:Bq g=true) (hl:LogB s.txns) (ha:Bj g s.a=true) (h:Gd (Aw g) d F) (hF:∀ a,(F a).length<=100000) (hz:0<=z/\z<g.z) (hB:∀ p,CO s.txns z 255=some p->p.1.bytes.length<=100000) (t:List Ent) (ht:Ex g s F z=some t) :
    ACalls Tryz.prog false 109 [.bp 0 0,iv z] (Hp g s d) fun r H=>r = .tp [.ag [Bv t],iv 0]/\∃ d',Gd (Aw g) d' F/\H=Hp g s d':=by
  have hf:=KG s.txns z 255 hl.n hl.i;unfold Ex at ht;cases hL:CO s.txns z 255 with
  | some p=>
    obtain⟨x,q⟩:=p;rw [hL] at hf ht;simp only at hf ht;have hr:=LR g x.bytes (hB _ hL);rw [hg,if_pos rfl,ht] at hr;refine zT tys_ok Tryz.func109 rfl rfl (Ag rfl) ?_;conv=>whnf
    refine ze9 [4] hf ?_;rintro _ _ ⟨rfl,rfl⟩;conv=>whnf
    refine z_ hr ?_;exact⟨.tp [.ag [Bv t],iv 0], .tp [.ag [Bv t],iv 0],Hp g s d,fun _ _ h=>h,zR (s:= [0,1,2,3,4]) tA,rfl,d,h,rfl⟩
  | none=>
    rw [hL] at hf ht;simp only at hf ht;have hR:=Ws s.a s.txns z (by have:=(Kf ha hz).1;omega) hl.n (fun t ht=>(hl.i t ht).1);refine zT tys_ok Tryz.func109 rfl rfl (Ag rfl) ?_;conv=>whnf
    refine ze9 [4] hf ?_;rintro _ _ ⟨rfl,rfl⟩;conv=>whnf
    apply zP tys_ok mixed (.o [0,1,2,3,4,5,6,7,8,9,10,11,12,13,14,15,16] .fin) [11,12,41,42,43,44,45,46,47,48,49,50,51,52,53,54,55] (by kernel_rfl)
    · conv=>whnf
      (refine zp (args':= [.ag (Ew s.a), .sl 4 s.txns.length fun i=>(s.txns.map CI).getD i [],iv z]) (hR.subA ⟨fun _ _ h=>h,Ba (f:=CI) s.txns rfl rfl,fun _ _ h=>h,tv⟩) ⟨(Aa _).symm,rfl⟩ ?_;rintro _ rfl;refine⟨rfl,?_⟩)
      exact tA
    conv=>whnf
    have htab:∀ k:Nat,k<2->g.an+2*g.sl<=AG g z (k:Nat)/\AG g z (k:Nat)<Aw g:=fun k hk=>by have:=FD hg hz (k:=(k:Nat)) (by omega);omega
    refine zU (Nat × Dk) (fun x=>([(0, .bp 0 0),(1,iv z),(4, .bp 5 0),(11,iv (Cs s.a s.txns z)),(56,iv (x.1:Nat))],Hp g s x.2 ++ ([.box 141 [.v (.slice none 0 0)]]:List AB))) (fun x=>x.1<=2/\Gd (Aw g) x.2 F/\∀ j:Nat,j<x.1->BV g ⟨0,F (AG g z (j:Nat))⟩ (AG g z (j:Nat)) (Cs s.a s.txns z)=none) (fun x=>2 - x.1) (0,d) ⟨Aj _,h,fun j hj=>absurd hj (Ap j)⟩
      (zR (s:= [0,1,2,3,4,5]) tA) ?_
    rintro⟨k,d1⟩ ⟨hk,hd1,hno⟩;simp only at hk hd1 hno;conv=>whnf
    refine A8 (fun h6=>?_) (fun h6=>?_) <;> (repeat rw [Ac] at h6) <;> conv=>whnf
    · have hk2:k<2:=by omega
      have hta:=KS g z (k:Nat) hg hz (by omega);obtain⟨q1,q2⟩:=htab k hk2;have hz2:=Aq.1 hg;have hrd:=Q5 g s d1 F (AG g z (k:Nat)) hd1 (by omega);have hto:=U5 g ⟨0,F (AG g z (k:Nat))⟩ (AG g z (k:Nat)) (Cs s.a s.txns z) hg (hF _);repeat' (refine zY ?_;conv=>whnf)
      refine z_ hta ?_;conv=>whnf
      repeat' (refine zY ?_;conv=>whnf)
      refine ze9 [0,1,2,3,4] hrd ?_;rintro _ _ ⟨rfl,d2,hd2,rfl⟩;conv=>whnf
      repeat' (refine zY ?_;conv=>whnf)
      have hGk:∀ u,BV g ⟨0,F (AG g z (k:Nat))⟩ (AG g z (k:Nat)) (Cs s.a s.txns z)=some u->u=t:=fun u hu=>by
        match k,hk2 with
        | 0,_=>
          have hu:BV g ⟨0,F (AG g z 0)⟩ (AG g z 0) (Cs s.a s.txns z)=some u:=hu;rw [hu] at ht;exact Option.some.inj ht
        | 1,_=>
          have h0:BV g ⟨0,F (AG g z 0)⟩ (AG g z 0) (Cs s.a s.txns z)=none:=hno 0 (by decide);have hu:BV g ⟨0,F (AG g z 1)⟩ (AG g z 1) (Cs s.a s.txns z)=some u:=hu;rw [h0] at ht;simp only at ht;exact Option.some.inj (hu.symm.trans ht)
      apply zV (0) tys_ok mixed (.o [0,1,2,3,4,5,6] (.two 7 (.o [8,9,10,11,12,13] .fin) 11 (.o [7,8,9,10,12,13] .fin))) (by kernel_rfl);refine Ad ?_ ?_;conv=>whnf
      refine z_ hto ?_;conv=>whnf
      try (refine tS ?_;conv=>whnf)
      rotate_left 1;conv=>whnf
      refine z_ hto ?_;conv=>whnf
      try (refine tS ?_;conv=>whnf)
      rotate_left 1;all_goals
        cases hT:BV g ⟨0,F (AG g z (k:Nat))⟩ (AG g z (k:Nat)) (Cs s.a s.txns z)
      all_goals
        conv=>whnf
        first
        | exact⟨(k+1,d2),⟨by show k+1<=2;omega,hd2,fun j hj=>by by_cases e:j=k;exact e ▸ hT;exact hno j (by have:j<k+1:=hj;omega)⟩,by show 2 - (k+1)<2 - k;omega,zR (s:= [0,1,2,3,4,5]) ⟨⟨rfl,rfl,rfl,rfl,AL (by omega),tv⟩,tA,rfl,rfl,rfl,rfl,rfl⟩⟩
        | (rename_i u
           have e:=hGk _ hT;subst e;exact⟨.tp [.ag [Bv u],iv 0], .tp [.ag [Bv u],iv 0],Hp g s d2,fun _ _ h=>h,zR (s:= [0,1,2,3,4]) tA,rfl,d2,hd2,rfl⟩)
    · have ek:k=2:=by omega
      subst ek;have h0:BV g ⟨0,F (AG g z 0)⟩ (AG g z 0) (Cs s.a s.txns z)=none:=hno 0 (by decide);have h1:BV g ⟨0,F (AG g z 1)⟩ (AG g z 1) (Cs s.a s.txns z)=none:=hno 1 (by decide);rw [h0] at ht;simp only at ht;rw [h1] at ht;cases ht
theorem Ov (g:Geo) (s:Stt) (d:Dk) (F:Int->List UInt8) (z w:Int) (t:List Ent) (hg:Bq g=true) (ha:Bj g s.a=true) (h:Gd (Aw g) d F) (hF:∀ a,(F a).length<=100000) (hz:0<=z/\z<g.z) (hw : -1<=w/\w<g.d) (ht:(t.length:Int)=g.d+1) :
  ACalls Tryz.prog false 111 [.bp 0 0,iv z,iv w, .ag [Bv t]] (Hp g s d) fun r H=>r = .tp [bA ((En ⟨0,F (B5 g s.a z w)⟩ (B5 g s.a z w) (t.getD (E7 g w).toNat ez)).getD []),iv 0]/\∃ d',Gd (Aw g) d' F/\H=Hp g s d':=by
 have hadr:=Qg g s.a z w hg ha hz hw;obtain⟨sl,e1,e2⟩:=Es hg ha hz (w:=w) hw;have hsl:=Fs hg hz e2;have hat:0<=E7 g w/\E7 g w<=g.d:=by have:=Aq.1 hg;unfold E7;split <;> omega
 have hci:=UJ g w;obtain⟨X,hX⟩:∃ X,X=B5 g s.a z w:=⟨_,rfl⟩;rw [<-hX] at hadr e1 |-
 have hcb:=EI hg;have hrd:=Q5 g s d F X h (by have:=Aq.1 hg;omega);have heb:=U9 ⟨0,F X⟩ X (t.getD (E7 g w).toNat ez) (hF _);have ixA:0<=E7 g w/\E7 g w<(t.length:Nat):=by omega
 refine zT tys_ok Tryz.func111 rfl rfl (Ag rfl) ?_;conv=>whnf
 apply zP tys_ok mixed (.o [0,1,2,3,4,5,6,7,8,9,10,11,12,13,14,15,16] .fin) [10,11,15,16,17,18,19,20,21,22,23,24,25,26,27,28,29] (by kernel_rfl)
 ·conv=>whnf
  refine z_ hadr ?_;exact tA
 conv=>whnf
 refine ze9 [0,1,2,3,4] hrd ?_;rintro _ _ ⟨rfl,d2,hd2,rfl⟩;conv=>whnf
 repeat' (refine zY ?_;conv=>whnf)
 apply zP tys_ok mixed (.o [0,1,2,3,4,5,6,7,8,9,10,11,12,13,14,15,16,17] .fin) [13,14,36,37,38,39,40,41,42,43,44,45,46,47,48,49,50,51] (by kernel_rfl)
 ·conv=>whnf
  refine z_ hci ?_;conv=>whnf
  try (refine Ad (by first | omega | exact ixA | exact ixB | (simp;done)) ?_;conv=>whnf)
  refine z_ heb ?_;exact tA
 conv=>whnf
 obtain⟨B,hBe⟩:∃ B,B=(En ⟨0,F X⟩ X (t.getD (E7 g w).toNat ez)).getD []:=⟨_,rfl⟩;rw [<-hBe];exact⟨.tp [bA B,iv 0], .tp [bA B,iv 0],Hp g s d2,fun _ _ h=>h,zR (s:= [0,1,2,3,4]) tA,rfl,d2,hd2,rfl⟩
theorem QN (g:Geo) (s:Stt) (d:Dk) (F:Int->List UInt8) (z:Int) (hg:Bq g=true) (hl:LogB s.txns) (ha:Bj g s.a=true) (h:Gd (Aw g) d F) (hF:∀ a,(F a).length<=100000) (hz:0<=z/\z<g.z) (hB:∀ p,CO s.txns z 255=some p->p.1.bytes.length<=100000) (t:List Ent) (ht:Ex g s F z=some t) :
  ACalls Tryz.prog false 112 [.bp 0 0,iv z] (Hp g s d) fun r H=>r = .tp [.ag [Bv t],EU (Cx g s F t z),iv 0]/\∃ d',Gd (Aw g) d' F/\H=Hp g s d':=by
 obtain⟨g1,g2,g3,g4,g5⟩:=Aq.1 hg;have hT:=Xn g s d F z hg hl ha h hF hz hB t ht;have htn:=Zs hg ht;have hd1:IntKind.i64.wrap (g.d+1)=g.d+1:=wi (by omega);refine zT tys_ok Tryz.func112 rfl rfl (Ag rfl) ?_;conv=>whnf
 refine ze9 [0,1,2,3,4] hT ?_;rintro _ _ ⟨rfl,d2,hd2,rfl⟩;conv=>whnf
 rw [hd1];refine zU (Nat × Dk) (fun x=>([(0, .bp 0 0),(1,iv z),(4, .bp 5 0),(5, .ow 6 x.1),(27,iv (g.d+1)),(28,iv (x.1:Nat))],Hp g s x.2 ++ ([.box 141 [Bv t], .row 49 1 ((U0 g s F t z x.1).map GO)]:List AB))) (fun x=>(x.1:Int)<=g.d+1/\Gd (Aw g) x.2 F) (fun x=>g.d.toNat+1 - x.1) (0,d2) ⟨by show ((0:Nat):Int)<=g.d+1;omega,hd2⟩
  ⟨_,_,zA _ _, [(5,49,1)],tA, [0,1,2,3,4,5,6],tA,tA,rfl,rfl,rfl,rfl,rfl⟩ ?_
 rintro⟨k,d1⟩ ⟨hk,hd1⟩;simp only at hk hd1;by_cases hkn:(k:Int)<g.d+1;rotate_left 1
 ·have ek:k=g.d.toNat+1:=by omega
  conv=>whnf
  rw [show decide ((k:Int)<g.d+1)=false from decide_eq_false hkn];conv=>whnf
  repeat' (refine zY ?_;conv=>whnf)
  have hlen:(Cx g s F t z).length=g.d.toNat+1:=by simp [Cx,J0]
  subst ek;exact⟨.tp [.ag [Bv t], .ow 6 (Cx g s F t z).length,iv 0], .tp [.ag [Bv t],EU (Cx g s F t z),iv 0],Hp g s d1,BX (m:= [.ag [Bv t], .ow 6 (Cx g s F t z).length,iv 0]) ⟨ri,by rw [hlen];exact fun _ _ h=>h,ri,tv⟩,zI (zQ (ConvF.sealTp 0 6 (es:=(Cx g s F t z).map GO) (by rw [Aa];rfl) (congrArg (fun L=>some (AB.row 49 1 (List.map GO L))) (YA hg s F t z))) (zL 0 rfl (BX (m:= [.ag [Bv t],EU (Cx g s F t z),iv 0]) ⟨ri,DQ (Aa _) rfl,ri,tv⟩))) (s:= [0,1,2,3,4]) tA,rfl,d1,hd1,rfl⟩
 ·conv=>whnf
  rw [show decide ((k:Int)<g.d+1)=true from decide_eq_true hkn];conv=>whnf
  repeat' (refine zY ?_;conv=>whnf)
  by_cases hkd:(k:Int)=g.d
  ·rw [show (((k:Nat):Int) == g.d)=true by rw [hkd];simp];have e1:Zd g k=(-1):=by unfold Zd;first | rw [if_pos hkd] | rw [if_neg hkd]
   have e2:(U0 g s F t z k).map GO ++ [GO (G6 g s F t z (-1))]=(U0 g s F t z (k+1)).map GO:=by rw [<-e1];simp [U0,Bm]
   have hf:=KG s.txns z (-1) hl.n hl.i;have hlk:(U0 g s F t z k).length=k:=by simp [U0]
   cases hL:CO s.txns z (-1) with
   | some p=>
    rw [hL] at hf;simp only at hf;have e3:G6 g s F t z (-1)=p.1.bytes:=by unfold G6;rw [hL]
    rw [e3] at e2;conv=>whnf
    repeat' (refine zY ?_;conv=>whnf)
    refine ze9 [4] hf ?_;rintro _ _ ⟨rfl,rfl⟩;conv=>whnf
    repeat' (refine zY ?_;conv=>whnf)
    refine⟨rfl,?_⟩;refine⟨⟨by rw [Aa,hlk],by omega⟩,?_⟩;conv=>whnf
    exact⟨(k+1,d1),⟨by show ((k+1:Nat):Int)<=g.d+1;omega,hd1⟩,by show g.d.toNat+1 - (k+1)<g.d.toNat+1 - k;omega,zR (s:= [0,1,2,3,4,5,6]) ⟨⟨rfl,rfl,rfl,rfl,rfl,AL (by omega),tv⟩,⟨rfl,rfl,rfl,rfl,rfl,rfl,congrArg (fun es=>some (AB.row 49 1 es)) e2,tv⟩,rfl,rfl,rfl,rfl,rfl⟩⟩
   | none=>
    rw [hL] at hf;simp only at hf;have e3:G6 g s F t z (-1)=(En ⟨0,F (B5 g s.a z (-1))⟩ (B5 g s.a z (-1)) (t.getD (E7 g (-1)).toNat ez)).getD []:=by unfold G6;rw [hL]
    have hh:=Ov g s d1 F z (-1) t hg ha hd1 hF hz (by omega) htn;rw [<-e3] at hh;conv=>whnf
    repeat' (refine zY ?_;conv=>whnf)
    refine ze9 [4] hf ?_;rintro _ _ ⟨rfl,rfl⟩;conv=>whnf
    repeat' (refine zY ?_;conv=>whnf)
    refine ze9 [0,1,2,3,4] hh ?_;rintro _ _ ⟨rfl,d3,hd3,rfl⟩;conv=>whnf
    repeat' (refine zY ?_;conv=>whnf)
    refine⟨rfl,?_⟩;refine⟨⟨by rw [Aa,hlk],by omega⟩,?_⟩;conv=>whnf
    exact⟨(k+1,d3),⟨by show ((k+1:Nat):Int)<=g.d+1;omega,hd3⟩,by show g.d.toNat+1 - (k+1)<g.d.toNat+1 - k;omega,zR (s:= [0,1,2,3,4,5,6]) ⟨⟨rfl,rfl,rfl,rfl,rfl,AL (by omega),tv⟩,⟨rfl,rfl,rfl,rfl,rfl,rfl,congrArg (fun es=>some (AB.row 49 1 es)) e2,tv⟩,rfl,rfl,rfl,rfl,rfl⟩⟩
  ·rw [show (((k:Nat):Int) == g.d)=false from beq_eq_false_iff_ne.2 hkd];have e1:Zd g k=((k:Nat):Int):=by unfold Zd;first | rw [if_pos hkd] | rw [if_neg hkd]
   have e2:(U0 g s F t z k).map GO ++ [GO (G6 g s F t z ((k:Nat):Int))]=(U0 g s F t z (k+1)).map GO:=by rw [<-e1];simp [U0,Bm]
   have hf:=KG s.txns z ((k:Nat):Int) hl.n hl.i;have hlk:(U0 g s F t z k).length=k:=by simp [U0]
   cases hL:CO s.txns z ((k:Nat):Int) with
   | some p=>
    rw [hL] at hf;simp only at hf;have e3:G6 g s F t z ((k:Nat):Int)=p.1.bytes:=by unfold G6;rw [hL]
    rw [e3] at e2;conv=>whnf
    repeat' (refine zY ?_;conv=>whnf)
    refine ze9 [4] hf ?_;rintro _ _ ⟨rfl,rfl⟩;conv=>whnf
    repeat' (refine zY ?_;conv=>whnf)
    refine⟨rfl,?_⟩;refine⟨⟨by rw [Aa,hlk],by omega⟩,?_⟩;conv=>whnf
    exact⟨(k+1,d1),⟨by show ((k+1:Nat):Int)<=g.d+1;omega,hd1⟩,by show g.d.toNat+1 - (k+1)<g.d.toNat+1 - k;omega,zR (s:= [0,1,2,3,4,5,6]) ⟨⟨rfl,rfl,rfl,rfl,rfl,AL (by omega),tv⟩,⟨rfl,rfl,rfl,rfl,rfl,rfl,congrArg (fun es=>some (AB.row 49 1 es)) e2,tv⟩,rfl,rfl,rfl,rfl,rfl⟩⟩
   | none=>
    rw [hL] at hf;simp only at hf;have e3:G6 g s F t z ((k:Nat):Int)=(En ⟨0,F (B5 g s.a z ((k:Nat):Int))⟩ (B5 g s.a z ((k:Nat):Int)) (t.getD (E7 g ((k:Nat):Int)).toNat ez)).getD []:=by unfold G6;rw [hL]
    have hh:=Ov g s d1 F z ((k:Nat):Int) t hg ha hd1 hF hz (by omega) htn;rw [<-e3] at hh;conv=>whnf
    repeat' (refine zY ?_;conv=>whnf)
    refine ze9 [4] hf ?_;rintro _ _ ⟨rfl,rfl⟩;conv=>whnf
    repeat' (refine zY ?_;conv=>whnf)
    refine ze9 [0,1,2,3,4] hh ?_;rintro _ _ ⟨rfl,d3,hd3,rfl⟩;conv=>whnf
    repeat' (refine zY ?_;conv=>whnf)
    refine⟨rfl,?_⟩;refine⟨⟨by rw [Aa,hlk],by omega⟩,?_⟩;conv=>whnf
    exact⟨(k+1,d3),⟨by show ((k+1:Nat):Int)<=g.d+1;omega,hd3⟩,by show g.d.toNat+1 - (k+1)<g.d.toNat+1 - k;omega,zR (s:= [0,1,2,3,4,5,6]) ⟨⟨rfl,rfl,rfl,rfl,rfl,AL (by omega),tv⟩,⟨rfl,rfl,rfl,rfl,rfl,rfl,congrArg (fun es=>some (AB.row 49 1 es)) e2,tv⟩,rfl,rfl,rfl,rfl,rfl⟩⟩
theorem Xs (g:Geo) (s:Stt) (d:Dk) (x:Rc) (Q:Int) (hg:Bq g=true) (hx:EE g x=true) (hxl:x.img.bytes.length<=100000) (hQ:0<=Q/\Q<g.sl) (h:DkOk d) (hn:(d.cells.length:Int)=Aw g) (h1:(d.write (By g 0 Q) (Ca g x 0 Q)).2≠8) (h2:((d.write (By g 0 Q) (Ca g x 0 Q)).1.write (By g 1 Q) (Ca g x 1 Q)).2≠8) :
  ACalls Tryz.prog false 125 [.bp 0 0, .ag (G4 x),iv Q] (Hp g s d) fun r H=>r = .tp [.v (.bool (decide ((d.write (By g 0 Q) (Ca g x 0 Q)).2=0) || decide (((d.write (By g 0 Q) (Ca g x 0 Q)).1.write (By g 1 Q) (Ca g x 1 Q)).2=0))),iv 0]/\H=Hp g s ((d.write (By g 0 Q) (Ca g x 0 Q)).1.write (By g 1 Q) (Ca g x 1 Q)).1:=by
 have q0:=Jt (g:=g) (.inl rfl) hQ (c:=0);have q1:=Jt (g:=g) (.inr rfl) hQ (c:=1);have l0:=RU g 0 Q;have l1:=RU g 1 Q;have r0:=PY g x 0 Q hxl;have r1:=PY g x 1 Q hxl;rw [hg,q0] at l0;rw [hg,q1] at l1;rw [hx,q0] at r0;rw [hx,q1] at r1;have b0:=F0 hg hn (.inl rfl) hQ (c:=0);have b1:=F0 hg hn (.inr rfl) hQ (c:=1);have c0:=QQ g s d (By g 0 Q) (Ca g x 0 Q) h (by omega) (Cg hx 0 Q);have hok:=h.write (a:=By g 0 Q) (b:=Ca g x 0 Q) (by omega) (Cg hx 0 Q);have hlen:(d.write (By g 0 Q) (Ca g x 0 Q)).1.cells.length=d.cells.length:=Sw d _ _;have c1:=QQ g s (d.write (By g 0 Q) (Ca g x 0 Q)).1 (By g 1 Q) (Ca g x 1 Q) hok (by omega) (Cg hx 1 Q);rw [if_neg h1] at c0;rw [if_neg h2] at c1;generalize (d.write (By g 0 Q) (Ca g x 0 Q)).1.write (By g 1 Q) (Ca g x 1 Q)=W2 at c1 |-
 generalize d.write (By g 0 Q) (Ca g x 0 Q)=W1 at c0 c1 |-
 generalize decide (W1.2=0)=p1 at c0 |-
 generalize decide (W2.2=0)=p2 at c1 |-
 simp only [Bool.and_self,if_true,if_pos] at l0 l1 r0 r1;cases p1 with
 | true=>
  refine zT tys_ok Tryz.func125 rfl rfl (Ag rfl) ?_;conv=>whnf
  refine zH 3 ?_;conv=>whnf
  repeat' (refine zY ?_;conv=>whnf)
  refine z_ l0 ?_;conv=>whnf
  repeat' (refine zY ?_;conv=>whnf)
  apply zV (0) tys_ok mixed (.o [0,1,2,3,4,5,6,7,8,9,10,11,12] .fin) (by kernel_rfl);conv=>whnf
  refine z_ r0 ?_;conv=>whnf
  repeat' (refine zY ?_;conv=>whnf)
  refine ze9 [0,1,2,3,4] c0 ?_;rintro _ _ ⟨rfl,rfl⟩;conv=>whnf
  repeat' (refine zY ?_;conv=>whnf)
  refine z_ l1 ?_;conv=>whnf
  repeat' (refine zY ?_;conv=>whnf)
  apply zV (0) tys_ok mixed (.o [0,1,2,3,4,5,6,7,8,9,10,11,12] .fin) (by kernel_rfl);conv=>whnf
  refine z_ r1 ?_;conv=>whnf
  repeat' (refine zY ?_;conv=>whnf)
  refine ze9 [0,1,2,3,4] c1 ?_;rintro _ _ ⟨rfl,rfl⟩;conv=>whnf
  repeat' (refine zY ?_;conv=>whnf)
  exact⟨_, .tp [.v (.bool true),iv 0],Hp g s W2.1,fun _ _ h=>h,zR (s:= [0,1,2,3,4]) tA,rfl,rfl⟩
 | false=>
  refine zT tys_ok Tryz.func125 rfl rfl (Ag rfl) ?_;conv=>whnf
  refine zH 3 ?_;conv=>whnf
  repeat' (refine zY ?_;conv=>whnf)
  refine z_ l0 ?_;conv=>whnf
  repeat' (refine zY ?_;conv=>whnf)
  apply zV (0) tys_ok mixed (.o [0,1,2,3,4,5,6,7,8,9,10,11,12] .fin) (by kernel_rfl);conv=>whnf
  refine z_ r0 ?_;conv=>whnf
  repeat' (refine zY ?_;conv=>whnf)
  refine ze9 [0,1,2,3,4] c0 ?_;rintro _ _ ⟨rfl,rfl⟩;conv=>whnf
  repeat' (refine zY ?_;conv=>whnf)
  refine z_ l1 ?_;conv=>whnf
  repeat' (refine zY ?_;conv=>whnf)
  apply zV (0) tys_ok mixed (.o [0,1,2,3,4,5,6,7,8,9,10,11,12] .fin) (by kernel_rfl);conv=>whnf
  refine z_ r1 ?_;conv=>whnf
  repeat' (refine zY ?_;conv=>whnf)
  refine ze9 [0,1,2,3,4] c1 ?_;rintro _ _ ⟨rfl,rfl⟩;conv=>whnf
  repeat' (refine zY ?_;conv=>whnf)
  exact⟨_, .tp [.v (.bool p2),iv 0],Hp g s W2.1,fun _ _ h=>h,zR (s:= [0,1,2,3,4]) tA,rfl,rfl⟩
theorem Te (g:Geo) (s:Stt) (d:Dk) (lba:Int) (b:List UInt8) (hg:Bq g=true) (hl:s.txns.length<=1000) (hlba:0<=lba/\lba<g.z*g.d) (hb:b.length=8) :
  ACalls Tryz.prog false 121 [.bp 0 0,iA [lba],EU [b]] (Hp g s d) fun r H=>r = iv (if s.only then 15 else if 4 > g.sl - Cp s.txns then 21 else 0)/\H=Hp g s d:=by
 obtain⟨g1,g2,g3,g4,g5⟩:=Aq.1 hg;have hun:=Ga s.txns s.txns.length;have hn:=TC g lba hg hlba;have hu:=NG s.txns (by omega);have tsub:SubL [.sl 4 s.txns.length fun i=>(s.txns.map CI).getD i []] [Dh s.txns]:=⟨Ba (f:=CI) s.txns rfl rfl,tv⟩;refine zT tys_ok Tryz.func121 rfl rfl (Ag rfl) ?_;conv=>whnf
 refine zH 2 ?_;conv=>whnf
 repeat' (refine zY ?_;conv=>whnf)
 refine⟨in01,?_⟩;conv=>whnf
 repeat' (refine zY ?_;conv=>whnf)
 refine z7 tys_ok mixed [0,1,2,3,4,5,6,7,8,9,10,11,12,13,14,15,16,17,18] (by kernel_rfl) ?_;conv=>whnf
 rw [show ((([b].getD (Int.toNat 0) []).length:Int) != 8)=false from bne_eq_false_iff_eq.2 (by show ((b.length:Nat):Int)=8;omega)];conv=>whnf
 repeat' (refine zY ?_;conv=>whnf)
 refine z_ hn ?_;conv=>whnf
 cases ho:s.only with
 | true=>
  exact⟨_,iv 15,Hp g s d,fun _ _ h=>h,zR (s:= [0,1,2,3,4]) tA,rfl,rfl⟩
 | false=>
  conv=>whnf
  apply zP tys_ok mixed (.o [0,1,2,3,4,5,6,7,8,9,10,11,12,13,14] .fin) [72,73,74,75,76,77,78,79,80,81,82,83,84,85,86] (by kernel_rfl)
  ·conv=>whnf
   (refine zp (args':= [.sl 4 s.txns.length fun i=>(s.txns.map CI).getD i []]) (hu.subA tsub) ⟨(Aa _).symm,rfl⟩ ?_;rintro _ rfl;refine⟨rfl,?_⟩)
   exact tA
  conv=>whnf
  rw [wi (show -9223372036854775808<=g.sl - Cp s.txns/\g.sl - Cp s.txns<=9223372036854775807 by unfold Cp;omega)];by_cases hfull:(4:Int) > g.sl - Cp s.txns
  ·rw [decide_eq_true hfull,if_pos hfull];exact⟨_,iv 21,Hp g s d,fun _ _ h=>h,zR (s:= [0,1,2,3,4]) tA,rfl,rfl⟩
  ·rw [decide_eq_false hfull,if_neg hfull];exact⟨_,iv 0,Hp g s d,fun _ _ h=>h,zR (s:= [0,1,2,3,4]) tA,rfl,rfl⟩
theorem Sk (g:Geo) (s:Stt) (d:Dk) (F:Int->List UInt8) (lba S:Int) (b:List UInt8) (hg:Bq g=true) (hl:LogB s.txns) (ha:Bj g s.a=true) (h:Gd (Aw g) d F) (hF:∀ a,(F a).length<=100000) (hlba:0<=lba/\lba<g.z*g.d) (hb:b.length=8) (hS:0<=S/\S<=4294967295) (hB:∀ p,CO s.txns (lba.tdiv g.d) 255=some p->p.1.bytes.length<=100000) (t:List Ent) (ht:Ex g s F (lba.tdiv g.d)=some t) (h8:∀ x∈Cx g s F t (lba.tdiv g.d),x.length=8) (hlo:∀ i,i<t.length->(t.getD i ez).lost=false) :
  ACalls Tryz.prog false 123 [.bp 0 0,iA [lba],EU [b],iv S] (Hp g s d) fun r H=>r = .tp [DH (FB g s F S lba b),iv 0]/\∃ d',Gd (Aw g) d' F/\H=Hp g s d':=by
 obtain⟨g1,g2,g3,g4,g5⟩:=Aq.1 hg;obtain⟨Z,hZ⟩:∃ Z,Z=lba.tdiv g.d:=⟨_,rfl⟩;obtain⟨A,hA⟩:∃ A,A=lba.tmod g.d:=⟨_,rfl⟩;have hZ2:0<=Z/\Z<g.z:=by
  rw [hZ,Bb hlba.1];exact⟨CP hlba.1 (by omega),Cd (by omega) hlba.2⟩
 have hA2:0<=A/\A<g.d:=by
  rw [hA];exact⟨Bw _ hlba.1,Bh _ (by omega)⟩
 have hdiv:IntKind.i64.wrap (([lba].getD (Int.toNat 0) 0).tdiv g.d)=Z:=by
  rw [hZ];exact wi (by have:=hZ2;rw [hZ] at this;show -9223372036854775808<=lba.tdiv g.d/\lba.tdiv g.d<=9223372036854775807;omega)
 have hL:FB g s F S lba b=Cf Z (Bx g t (Cx g s F t Z) [A] [b] S) (DN g t (Cx g s F t Z) [A] [b] g.d.toNat) [A] [b]:=by
  rw [FB,<-hZ,<-hA];rw [<-hZ] at ht;rw [ht]
 rw [hL];rw [<-hZ] at ht h8 hB;obtain⟨L,hL⟩:∃ L,L=Cf Z (Bx g t (Cx g s F t Z) [A] [b] S) (DN g t (Cx g s F t Z) [A] [b] g.d.toNat) [A] [b]:=⟨_,rfl⟩;rw [<-hL];have hL3:L.length=3:=by rw [hL,Ff];rfl
 have htok:=Hw ht;have h01:∀ x∈ [b],x.length=8:=fun x hx=>by rw [Az] at hx;rw [hx];exact hb
 have hpl:(DN g t (Cx g s F t Z) [A] [b] g.d.toNat).length=8:=Fy (fun x hx=> .inr (h8 x hx)) h01 (show [A].length<= [b].length from Ah 1) _;have hwr:=Rk g t (Cx g s F t Z) A b S hg htok (by simp [Cx,J0];omega) h8 hlo hA2 hb hS;have him:=PC g Z (Bx g t (Cx g s F t Z) [A] [b] S) (DN g t (Cx g s F t Z) [A] [b] g.d.toNat) A b hg hZ2 (FY hg htok hS) hpl hA2 hb;rw [<-hL] at him;refine zT tys_ok Tryz.func123 rfl rfl (Ag rfl) ?_;conv=>whnf
 refine zU (Nat × Dk × Bool) (fun x=>([(0, .bp 0 0),(1,iA [lba]),(2,EU [b]),(3,iv S),(10,Zc L x.2.2),(27,iv g.z),(28,iv (x.1:Nat))],Hp g s x.2.1)) (fun x=>(x.1:Int)<=g.z/\Gd (Aw g) x.2.1 F/\(x.2.2=true↔Z<(x.1:Int))) (fun x=>g.z.toNat - x.1) (0,d,false) ⟨by show ((0:Nat):Int)<=g.z;omega,h,⟨fun q=>(by cases q),fun q=>absurd q (by show ¬Z<((0:Nat):Int);omega)⟩⟩
  (zR (s:= [0,1,2,3,4]) tA) ?_
 rintro⟨k,d1,p⟩ ⟨hk,hd1,hpz⟩;simp only at hk hd1 hpz;by_cases hkz:(k:Int)<g.z;rotate_left 1
 ·obtain rfl:p=true:=hpz.2 (by omega);conv=>whnf
  rw [decide_eq_false hkz];conv=>whnf
  repeat' (refine zY ?_;conv=>whnf)
  exact⟨_, .tp [DH L,iv 0],Hp g s d1,fun _ _ h=>h,zR (s:= [0,1,2,3,4]) tA,rfl,d1,hd1,rfl⟩
 by_cases he:(k:Int)=Z;rotate_left 1
 ·conv=>whnf
  rw [decide_eq_true hkz];conv=>whnf
  repeat' (refine zY ?_;conv=>whnf)
  refine zH 2 ?_;conv=>whnf
  repeat' (refine zY ?_;conv=>whnf)
  refine⟨in01,?_⟩;conv=>whnf
  repeat' (refine zY ?_;conv=>whnf)
  refine⟨by omega,?_⟩;conv=>whnf
  rw [hdiv,show (Z == (k:Int))=false from beq_eq_false_iff_ne.2 fun q=>he q.symm];conv=>whnf
  repeat' (refine zY ?_;conv=>whnf)
  cases p
  ·exact⟨(k+1,d1,false),⟨by show ((k+1:Nat):Int)<=g.z;omega,hd1,⟨fun q=>by have:=hpz.1 q;show Z<((k+1:Nat):Int);omega,fun q=>hpz.2 (by have:Z<((k+1:Nat):Int):=q;omega)⟩⟩,by show g.z.toNat - (k+1)<g.z.toNat - k;omega,zR (s:= [0,1,2,3,4]) ⟨⟨rfl,rfl,rfl,rfl,rfl,rfl,AL (by omega),tv⟩,tA,rfl,rfl,rfl,rfl,rfl⟩⟩
  ·exact⟨(k+1,d1,true),⟨by show ((k+1:Nat):Int)<=g.z;omega,hd1,⟨fun q=>by have:=hpz.1 q;show Z<((k+1:Nat):Int);omega,fun q=>hpz.2 (by have:Z<((k+1:Nat):Int):=q;omega)⟩⟩,by show g.z.toNat - (k+1)<g.z.toNat - k;omega,zR (s:= [0,1,2,3,4]) ⟨⟨rfl,rfl,rfl,rfl,rfl,rfl,AL (by omega),tv⟩,tA,rfl,rfl,rfl,rfl,rfl⟩⟩
 ·obtain rfl:p=false:=by
   cases p with
   | false=>rfl
   | true=>exact absurd (hpz.1 rfl) (by omega)
  have hgat:=QN g s d1 F Z hg hl ha hd1 hF hZ2 hB t ht;conv=>whnf
  rw [decide_eq_true hkz];conv=>whnf
  repeat' (refine zY ?_;conv=>whnf)
  refine zU (Nat × Bool) (fun i=>([(0, .bp 0 0),(1,iA [lba]),(2,EU [b]),(3,iv S),(10, .v (.slice none 0 0)),(11,iv (k:Nat)),(12,aG A i.2),(13,bw b i.2),(27,iv g.z),(28,iv (k:Nat)),(31,iA [lba]),(32,iv 1),(33,iv (i.1:Nat))],Hp g s d1)) (fun i=>i.1<=1/\(i.2=true↔i.1=1)) (fun i=>1 - i.1) (0,false) ⟨by show 0<=1;omega,by decide⟩
   (zR (s:= [0,1,2,3,4]) tA) ?_
  rintro⟨i,q⟩ ⟨hi,hq⟩;simp only at hi hq;by_cases hi1:i=1;rotate_left 1
  ·obtain rfl:i=0:=by omega
   obtain rfl:q=false:=by
    cases q with
    | false=>rfl
    | true=>exact absurd (hq.1 rfl) (by decide)
   have ixA:(0:Int)<=0/\(0:Int)<(([b]:List (List UInt8)).length:Nat):=in01;conv=>whnf
   repeat' (refine zY ?_;conv=>whnf)
   refine⟨in01,?_⟩;conv=>whnf
   repeat' (refine zY ?_;conv=>whnf)
   refine⟨by omega,?_⟩;conv=>whnf
   rw [show IntKind.i64.wrap (([lba].getD (((0:Nat):Int)).toNat 0).tdiv g.d)=Z from hdiv,show (Z == (k:Int))=true from beq_iff_eq.2 he.symm];conv=>whnf
   repeat' (refine zY ?_;conv=>whnf)
   apply zV (16384) tys_ok mixed (.o [0,1,2,3,4,5,6,7,10,11,12,13] (.two 8 (.two 9 (.o [14,15,16,17,18] .fin) 14 (.two 9 (.o [15,16,17,18] .fin) 15 (.o [9,16,17,18] .fin))) 14 (.two 8 (.two 9 (.o [15,16,17,18] .fin) 15 (.o [9,16,17,18] .fin)) 15 (.o [8,9,16,17,18] .fin)))) (by kernel_rfl);conv=>whnf
   try (refine tI ?_;conv=>whnf)
   try (refine tI ?_;conv=>whnf)
   refine Ad ?_ ?_;refine Ad ?_ ?_;conv=>whnf
   try (refine tJ ?_;conv=>whnf)
   try (refine tK ?_;conv=>whnf)
   try (refine tJ ?_;conv=>whnf)
   try (refine tK ?_;conv=>whnf)
   rotate_left 1;refine Ad ?_ ?_;conv=>whnf
   try (refine tJ ?_;conv=>whnf)
   try (refine tK ?_;conv=>whnf)
   try (refine tJ ?_;conv=>whnf)
   try (refine tK ?_;conv=>whnf)
   rotate_left 1;conv=>whnf
   try (refine tJ ?_;conv=>whnf)
   try (refine tK ?_;conv=>whnf)
   try (refine tJ ?_;conv=>whnf)
   try (refine tK ?_;conv=>whnf)
   rotate_left 1;refine Ad ?_ ?_;refine Ad ?_ ?_;conv=>whnf
   try (refine tJ ?_;conv=>whnf)
   try (refine tK ?_;conv=>whnf)
   try (refine tJ ?_;conv=>whnf)
   try (refine tK ?_;conv=>whnf)
   rotate_left 1;conv=>whnf
   try (refine tJ ?_;conv=>whnf)
   try (refine tK ?_;conv=>whnf)
   try (refine tJ ?_;conv=>whnf)
   try (refine tK ?_;conv=>whnf)
   rotate_left 1;conv=>whnf
   try (refine tJ ?_;conv=>whnf)
   try (refine tK ?_;conv=>whnf)
   try (refine tJ ?_;conv=>whnf)
   try (refine tK ?_;conv=>whnf)
   rotate_left 1;all_goals
    conv=>whnf
    first
    | exact⟨(1,true),⟨by show 1<=1;omega,by decide⟩,by show 1 - 1<1 - 0;omega,zI (zQ (zN 12 6 rfl rfl) (zQ (zL 12 rfl (Dy (L:= [A]) rfl (by rw [hA];rfl))) (zQ (zN 13 7 rfl rfl) (zL 13 rfl (DQ (L:= [b]) rfl rfl))))) (s:= [0,1,2,3,4]) tA⟩
    | exact⟨(1,true),⟨by show 1<=1;omega,by decide⟩,by show 1 - 1<1 - 0;omega,zI (zQ (zN 12 6 rfl rfl) (zQ (zL 12 rfl (Dy (L:= [A]) rfl (by rw [hA];rfl))) (zQ (zN 13 8 rfl rfl) (zL 13 rfl (DQ (L:= [b]) rfl rfl))))) (s:= [0,1,2,3,4]) tA⟩
    | exact⟨(1,true),⟨by show 1<=1;omega,by decide⟩,by show 1 - 1<1 - 0;omega,zI (zQ (zN 12 7 rfl rfl) (zQ (zL 12 rfl (Dy (L:= [A]) rfl (by rw [hA];rfl))) (zQ (zN 13 6 rfl rfl) (zL 13 rfl (DQ (L:= [b]) rfl rfl))))) (s:= [0,1,2,3,4]) tA⟩
    | exact⟨(1,true),⟨by show 1<=1;omega,by decide⟩,by show 1 - 1<1 - 0;omega,zI (zQ (zN 12 7 rfl rfl) (zQ (zL 12 rfl (Dy (L:= [A]) rfl (by rw [hA];rfl))) (zQ (zN 13 8 rfl rfl) (zL 13 rfl (DQ (L:= [b]) rfl rfl))))) (s:= [0,1,2,3,4]) tA⟩
    | exact⟨(1,true),⟨by show 1<=1;omega,by decide⟩,by show 1 - 1<1 - 0;omega,zI (zQ (zN 12 8 rfl rfl) (zQ (zL 12 rfl (Dy (L:= [A]) rfl (by rw [hA];rfl))) (zQ (zN 13 6 rfl rfl) (zL 13 rfl (DQ (L:= [b]) rfl rfl))))) (s:= [0,1,2,3,4]) tA⟩
    | exact⟨(1,true),⟨by show 1<=1;omega,by decide⟩,by show 1 - 1<1 - 0;omega,zI (zQ (zN 12 8 rfl rfl) (zQ (zL 12 rfl (Dy (L:= [A]) rfl (by rw [hA];rfl))) (zQ (zN 13 7 rfl rfl) (zL 13 rfl (DQ (L:= [b]) rfl rfl))))) (s:= [0,1,2,3,4]) tA⟩
    | fail
  subst hi1;obtain rfl:q=true:=hq.2 rfl;conv=>whnf
  repeat' (refine zY ?_;conv=>whnf)
  rw [he];refine ze9 [0,1,2,3,4] hgat ?_;rintro _ _ ⟨rfl,d2,hd2,rfl⟩;conv=>whnf
  repeat' (refine zY ?_;conv=>whnf)
  apply zV (0) tys_ok mixed (.o [0,1,2,3,4,5,6,7,8] (.two 9 (.o [10,11,12,13,14,15,16,17] .fin) 14 (.o [9,10,11,12,13,15,16,17] .fin))) (by kernel_rfl);refine Ad ?_ ?_;conv=>whnf
  refine z_ hwr ?_;conv=>whnf
  try (refine tS ?_;conv=>whnf)
  rotate_left 1;conv=>whnf
  refine z_ hwr ?_;conv=>whnf
  try (refine tS ?_;conv=>whnf)
  rotate_left 1;all_goals
   conv=>whnf
   repeat' (refine zY ?_;conv=>whnf)
   apply zV (0) tys_ok mixed (.o [0,1,2,3,4,5,6,7,8,9,10,11,12,13,14] .fin) (by kernel_rfl);conv=>whnf
   refine z_ him ?_;conv=>whnf
   all_goals
    conv=>whnf
    repeat' (refine zY ?_;conv=>whnf)
    refine⟨by omega,?_⟩;conv=>whnf
    exact⟨(k+1,d2,true),⟨by show ((k+1:Nat):Int)<=g.z;omega,hd2,⟨fun _=>by show Z<((k+1:Nat):Int);omega,fun _=>rfl⟩⟩,by show g.z.toNat - (k+1)<g.z.toNat - k;omega,zI (zQ (zN 10 7 (congrArg (AV.ow 7) (by rw [Aa,CM])) rfl) (zL 10 rfl (SF rfl (by rw [Aa,CM])))) (s:= [0,1,2,3,4]) ⟨⟨rfl,rfl,rfl,rfl,rfl,rfl,by rw [<-he];exact AL (by omega),tv⟩,tA,rfl,rfl,rfl,rfl,rfl⟩⟩
theorem Xc {l:List Tx} {z w:Int} {p:Img × Int} (h:CO l z w=some p):∃ t∈l,p.1∈t.images:=by
 have e:CO l z w=_:=LG l z w l.length;rw [e] at h;cases hA:Hj l z w l.length with
 | none=>rw [hA] at h;cases h
 | some q=>
  obtain⟨k,i⟩:=q;obtain⟨h1,h2⟩:=Kn hA;rw [hA] at h;obtain rfl:=Option.some.inj h;exact⟨_,A7 h1,A7 h2⟩
theorem XQ (g:Geo) (seq epoch:Int) (l:List Img) (hl:l.length<=100000) (hb:∀ x∈l,x.bytes.length<=100000):Fn Tryz.prog 124 [.ag (AT g),iv seq,iv epoch,DH l] fun r=>r = .tp [Mo (if L4 g seq epoch l=0 then EY seq epoch l else []),iv (L4 g seq epoch l)]:=by
 have nilr:∀ c v n,n≠0->L4 g seq epoch l=n->Rd (.tp [.v (.slice none 0 0),iv n]) c v->Rd (.tp [Mo (if L4 g seq epoch l=0 then EY seq epoch l else []),iv (L4 g seq epoch l)]) c v:=by
  intro c v n hn he h;rw [if_neg (by rw [he];exact hn),he];simp only [Rd,RdL] at h |-
  obtain⟨xs,rfl,a,_,rfl,h1,h2⟩:=h;exact⟨_,rfl,a,_,rfl,Bt _ _ _ _ (by simpa [Rd] using h1),h2⟩
 obtain⟨z,d,sp,sl,an⟩:=g;refine zS Tryz.func124 rfl ?_;conv=>whnf
 repeat' (first | (refine Ao (fun h=>?_) (fun h=>?_) <;> (try simp at h) <;> conv=>whnf) | (refine z_ (Ec z d sp sl an) ?_;conv=>whnf) | (refine z_ (Jm _ _ _) ?_;conv=>whnf))
 iterate 3 (exact⟨_,fun c v h=>nilr c v 1 (by decide) (by simp [L4, *]) h,rfl⟩)
 rename_i h1 h2;have ht0:(Bq ⟨z,d,sp,sl,an⟩&&(CK seq 0 4294967295&&CK epoch 0 4294967295))=true:=by simp [*]
 clear h h1 h2;refine zM Nat (fun k=>([(1,iv seq),(2,iv epoch),(3,DH l),(4, .bp 0 0),(29,DH l),(30,iv l.length),(31,iv k)], [.box 23 (AT ⟨z,d,sp,sl,an⟩)])) (fun k=>k<=l.length/\∀ i,i<k->B4 ⟨z,d,sp,sl,an⟩ (l.getD i ⟨0,0, []⟩)=true) (fun k=>l.length - k) 0 ⟨Aj _,by simp⟩ ⟨[],tv,tA,tA,rfl,rfl,rfl⟩ ?_;rintro k ⟨hk,hI⟩;conv=>whnf
 refine Ao (fun h2=>?_) (fun h2=>?_) <;> simp at h2 <;> conv=>whnf
 ·refine⟨by first | omega | (refine⟨rfl,?_,?_⟩ <;> first | omega | (simp only [Aa];done) | (simp only [Aa];omega)) | (simp only [Aa];omega),?_⟩;conv=>whnf
  refine zG (KQ ⟨z,d,sp,sl,an⟩ (l.getD k ⟨0,0, []⟩) (hb _ (A7 h2))) rfl ?_;rintro _ rfl;conv=>whnf
  refine Ao (fun h3=>?_) (fun h3=>?_) <;> conv=>whnf
  ·refine⟨_,fun c v h=>nilr c v 1 (by decide) ?_ h,rfl⟩;have:l.all (B4 ⟨z,d,sp,sl,an⟩)=false:=by
    rw [<-BP];intro hh;have:=Av.1 hh _ (A7 (d:=⟨0,0, []⟩) h2);rw [this] at h3;simp at h3
   simp [L4,ht0,this]
  ·refine⟨k+1,⟨by omega,fun i hi=>?_⟩,by omega, [],tv,⟨rfl,rfl,rfl,rfl,rfl,rfl,AL (by omega),tv⟩,tA,rfl,rfl,rfl⟩;rcases B_ i k with h | h
   ·exact hI i h
   ·obtain rfl:i=k:=by omega
    cases hq:B4 ⟨z,d,sp,sl,an⟩ (l.getD i ⟨0,0, []⟩) with
    | true=>rfl
    | false=>rw [hq] at h3;simp at h3
 ·have ht1:l.all (B4 ⟨z,d,sp,sl,an⟩)=true:=by
   rw [Av];intro x hx;obtain⟨i,hi,rfl⟩:=DW hx;have:=hI i (by omega);rwa [Ab,Af hi] at this
  clear hI;refine z_ (Jm _ _ _) ?_;conv=>whnf
  refine Ao (fun h3=>?_) (fun h3=>?_) <;> simp at h3 <;> conv=>whnf
  ·exact⟨_,fun c v h=>nilr c v 2 (by decide) (by simp [L4,ht0,ht1,h3]) h,rfl⟩
  have ht2:L4 ⟨z,d,sp,sl,an⟩ seq epoch l=0:=by simp [L4,ht0,ht1,h3]
  clear nilr;rw [wi (by omega)];refine zM Nat (fun k=>([(1,iv seq),(2,iv epoch),(13,iv (l.length+1)),(12, .ow 1 k),(47,DH l),(48,iv l.length),(49,iv k)], [.dead, .row 152 8 ((I_ seq epoch (l.length+1) k l).map G4)])) (fun k=>k<=l.length) (fun k=>l.length - k) 0 (Aj _) ⟨[(12,152,8)],tA,tA,tA,rfl,rfl,rfl⟩ ?_;rintro k hk;have hlk:=I3 seq epoch (l.length+1) k l;conv=>whnf
  refine Ao (fun h2=>?_) (fun h2=>?_) <;> simp at h2 <;> conv=>whnf
  ·refine⟨by first | omega | (refine⟨rfl,?_,?_⟩ <;> first | omega | (simp only [Aa];done) | (simp only [Aa];omega)) | (simp only [Aa];omega),?_⟩;conv=>whnf
   refine zG (Ck (l.getD k ⟨0,0, []⟩).bytes (by have:=hb _ (A7 (d:=⟨0,0, []⟩) h2);omega)) rfl ?_;rintro _ rfl;refine⟨rfl,?_⟩;conv=>whnf
   refine⟨⟨by rw [Aa,hlk];omega,by omega⟩,?_⟩;refine⟨k+1,by omega,by omega, [],tv,⟨rfl,rfl,rfl,rfl,rfl,rfl,AL (by omega),tv⟩,⟨YX ?_,tv⟩,rfl,rfl,rfl⟩;rw [MA _ _ _ h2];rfl
  ·obtain rfl:k=l.length:=by omega
   rw [wi (by omega),show (l.length:Int)+1 - 1=l.length by omega];refine⟨rfl,?_⟩;conv=>whnf
   refine⟨⟨by rw [Aa,hlk];omega,by omega⟩,?_⟩;conv=>whnf
   refine⟨by rw [Ai,Aa,hlk];simp,?_⟩;refine⟨_,fun c v h=>?_,rfl⟩;rw [ht2,if_pos rfl];simp only [Rd,RdL] at h |-
   obtain⟨xs,rfl,a,_,rfl,h1,h2⟩:=h;exact⟨_,rfl,a,_,rfl,Rd.sub (sz:=8) (H0 seq epoch l).symm (PT seq epoch l) (by simp only [Rd];exact h1),h2⟩
@[reducible] def delX (lba:Int):AV:= .fn 127 [.rp [iA [lba]]]
theorem Y4 (lba:Int):Fn Tryz.prog 199 [iA [],delX lba] fun r=>r = iv (-1):=by
 refine zS Tryz.func199 rfl ?_;conv=>whnf
 refine zH 1 ?_;conv=>whnf
 repeat' (refine zY ?_;conv=>whnf)
 exact⟨_,ri,rfl⟩
theorem Xk (lba:Int):Fn Tryz.prog 126 [iA [],delX lba] fun r=>r=iA []:=by
 have h1:=Y4 lba;refine zS Tryz.func126 rfl ?_;conv=>whnf
 refine z_ h1 ?_;exact⟨_,ri,rfl⟩
theorem Zr {g:Geo} {seq epoch:Int} {l:List Img} (hg:Bq g=true) (h1:CK seq 0 4294967295=true) (h2:CK epoch 0 4294967295=true) (h3:l.all (B4 g)=true) (h4:CK l.length 1 29=true):L4 g seq epoch l=0:=by
 simp [L4,hg,h1,h2,h3,h4]
theorem UX (g:Geo) (s:Stt) (d:Dk) (F:Int->List UInt8) (W:List Wr) (x:Rc) (Q:Int) (hg:Bq g=true) (hx:EE g x=true) (hxl:x.img.bytes.length<=100000) (hQ:0<=Q/\Q<g.sl) (h:Gw (Aw g) d F W) (hW:W.length<1900) :
  ACalls Tryz.prog false 125 [.bp 0 0, .ag (G4 x),iv Q] (Hp g s d) fun r H=>r = .tp [.v (.bool true),iv 0]/\∃ d',Gw (Aw g) d' F ((W ++ [⟨By g 0 Q,Ca g x 0 Q⟩]) ++ [⟨By g 1 Q,Ca g x 1 Q⟩])/\H=Hp g s d':=by
 have b0:=F0 hg h.len (.inl rfl) hQ (c:=0);have b1:=F0 hg h.len (.inr rfl) hQ (c:=1);have hl:=h.len;obtain⟨e0,w0⟩:=h.write (a:=By g 0 Q) (b:=Ca g x 0 Q) (by omega) b0.1 (by omega) (Cg hx 0 Q);obtain⟨e1,w1⟩:=w0.write (a:=By g 1 Q) (b:=Ca g x 1 Q) (by simp;omega) b1.1 (by omega) (Cg hx 1 Q);have hc:=Xs g s d x Q hg hx hxl hQ h.ok h.len (by rw [e0];decide) (by rw [e1];decide);rw [e0] at hc;exact hc.mono fun r H ⟨h1,h2⟩=>⟨h1,_,w1,h2⟩
theorem V3 {H:List AB} {t:TypeId} {g:Geo} {s:Stt} {T:List Tx} {es:List (List AV)} {n:Nat} (hj:H[0]? = some (.box t (ZV g (.bp 1 0) (.ow 4 n) (iA s.lost) s))) (hk:H[4]? = some (.row 45 4 es)) (hn:n=T.length) (he:es=T.map CI):ConvH H ((H.set 4 .dead).set 0 (.box t (YN g (.bp 1 0) { s with txns:=T }))):=by
 subst hn he;have h4:4<H.length:=(Au.1 hk).1;have e:=zw (H:=H) 0 4 (cs2:=ZV g (.bp 1 0) (.sl 4 (T.map CI).length fun i=>(T.map CI).getD i []) (iA s.lost) s) hj hk (by simp only [A0,Bn,Ft (Aa _).symm];rfl);have q:=zu (H:=(H.set 4 .dead).set 0 (.box t (ZV g (.bp 1 0) (.sl 4 (T.map CI).length fun i=>(T.map CI).getD i []) (iA s.lost) s))) 0 (t:=t) (cs':=YN g (.bp 1 0) { s with txns:=T }) (AC (by rw [AW];omega)) ⟨ri,ri,ri,ri,ri,ri,ri,ri,ri,ri,ri,ri,ri,Ba (f:=CI) T (Aa _) rfl,ri,ri,ri,ri,ri,ri,tv⟩;rw [List.set_set] at q;exact e.trans q
@[reducible] def aP (g:Geo) (s:Stt) (d:Dk):List AB:= [.box 107 (YN g (.bp 1 0) s), .box 113 (Hr (.ow 2 d.cells.length) (.ow 5 d.cache.length) d.reqs d.left), .row 84 3 (d.cells.map BG), .dead, .dead, .row 131 2 (d.cache.map EK)]
@[reducible] def conH (g:Geo) (s:Stt) (d:Dk) (lba:Int):List AB:=Hp g s d ++ [.box 30 [iA [lba]]]
theorem ZR (g:Geo) (a:An) (l:List Tx) (d:Dk) (F:Int->List UInt8) (K lba:Int) (b:List UInt8) (V:Int->Int->List UInt8) (hg:Bq g=true) (hv:Vol g K d (AN a l)) (hK:K<=4294967294) (h:Gd (Aw g) d F) (hF:∀ a,(F a).length<=100000) (hV:VolV g a l F V) (hlba:0<=lba/\lba<g.z*g.d) (hb:b.length=8) (hroom:4<=g.sl - Cp l) :
  ACalls Tryz.prog false 58 [.bp 0 0,iA [lba],EU [b]] (Hp g (AN a l) d) fun r H=>r = iv 0/\∃ d' W,Gd (Aw g) d' (GR F W)/\(∀ w∈W,(g.an<=w.addr/\w.addr<g.an+2*g.sl)/\w.bytes.length<=200)/\Vol g (K+1) d' (AN a (l ++ [DD g a l F lba b]))/\H=aP g (AN a (l ++ [DD g a l F lba b])) d':=by
 obtain⟨g1,g2,g3,g4,g5⟩:=Aq.1 hg;have hsm:=hv.sm hg;have ha:Bj g a=true:=hv.an;have hring:C4 g l a.seq a.pos g.sl=true:=hv.ring;have hl30:l.length<=30:=hsm.t.1;have hlb:LogB (AN a l).txns:=⟨by have:=hsm.t.1;omega,fun t ht=>⟨by have:=(hsm.t.2 t ht).1;omega,fun x hx=>by have:=(hsm.t.2 t ht).2 x hx;omega⟩⟩;have hun:=Ga l l.length;obtain⟨a1,a2,a3,a4⟩:=Er ha;have hseq:a.seq+l.length<=K:=hv.seq;have hZ2:0<=lba.tdiv g.d/\lba.tdiv g.d<g.z:=by
  rw [Bb hlba.1];exact⟨CP hlba.1 (by omega),Cd (by omega) hlba.2⟩
 obtain⟨t,hz⟩:=hV _ hZ2.1 hZ2.2;have htab:Ex g (AN a l) F (lba.tdiv g.d)=some t:=hz.tab;have hB:∀ p,CO (AN a l).txns (lba.tdiv g.d) 255=some p->p.1.bytes.length<=100000:=fun p hp=>by
  obtain⟨t,ht,hx⟩:=Xc hp;have:=(hsm.t.2 t ht).2 _ hx;omega
 have h8:∀ x∈Cx g (AN a l) F t (lba.tdiv g.d),x.length=8:=fun x hx=>by
  rcases A5.1 hx with q | q
  ·obtain⟨i,hi,rfl⟩:=AP.1 q;have:=AO.1 hi;rw [hz.one ⟨by omega,by omega⟩];exact hz.len _ (by omega) (by omega)
  ·rw [Az] at q;rw [q,hz.one ⟨by omega,by omega⟩];exact hz.len _ (by omega) (by omega)
 have htok:=Hw htab;have htl:=IN htok;have hlo:∀ i,i<t.length->(t.getD i ez).lost=false:=fun i hi=>by
  by_cases hd:(i:Int)<g.d
  ·have:=(hz.ent (i:Nat) (by omega) hd).1;rwa [show (E7 g (i:Nat)).toNat=i by unfold E7;rw [if_neg (by omega)];omega] at this
  ·have:=(hz.ent (-1) (by omega) (by omega)).1;rwa [show (E7 g (-1)).toNat=i by unfold E7;rw [if_pos rfl];omega] at this
 have tsub:SubL [.ag (AT g), .ag (Ew a), .sl 4 l.length fun i=>(l.map CI).getD i []] [.ag (AT g), .ag (Ew a),Dh l]:=⟨ri,ri,Ba (f:=CI) l rfl rfl,tv⟩;have hmay:=Te g (AN a l) d lba b hg (by show l.length<=1000;omega) hlba hb;rw [show (AN a l).only=false from rfl,if_neg (by decide),show (AN a l).txns=l from rfl,if_neg (by omega)] at hmay;have hnext:=TI g a l hg ha hring (by omega) (fun t ht=>⟨by have:=(hsm.t.2 t ht).1;omega,fun x hx=>by have:=(hsm.t.2 t ht).2 x hx;omega⟩) (by have:=(Nh hg ha).1;omega) (by have:=(Nh hg ha).2.1;omega) (by omega);obtain⟨S,hS⟩:∃ S,S=a.seq+(l.length:Int):=⟨_,rfl⟩;obtain⟨P,hP⟩:∃ P,P=(a.pos+Cp l).tmod g.sl:=⟨_,rfl⟩;have himg:=Sk g (AN a l) d F lba S b hg hlb ha h hF hlba hb (by omega) hB t htab h8 hlo;rw [<-hS,<-hP] at hnext;obtain⟨L,hL⟩:∃ L,L=FB g (AN a l) F S lba b:=⟨_,rfl⟩;rw [<-hL] at himg;have hcm:DD g a l F lba b=⟨S,P,4,L⟩:=by rw [hL,hS,hP];rfl
 obtain⟨hL3,hLok,hL1⟩:=Pp hg (a:=a) (l:=l) (F:=F) (fun t ht=>Av.1 (Dx hring t ht).1) (by omega) hlba hb (by rw [htab];rfl);rw [hcm] at hL3 hLok hL1 |-
 simp only at hL3 hLok hL1;have hep:0<=a.epoch/\a.epoch<=4294967295:=by
  have:=ha;simp only [Bj,Bc,BL,BA,Ae,decide_eq_true_eq,AI] at this;omega
 have hLb:∀ x∈L,x.bytes.length<=45:=fun x hx=>EM hg (hLok x hx)
 have hrec:=XQ g S a.epoch L (by omega) fun x hx=>by have:=hLb x hx;omega
 have hS1:CK S 0 4294967295=true:=AI.2 (by omega);rw [Zr hg hS1 (AI.2 hep) (Av.2 hLok) (by rw [hL3];decide),if_pos rfl] at hrec;obtain⟨R,hR⟩:∃ R,R=EY S a.epoch L:=⟨_,rfl⟩;have hRl:R.length=4:=by rw [hR,H0,hL3]
 have hRok:∀ k:Nat,k<4->EE g (R.getD k rc0)=true/\(R.getD k rc0).img.bytes.length<=100000:=fun k hk=>by
  rw [hR,NI _ _ _ (by omega)];split
  ·rename_i q;exact⟨SJ hg hS1 (AI.2 hep) (hLok _ (A7 (d:=⟨0,0, []⟩) q)) q hL3,by have:=hLb _ (A7 (d:=(⟨0,0, []⟩:Img)) q);show (L.getD k _).bytes.length<=_;omega⟩
  ·rw [show k=L.length by omega];exact⟨SI hg hS1 (AI.2 hep) hL3,Aj _⟩
 rw [<-hR] at hrec;refine zT tys_ok Tryz.func58 rfl rfl (Ag rfl) ?_;conv=>whnf
 refine ze9 [0,1,2,3,4] hmay ?_;rintro _ _ ⟨rfl,rfl⟩;conv=>whnf
 apply zV (0) tys_ok mixed (.o [0,1,2,3,4,5,6,7,8,9,10,11,12,13,14,15,16,17,18,19,20,21] .fin) (by kernel_rfl);conv=>whnf
 (refine zp (args':= [.ag (AT g), .ag (Ew a), .sl 4 l.length fun i=>(l.map CI).getD i []]) (hnext.subA tsub) ⟨(Aa _).symm,rfl⟩ ?_;rintro _ rfl;refine⟨rfl,?_⟩)
 conv=>whnf
 refine ze9 [0,1,2,3,4] himg ?_;rintro _ _ ⟨rfl,d1,hd1,rfl⟩;conv=>whnf
 repeat' (refine zY ?_;conv=>whnf)
 apply zV (0) tys_ok mixed (.o [0,1,2,3,4,5,6,7,8,9,10,11,12,13,14,15,16,17] .fin) (by kernel_rfl);conv=>whnf
 refine z_ hrec ?_;conv=>whnf
 refine zU (Nat × Dk × List Wr) (fun x=>([(0, .bp 0 0),(4, .bp 5 0),(8,iv P),(9,iv S),(10,DH L),(11,Mo R),(73,Mo R),(74,iv R.length),(75,iv (x.1:Nat))],conH g (AN a l) x.2.1 lba)) (fun x=>x.1<=4/\Gw (Aw g) x.2.1 F x.2.2/\x.2.2.length=2*x.1/\∀ w∈x.2.2,(g.an<=w.addr/\w.addr<g.an+2*g.sl)/\w.bytes.length<=200) (fun x=>4 - x.1) (0,d1, []) ⟨by show 0<=4;omega,hd1,rfl,fun w hw=>by cases hw⟩
  (zR (s:= [0,1,2,3,4,5]) tA) ?_
 rintro⟨i,d2,W⟩ ⟨hi,hW,hWl,hWb⟩;simp only at hi hW hWl hWb;by_cases hi4:i<4
 ·obtain⟨Q,hQ⟩:∃ Q,Q=DZ g P (i:Nat):=⟨_,rfl⟩;have hQ2:=JI hg (pos:=P) (at_:=(i:Nat)) (by rw [hP];exact⟨Bw _ (by unfold Cp;omega),Bh _ (by omega)⟩) (by omega);rw [<-hQ] at hQ2;obtain⟨X,hX⟩:∃ X,X=R.getD i rc0:=⟨_,rfl⟩;have hXok:=hRok i hi4;rw [<-hX] at hXok;subst hX;have c0:=I0 (g:=g) (.inl rfl) hQ2 (c:=0);have c1:=I0 (g:=g) (.inr rfl) hQ2 (c:=1);have hbo:=UX g (AN a l) d2 F W (R.getD i rc0) Q hg hXok.1 hXok.2 hQ2 hW (by omega);have hW2:∀ w∈(W ++ [⟨By g 0 Q,Ca g (R.getD i rc0) 0 Q⟩]) ++ [⟨By g 1 Q,Ca g (R.getD i rc0) 1 Q⟩],(g.an<=w.addr/\w.addr<g.an+2*g.sl)/\w.bytes.length<=200:=fun w hw=>by
   rcases A5.1 hw with q | q
   ·rcases A5.1 q with q | q
    ·exact hWb w q
    ·rw [Az] at q;rw [q];exact⟨c0,Cg hXok.1 0 Q⟩
   ·rw [Az] at q;rw [q];exact⟨c1,Cg hXok.1 1 Q⟩
  conv=>whnf
  rw [show decide ((i:Int)<(R.length:Nat))=true from decide_eq_true (by omega)];conv=>whnf
  repeat' (refine zY ?_;conv=>whnf)
  refine⟨⟨by omega,by omega⟩,?_⟩;conv=>whnf
  rw [Ac];repeat' (refine zY ?_;conv=>whnf)
  apply zV (2 ^ 139) tys_ok mixed (.o [0,1,2,3,4,5,6,7,8,9,10,11,12,13,14,15,16] .fin) (by kernel_rfl);conv=>whnf
  try (refine tI ?_;conv=>whnf)
  (rw [show (IntKind.i64.wrap (P+(i:Nat))).tmod g.sl=Q from hQ.symm];refine ze9 [0,1,2,3,4] hbo ?_;rintro _ _ ⟨rfl,d3,hd3,rfl⟩)
  conv=>whnf
  conv=>whnf
  repeat' (refine zY ?_;conv=>whnf)
  exact⟨(i+1,d3,(W ++ [⟨By g 0 Q,Ca g (R.getD i rc0) 0 Q⟩]) ++ [⟨By g 1 Q,Ca g (R.getD i rc0) 1 Q⟩]),⟨by show i+1<=4;omega,hd3,by show ((W ++ [_]) ++ [_]).length=2*(i+1);simp;omega,hW2⟩,by show 4 - (i+1)<4 - i;omega,zR (s:= [0,1,2,3,4,5]) ⟨⟨rfl,rfl,rfl,rfl,rfl,rfl,rfl,rfl,AL (by omega),tv⟩,tA,rfl,rfl,rfl,rfl,rfl⟩⟩
 ·have ei:i=4:=by omega
  subst ei;have hok1:=hW.ok;have hfl:=J6 d2 hok1.l hok1.m fun w hw=>(hok1.w w hw).1
  rw [if_neg (by rw [hW.left];decide),if_neg (by rw [hW.left];decide)] at hfl;have hdel:=Xk lba;conv=>whnf
  rw [show decide (((4:Nat):Int)<(R.length:Nat))=false from decide_eq_false (by omega)];conv=>whnf
  repeat' (refine zY ?_;conv=>whnf)
  refine ze9 [1,2,3] hfl ?_;rintro _ _ ⟨rfl,rfl⟩;conv=>whnf
  repeat' (refine zY ?_;conv=>whnf)
  refine⟨rfl,?_⟩;conv=>whnf
  refine Ad ⟨by rw [Aa],by show l.length+1<=1000000000;omega⟩ ?_;conv=>whnf
  repeat' (refine zY ?_;conv=>whnf)
  refine z_ hdel ?_;conv=>whnf
  have hv2:=hv.add hg hK (d':=d2.flush) ⟨_,hW.flush⟩ (x:=⟨S,P,4,L⟩) hS hP (by show (2:Int)<=4;omega) (by show (4:Int)<=g.sl - Cp l;omega) (by show (4:Int)=(L.length:Int)+1;omega) hLok hL1;have e4:((R.length:Nat):Int)=4:=by omega
  rw [e4];exact⟨_,iv 0,aP g (AN a (l ++ [⟨S,P,4,L⟩])) d2.flush,fun _ _ h=>h,zI (zK (V3 (T:=l ++ [⟨S,P,4,L⟩]) rfl rfl (by rw [Ai];rfl) (by rw [A9];rfl))) (s:= [0,1,2,3,4,6]) tA,rfl,d2.flush,W,hW.flush,hWb,hv2,rfl⟩
theorem Xq (g:Geo) (s:Stt) (d:Dk) (lba:Int) (b:List UInt8) (hg:Bq g=true) (hl:s.txns.length<=1000) (hlba:0<=lba/\lba<g.z*g.d) (hb:b.length=8) (ho:s.only=false) (hroom:4 > g.sl - Cp s.txns) :
  ACalls Tryz.prog false 58 [.bp 0 0,iA [lba],EU [b]] (Hp g s d) fun r H=>r = iv 21/\H=aP g s d:=by
 have hmay:=Te g s d lba b hg hl hlba hb;rw [ho,if_neg (by decide),if_pos hroom] at hmay;refine zT tys_ok Tryz.func58 rfl rfl (Ag rfl) ?_;conv=>whnf
 refine ze9 [0,1,2,3,4] hmay ?_;rintro _ _ ⟨rfl,rfl⟩;exact⟨_,iv 21,aP g s d,fun _ _ h=>h,zI (zK (zt (V3 (s:=s) (T:=s.txns) rfl rfl rfl rfl) (zy 1 3 (by decide) rfl rfl))) (s:= [0,1,2,3,4,6]) tA,rfl,rfl⟩
theorem Nd (g:Geo) (a:An) (l:List Tx) (d:Dk) (F:Int->List UInt8) (K lba:Int) (b:List UInt8) (V:Int->Int->List UInt8) (hg:Bq g=true) (hv:Vol g K d (AN a l)) (hK:K<=4294967294) (h:Gd (Aw g) d F) (hF:∀ a,(F a).length<=100000) (hV:VolV g a l F V) (hlba:0<=lba/\lba<g.z*g.d) (hb:b.length=8) :
  Fn Tryz.prog 23 [.ag (AT g), .ag (FX d), .ag (Fh (AN a l)),iA [lba],EU [b]] fun r=>(4<=g.sl - Cp l/\∃ d' W,Gd (Aw g) d' (GR F W)/\(∀ w∈W,(g.an<=w.addr/\w.addr<g.an+2*g.sl)/\w.bytes.length<=200)/\Vol g (K+1) d' (AN a (l ++ [DD g a l F lba b]))/\r = .tp [.ag (Fh (AN a (l ++ [DD g a l F lba b]))), .ag (FX d'),iv 0])\/(g.sl<Cp l+4/\r = .tp [.ag (Fh st0), .ag (FX d),iv 21]):=by
 have hsm:=hv.sm hg;have c1:=YO g d (AN a l) h.ok (hv.st hg) hsm;by_cases hr:4<=g.sl - Cp l
 ·have c2:=ZR g a l d F K lba b V hg hv hK h hF hV hlba hb hr;refine zS Tryz.func23 rfl ?_;conv=>whnf
  refine zW c1 rfl ?_;rintro _ _ ⟨rfl,rfl⟩;conv=>whnf
  refine ze9 [5,6,7,8,9] c2 ?_;rintro _ _ ⟨rfl,d2,W,hd2,hW,hv2,rfl⟩;have c3:=Ks _ (hv2.sm hg);have c4:=Kt g (AN a (l ++ [DD g a l F lba b])) d2 hd2.ok;conv=>whnf
  repeat' (refine zY ?_;conv=>whnf)
  refine z_ c3 ?_;conv=>whnf
  refine ze9 [5,6,7,8,10] c4 ?_;rintro _ _ ⟨rfl,rfl⟩;exact⟨_,ri, .inl ⟨hr,d2,W,hd2,hW,hv2,rfl⟩⟩
 ·have c2:=Xq g (AN a l) d lba b hg (by have:=hsm.t.1;omega) hlba hb rfl (by show 4 > g.sl - Cp l;omega);refine zS Tryz.func23 rfl ?_;conv=>whnf
  refine zW c1 rfl ?_;rintro _ _ ⟨rfl,rfl⟩;conv=>whnf
  refine ze9 [5,6,7,8,9] c2 ?_;rintro _ _ ⟨rfl,rfl⟩;have c4:=Kt g (AN a l) d h.ok;conv=>whnf
  repeat' (refine zY ?_;conv=>whnf)
  refine ze9 [5,6,7,8,10] c4 ?_;rintro _ _ ⟨rfl,rfl⟩;exact⟨.tp [.ag (Fh st0), .ag (FX d),iv 21],BX ⟨Be st0_sub,ri,ri,tv⟩, .inr ⟨by omega,rfl⟩⟩
@[reducible] def cfH (g:Geo) (M:Md) (d:Dk):List AB:= [.box 23 (AT g), .box 34 (Fh (AN M.a M.l)), .box 38 (FX d)]
def bl8:List UInt8:= [1,2,3,4,5,6,7,8]
theorem UV (zones data slots n:Int):Fn Tryz.prog 5 [iv zones,iv data,iv slots,iv n] fun r=>r = .v (.bool true):=by
 have h1:=S5 zones data 1 slots 1;have hg:=PA zones data 1 slots 1;generalize Li zones data 1 slots 1=g at h1 hg;have hw:=wakes24_fn;have hon:=VS g hg;have hzd:=YU hg;have hcb:=EI hg;obtain⟨g1,g2,g3,g4,g5⟩:=Aq.1 hg;obtain⟨-, -, -, -, -,hvo⟩:=Wu hg;have hN:0<=IntKind.i64.wrap ((IntKind.u64.wrap n).tmod 20)/\IntKind.i64.wrap ((IntKind.u64.wrap n).tmod 20)<20:=Fz (x:=n) (by decide) (by decide);obtain⟨N,hN2⟩:∃ N,N=IntKind.i64.wrap ((IntKind.u64.wrap n).tmod 20):=⟨_,rfl⟩;refine zS Tryz.func5 rfl ?_;conv=>whnf
 refine z_ h1 ?_;conv=>whnf
 refine zG hon rfl ?_;rintro _ ⟨d0,rfl,hd0⟩;conv=>whnf
 repeat' (refine zY ?_;conv=>whnf)
 refine⟨by decide,?_⟩;conv=>whnf
 rw [<-hN2] at hN |-
 clear hN2;refine zU (Nat × Md × Dk) (fun x=>([(3,iv N),(9, .bp 0 0),(10, .bp 1 0),(11, .bp 2 0),(12,bA bl8),(13,iv (x.1:Nat))],cfH g x.2.1 x.2.2)) (fun x=>(x.1:Int)<=N/\Gd (Aw g) x.2.2 x.2.1.F/\Vo g (2+2*(x.1:Nat)) x.2.1/\YT g x.2.1/\XK x.2.1.l/\x.2.1.a.seq+x.2.1.l.length=x.1+1) (fun x=>N.toNat - x.1) (0,F6 g,d0) ⟨hN.1,hd0,hvo,ZD hg,(fun t ht=>absurd ht (CW)),rfl⟩
  (zI (zQ (zN 12 3 rfl rfl) (zL 12 rfl (Fp (L:=bl8) rfl rfl))) (s:= [0,1,2]) tA) ?_
 rintro⟨i,M,d⟩ ⟨hi,hd,hv,hr,h4,hs⟩;simp only at hi hd hv hr h4 hs;by_cases hin:(i:Int)<N;rotate_left 1
 ·conv=>whnf
  rw [show decide ((i:Int)<N)=false from decide_eq_false hin];conv=>whnf
  repeat' (refine zY ?_;conv=>whnf)
  refine z_ hw ?_;exact⟨_,ri,rfl⟩
 obtain⟨a,l,F,m⟩:=M;simp only at hd hv hr h4 hs;have hvol:Vol g (2+2*(i:Nat)) d (AN a l):=hv.vol hd;have hr2:=hr;obtain⟨-,V,hV, -⟩:=hr2;have hc:=Nd g a l d F (2+2*(i:Nat)) 0 bl8 V hg hvol (by omega) hd (fun q=>Bl (hv.fb q) (by decide)) hV ⟨by decide,by omega⟩ rfl;have hu:=YV h4;have hin2:Cp l<=g.sl:=ay hg hv;conv=>whnf
 rw [show decide ((i:Int)<N)=true from decide_eq_true hin];conv=>whnf
 repeat' (refine zY ?_;conv=>whnf)
 refine zO hc.go ?_;refine⟨rfl,?_⟩;refine⟨rfl,?_⟩;conv=>whnf
 refine zX [.ag (AT g), .ag (FX d), .ag (Fh (AN a l)),iA [0],EU [bl8]] ⟨ri,ri,ri,Dy (L:= [0]) rfl rfl,DQ (L:= [bl8]) rfl rfl,tv⟩ ?_;refine zG hc rfl ?_;rintro _ (⟨hroom,d',W,hd',hW,hv2,rfl⟩ | ⟨hfull,rfl⟩)
 ·obtain⟨n1,n2,n3⟩:=WS hg (by omega) (lba:=0) (b:=bl8) ⟨by decide,by omega⟩ rfl hv hd hr h4 (by show Cp l+4<=g.sl;omega) hW hv2;simp only at n1 n2 n3;conv=>whnf
  repeat' (refine zY ?_;conv=>whnf)
  have hs2:a.seq+((l ++ [DD g a l F 0 bl8]).length:Int)=((i+1:Nat):Int)+1:=by rw [Ai,D8];omega
  rw [show (IntKind.i64.wrap ((AN a (l ++ [DD g a l F 0 bl8])).a.seq+((AN a (l ++ [DD g a l F 0 bl8])).txns.length:Nat)) != IntKind.i64.wrap ((i:Int)+2))=false from bne_eq_false_iff_eq.2 (by show IntKind.i64.wrap (a.seq+((l ++ [DD g a l F 0 bl8]).length:Nat))=_;rw [hs2,wi (by omega),wi (by omega)];omega)];conv=>whnf
  apply zD 2 tys_ok mixed (.one 0 (.two 1 (.o [2,3] .fin) 2 (.o [1,3] .fin))) [103,104] (by kernel_rfl)
  ·refine Ad ?_ ?_
   ·exact tA
   ·exact tA
  conv=>whnf
  repeat' (refine zY ?_;conv=>whnf)
  exact⟨(i+1,⟨a,l ++ [DD g a l F 0 bl8],GR F W,m.set 0 bl8⟩,d'),⟨by show ((i+1:Nat):Int)<=N;omega,hd',n1.mono (by show 2+2*(i:Int)+1<=2+2*((i+1:Nat):Int);omega),n2,n3,by show a.seq+((l ++ [DD g a l F 0 bl8]).length:Int)=((i+1:Nat):Int)+1;exact hs2⟩,by show N.toNat - (i+1)<N.toNat - i;omega,zR (s:= [0,1,2]) ⟨⟨rfl,rfl,rfl,rfl,rfl,AL (by omega),tv⟩,tA,rfl,rfl,rfl,rfl,rfl⟩⟩
 ·cases l with
  | nil=>
   exfalso;have q:Cp ([]:List Tx)=0:=rfl;omega
  | cons x r=>
   have c2:=Ou g a x r d F (2+2*(i:Nat)) hg hvol (by omega) hd;have hx3:=(h4 x (by simp)).2;conv=>whnf
   repeat' (refine zY ?_;conv=>whnf)
   refine zG c2 rfl ?_;rintro _ ⟨d1,hd1,rfl⟩;have hvc:Vo g (2+2*(i:Nat)+1) ⟨Bz g a x,r,DY g a x F,m⟩:=Vo.ck hg hv (by omega) hd (d':=d1) hd1;have hrc:YT g ⟨Bz g a x,r,DY g a x F,m⟩:=(aE hg (K:=2+2*(i:Nat)) (by omega) (D:=d) (M:=⟨a,x::r,F,m⟩) hvol hr).1;have h4r:XK r:=fun t ht=>h4 t (by simp [ht])
   have hur:=YV h4r;rw [Al] at hu hs;have hr2:=hrc;obtain⟨-,V2,hV2, -⟩:=hr2;have hc2:=Nd g (Bz g a x) r d1 (DY g a x F) (2+2*(i:Nat)+1) 0 bl8 V2 hg (hvc.vol hd1) (by omega) hd1 (fun q=>Bl (hvc.fb q) (by decide)) hV2 ⟨by decide,by omega⟩ rfl;have hsq:(Bz g a x).seq=a.seq+1:=rfl;conv=>whnf
   rw [show (((x.images.length:Nat):Int) != 3)=false from bne_eq_false_iff_eq.2 (by rw [hx3];rfl)];conv=>whnf
   rw [show (((AN (Bz g a x) r).txns.length:Int) != IntKind.i64.wrap (((AN a (x::r)).txns.length:Nat) - 1))=false from bne_eq_false_iff_eq.2 (by show ((r.length:Nat):Int)=IntKind.i64.wrap (((x::r).length:Nat) - 1);rw [Al,wi (by omega)];omega)];conv=>whnf
   repeat' (refine zY ?_;conv=>whnf)
   refine zO hc2.go ?_;refine⟨rfl,?_⟩;refine⟨rfl,?_⟩;conv=>whnf
   refine zX [.ag (AT g), .ag (FX d1), .ag (Fh (AN (Bz g a x) r)),iA [0],EU [bl8]] ⟨ri,ri,ri,Dy (L:= [0]) rfl rfl,DQ (L:= [bl8]) rfl rfl,tv⟩ ?_;refine zG hc2 rfl ?_;rintro _ (⟨hroom,d',W,hd',hW,hv2,rfl⟩ | ⟨hfull2,rfl⟩);rotate_left 1
   ·exfalso;omega
   obtain⟨n1,n2,n3⟩:=WS hg (by omega) (lba:=0) (b:=bl8) ⟨by decide,by omega⟩ rfl hvc hd1 hrc h4r (by show Cp r+4<=g.sl;omega) hW hv2;simp only at n1 n2 n3;conv=>whnf
   repeat' (refine zY ?_;conv=>whnf)
   have hs2:(Bz g a x).seq+((r ++ [DD g (Bz g a x) r (DY g a x F) 0 bl8]).length:Int)=((i+1:Nat):Int)+1:=by rw [Ai,D8,hsq];omega
   rw [show (IntKind.i64.wrap ((AN (Bz g a x) (r ++ [DD g (Bz g a x) r (DY g a x F) 0 bl8])).a.seq+((AN (Bz g a x) (r ++ [DD g (Bz g a x) r (DY g a x F) 0 bl8])).txns.length:Nat)) != IntKind.i64.wrap ((i:Int)+2))=false from bne_eq_false_iff_eq.2 (by show IntKind.i64.wrap ((Bz g a x).seq+((r ++ [DD g (Bz g a x) r (DY g a x F) 0 bl8]).length:Nat))=_;rw [hs2,wi (by omega),wi (by omega)];omega)];conv=>whnf
   apply zD 2 tys_ok mixed (.one 0 (.two 1 (.o [2,3] .fin) 2 (.o [1,3] .fin))) [103,104] (by kernel_rfl)
   ·refine Ad ?_ ?_
    ·exact tA
    ·exact tA
   conv=>whnf
   repeat' (refine zY ?_;conv=>whnf)
   exact⟨(i+1,⟨(Bz g a x),r ++ [DD g (Bz g a x) r (DY g a x F) 0 bl8],GR (DY g a x F) W,m.set 0 bl8⟩,d'),⟨by show ((i+1:Nat):Int)<=N;omega,hd',n1.mono (by show 2+2*(i:Int)+1+1<=2+2*((i+1:Nat):Int);omega),n2,n3,by show (Bz g a x).seq+((r ++ [DD g (Bz g a x) r (DY g a x F) 0 bl8]).length:Int)=((i+1:Nat):Int)+1;exact hs2⟩,by show N.toNat - (i+1)<N.toNat - i;omega,zR (s:= [0,1,2]) ⟨⟨rfl,rfl,rfl,rfl,rfl,AL (by omega),tv⟩,tA,rfl,rfl,rfl,rfl,rfl⟩⟩
end
end Go.Proofs.YtkolckdakddggaaGreatDoor.A
namespace Go.Proofs.YtkolckdakddggaaGreatDoor
section
open Go.ChangeShapes Go.WideShapes Go.ChangeAt Go.RowKit
theorem own_none:ownKnob Tryz.prog.godebug=none:=by kernel_rfl
theorem laidOut:laidOutB Tryz.prog=true:=by kernel_rfl

section
variable {H:Type} {enc:TypeId × Value->H}
theorem WA {f:Func} {s:ChangeSpec} {apart fresh handsOn again:Bool} {W W':World} {args:Array Value} {ds:List (DataW H)} {before:List MemPlace}
  (hW:DataW.Whole enc Tryz.prog f.params.toList s.vars apart W args.toList ds [] before) (hv:s.vars=[]) (hvs:(s.fn H (ds ++ [])).vars=[])
  (hr:f.resultTypes = #[4]) (hfr:(s.fn H (ds ++ [])).results=[.lit (.bool true)]) (hfa:(s.fn H (ds ++ [])).args=ds)
  (hrow:∀ t∈f.params.toList,Tryz.prog.readableRec t=true/\t<Tryz.prog.types.size) (hb:Below W.heap.size W W') :
  s.post enc Tryz.prog f apart fresh handsOn again W args (.bool true) W':=by
 have hlt:∀ p∈before,p.block<W.heap.size:=fun p hp=>hW.lt p hp
 obtain⟨p,q,hA,hV,hpq,hz,hn⟩:=id hW;rw [hv] at hV;obtain⟨-,rfl⟩:=trodVars_none hV;rw [AK] at hpq;subst hpq;have stay:∀ sp:Nat->Bool,(∀ x∈before,sp x.block=true)->DataW.TrodAll enc Tryz.prog W' 0 sp true f.params.toList args.toList ds before:=by
  intro sp hsp;have go:∀ (ts:List TypeId) (vs:List Value) (es:List (DataW H)) (ps:List MemPlace),(∀ t∈ts,Tryz.prog.readableRec t=true/\t<Tryz.prog.types.size)->(∀ x∈ps,x∈before)->
    DataW.TrodAll enc Tryz.prog W 0 (fun _=>true) true ts vs es ps->DataW.TrodAll enc Tryz.prog W' 0 sp true ts vs es ps:=by
   intro ts;induction ts with
   | nil=>
    intro vs es ps _ _ h;cases vs <;> cases es <;> exact h
   | cons t ts ih=>
    intro vs es ps ht hin h;cases vs with
    | nil=>cases es <;> exact h.elim
    | cons v vs=>
     cases es with
     | nil=>exact h.elim
     | cons e es=>
      obtain⟨p1,p2,h1,h2,rfl⟩:=h;exact⟨p1,p2,WideElems.Trod_stays laidOut (ht t (by simp)).1 (ht t (by simp)).2 h1 (fun x hx=>hb.same (hlt x (hin x (by simp [hx])))) (fun x hx=>hsp x (hin x (by simp [hx]))),
       ih vs es p2 (fun t' ht'=>ht t' (by simp [ht'])) (fun x hx=>hin x (by simp [hx])) h2,rfl⟩
  exact go _ _ _ _ hrow (fun x hx=>hx) hA
 have hres:∀ (b:Nat) (sp:Nat->Bool) (hd:Bool),DataW.TrodAll enc Tryz.prog W' b sp hd f.resultTypes.toList ((Value.bool true).resultList f.resultTypes.size) (s.fn H (ds ++ [])).results []:=by
  intro b sp hd;rw [hr,hfr];exact trodAll_mk1 ⟨1,by simp [DataW.trod,Value.cells,Tryz.underlying4]⟩
 have hold:∀ p∈before,(fun b=>decide (b<W.heap.size)) p.block=true:=fun p hp=>by simpa using hlt p hp
 have hvars:∀ sp:Nat->Bool,DataW.TrodVars enc Tryz.prog W' sp s.vars (s.fn H (ds ++ [])).vars []:=by
  intro sp;rw [hv,hvs];exact rfl
 refine⟨ds, [],before, [],before, [],hW,hres _ _ _,by rw [hfa];exact stay _ hold,hvars _,World.keptBut_mono (fun p hp=>⟨hp,?_⟩) (hb.frame (·∈before)),fun _=>?_⟩
 ·exact Or.inr (by simpa using hp)
 ·refine⟨ok_one hr rfl (by simp [Value.okWide,Tryz.underlying4,Cell.okWide,Cell.ok]),_,_,([] ++ before) ++ [],⟨[] ++ before, [],trodAll_append (stay _ (fun _ _=>rfl)) (hres _ _ _),hvars _,rfl,?_,?_⟩,?_⟩
  ·intro b off hp;have hin:MemPlace.cell b off∈before:=by simpa using hp
   rw [hb.frozen (hlt _ hin)];exact hz b off hin
  ·intro ha;have:=hn ha;simpa using this
  ·intro p hp _;simpa using hp
end
abbrev WD : List (String × DataW Unit) := [("unicode/utf8.acceptRanges", Rows.laid_unicode_utf8_acceptRanges), ("unicode/utf8.first", Rows.laid_unicode_utf8_first)]
noncomputable def KO (os:Os):World:=
 let w0:=World.holding Tryz.prog os ⟨#[], #[], []⟩;let put (h:Array Obj) (g:Nat) (cs:Array Value):Array Obj:=h.modify g fun
  | .cells _ t frozen=> .cells cs t frozen
  | o=>o
 let h1:=put w0.heap 0 (Lib.firstTab.map fun z=>Value.int .u8 z).toArray;let h2:=put h1 1 ((List.range 16).flatMap fun i=> [Value.int .u8 (Lib.accLo i),Value.int .u8 (Lib.accHi i)]).toArray
 { w0 with heap:=h2 }
theorem WC (os:Os) (args:Array Value):laidMetH Tryz.prog WD ((KO os).forCall (fun _ _=>0) ⟨#[],args, []⟩).memory:=by
 rw [MakeChecks.laidMetH_plain _ _ _ (by kernel_rfl)];exact(LaidIn.of_run (l:=WD) [1,0] 8 (by kernel_rfl) (by kernel_rfl) (by kernel_rfl) (by kernel_rfl)).met
theorem first_data:Rows.laid_unicode_utf8_first=Lib.firstData:=by kernel_rfl
theorem accept_data:(Rows.laid_unicode_utf8_acceptRanges:DataW Unit)=Lib.acceptData:=by kernel_rfl
theorem Ui {W:World} (h:laidMetH Tryz.prog WD W):A.globOk W:=by
 rw [MakeChecks.laidMetH_plain _ _ _ (by kernel_rfl)] at h;have h1:=Lib.laidMet.reads h (.head _);have h2:=Lib.laidMet.reads h (.tail _ (.head _));rw [accept_data] at h1;rw [first_data] at h2;exact utf8Tabs_of_readsT (U8Types.of196 Tryz.laysValid) ⟨by kernel_rfl,by kernel_rfl,by kernel_rfl,by kernel_rfl,by kernel_rfl,by kernel_rfl,by kernel_rfl⟩ h2 h1
end
end Go.Proofs.YtkolckdakddggaaGreatDoor
