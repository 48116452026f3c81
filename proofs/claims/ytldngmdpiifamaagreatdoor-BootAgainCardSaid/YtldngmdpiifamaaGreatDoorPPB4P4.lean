/-
Several texts in one.
-/
import Derived.Test.YtldngmdpiifamaaGreatDoorPPB4P3
import Derived.Test.YtldngmdpiifamaaGreatDoorPPB4P1
import Derived.Test.YtldngmdpiifamaaGreatDoorPPB4P2
section
namespace Go.Proofs.YtldngmdpiifamaaGreatDoor.A
open Go.RowKit
def logImg (g:Geo) (fill:UInt8) (i k:Nat):Img:=
 if (i+k) % 4=3 then ⟨((i+k:Nat):Int).tmod g.z,255,tblB (tab0 g)⟩ else ⟨((i+k:Nat):Int).tmod g.z,((i+2*k:Nat):Int).tmod (g.d+1) - 1, [fill,UInt8.ofNat i,UInt8.ofNat k,1,2,3,4,5]⟩
def nImg (s:Int):Nat:=1+((IntKind.u64.wrap s).tmod 5).toNat
def logTx (g:Geo) (a:An) (fill:UInt8) (i:Nat) (pos:Int) (n:Nat):Tx:=⟨a.seq+i,pos,n+1,(List.range n).map fun k=>logImg g fill i k⟩
def logM (g:Geo) (a:An) (fill:UInt8):List Int→Nat→Int→Int→List Tx
 | [],_,_,_=> []
 | s::r,i,pos,used=>if g.sl<used+(nImg s:Nat)+1 then [] else logTx g a fill i pos (nImg s)::logM g a fill r (i+1) ((pos+(nImg s:Nat)+1).tmod g.sl) (used+(nImg s:Nat)+1)
theorem nImg_in (s:Int):1≤nImg s∧nImg s≤5:=by
 have h0:0≤IntKind.u64.wrap s:=by rw [IntKind.wrap_u64];omega
 have h1:=Int.tmod_nonneg 5 h0
 have h2:=Int.tmod_lt_of_pos (IntKind.u64.wrap s) (show (0:Int)<5 by decide)
 unfold nImg
 omega
theorem SubLL.app {e f:List AV} (h:SubL e f):∀ {a b:List (List AV)},SubLL a b→SubLL (a ++ [e]) (b ++ [f])
 | [], [],_=>⟨h,trivial⟩
 | _::_,_::_,h2=>⟨h2.1,SubLL.app h h2.2⟩
 | [],_::_,h=>h.elim
 | _::_, [],h=>h.elim
theorem img_tab {g:Geo} {fill:UInt8} {i k:Nat} (t:((i+k:Nat):Int).tmod 4=3):SubL (imgC ⟨((i+k:Nat):Int).tmod g.z,255,tblB (tab0 g)⟩) (imgC (logImg g fill i k)):=by
 have e:(i+k) % 4=3:=by
  rw [Int.tmod_eq_emod_of_nonneg (by omega)] at t
  omega
 rw [logImg,if_pos e]
 exact SubL.refl _
theorem u8_nat (m:Nat):IntKind.u8.wrap (m:Int)=((UInt8.ofNat m).toNat:Int):=by
 rw [IntKind.wrap_u8,UInt8.toNat_ofNat']
 omega
theorem img_plain {g:Geo} {fill:UInt8} {i k:Nat} (t:¬((i+k:Nat):Int).tmod 4=3):SubL [.v (.int .i64 (((i+k:Nat):Int).tmod g.z)), .v (.int .i64 (((i+2*k:Nat):Int).tmod (g.d+1) - 1)), .sl 1 8 fun j=> [[AV.v (.int .u8 fill.toNat)], [.v (.int .u8 (IntKind.u8.wrap i))], [.v (.int .u8 (IntKind.u8.wrap k))], [.v (.int .u8 1)], [.v (.int .u8 2)], [.v (.int .u8 3)], [.v (.int .u8 4)], [.v (.int .u8 5)]].getD j []] (imgC (logImg g fill i k)):=by
 have e:¬(i+k) % 4=3:=by
  rw [Int.tmod_eq_emod_of_nonneg (by omega)] at t
  omega
 rw [logImg,if_neg e,u8_nat,u8_nat]
 exact⟨fun _ _ h=>h,fun _ _ h=>h,bytes_sub [fill,UInt8.ofNat i,UInt8.ofNat k,1,2,3,4,5] rfl rfl,trivial⟩
set_option maxRecDepth 100000 in
theorem log_fn16 (g:Geo) (a:An) (sizes:List Int) (fill:UInt8) (hg:okG g=true) (ha:anOk g a=true) (hs:a.seq≤1000000) (hl:sizes.length≤40):Fn Tryz.prog 42 [.ag (geoC g), .ag (anC a),iA sizes, .v (.int .u8 fill.toNat)] fun r=>r=txsA (logM g a fill sizes 0 a.pos 0):=by
 obtain⟨h1,h2,h3,h4,h5⟩:=okG_iff.1 hg
 have hq:=anOk_seq ha
 refine Fn.of tys_ok Tryz.func42 rfl rfl (Nat.le_of_ble_eq_true rfl) ?_
 conv=>whnf
 generalize hR:logM g a fill sizes 0 a.pos 0=R
 refine aLoop.rule (Nat × Int × Int × List Tx × List (List AV)) (fun z=>([(2,iA sizes),(3, .v (.int .u8 fill.toNat)),(4, .bp 0 0),(5, .bp 1 0),(9, .ow 2 z.2.2.2.2.length),(10, .v (.int .i64 z.2.1)),(11, .v (.int .i64 z.2.2.1)),(12, .v (.int .i64 z.1))], [.box 23 (geoC g), .box 40 (anC a), .row 78 4 z.2.2.2.2]))
  (fun z=>z.1≤sizes.length∧z.2.2.2.1 ++ logM g a fill (sizes.drop z.1) z.1 z.2.1 z.2.2.1=R∧(0≤z.2.1∧z.2.1<g.sl)∧(0≤z.2.2.1∧z.2.2.1≤g.sl)∧z.2.2.2.1.length=z.1∧SubLL z.2.2.2.2 (z.2.2.2.1.map txC))
  (fun z=>sizes.length - z.1) (0,a.pos,0, [], []) ⟨Nat.zero_le _,hR,hq.2,show (0:Int)≤0∧(0:Int)≤g.sl by omega,rfl,trivial⟩ ⟨[(9,78,4)],⟨rfl,rfl,trivial⟩,⟨rfl,rfl,rfl,rfl,rfl,rfl,rfl,rfl,trivial⟩,⟨rfl,rfl,rfl,trivial⟩,rfl,rfl,rfl⟩ ?_
 rintro⟨i,pos,used,l,rl⟩ ⟨b1,b2,b3,b4,b5,b6⟩
 dsimp only at b1 b2 b3 b4 b5 b6 ⊢
 have b7:rl.length=l.length:=by have:=b6.len;rwa [List.length_map] at this
 conv=>whnf
 refine boolI (fun c1=>?_) (fun c1=>?_) <;> (repeat rw [Int.toNat_natCast] at c1) <;> conv=>whnf
 ·have hd:sizes.drop i=sizes.getD i 0::sizes.drop (i+1):=by
   rw [List.drop_eq_getElem_cons c1,List.getD_eq_getElem?_getD,List.getElem?_eq_getElem c1]
   rfl
  rw [hd] at b2
  have hn:=nImg_in (sizes.getD i 0)
  have wn:IntKind.i64.wrap (1+IntKind.i64.wrap ((IntKind.u64.wrap (sizes.getD i 0)).tmod 5))=(nImg (sizes.getD i 0):Nat):=by
   have h0:0≤IntKind.u64.wrap (sizes.getD i 0):=by rw [IntKind.wrap_u64];omega
   have h1:=Int.tmod_nonneg 5 h0
   have h2:=Int.tmod_lt_of_pos (IntKind.u64.wrap (sizes.getD i 0)) (show (0:Int)<5 by decide)
   unfold nImg
   rw [IntKind.wrap_i64,IntKind.wrap_i64]
   omega
  unfold logM at b2
  generalize nImg (sizes.getD i 0)=n at hn wn b2
  refine⟨by first | omega | (refine⟨rfl,?_,?_⟩ <;> first | omega | (simp only [List.length_map];done) | (simp only [List.length_map];omega)) | (simp only [List.length_map];omega),?_⟩
  conv=>whnf
  refine And.intro (by decide) ?_
  conv=>whnf
  rw [Int.toNat_natCast,wn]
  have w1:IntKind.i64.wrap (used+n)=used+n:=by rw [IntKind.wrap_i64];omega
  have w2:IntKind.i64.wrap (used+n+1)=used+n+1:=by rw [IntKind.wrap_i64];omega
  rw [w1,w2]
  conv=>whnf
  have w3:IntKind.i64.wrap (a.seq+rl.length)=a.seq+i:=by rw [IntKind.wrap_i64];omega
  have w4:IntKind.i64.wrap ((n:Int)+1)=n+1:=by rw [IntKind.wrap_i64];omega
  refine boolI (fun c2=>?_) (fun c2=>?_) <;> (repeat rw [Int.toNat_natCast] at c2) <;> conv=>whnf
  ·rw [if_pos c2,List.append_nil] at b2
   subst b2
   refine And.intro rfl ?_
   conv=>whnf
   exact⟨txsA l,rows_sub l b7 rfl b6,rfl⟩
  ·rw [if_neg (by omega)] at b2
   rw [w3,w4]
   refine aLoop.rule (Nat × List (List AV)) (fun z=>([(2,iA sizes),(3, .v (.int .u8 fill.toNat)),(4, .bp 0 0),(5, .bp 1 0),(9, .ow 2 rl.length),(10, .v (.int .i64 pos)),(11, .v (.int .i64 used)),(12, .v (.int .i64 i)),(13, .v (.int .i64 n)),(14, .bp 3 0),(15, .v (.int .i64 z.1))], [.box 23 (geoC g), .box 40 (anC a), .row 78 4 rl, .box 78 [.v (.int .i64 (a.seq+i)), .v (.int .i64 pos), .v (.int .i64 (n+1)), .ow 4 z.2.length], .row 83 3 z.2]))
    (fun z=>z.1≤n∧SubLL z.2 (((List.range z.1).map (logImg g fill i)).map imgC)) (fun z=>n - z.1) (0, []) ⟨Nat.zero_le _,trivial⟩ ⟨[(1003003,83,3)],⟨rfl,rfl,trivial⟩,⟨rfl,rfl,rfl,rfl,rfl,rfl,rfl,rfl,rfl,rfl,rfl,trivial⟩,⟨rfl,rfl,rfl,rfl,rfl,trivial⟩,rfl,rfl,rfl⟩ ?_
   rintro⟨k,im⟩ ⟨hk,hm⟩
   dsimp only at hk hm ⊢
   have hil:im.length=k:=by have:=hm.len;simpa using this
   conv=>whnf
   have v1:IntKind.i64.wrap ((i:Int)+k)=((i+k:Nat):Int):=by rw [IntKind.wrap_i64];omega
   have v2:IntKind.i64.wrap (2*(k:Int))=((2*k:Nat):Int):=by rw [IntKind.wrap_i64];omega
   have v3:IntKind.i64.wrap ((i:Int)+((2*k:Nat):Int))=((i+2*k:Nat):Int):=by rw [IntKind.wrap_i64];omega
   have v5:IntKind.i64.wrap (((i+2*k:Nat):Int).tmod (g.d+1) - 1)=((i+2*k:Nat):Int).tmod (g.d+1) - 1:=by
    have q1:=Int.tmod_nonneg (g.d+1) (show 0≤((i+2*k:Nat):Int) by omega)
    have q2:=Int.tmod_lt_of_pos ((i+2*k:Nat):Int) (show 0<g.d+1 by omega)
    rw [IntKind.wrap_i64];omega
   have v4:IntKind.i64.wrap (g.d+1)=g.d+1:=by rw [IntKind.wrap_i64];omega
   refine boolI (fun c3=>?_) (fun c3=>?_) <;> (repeat rw [Int.toNat_natCast] at c3) <;> conv=>whnf
   ·have t0:=tab0_fn g hg
    have t1:=tabB_fn (tab0 g) (by rw [tab0,List.length_replicate];omega) (fun e he=>by rw [List.eq_of_mem_replicate he];decide +kernel)
    refine aSeq.go ?_
    conv=>whnf
    apply aDraw.treeK 0 tys_ok mixed (.one 0 (.one 1 (.one 2 (.one 3 (.one 4 (.one 5 (.one 6 (.one 7 (.one 8 (.one 9 (.one 10 (.one 11 (.one 12 (.one 13 (.one 14 (.one 15 (.one 16 (.one 17 (.one 18 (.one 19 (.two 20 (.one 21 (.one 22 (.one 23 .fin))) 22 (.one 20 (.one 21 (.one 23 .fin)))))))))))))))))))))))) (by kernel_rfl)
    conv=>whnf
    repeat' (first | (refine And.intro (by first | omega | exact of_decide_eq_true rfl) ?_;conv=>whnf) | (refine And.intro ?_ ?_ <;> conv=>whnf) | fail)
    all_goals
     refine aSeq.go ?_
     conv=>whnf
     rw [v1]
     conv=>whnf
     refine And.intro (by decide) ?_
     conv=>whnf
     refine boolI (fun t=>?_) (fun t=>?_) <;> (repeat rw [Int.toNat_natCast] at t) <;> conv=>whnf
     ·refine aDraw.of tys_ok mixed [0,1,2,3,4,5,6,7,8,9,10] (by kernel_rfl) ?_
      conv=>whnf
      repeat' (first | (refine aSeq.go ?_;conv=>whnf) | (refine boolI (fun _=>?_) (fun _=>?_) <;> conv=>whnf) | (refine Fn.closed (t0) rfl ?_;rintro _ rfl;conv=>whnf) | (refine Fn.closed (t1) rfl ?_;rintro _ rfl;conv=>whnf) | (refine And.intro (by first | omega | exact of_decide_eq_true rfl) ?_;conv=>whnf) | fail)
      rw [v1]
      refine⟨(k+1,im ++ [imgC ⟨((i+k:Nat):Int).tmod g.z,255,tblB (tab0 g)⟩]),⟨by dsimp only;omega,?_⟩,by dsimp only;omega, [],trivial,⟨rfl,rfl,rfl,rfl,rfl,rfl,rfl,rfl,rfl,rfl,wsucc (by omega),trivial⟩,⟨rfl,rfl,rfl,by rw [List.length_append];rfl,rfl,trivial⟩,rfl,rfl,rfl⟩
      rw [List.range_succ,List.map_append,List.map_append]
      exact SubLL.app (img_tab t) hm
     ·repeat' (first | (refine aSeq.go ?_;conv=>whnf) | (refine boolI (fun _=>?_) (fun _=>?_) <;> conv=>whnf) | (refine Fn.closed (t0) rfl ?_;rintro _ rfl;conv=>whnf) | (refine And.intro (by first | omega | exact of_decide_eq_true rfl) ?_;conv=>whnf) | fail)
      rw [v2,v3,v4,v5]
      refine⟨(k+1,im ++ [[.v (.int .i64 (((i+k:Nat):Int).tmod g.z)), .v (.int .i64 (((i+2*k:Nat):Int).tmod (g.d+1) - 1)), .sl 1 8 fun j=> [[.v (.int .u8 fill.toNat)], [.v (.int .u8 (IntKind.u8.wrap i))], [.v (.int .u8 (IntKind.u8.wrap k))], [.v (.int .u8 1)], [.v (.int .u8 2)], [.v (.int .u8 3)], [.v (.int .u8 4)], [.v (.int .u8 5)]].getD j []]]),⟨by dsimp only;omega,?_⟩,by dsimp only;omega, [],trivial,⟨rfl,rfl,rfl,rfl,rfl,rfl,rfl,rfl,rfl,rfl,wsucc (by omega),trivial⟩,⟨rfl,rfl,rfl,by rw [List.length_append];rfl,rfl,trivial⟩,rfl,rfl,rfl⟩
      rw [List.range_succ,List.map_append,List.map_append]
      exact SubLL.app (img_plain t) hm
   ·refine And.intro rfl ?_
    conv=>whnf
    repeat' (first | (refine And.intro (by first | rfl | omega) ?_;conv=>whnf) | fail)
    have ek:k=n:=by omega
    subst ek
    have w5:IntKind.i64.wrap (pos+k)=pos+k:=by rw [IntKind.wrap_i64];omega
    have w6:IntKind.i64.wrap (pos+k+1)=pos+k+1:=by rw [IntKind.wrap_i64];omega
    rw [w1,w2,w5,w6]
    have hmm:=Int.tmod_lt_of_pos (pos+k+1) (show 0<g.sl by omega)
    have hm0:=Int.tmod_nonneg g.sl (show 0≤pos+k+1 by omega)
    refine⟨(i+1,(pos+k+1).tmod g.sl,used+k+1,l ++ [logTx g a fill i pos k],rl ++ [[.v (.int .i64 (a.seq+i)), .v (.int .i64 pos), .v (.int .i64 (k+1)), .sl 3 im.length fun j=>im.getD j []]]),⟨by dsimp only;omega,?_,⟨hm0,hmm⟩,by dsimp only;omega,by dsimp only;rw [List.length_append];simp only [List.length_cons,List.length_nil];omega,?_⟩,by dsimp only;omega, [],trivial,⟨rfl,rfl,rfl,rfl,?_,rfl,rfl,wsucc (by omega),trivial⟩,⟨rfl,rfl,rfl,trivial⟩,rfl,rfl,rfl⟩
    ·dsimp only
     rw [List.append_assoc]
     exact b2
    ·dsimp only
     rw [List.map_append]
     refine SubLL.app ?_ b6
     refine And.intro (fun _ _ h=>h) (And.intro (fun _ _ h=>h) (And.intro (fun _ _ h=>h) (And.intro ?_ trivial)))
     exact rows_sub (f:=imgC) ((List.range k).map (logImg g fill i)) (by rw [hil];simp) rfl hm
    ·rw [List.length_append]
     rfl
 ·have ei:i=sizes.length:=by omega
  refine And.intro rfl ?_
  conv=>whnf
  subst ei
  rw [List.drop_length,logM,List.append_nil] at b2
  subst b2
  exact⟨txsA l,rows_sub l b7 rfl b6,rfl⟩
end Go.Proofs.YtldngmdpiifamaaGreatDoor.A
end
section
namespace Go.Proofs.YtldngmdpiifamaaGreatDoor

def flipB (b:List UInt8) (k:Nat):List UInt8:=b.modify (k / 8) fun x=>x ^^^ UInt8.ofNat (2 ^ (k % 8))
theorem flipB_length (b:List UInt8) (k:Nat):(flipB b k).length=b.length:=List.length_modify _ _ _
def flipN (p:Nat→Bool) (a:Nat) (b:List UInt8):Nat→List UInt8
 | 0=>b
 | i+1=>if p i&&decide (a+i<8*b.length) then flipB (flipN p a b i) (a+i) else flipN p a b i
theorem flipN_length (p:Nat→Bool) (a:Nat) (b:List UInt8) (i:Nat):(flipN p a b i).length=b.length:=by
 induction i with
 | zero=>rfl
 | succ i ih=>unfold flipN;split;rw [flipB_length,ih];exact ih
def fX (bs:Int):Nat:=if (bs % 4294967296).toNat % 2=0 then (bs % 4294967296).toNat+1 else (bs % 4294967296).toNat
theorem fX_odd (bs:Int):fX bs % 2=1:=by unfold fX;split <;> omega
def flipT (b:List UInt8) (bit bs:Int):List UInt8:=flipN (fun i=>decide (fX bs / 2 ^ i % 2=1)) (bit % (8*(b.length:Int))).toNat b 32
theorem flipT_length (b:List UInt8) (bit bs:Int):(flipT b bit bs).length=b.length:=flipN_length _ _ _ _
theorem stepsC_zero:∀ k,stepsC k 0=0
 | 0=>rfl
 | k+1=>by rw [stepsC,stepsC_zero k];decide
theorem stepC_ne {r:Nat} (h:r<4294967296) (h0:r≠0):stepC r≠0:=by
 unfold stepC
 intro e
 rcases Nat.mod_two_eq_zero_or_one r with h1 | h1
 ·rw [if_neg (by omega),Nat.xor_zero] at e;omega
 ·rw [if_pos h1] at e
  have:r / 2=polyN:=by
   have h3:(r / 2 ^^^ polyN) ^^^ polyN=r / 2:=by rw [Nat.xor_assoc,Nat.xor_self,Nat.xor_zero]
   rw [e,Nat.zero_xor] at h3
   exact h3.symm
  simp only [polyN] at this
  omega
theorem stepsC_ne:∀ (k:Nat) {r:Nat},r<4294967296→r≠0→stepsC k r≠0
 | 0,_,_,h0=>h0
 | k+1,_,h,h0=>stepC_ne (stepsC_lt k h) (stepsC_ne k h h0)
theorem stepsC_add:∀ (j k r:Nat),stepsC (j+k) r=stepsC j (stepsC k r)
 | 0,k,r=>by rw [Nat.zero_add];rfl
 | j+1,k,r=>by rw [show j+1+k=(j+k)+1 by omega,stepsC,stepsC,stepsC_add j k r]
theorem stepsC_two:∀ (k x:Nat),stepsC k (2 ^ k*x)=x
 | 0,x=>by simp [stepsC]
 | k+1,x=>by
  rw [stepsC_succ,show 2 ^ (k+1)*x=2*(2 ^ k*x) by rw [Nat.pow_succ];rw [Nat.mul_comm (2 ^ k) 2,Nat.mul_assoc],stepC_double,stepsC_two k x]
theorem xor_swap (x p q:Nat):(x ^^^ p) ^^^ q=(x ^^^ q) ^^^ p:=by rw [Nat.xor_assoc,Nat.xor_comm p q,←Nat.xor_assoc]
theorem foldC_start:∀ (b:List UInt8) (r s:Nat),foldC (r ^^^ s) b=foldC r b ^^^ stepsC (8*b.length) s
 | [],r,s=>rfl
 | c::b,r,s=>by
  have e:foldC (r ^^^ s) (c::b)=foldC (eightC (r ^^^ s ^^^ c.toNat)) b:=rfl
  have e2:foldC r (c::b)=foldC (eightC (r ^^^ c.toNat)) b:=rfl
  rw [e,e2,xor_swap,show eightC (r ^^^ c.toNat ^^^ s)=eightC (r ^^^ c.toNat) ^^^ stepsC 8 s from stepsC_xor 8 _ _,foldC_start b,←stepsC_add,List.length_cons,Nat.mul_add]
theorem foldC_flipB:∀ (b:List UInt8) (r k:Nat),k<8*b.length→foldC r (flipB b k)=foldC r b ^^^ stepsC (8*b.length - k) 1
 | [],_,_,h=>by simp at h
 | c::b,r,k,h=>by
  have e2:foldC r (c::b)=foldC (eightC (r ^^^ c.toNat)) b:=rfl
  by_cases hk:k<8
  ·have e:flipB (c::b) k=(c ^^^ UInt8.ofNat (2 ^ (k % 8)))::b:=by
    unfold flipB
    rw [show k / 8=0 by omega]
    rfl
   have hp:(2:Nat) ^ k<256:=by
    have:=Nat.pow_lt_pow_right (a:=2) (by omega) hk
    omega
   rw [e,show foldC r ((c ^^^ UInt8.ofNat (2 ^ (k % 8)))::b)=foldC (eightC (r ^^^ (c ^^^ UInt8.ofNat (2 ^ (k % 8))).toNat)) b from rfl,UInt8.toNat_xor,Nat.mod_eq_of_lt hk,UInt8.toNat_ofNat_of_lt' hp,←Nat.xor_assoc,
    show eightC (r ^^^ c.toNat ^^^ 2 ^ k)=eightC (r ^^^ c.toNat) ^^^ stepsC 8 (2 ^ k) from stepsC_xor 8 _ _,foldC_start b,e2,←stepsC_add,List.length_cons]
   congr 1
   have:=stepsC_two k 1
   rw [Nat.mul_one] at this
   rw [show 8*b.length+8=(8*(b.length+1) - k)+k by omega,stepsC_add,this]
  ·have e:flipB (c::b) k=c::flipB b (k - 8):=by
    unfold flipB
    rw [show k / 8=(k - 8) / 8+1 by omega,List.modify_succ_cons,show k % 8=(k - 8) % 8 by omega]
   simp only [List.length_cons] at h
   rw [e,show foldC r (c::flipB b (k - 8))=foldC (eightC (r ^^^ c.toNat)) (flipB b (k - 8)) from rfl,foldC_flipB b _ _ (by omega),e2,List.length_cons]
   congr 2
   omega
def wordN (p:Nat→Bool) (d:Nat):Nat→Nat
 | 0=>0
 | i+1=>if p i&&decide (i<d) then wordN p d i ^^^ 2 ^ i else wordN p d i
theorem wordN_lt (p:Nat→Bool) (d:Nat):∀ i,wordN p d i<2 ^ i
 | 0=>by show 0<1;decide
 | i+1=>by
  have:=wordN_lt p d i
  unfold wordN
  have h2:(2:Nat) ^ i<2 ^ (i+1):=Nat.pow_lt_pow_right (by omega) (by omega)
  split
  ·exact Nat.xor_lt_two_pow (by omega) h2
  ·omega
theorem wordN_bit (p:Nat→Bool) (d:Nat) (hp:p 0=true) (hd:0<d):∀ i,0<i→(wordN p d i) % 2=1
 | 1,_=>by simp [wordN,hp,hd]
 | i+2,_=>by
  have ih:=wordN_bit p d hp hd (i+1) (by omega)
  unfold wordN
  split
  ·rw [xor_odd,Nat.pow_succ];omega
  ·exact ih
theorem foldC_flipN (p:Nat→Bool) (a:Nat) (b:List UInt8) (r:Nat) (ha:a<8*b.length):∀ i,foldC r (flipN p a b i)=foldC r b ^^^ stepsC (8*b.length - a) (wordN p (8*b.length - a) i)
 | 0=>by simp [flipN,wordN,stepsC_zero]
 | i+1=>by
  have ih:=foldC_flipN p a b r ha i
  unfold flipN wordN
  have hc:(p i&&decide (a+i<8*b.length))=(p i&&decide (i<8*b.length - a)):=by
   congr 1
   exact decide_eq_decide.2 (by omega)
  rw [hc]
  split
  ·rename_i h
   simp only [Bool.and_eq_true,decide_eq_true_eq] at h
   rw [foldC_flipB _ _ _ (by rw [flipN_length];omega),ih,flipN_length,stepsC_xor,Nat.xor_assoc]
   congr 2
   have:=stepsC_two i 1
   rw [Nat.mul_one] at this
   rw [show 8*b.length - a=(8*b.length - (a+i))+i by omega,stepsC_add,this]
  ·exact ih
theorem foldC_word:∀ (t:List UInt8) (s:Nat),foldC s t=stepsC (8*t.length) (s ^^^ leN t)
 | [],s=>by simp [foldC,leN,stepsC]
 | c::t,s=>by
  have e2:foldC s (c::t)=foldC (eightC (s ^^^ c.toNat)) t:=rfl
  have h1:leN (c::t)=c.toNat ^^^ 256*leN t:=by
   have hc:c.toNat<2 ^ 8:=c.toNat_lt
   have h:=Nat.two_pow_add_eq_or_of_lt hc (leN t)
   have h2:2 ^ 8*leN t ||| c.toNat=c.toNat ^^^ 2 ^ 8*leN t:=by
    apply Nat.eq_of_testBit_eq
    intro i
    rw [Nat.testBit_or,Nat.testBit_xor]
    by_cases hi:i<8
    ·rw [Nat.testBit_two_pow_mul]
     simp [show ¬8≤i by omega]
    ·have:c.toNat.testBit i=false:=Nat.testBit_lt_two_pow (Nat.lt_of_lt_of_le hc (Nat.pow_le_pow_right (by omega) (by omega)))
     rw [this]
     simp
   rw [←h2,←h]
   simp only [leN]
   omega
  rw [e2,foldC_word t,h1,List.length_cons,Nat.mul_add,stepsC_add]
  congr 1
  rw [←Nat.xor_assoc,stepsC_xor]
  congr 1
  exact(eightC_high _).symm
theorem ones_sub {x:Nat} (h:x<4294967296):4294967295 - x=4294967295 ^^^ x:=(not_u32 x h).symm
theorem sealed_fold {b:List UInt8} (h4:4≤b.length) (h:leN (b.drop (b.length - 4))=sumC (b.take (b.length - 4))):foldC 4294967295 b=stepsC 32 4294967295:=by
 have e:b=b.take (b.length - 4) ++ b.drop (b.length - 4):=(List.take_append_drop _ _).symm
 have hl:(b.drop (b.length - 4)).length=4:=by rw [List.length_drop];omega
 have hlt:foldC 4294967295 (b.take (b.length - 4))<4294967296:=foldC_lt _ (by decide)
 have hap:∀ x y:List UInt8,foldC 4294967295 (x ++ y)=foldC (foldC 4294967295 x) y:=fun x y=>by simp [foldC]
 conv=>lhs;rw [e]
 rw [hap,foldC_word,hl,h,sumC,ones_sub hlt]
 congr 1
 rw [Nat.xor_comm 4294967295,←Nat.xor_assoc,Nat.xor_self,Nat.zero_xor]
theorem flipT_seen {b:List UInt8} (h4:4≤b.length) (h:leN (b.drop (b.length - 4))=sumC (b.take (b.length - 4))) (bit bs:Int) :
  leN ((flipT b bit bs).drop ((flipT b bit bs).length - 4))≠sumC ((flipT b bit bs).take ((flipT b bit bs).length - 4)):=by
 intro h'
 have h1:=sealed_fold h4 h
 have h2:=sealed_fold (b:=flipT b bit bs) (by rw [flipT_length];exact h4) h'
 have ha:(bit % (8*(b.length:Int))).toNat<8*b.length:=by
  have:=Int.emod_lt_of_pos bit (show (0:Int)<8*(b.length:Int) by omega)
  have:=Int.emod_nonneg bit (show (8*(b.length:Int))≠0 by omega)
  omega
 unfold flipT at h2
 rw [foldC_flipN _ _ _ _ ha,h1] at h2
 have h3:stepsC (8*b.length - (bit % (8*(b.length:Int))).toNat) (wordN (fun i=>decide (fX bs / 2 ^ i % 2=1)) (8*b.length - (bit % (8*(b.length:Int))).toNat) 32)≠0:=by
  refine stepsC_ne _ (Nat.lt_of_lt_of_le (wordN_lt _ _ _) (by decide)) ?_
  have:=wordN_bit (fun i=>decide (fX bs / 2 ^ i % 2=1)) (8*b.length - (bit % (8*(b.length:Int))).toNat) (by simp [fX_odd]) (by omega) 32 (by decide)
  omega
 apply h3
 have h5:=congrArg (fun x=>stepsC 32 4294967295 ^^^ x) h2
 simp only [←Nat.xor_assoc,Nat.xor_self,Nat.zero_xor] at h5
 exact h5
theorem openE_flip {b:List UInt8} (h:openE b=0) (bit bs:Int):openE (flipT b bit bs)=5:=by
 unfold openE at h
 split at h
 ·cases h
 ·rename_i hl
  split at h
  ·cases h
  ·rename_i hs
   have:=flipT_seen (b:=b) (by omega) (Decidable.not_not.1 hs) bit bs
   unfold openE
   rw [if_neg (by rw [flipT_length];exact hl),if_pos this]
end Go.Proofs.YtldngmdpiifamaaGreatDoor
end
section
namespace Go.Proofs.YtldngmdpiifamaaGreatDoor.A
open Go.RowKit

theorem imgOk_short {g:Geo} {x:Img} (h:imgOk g x=true):x.bytes.length≤100:=by
 obtain⟨h1, -,h3⟩:=imgOk_parts h
 obtain⟨-,hd, -⟩:=okG_iff.1 h1
 rcases h3 with ⟨-,l,hl⟩ | ⟨-, -,h8⟩
 ·have:=readT_len hl
  omega
 ·omega
theorem ents0:∀ n,n<6→entsOf n (tblB (List.replicate n ent0))=List.replicate n ent0:=by decide +kernel
theorem readT_tab0 {g:Geo} (hg:okG g=true):readT g (tblB (tab0 g))=some (tab0 g):=by
 obtain⟨h1,h2,h3,h4,h5⟩:=okG_iff.1 hg
 have e:=ents0 (g.d+1).toNat (by omega)
 unfold readT tab0
 rw [e,if_pos]
 refine⟨?_,rfl⟩
 unfold okT
 simp only [Bool.and_eq_true,decide_eq_true_eq,List.length_replicate,Bool.not_eq_true']
 refine⟨⟨⟨hg,by omega⟩,?_⟩,?_⟩
 ·rw [List.all_eq_true]
  intro x hx
  rw [List.eq_of_mem_replicate hx]
  decide +kernel
 ·unfold lostAt
  rw [List.getElem?_replicate_of_lt (by omega)]
  rfl
theorem logImg_ok {g:Geo} (hg:okG g=true) (fill:UInt8) (i k:Nat):imgOk g (logImg g fill i k)=true:=by
 obtain⟨h1,h2,h3,h4,h5⟩:=okG_iff.1 hg
 have z1:=Int.tmod_nonneg g.z (show 0≤((i+k:Nat):Int) by omega)
 have z2:=Int.tmod_lt_of_pos ((i+k:Nat):Int) (show 0<g.z by omega)
 have d1:=Int.tmod_nonneg (g.d+1) (show 0≤((i+2*k:Nat):Int) by omega)
 have d2:=Int.tmod_lt_of_pos ((i+2*k:Nat):Int) (show 0<g.d+1 by omega)
 unfold imgOk logImg
 split
 ·simp only [hg,inB_iff.2 (show 0≤((i+k:Nat):Int).tmod g.z∧((i+k:Nat):Int).tmod g.z≤g.z - 1 by omega),readT_tab0 hg]
  rfl
 ·simp only [hg,inB_iff.2 (show 0≤((i+k:Nat):Int).tmod g.z∧((i+k:Nat):Int).tmod g.z≤g.z - 1 by omega),Bool.true_and]
  rw [if_neg (by omega),inB_iff.2 (show -1≤((i+2*k:Nat):Int).tmod (g.d+1) - 1∧((i+2*k:Nat):Int).tmod (g.d+1) - 1≤g.d - 1 by omega)]
  rfl
structure TxIn (g:Geo) (a:An) (fill:UInt8) (i0:Nat) (l:List Tx):Prop where
 at_:∀ j,j<l.length→∃ pos n,l.getD j tz=logTx g a fill (i0+j) pos n∧1≤n∧n≤5∧0≤pos∧pos<g.sl
theorem logM_in {g:Geo} {a:An} {fill:UInt8} (hg:okG g=true):∀ (sizes:List Int) (i:Nat) (pos used:Int),0≤pos∧pos<g.sl→TxIn g a fill i (logM g a fill sizes i pos used)
 | [],_,_,_,_=>⟨fun j hj=>by simp [logM] at hj⟩
 | s::r,i,pos,used,hp=>by
  obtain⟨h1,h2,h3,h4,h5⟩:=okG_iff.1 hg
  have hn:=nImg_in s
  have hm:=Int.tmod_lt_of_pos (pos+(nImg s:Nat)+1) (show 0<g.sl by omega)
  have hm0:=Int.tmod_nonneg g.sl (show 0≤pos+(nImg s:Nat)+1 by omega)
  unfold logM
  split
  ·exact⟨fun j hj=>by simp at hj⟩
  ·refine⟨fun j hj=>?_⟩
   cases j with
   | zero=>exact⟨pos,nImg s,rfl,hn.1,hn.2,hp⟩
   | succ j=>
    obtain⟨p,n,e,q⟩:=(logM_in hg r (i+1) _ (used+(nImg s:Nat)+1) ⟨hm0,hm⟩).at_ j (by simpa using hj)
    refine⟨p,n,?_,q⟩
    rw [show i+(j+1)=i+1+j by omega,←e]
    rfl
theorem logM_len {g:Geo} {a:An} {fill:UInt8}:∀ (sizes:List Int) (i:Nat) (pos used:Int),used≤g.sl→2*((logM g a fill sizes i pos used).length:Int)≤g.sl - used
 | [],_,_,_,h=>by simp [logM];omega
 | s::r,i,pos,used,h=>by
  have hn:=nImg_in s
  unfold logM
  split
  ·simp;omega
  ·have:=logM_len (g:=g) (a:=a) (fill:=fill) r (i+1) ((pos+(nImg s:Nat)+1).tmod g.sl) (used+(nImg s:Nat)+1) (by omega)
   simp only [List.length_cons]
   omega
theorem whoM_some {g:Geo} {s:Int}:∀ {l:List Tx} {i j:Nat} {k:Int},whoM g s l i=some (j,k)→i≤j∧j<i+l.length∧whoOk g (l.getD (j - i) tz) s=true∧k=whoK g (l.getD (j - i) tz) s
 | [],i,j,k,h=>by cases h
 | t::r,i,j,k,h=>by
  unfold whoM at h
  split at h
  ·injection h with h
   injection h with e1 e2
   subst e1
   subst e2
   refine⟨Nat.le_refl _,by simp,?_,?_⟩ <;> rw [Nat.sub_self] <;> first | assumption | rfl
  ·obtain⟨q1,q2,q3,q4⟩:=whoM_some h
   refine⟨by omega,by simp only [List.length_cons];omega,?_,?_⟩
   ·rw [show j - i=(j - (i+1))+1 by omega];exact q3
   ·rw [show j - i=(j - (i+1))+1 by omega];exact q4
theorem logTx_imgs {g:Geo} {a:An} {fill:UInt8} {i n:Nat} {pos:Int} (hg:okG g=true):(logTx g a fill i pos n).images.length=n∧∀ x∈(logTx g a fill i pos n).images,imgOk g x=true:=by
 refine⟨by simp [logTx],fun x hx=>?_⟩
 obtain⟨k, -,rfl⟩:=List.mem_map.1 hx
 exact logImg_ok hg fill i k
theorem okR_zero {g:Geo} (hg:okG g=true):okR g zeroC=true:=by
 simp [okR,hg,behOk,zeroC,noneB]
theorem logM_ok {g:Geo} {a:An} {fill:UInt8} {sizes:List Int} {epoch:Int} (hg:okG g=true) (ha:anOk g a=true) (hs:a.seq≤1000000) (he:0≤epoch∧epoch≤4294967295):LogOk g (logM g a fill sizes 0 a.pos 0) epoch:=by
 obtain⟨h1,h2,h3,h4,h5⟩:=okG_iff.1 hg
 have hq:=anOk_seq ha
 have hin:=logM_in (a:=a) (fill:=fill) hg sizes 0 a.pos 0 hq.2
 have hlen:=logM_len (g:=g) (a:=a) (fill:=fill) sizes 0 a.pos 0 (by omega)
 generalize logM g a fill sizes 0 a.pos 0=l at hin hlen
 have hwho:∀ s i k,0≤s∧s<g.sl→whoM g s l 0=some (i,k)→i<l.length∧0≤k∧∃ pos n,l.getD i tz=logTx g a fill i pos n∧1≤n∧n≤5∧k.toNat<n+1:=fun s i k hsl hw=>by
  obtain⟨q1,q2,q3,q4⟩:=whoM_some hw
  rw [Nat.sub_zero] at q3 q4
  obtain⟨pos,n,e,n1,n2,p1,p2⟩:=hin.at_ i (by omega)
  rw [Nat.zero_add] at e
  unfold whoOk at q3
  simp only [Bool.and_eq_true,decide_eq_true_eq] at q3
  rw [←q4,e] at q3
  have k0:0≤k:=by
   rw [q4,e,whoK]
   refine Int.tmod_nonneg _ ?_
   rw [IntKind.wrap_i64,IntKind.wrap_i64]
   simp only [logTx]
   omega
  refine⟨by omega,k0,pos,n,e,n1,n2,?_⟩
  have:=q3.2
  simp only [logTx] at this
  omega
 refine⟨by omega,fun t ht=>?_,fun s i k hsl hw=>?_,fun s hsl=>?_⟩
 ·obtain⟨j,hj,rfl⟩:=List.mem_iff_getElem.1 ht
  obtain⟨pos,n,e,n1,n2, -⟩:=hin.at_ j hj
  rw [List.getD_eq_getElem?_getD,List.getElem?_eq_getElem hj] at e
  simp only [Option.getD_some] at e
  rw [e]
  obtain⟨i1,i2⟩:=logTx_imgs (a:=a) (fill:=fill) (i:=0+j) (n:=n) (pos:=pos) hg
  exact⟨by omega,fun x hx=>by have:=imgOk_short (i2 x hx);omega⟩
 ·obtain⟨q1,q2,pos,n,e,n1,n2,q3⟩:=hwho s i k hsl hw
  rw [e,(logTx_imgs (a:=a) (fill:=fill) (i:=i) (n:=n) (pos:=pos) hg).1]
  exact⟨q1,q2,q3⟩
 ·unfold recW
  cases hw:whoM g s l 0 with
  | none=>exact okR_zero hg
  | some q=>
   obtain⟨i,k⟩:=q
   obtain⟨q1,q2,pos,n,e,n1,n2,q3⟩:=hwho s i k hsl hw
   simp only
   rw [e]
   obtain⟨i1,i2⟩:=logTx_imgs (a:=a) (fill:=fill) (i:=i) (n:=n) (pos:=pos) hg
   exact(recs_at (seq:=(logTx g a fill i pos n).seq) (epoch:=epoch) (l:=(logTx g a fill i pos n).images) (k:=k.toNat) hg (by simp only [logTx];omega) he i2 (by omega) (by omega) (by omega)).ok
theorem tmod_lo {x n:Int} (h0:0≤x) (h1:x<n):x.tmod n=x:=Int.tmod_eq_of_lt h0 h1
theorem tmod_hi {x n:Int} (h0:n≤x) (h1:x<2*n) (hn:0<n):x.tmod n=x - n:=by
 rw [Int.tmod_eq_emod_of_nonneg (by omega),←Int.sub_emod_right x n]
 exact Int.emod_eq_of_lt (by omega) (by omega)
def findU:List Tx→Int→Nat→Int→Option (Nat × Int)
 | [],_,_,_=>none
 | t::r,used,i,u=>if used≤u∧u<used+t.n then some (i,u - used) else findU r (used+t.n) (i+1) u
theorem whoK_far {g:Geo} {t:Tx} {p0 u used:Int} (hg:okG g=true) (hp:0≤p0∧p0<g.sl) (hu:0≤u∧u<g.sl) (hd:0≤used∧used<g.sl) (ht:t.pos=(p0+used).tmod g.sl) :
  whoK g t ((p0+u).tmod g.sl)=if used≤u then u - used else u - used+g.sl:=by
 obtain⟨h1,h2,h3,h4,h5⟩:=okG_iff.1 hg
 have hs:(p0+u).tmod g.sl=if p0+u<g.sl then p0+u else p0+u - g.sl:=by
  split
  ·exact tmod_lo (by omega) (by omega)
  ·exact tmod_hi (by omega) (by omega) (by omega)
 have hq:(p0+used).tmod g.sl=if p0+used<g.sl then p0+used else p0+used - g.sl:=by
  split
  ·exact tmod_lo (by omega) (by omega)
  ·exact tmod_hi (by omega) (by omega) (by omega)
 unfold whoK
 rw [ht,hs,hq]
 have hw:IntKind.i64.wrap (IntKind.i64.wrap ((if p0+u<g.sl then p0+u else p0+u - g.sl) - (if p0+used<g.sl then p0+used else p0+used - g.sl))+g.sl)=(if p0+u<g.sl then p0+u else p0+u - g.sl) - (if p0+used<g.sl then p0+used else p0+used - g.sl)+g.sl:=by
  rw [IntKind.wrap_i64,IntKind.wrap_i64]
  split <;> split <;> omega
 rw [hw]
 split <;> split <;> split
 all_goals first
  | (rw [tmod_lo (by omega) (by omega)];omega)
  | (rw [tmod_hi (by omega) (by omega) (by omega)];omega)
  | (exfalso;omega)
theorem who_log {g:Geo} {a:An} {fill:UInt8} (hg:okG g=true) {p0:Int} (hp:0≤p0∧p0<g.sl) {u:Int} (hu:0≤u∧u<g.sl):∀ (sizes:List Int) (i j:Nat) (used:Int),0≤used∧used≤g.sl→whoM g ((p0+u).tmod g.sl) (logM g a fill sizes i ((p0+used).tmod g.sl) used) j=findU (logM g a fill sizes i ((p0+used).tmod g.sl) used) used j u
 | [],i,j,used,hd=>rfl
 | s::r,i,j,used,hd=>by
  obtain⟨h1,h2,h3,h4,h5⟩:=okG_iff.1 hg
  have hn:=nImg_in s
  have ep:((p0+used).tmod g.sl+(nImg s:Nat)+1).tmod g.sl=(p0+(used+(nImg s:Nat)+1)).tmod g.sl:=by
   rw [Int.tmod_eq_emod_of_nonneg (show 0≤p0+used by omega)]
   have q:=Int.emod_nonneg (p0+used) (show g.sl≠0 by omega)
   rw [Int.tmod_eq_emod_of_nonneg (by omega),Int.tmod_eq_emod_of_nonneg (by omega),Int.add_assoc,Int.emod_add_emod,show p0+used+((nImg s:Nat)+1)=p0+(used+(nImg s:Nat)+1) by omega]
  unfold logM
  split
  ·rfl
  ·rename_i hc
   have hk:=whoK_far (t:=logTx g a fill i ((p0+used).tmod g.sl) (nImg s)) hg hp hu (used:=used) (by omega) rfl
   have ip:inB ((p0+used).tmod g.sl) 0 (g.sl - 1)=true:=by
    have q1:=Int.tmod_nonneg g.sl (show 0≤p0+used by omega)
    have q2:=Int.tmod_lt_of_pos (p0+used) (show 0<g.sl by omega)
    exact inB_iff.2 (by omega)
   have inn:inB ((nImg s:Nat)+1) 0 g.sl=true:=inB_iff.2 (by omega)
   have ih:=who_log (a:=a) (fill:=fill) hg hp hu r (i+1) (j+1) (used+(nImg s:Nat)+1) (by omega)
   rw [←ep] at ih
   unfold whoM findU
   have ok:whoOk g (logTx g a fill i ((p0+used).tmod g.sl) (nImg s)) ((p0+u).tmod g.sl)=decide (used≤u∧u<used+((nImg s:Nat)+1)):=by
    unfold whoOk
    rw [hk]
    simp only [logTx,ip,inn,Bool.true_and]
    by_cases h:used≤u
    ·rw [if_pos h]
     exact decide_eq_decide.2 (by omega)
    ·rw [if_neg h]
     exact decide_eq_decide.2 (by omega)
   rw [ok,hk]
   by_cases h:used≤u∧u<used+((nImg s:Nat)+1)
   ·rw [if_pos (decide_eq_true h),if_pos h.1]
    rw [if_pos (show used≤u∧u<used+(logTx g a fill i ((p0+used).tmod g.sl) (nImg s)).n from h)]
   ·rw [if_neg (by rw [decide_eq_true_eq];exact h)]
    rw [if_neg (show ¬(used≤u∧u<used+(logTx g a fill i ((p0+used).tmod g.sl) (nImg s)).n) from h)]
    rw [ih]
    simp only [logTx,Int.add_assoc]
def wsG (look:Int→Rc × Int × List Wr):Nat→Int→List Wr→List Wr
 | 0,_,w=>w
 | f+1,k,w=>wsG look f (k+1) (w ++ (look k).2.2)
theorem gather_found {look:Int→Rc × Int × List Wr} {R:Nat→Rc} {imgs:List Img} (h1:∀ j,j<imgs.length→(R j).kind=1∧(R j).img=imgs.getD j ⟨0,0, []⟩) (h2:(R imgs.length).kind≠1) (hl:∀ j:Nat,1≤j→j≤imgs.length→(look (j:Nat)).1=R j∧(look (j:Nat)).2.1=1) :
  ∀ (f j:Nat) (w:List Wr),f+j=imgs.length→gatherM look f ((j:Nat)+1) (R j) (imgs.take j) w=(1,imgs,wsG look f ((j:Nat)+1) w)
 | 0,j,w,h=>by
  have e:j=imgs.length:=by omega
  subst e
  simp only [gatherM,if_neg h2,List.take_length,wsG]
 | f+1,j,w,h=>by
  obtain⟨k1,k2⟩:=h1 j (by omega)
  obtain⟨q1,q2⟩:=hl (j+1) (by omega) (by omega)
  have ej:(((j+1:Nat)):Int)=(j:Int)+1:=by omega
  rw [ej] at q1 q2
  have ih:=gather_found h1 h2 hl f (j+1) (w ++ (look ((j:Int)+1)).2.2) (by omega)
  rw [ej] at ih
  unfold gatherM wsG
  simp only [if_pos k1,q2]
  rw [if_neg (by decide),q1,k2,show imgs.take j ++ [imgs.getD j ⟨0,0, []⟩]=imgs.take (j+1) by rw [List.take_succ_eq_append_getElem (by omega),List.getD_eq_getElem?_getD,List.getElem?_eq_getElem (by omega)];rfl]
  exact ih
def chainOk (g:Geo):List Tx→Int→Int→Prop
 | [],_,_=>True
 | t::r,seq,pos=>(t.seq=seq∧t.pos=pos∧t.n=t.images.length+1∧2≤t.n)∧chainOk g r (seq+1) ((pos+t.n).tmod g.sl)
def usedM:List Tx→Int
 | []=>0
 | t::r=>t.n+usedM r
def posM (g:Geo):List Tx→Int→Int
 | [],pos=>pos
 | t::r,pos=>posM g r ((pos+t.n).tmod g.sl)
theorem chain_app (g:Geo):∀ (l:List Tx) (seq pos:Int) (t:Tx),chainOk g l seq pos→(t.seq=seq+l.length∧t.pos=posM g l pos∧t.n=t.images.length+1∧2≤t.n)→chainOk g (l ++ [t]) seq pos
 | [],seq,pos,t,_,h=>⟨⟨by have:=h.1;simpa using this,h.2.1,h.2.2.1,h.2.2.2⟩,trivial⟩
 | x::r,seq,pos,t,h,ht=>by
  refine⟨h.1,chain_app g r (seq+1) _ t h.2 ⟨?_,ht.2⟩⟩
  rw [ht.1]
  simp only [List.length_cons]
  omega
theorem used_app:∀ (l:List Tx) (t:Tx),usedM (l ++ [t])=usedM l+t.n
 | [],t=>by simp [usedM]
 | x::r,t=>by simp only [List.cons_append,usedM,used_app r t];omega
theorem pos_app (g:Geo):∀ (l:List Tx) (pos:Int) (t:Tx),posM g (l ++ [t]) pos=((posM g l pos)+t.n).tmod g.sl
 | [],pos,t=>rfl
 | x::r,pos,t=>by simp only [List.cons_append,posM];exact pos_app g r _ t
theorem gather_imgs {g:Geo} {a:An} {seq left n:Int} {look:Int→Rc × Int × List Wr} (hlook:∀ i,1≤i→i<n→(look i).2.1=1→okR g (look i).1=true∧isOne (look i).1 a seq i n left=true):∀ (f:Nat) (k:Int) (r:Rc) (im:List Img) (w:List Wr),1≤k→k+f=n→okR g r=true→r.at_=k - 1→r.of_=n→r.kind≠0→(im.length:Int)=k - 1→(gatherM look f k r im w).1=1→((gatherM look f k r im w).2.1.length:Int)+1=n
 | 0,k,r,im,w,hk,hn,hr,ha,ho,h0,hi,_=>by
  have hk1:r.kind≠1:=by
   intro e
   unfold okR behOk at hr
   simp only [Bool.and_eq_true] at hr
   have h2:=hr.2
   rw [if_neg h0,if_pos e] at h2
   simp only [Bool.and_eq_true,inB_iff] at h2
   omega
  unfold gatherM
  simp only [if_neg hk1]
  omega
 | f+1,k,r,im,w,hk,hn,hr,ha,ho,h0,hi,hG=>by
  have hk1:r.kind=1:=by
   unfold okR behOk at hr
   simp only [Bool.and_eq_true] at hr
   have h2:=hr.2
   rw [if_neg h0] at h2
   split at h2
   ·assumption
   ·split at h2
    ·simp only [Bool.and_eq_true,beq_iff_eq] at h2
     omega
    ·cases h2
  unfold gatherM at hG ⊢
  simp only [if_pos hk1] at hG ⊢
  by_cases hq:(look k).2.1≠1
  ·rw [if_pos hq] at hG
   exact absurd hG hq
  ·rw [if_neg hq] at hG ⊢
   have hl:=hlook k hk (by omega) (by omega)
   have h1:=one_of hl.1 hl.2
   have h2:=(of_decide_eq_true hl.2).1
   refine gather_imgs hlook f (k+1) (look k).1 _ _ (by omega) (by omega) hl.1 (by omega) ?_ h2 ?_ hG
   ·exact h1.2.2.2.2.2 (by omega)
   ·rw [List.length_append]
    simp only [List.length_cons,List.length_nil]
    omega
theorem txnM_imgs {g:Geo} {a:An} {x y:List Gt} {pos seq left:Int} (hg:okG g=true) (hp:0≤pos∧pos<g.sl) (h:(txnM g a x y pos seq left).1=1):((txnM g a x y pos seq left).2.2.1.length:Int)+1=(txnM g a x y pos seq left).2.1:=by
 have r0:=recM_facts (a:=a) (x:=x) (y:=y) (seq:=seq) (left:=left) (of_:=0) (at_:=0) hg hp (by omega)
 unfold txnM at h ⊢
 simp only at h ⊢
 rcases r0 with ⟨e1,⟨e2, -,e3⟩,e4⟩ | ⟨e1, -, -⟩
 ·rw [if_neg (by omega)] at h ⊢
  have hN:=one_of e2 e3
  have h0:=(of_decide_eq_true e3).1
  by_cases hq:(gatherM (fun k=>recM g a x y pos seq left k (recM g a x y pos seq left 0 0).1.of_) ((recM g a x y pos seq left 0 0).1.of_ - 1).toNat 1 (recM g a x y pos seq left 0 0).1 [] (recM g a x y pos seq left 0 0).2.2).1≠1
  ·rw [if_pos hq] at h
   exact absurd h hq
  ·rw [if_neg hq]
   refine gather_imgs (g:=g) (a:=a) (seq:=seq) (left:=left) (n:=(recM g a x y pos seq left 0 0).1.of_) (look:=fun k=>recM g a x y pos seq left k (recM g a x y pos seq left 0 0).1.of_) (fun i h1 h2 h3=>?_) _ 1 _ [] _ (by omega) (by omega) e2 (by omega) rfl h0 (by simp) (by omega)
   rcases recM_facts (a:=a) (x:=x) (y:=y) (seq:=seq) (left:=left) (of_:=(recM g a x y pos seq left 0 0).1.of_) (at_:=i) hg hp (by omega) with ⟨_,⟨q1,_,q2⟩,_⟩ | ⟨q,_⟩
   ·exact⟨q1,q2⟩
   ·omega
 ·rw [if_pos (by omega)] at h
  simp only at h
  omega
theorem scanL_right {g:Geo} {a:An} {x y:List Gt} (hg:okG g=true):∀ (f:Nat) (pos seq left:Int) (l:List Tx) (w:List Wr) {l':List Tx} {w':List Wr} {seq':Int},chainOk g l a.seq a.pos→pos=posM g l a.pos→seq=a.seq+l.length→usedM l+left=g.sl→0≤left→(0≤pos∧pos<g.sl)→scanL g a x y f pos seq left l w=some (l',w',seq')→
  chainOk g l' a.seq a.pos∧seq'=a.seq+l'.length∧usedM l'≤g.sl
 | 0,pos,seq,left,l,w,l',w',seq',h1,h2,h3,h4,h5,h6,h=>by
  unfold scanL at h
  injection h with h
  injection h with e1 h
  injection h with e2 e3
  subst e1
  subst e3
  exact⟨h1,h3,by omega⟩
 | f+1,pos,seq,left,l,w,l',w',seq',h1,h2,h3,h4,h5,h6,h=>by
  unfold scanL at h
  have fin:some (l,w,seq)=some (l',w',seq')→chainOk g l' a.seq a.pos∧seq'=a.seq+l'.length∧usedM l'≤g.sl:=fun h=>by
   injection h with h
   injection h with e1 h
   injection h with e2 e3
   subst e1
   subst e3
   exact⟨h1,h3,by omega⟩
  by_cases hc:0<left∧seq≤4294967295
  ·rw [if_pos hc] at h
   simp only at h
   have tf:=txnM_facts (a:=a) (x:=x) (y:=y) (seq:=seq) (left:=left) hg h6
   have ti:=fun e=>txnM_imgs (a:=a) (x:=x) (y:=y) (seq:=seq) (left:=left) hg h6 e
   generalize txnM g a x y pos seq left=q at tf ti h
   obtain⟨how,n,im,ws⟩:=q
   simp only at tf ti h
   rcases tf with ⟨rfl,t1,t2⟩ | tf
   ·rw [if_neg (by decide),if_neg (by decide)] at h
    have hi:=ti rfl
    obtain⟨g1,g2,g3,g4,g5⟩:=okG_iff.1 hg
    have hm:=Int.tmod_lt_of_pos (pos+n) (show 0<g.sl by omega)
    have hm0:=Int.tmod_nonneg g.sl (show 0≤pos+n by omega)
    refine scanL_right hg f _ _ _ _ _ (chain_app g l a.seq a.pos ⟨seq,pos,n,im⟩ h1 ⟨h3,h2,by simp only;omega,t1.1⟩) ?_ ?_ ?_ (by omega) ⟨hm0,hm⟩ h
    ·rw [pos_app,←h2]
    ·rw [List.length_append]
     simp only [List.length_cons,List.length_nil]
     omega
    ·rw [used_app]
     simp only
     omega
   ·by_cases h3':how=3
    ·rw [if_pos h3'] at h
     cases h
    ·rw [if_neg h3',if_pos (by omega)] at h
     exact fin h
  ·rw [if_neg hc] at h
   exact fin h

theorem logTx_n (g:Geo) (a:An) (fill:UInt8) (i:Nat) (pos:Int) (n:Nat):(logTx g a fill i pos n).n=(n:Int)+1:=rfl
theorem logM_at {g:Geo} {a:An} {fill:UInt8} {p0:Int} (hg:okG g=true) (hp:0≤p0):∀ (sizes:List Int) (i i0:Nat) (used:Int),0≤used→∀ j,j<(logM g a fill sizes i ((p0+used).tmod g.sl) used).length→
  ∃ o:Int,used≤o∧o+((logM g a fill sizes i ((p0+used).tmod g.sl) used).getD j tz).n≤g.sl∧((logM g a fill sizes i ((p0+used).tmod g.sl) used).getD j tz).pos=(p0+o).tmod g.sl∧
   ∀ k:Nat,(k:Int)<((logM g a fill sizes i ((p0+used).tmod g.sl) used).getD j tz).n→findU (logM g a fill sizes i ((p0+used).tmod g.sl) used) used i0 (o+k)=some (i0+j,((k:Nat):Int))
 | [],i,i0,used,hu,j,hj=>by simp [logM] at hj
 | s::r,i,i0,used,hu,j,hj=>by
  obtain⟨h1,h2,h3,h4,h5⟩:=okG_iff.1 hg
  have hn:=nImg_in s
  have ep:((p0+used).tmod g.sl+(nImg s:Nat)+1).tmod g.sl=(p0+(used+(nImg s:Nat)+1)).tmod g.sl:=by
   rw [Int.tmod_eq_emod_of_nonneg (show 0≤p0+used by omega)]
   have q:=Int.emod_nonneg (p0+used) (show g.sl≠0 by omega)
   rw [Int.tmod_eq_emod_of_nonneg (by omega),Int.tmod_eq_emod_of_nonneg (by omega),Int.add_assoc,Int.emod_add_emod,show p0+used+((nImg s:Nat)+1)=p0+(used+(nImg s:Nat)+1) by omega]
  unfold logM at hj ⊢
  split at hj
  ·simp at hj
  ·rename_i hc
   rw [if_neg hc]
   cases j with
   | zero=>
    refine⟨used,Int.le_refl _,show used+((nImg s:Nat)+1:Int)≤g.sl by omega,rfl,fun k hk=>?_⟩
    have hk:(k:Int)<(nImg s:Nat)+1:=hk
    unfold findU
    rw [logTx_n,if_pos (show used≤used+(k:Int)∧used+(k:Int)<used+((nImg s:Nat)+1:Int) by omega)]
    simp only [Nat.add_zero]
    rw [show used+(k:Int) - used=(k:Int) by omega]
   | succ j=>
    rw [ep] at hj ⊢
    obtain⟨o,o1,o2,o3,o4⟩:=logM_at (a:=a) (fill:=fill) hg hp r (i+1) (i0+1) (used+(nImg s:Nat)+1) (by omega) j (by simpa using hj)
    refine⟨o,by omega,o2,o3,fun k hk=>?_⟩
    unfold findU
    rw [logTx_n,if_neg (show ¬(used≤o+(k:Int)∧o+(k:Int)<used+((nImg s:Nat)+1:Int)) by omega)]
    have:=o4 k hk
    rw [show i0+1+j=i0+(j+1) by omega] at this
    rw [←this,Int.add_assoc]
theorem recW_at {g:Geo} {a:An} {fill:UInt8} {sizes:List Int} {ep:Int} (hg:okG g=true) (ha:anOk g a=true) {j k:Nat} (hj:j<(logM g a fill sizes 0 a.pos 0).length) (hk:k<((logM g a fill sizes 0 a.pos 0).getD j tz).images.length+1) :
  (0≤slotM g ((logM g a fill sizes 0 a.pos 0).getD j tz).pos k∧slotM g ((logM g a fill sizes 0 a.pos 0).getD j tz).pos k<g.sl)∧
  recW g (logM g a fill sizes 0 a.pos 0) ep (slotM g ((logM g a fill sizes 0 a.pos 0).getD j tz).pos k)=(recsOf ((logM g a fill sizes 0 a.pos 0).getD j tz).seq ep ((logM g a fill sizes 0 a.pos 0).getD j tz).images).getD k rc0:=by
 obtain⟨h1,h2,h3,h4,h5⟩:=okG_iff.1 hg
 have hq:=anOk_seq ha
 have e0:(a.pos+0).tmod g.sl=a.pos:=by rw [Int.add_zero];exact tmod_lo hq.2.1 hq.2.2
 have hin:=logM_in (a:=a) (fill:=fill) hg sizes 0 a.pos 0 hq.2
 obtain⟨pos,n,e,n1,n2,p1,p2⟩:=hin.at_ j hj
 obtain⟨o,o1,o2,o3,o4⟩:=logM_at (a:=a) (fill:=fill) (p0:=a.pos) hg hq.2.1 sizes 0 0 0 (Int.le_refl 0) j (by rw [e0];exact hj)
 rw [e0] at o2 o3 o4
 have hN:((logM g a fill sizes 0 a.pos 0).getD j tz).n=n+1:=by rw [e];rfl
 have hI:((logM g a fill sizes 0 a.pos 0).getD j tz).images.length=n:=by rw [e];simp [logTx]
 have hs:slotM g ((logM g a fill sizes 0 a.pos 0).getD j tz).pos k=(a.pos+(o+k)).tmod g.sl:=by
  unfold slotM
  have q1:=Int.tmod_nonneg g.sl (show 0≤a.pos+o by omega)
  have q2:=Int.tmod_lt_of_pos (a.pos+o) (show 0<g.sl by omega)
  rw [o3,show IntKind.i64.wrap ((a.pos+o).tmod g.sl+(k:Int))=(a.pos+o).tmod g.sl+k by rw [IntKind.wrap_i64];omega]
  rw [Int.tmod_eq_emod_of_nonneg (show 0≤a.pos+o by omega)] at q1 ⊢
  rw [Int.tmod_eq_emod_of_nonneg (by omega),Int.tmod_eq_emod_of_nonneg (by omega),Int.emod_add_emod,Int.add_assoc]
 have hw:=who_log (a:=a) (fill:=fill) hg (p0:=a.pos) hq.2 (u:=o+k) (by omega) sizes 0 0 0 ⟨Int.le_refl 0,by omega⟩
 rw [e0,o4 k (by omega)] at hw
 refine⟨slotM_in hg (by rw [e];exact⟨p1,p2⟩) (by omega),?_⟩
 rw [hs]
 unfold recW
 rw [hw]
 simp only [Nat.zero_add,Int.toNat_natCast]
 rfl
theorem posM_used {g:Geo} (hg:okG g=true):∀ (l:List Tx) (x:Int),0≤x→(∀ t∈l,0≤t.n)→posM g l (x.tmod g.sl)=(x+usedM l).tmod g.sl
 | [],x,hx,_=>by simp [posM,usedM]
 | t::r,x,hx,h=>by
  obtain⟨h1,h2,h3,h4,h5⟩:=okG_iff.1 hg
  have ht:=h t (by simp)
  have ih:=posM_used hg r (x+t.n) (by omega) (fun t ht=>h t (List.mem_cons_of_mem _ ht))
  have e:(x.tmod g.sl+t.n).tmod g.sl=(x+t.n).tmod g.sl:=by
   rw [Int.tmod_eq_emod_of_nonneg hx]
   have q:=Int.emod_nonneg x (show g.sl≠0 by omega)
   rw [Int.tmod_eq_emod_of_nonneg (by omega),Int.tmod_eq_emod_of_nonneg (by omega),Int.emod_add_emod]
  simp only [posM,usedM]
  rw [e,ih,Int.add_assoc]
theorem findU_none:∀ (l:List Tx) (used:Int) (i:Nat) (u:Int),(∀ t∈l,0≤t.n)→used+usedM l≤u→findU l used i u=none
 | [],_,_,_,_,_=>rfl
 | t::r,used,i,u,h,hu=>by
  have ht:=h t (by simp)
  simp only [usedM] at hu
  have hr:0≤usedM r:=by
   have:∀ l:List Tx,(∀ t∈l,0≤t.n)→0≤usedM l:=by
    intro l
    induction l with
    | nil=>intro _;simp [usedM]
    | cons x y ih=>intro h;have:=ih (fun t ht=>h t (List.mem_cons_of_mem _ ht));have:=h x (by simp);simp only [usedM];omega
   exact this r fun t ht=>h t (List.mem_cons_of_mem _ ht)
  unfold findU
  rw [if_neg (by omega)]
  exact findU_none r (used+t.n) (i+1) u (fun t ht=>h t (List.mem_cons_of_mem _ ht)) (by omega)
theorem logM_take {g:Geo} {a:An} {fill:UInt8}:∀ (sizes:List Int) (i:Nat) (pos used:Int) (n:Nat),n≤(logM g a fill sizes i pos used).length→(logM g a fill sizes i pos used).take n=logM g a fill (sizes.take n) i pos used
 | [],i,pos,used,n,h=>by
  have:n=0:=by simpa [logM] using h
  subst this
  rfl
 | s::r,i,pos,used,0,h=>by
  rw [List.take_zero,List.take_zero,logM]
 | s::r,i,pos,used,n+1,h=>by
  rw [List.take_succ_cons]
  unfold logM at h ⊢
  split at h
  ·simp at h
  ·rename_i hc
   rw [if_neg hc,if_neg hc,List.take_succ_cons,logM_take r _ _ _ n (by simpa using h)]
def SaysB (a:An) (x:Option Rc) (b:Bool) (r:Rc) (seq at_:Int):Prop:=if b=true then x=some r else ∀ of_ left,oneO x a seq at_ of_ left=false
def wantsB (b0 b1:Bool):List Int:=if b0 then (if b1 then [] else [1]) else [0]
theorem lookP_B {a:An} {p q:Int→Option Rc} {slot seq at_ of_ left:Int} {r:Rc} {b0 b1:Bool} (hp:SaysB a (p slot) b0 r seq at_) (hq:SaysB a (q slot) b1 r seq at_) (h:(b0 || b1)=true) (h1:isOne r a seq at_ of_ left=true):lookP a p q slot seq at_ of_ left=(r,wantsB b0 b1,1):=by
 unfold SaysB at hp hq
 unfold lookP
 cases b0 <;> cases b1
 ·cases h
 ·rw [if_neg (by decide)] at hp
  rw [if_pos rfl] at hq
  rw [hp,hq];simp [oneO,h1,lookT,wantsB]
 ·rw [if_pos rfl] at hp
  rw [if_neg (by decide)] at hq
  rw [hq,hp];simp [oneO,h1,lookT,wantsB]
 ·rw [if_pos rfl] at hp hq
  rw [hp,hq];simp [oneO,h1,lookT,wantsB]
def recWr (g:Geo) (ep:Int) (b0 b1:Int→Bool) (t:Tx) (k:Nat):List Wr:=(wantsB (b0 (slotM g t.pos k)) (b1 (slotM g t.pos k))).map fun c=>⟨logAt g c (slotM g t.pos k),cellB g ((recsOf t.seq ep t.images).getD k rc0) c (slotM g t.pos k)⟩
def txWr (g:Geo) (ep:Int) (b0 b1:Int→Bool) (t:Tx):List Wr:=(List.range (t.images.length+1)).flatMap fun k=>recWr g ep b0 b1 t k
theorem wsG_eq {look:Int→Rc × Int × List Wr}:∀ (f:Nat) (k:Int) (w:List Wr),wsG look f k w=w ++ (List.range f).flatMap fun j=>(look (k+(j:Nat))).2.2
 | 0,k,w=>by simp [wsG]
 | f+1,k,w=>by
  rw [wsG,wsG_eq f (k+1),List.range_succ_eq_map,List.flatMap_cons,List.flatMap_map,List.append_assoc]
  congr 1
  congr 1
  ·rw [show k+((0:Nat):Int)=k by omega]
  ·congr 1
   funext j
   rw [show k+1+(j:Int)=k+((j.succ:Nat):Int) by omega]
def AllB (g:Geo) (a:An) (ep:Int) (p q:Int→Option Rc) (b0 b1:Int→Bool) (t:Tx) (n:Nat):Prop:=
 (ep=a.epoch∨t.seq≤a.last∧ep≤a.epoch)∧∀ k:Nat,k<n→SaysB a (p (slotM g t.pos k)) (b0 (slotM g t.pos k)) ((recsOf t.seq ep t.images).getD k rc0) t.seq k∧SaysB a (q (slotM g t.pos k)) (b1 (slotM g t.pos k)) ((recsOf t.seq ep t.images).getD k rc0) t.seq k∧(b0 (slotM g t.pos k) || b1 (slotM g t.pos k))=true
theorem recs_facts (seq ep:Int) (imgs:List Img) (k:Nat) (hk:k<imgs.length+1):((recsOf seq ep imgs).getD k rc0).kind≠0∧((recsOf seq ep imgs).getD k rc0).seq=seq∧((recsOf seq ep imgs).getD k rc0).epoch=ep∧((recsOf seq ep imgs).getD k rc0).at_=(k:Nat)∧((recsOf seq ep imgs).getD k rc0).of_=imgs.length+1∧(((recsOf seq ep imgs).getD k rc0).kind=1↔k<imgs.length)∧(k<imgs.length→((recsOf seq ep imgs).getD k rc0).img=imgs.getD k ⟨0,0, []⟩):=by
 rw [recs_getD seq ep imgs hk]
 split
 ·exact⟨by simp,rfl,rfl,rfl,rfl,by simp [*],fun _=>rfl⟩
 ·exact⟨by simp,rfl,rfl,rfl,rfl,by simp [*],fun h=>by omega⟩
theorem recP_B {g:Geo} {a:An} {p q:Int→Option Rc} {b0 b1:Int→Bool} {left ep:Int} {t:Tx} {n:Nat} (hS:AllB g a ep p q b0 b1 t n) (hn:n≤t.images.length+1) (hleft:(t.images.length:Int)+1≤left) (k:Nat) (of_:Int) (hk:k<n) (ho:of_=0∨of_=t.images.length+1):recP g a p q t.pos t.seq left k of_=((recsOf t.seq ep t.images).getD k rc0,1,recWr g ep b0 b1 t k):=by
 obtain⟨s1,s2,s3⟩:=hS.2 k hk
 obtain⟨r1,r2,r3,r4,r5, -⟩:=recs_facts t.seq ep t.images k (by omega)
 have:=lookP_B (of_:=of_) (left:=left) s1 s2 s3 (decide_eq_true ⟨r1,r2,r4,fun _=>by omega,fun _=>by omega,by rw [r3];exact hS.1⟩)
 unfold recP
 dsimp only
 rw [this]
 rfl
theorem flatMap_ext {α β:Type} {f g:α→List β}:∀ {l:List α},(∀ x∈l,f x=g x)→l.flatMap f=l.flatMap g
 | [],_=>rfl
 | x::l,h=>by rw [List.flatMap_cons,List.flatMap_cons,h x (by simp),flatMap_ext fun y hy=>h y (List.mem_cons_of_mem _ hy)]
theorem txnP_B {g:Geo} {a:An} {p q:Int→Option Rc} {b0 b1:Int→Bool} {left ep:Int} {t:Tx} (hS:AllB g a ep p q b0 b1 t (t.images.length+1)) (hleft:(t.images.length:Int)+1≤left) :
  txnP g a p q t.pos t.seq left=(1,(t.images.length:Int)+1,t.images,txWr g ep b0 b1 t):=by
 have hr:=recs_facts t.seq ep t.images
 have hrec:=fun k of_ hk ho=>recP_B (left:=left) hS (Nat.le_refl _) hleft k of_ hk ho
 have a1:=hrec 0 0 (by omega) (.inl rfl)
 have a3:=(hr 0 (by omega)).2.2.2.2.1
 have gf:=gather_found (look:=fun k=>recP g a p q t.pos t.seq left k (t.images.length+1)) (R:=fun k=>(recsOf t.seq ep t.images).getD k rc0) (imgs:=t.images) (fun j hj=>⟨(hr j (by omega)).2.2.2.2.2.1.2 hj,(hr j (by omega)).2.2.2.2.2.2 hj⟩) (fun e=>by have:=(hr t.images.length (by omega)).2.2.2.2.2.1.1 e;omega) (fun j h1 h2=>by rw [hrec j _ (by omega) (.inr rfl)];exact⟨rfl,rfl⟩) t.images.length 0 (recWr g ep b0 b1 t 0) (by omega)
 unfold txnP
 simp only
 have a1':recP g a p q t.pos t.seq left 0 0=((recsOf t.seq ep t.images).getD 0 rc0,1,recWr g ep b0 b1 t 0):=a1
 rw [a1']
 dsimp only
 rw [if_neg (fun h=>h rfl),a3]
 have ef:((t.images.length:Int)+1 - 1).toNat=t.images.length:=by omega
 rw [ef]
 have gf':gatherM (fun k=>recP g a p q t.pos t.seq left k (t.images.length+1)) t.images.length 1 ((recsOf t.seq ep t.images).getD 0 rc0) [] (recWr g ep b0 b1 t 0)=(1,t.images,wsG (fun k=>recP g a p q t.pos t.seq left k (t.images.length+1)) t.images.length 1 (recWr g ep b0 b1 t 0)):=gf
 rw [gf',if_neg (show ¬(1:Int)≠1 by decide),wsG_eq]
 unfold txWr
 rw [List.range_succ_eq_map,List.flatMap_cons,List.flatMap_map]
 have ew:((List.range t.images.length).flatMap fun j=>(recP g a p q t.pos t.seq left (1+(j:Nat)) (t.images.length+1)).2.2)=(List.range t.images.length).flatMap fun j=>recWr g ep b0 b1 t j.succ:=by
  refine flatMap_ext fun j hj=>?_
  have hj:=List.mem_range.1 hj
  have:=hrec (j+1) _ (by omega) (.inr rfl)
  rw [show 1+((j:Nat):Int)=(((j+1:Nat)):Int) by omega,this]
 rw [ew]
theorem gather_fail {look:Int→Rc × Int × List Wr} {h:Int} {k0:Nat} (hl:∀ j:Nat,1≤j→j<k0→(look (j:Nat)).2.1=1) (hk:(look (k0:Nat)).2.1=h) (hh:h≠1) :
  ∀ (f j:Nat) (r:Rc) (im:List Img) (w:List Wr),j<k0→k0≤j+f→(gatherM look f ((j:Nat)+1) r im w).1=h
 | 0,j,r,im,w,h1,h2=>by omega
 | f+1,j,r,im,w,h1,h2=>by
  have ej:(((j+1:Nat)):Int)=(j:Int)+1:=by omega
  unfold gatherM
  simp only
  by_cases e:k0=j+1
  ·subst e
   rw [ej] at hk
   rw [if_pos (by rw [hk];exact hh)]
   exact hk
  ·have:=hl (j+1) (by omega) (by omega)
   rw [ej] at this
   rw [if_neg (by rw [this];decide)]
   have ih:=gather_fail hl hk hh f (j+1) (look ((j:Int)+1)).1 (if r.kind=1 then im ++ [r.img] else im) (w ++ (look ((j:Int)+1)).2.2) (by omega) (by omega)
   rw [ej] at ih
   exact ih
theorem txnP_fail {g:Geo} {a:An} {p q:Int→Option Rc} {b0 b1:Int→Bool} {left ep h:Int} {t:Tx} {k0:Nat} (hS:AllB g a ep p q b0 b1 t k0) (hk0:k0≤t.images.length) (hleft:(t.images.length:Int)+1≤left) (hh:h≠1) (hk:∀ of_,(recP g a p q t.pos t.seq left k0 of_).2.1=h) :
  (txnP g a p q t.pos t.seq left).1=h:=by
 have hrec:=fun k of_ hk ho=>recP_B (left:=left) hS (by omega) hleft k of_ hk ho
 unfold txnP
 simp only
 by_cases e:k0=0
 ·subst e
  have hk:=hk 0
  have hk:(recP g a p q t.pos t.seq left 0 0).2.1=h:=hk
  rw [if_pos (by rw [hk];exact hh)]
  exact hk
 ·have a1:=hrec 0 0 (by omega) (.inl rfl)
  have a1':recP g a p q t.pos t.seq left 0 0=((recsOf t.seq ep t.images).getD 0 rc0,1,recWr g ep b0 b1 t 0):=a1
  have a3:=(recs_facts t.seq ep t.images 0 (by omega)).2.2.2.2.1
  rw [a1']
  dsimp only
  rw [if_neg (fun h=>h rfl),a3]
  have ef:((t.images.length:Int)+1 - 1).toNat=t.images.length:=by omega
  rw [ef]
  have gf:=gather_fail (look:=fun k=>recP g a p q t.pos t.seq left k (t.images.length+1)) (h:=h) (k0:=k0) (fun j h1 h2=>by rw [hrec j _ h2 (.inr rfl)]) (hk _) hh t.images.length 0 ((recsOf t.seq ep t.images).getD 0 rc0) [] (recWr g ep b0 b1 t 0) (by omega) (by omega)
  have gf':(gatherM (fun k=>recP g a p q t.pos t.seq left k (t.images.length+1)) t.images.length 1 ((recsOf t.seq ep t.images).getD 0 rc0) [] (recWr g ep b0 b1 t 0)).1=h:=gf
  rw [if_pos (by rw [gf'];exact hh)]
  exact gf'
theorem scanLP_B {g:Geo} {a b:An} {fill:UInt8} {p q:Int→Option Rc} {b0 b1:Int→Bool} {ep:Int} (hg:okG g=true) (hsq:a.seq≤1000000):∀ (sizes:List Int) (i:Nat) (pos used:Int) (l0:List Tx) (w:List Wr) (f:Nat),0≤used∧used≤g.sl→(0≤pos∧pos<g.sl)→i≤100→sizes.length+i≤100→g.sl - used≤(f:Nat)→(∀ t∈logM g a fill sizes i pos used,AllB g b ep p q b0 b1 t (t.images.length+1))→
  ∃ (f':Nat),g.sl - (used+usedM (logM g a fill sizes i pos used))≤(f':Nat)∧used+usedM (logM g a fill sizes i pos used)≤g.sl∧
   scanLP g b p q f pos (a.seq+i) (g.sl - used) l0 w=scanLP g b p q f' (posM g (logM g a fill sizes i pos used) pos) (a.seq+i+(logM g a fill sizes i pos used).length) (g.sl - (used+usedM (logM g a fill sizes i pos used))) (l0 ++ logM g a fill sizes i pos used) (w ++ (logM g a fill sizes i pos used).flatMap (txWr g ep b0 b1))
 | [],i,pos,used,l0,w,f,hu,hp,hi,hl,hf,hs=>⟨f,by simp [logM,usedM];omega,by simp [logM,usedM];omega,by simp [logM,usedM,posM]⟩
 | s::r,i,pos,used,l0,w,f,hu,hp,hi,hl,hf,hs=>by
  obtain⟨h1,h2,h3,h4,h5⟩:=okG_iff.1 hg
  have hn:=nImg_in s
  simp only [List.length_cons] at hl
  unfold logM at hs ⊢
  by_cases hc:g.sl<used+(nImg s:Nat)+1
  ·rw [if_pos hc] at hs ⊢
   exact⟨f,by simp [usedM];omega,by simp [usedM];omega,by simp [usedM,posM]⟩
  ·rw [if_neg hc] at hs ⊢
   have t1:=hs (logTx g a fill i pos (nImg s)) (by simp)
   have il:(logTx g a fill i pos (nImg s)).images.length=nImg s:=by simp [logTx]
   have tf:=txnP_B (left:=g.sl - used) t1 (by omega)
   rw [il,show (logTx g a fill i pos (nImg s)).pos=pos from rfl,show (logTx g a fill i pos (nImg s)).seq=a.seq+i from rfl] at tf
   have hm:=Int.tmod_lt_of_pos (pos+(nImg s:Nat)+1) (show 0<g.sl by omega)
   have hm0:=Int.tmod_nonneg g.sl (show 0≤pos+(nImg s:Nat)+1 by omega)
   cases f with
   | zero=>exfalso;omega
   | succ f=>
    obtain⟨f',e1,e3,e4⟩:=scanLP_B (b:=b) (fill:=fill) hg hsq r (i+1) ((pos+(nImg s:Nat)+1).tmod g.sl) (used+(nImg s:Nat)+1) (l0 ++ [logTx g a fill i pos (nImg s)]) (w ++ txWr g ep b0 b1 (logTx g a fill i pos (nImg s))) f (by omega) ⟨hm0,hm⟩ (by omega) (by omega) (by omega) (fun t ht=>hs t (List.mem_cons_of_mem _ ht))
    refine⟨f',?_,?_,?_⟩
    ·simp only [usedM,logTx] at e1 ⊢
     omega
    ·simp only [usedM,logTx] at e3 ⊢
     omega
    ·have ea:a.seq+(((i+1:Nat)):Int)=a.seq+(i:Int)+1:=by omega
     rw [ea] at e4
     have hstep:scanLP g b p q (f+1) pos (a.seq+i) (g.sl - used) l0 w=scanLP g b p q f ((pos+(nImg s:Nat)+1).tmod g.sl) (a.seq+i+1) (g.sl - (used+(nImg s:Nat)+1)) (l0 ++ [logTx g a fill i pos (nImg s)]) (w ++ txWr g ep b0 b1 (logTx g a fill i pos (nImg s))):=by
      conv=>lhs;unfold scanLP
      rw [if_pos (by omega)]
      simp only [tf]
      rw [if_neg (by decide),if_neg (by decide)]
      rw [show pos+(((nImg s:Nat):Int)+1)=pos+(nImg s:Nat)+1 by omega,show g.sl - used - (((nImg s:Nat):Int)+1)=g.sl - (used+(nImg s:Nat)+1) by omega]
      rfl
     rw [hstep,e4]
     simp only [usedM,posM,logTx,List.length_cons,List.flatMap_cons,List.append_assoc,List.cons_append,List.nil_append,Int.add_assoc]
     congr 1 <;> omega
theorem used_nn {l:List Tx} (h:∀ t∈l,0≤t.n):0≤usedM l:=by
 induction l with
 | nil=>simp [usedM]
 | cons x y ih=>have:=ih (fun t ht=>h t (List.mem_cons_of_mem _ ht));have:=h x (by simp);simp only [usedM];omega
theorem logM_nn {g:Geo} {a:An} {fill:UInt8} {sizes:List Int} (hg:okG g=true) (ha:anOk g a=true):∀ t∈logM g a fill sizes 0 a.pos 0,0≤t.n:=fun t ht=>by
 have hq:=anOk_seq ha
 obtain⟨j,hj,rfl⟩:=List.mem_iff_getElem.1 ht
 obtain⟨pos,n,e, -⟩:=(logM_in (a:=a) (fill:=fill) hg sizes 0 a.pos 0 hq.2).at_ j hj
 rw [List.getD_eq_getElem?_getD,List.getElem?_eq_getElem hj] at e
 simp only [Option.getD_some] at e
 rw [e]
 simp only [logTx]
 omega
theorem scan_B {g:Geo} {a b:An} {fill:UInt8} {sizes:List Int} {ep:Int} {p q:Int→Option Rc} {b0 b1:Int→Bool} (hg:okG g=true) (ha:anOk g a=true) (hsq:a.seq≤1000000) (hl:sizes.length≤40) (hbs:b.seq=a.seq) (hbp:b.pos=a.pos) (hS:∀ t∈logM g a fill sizes 0 a.pos 0,AllB g b ep p q b0 b1 t (t.images.length+1)) :
  ∃ f:Nat,g.sl - usedM (logM g a fill sizes 0 a.pos 0)≤(f:Nat)∧usedM (logM g a fill sizes 0 a.pos 0)≤g.sl∧
   scanP g b p q=finM b (scanLP g b p q f ((a.pos+usedM (logM g a fill sizes 0 a.pos 0)).tmod g.sl) (a.seq+(logM g a fill sizes 0 a.pos 0).length) (g.sl - usedM (logM g a fill sizes 0 a.pos 0)) (logM g a fill sizes 0 a.pos 0) ((logM g a fill sizes 0 a.pos 0).flatMap (txWr g ep b0 b1))):=by
 obtain⟨h1,h2,h3,h4,h5⟩:=okG_iff.1 hg
 have hq:=anOk_seq ha
 obtain⟨f,e1,e2,e3⟩:=scanLP_B (b:=b) (fill:=fill) hg hsq sizes 0 a.pos 0 [] [] g.sl.toNat ⟨Int.le_refl 0,by omega⟩ hq.2 (by omega) (by omega) (by omega) hS
 have hpos:=posM_used hg (logM g a fill sizes 0 a.pos 0) a.pos hq.2.1 (logM_nn hg ha)
 rw [tmod_lo hq.2.1 hq.2.2] at hpos
 rw [hpos] at e3
 refine⟨f,by omega,by omega,?_⟩
 unfold scanP
 rw [hbp,hbs]
 simp only [Int.sub_zero,List.nil_append,Int.zero_add,Int.natCast_zero,Int.add_zero] at e3
 rw [e3]
theorem scanLP_end {g:Geo} {b:An} {p q:Int→Option Rc} {f:Nat} {pos seq left:Int} {l:List Tx} {w:List Wr} (h:0<left→(txnP g b p q pos seq left).1=2):scanLP g b p q f pos seq left l w=some (l,w,seq):=by
 cases f with
 | zero=>rfl
 | succ f=>
  unfold scanLP
  by_cases hc:0<left∧seq≤4294967295
  ·rw [if_pos hc]
   simp only [h hc.1]
   rfl
  ·rw [if_neg hc]
theorem txn_other {g:Geo} {b:An} {p q:Int→Option Rc} {pos seq left:Int} (h0:∀ of_ left,oneO (p (slotM g pos 0)) b seq 0 of_ left=false) (h1:∀ of_ left,oneO (q (slotM g pos 0)) b seq 0 of_ left=false) (h:((p (slotM g pos 0)).isSome || (q (slotM g pos 0)).isSome)=true):(txnP g b p q pos seq left).1=2:=by
 have:(recP g b p q pos seq left 0 0).2.1=2:=by
  unfold recP lookP
  simp only [h0,h1]
  simp [lookT,h]
 unfold txnP
 simp only [this]
 rfl
theorem logM_used {g:Geo} {a:An} {fill:UInt8}:∀ (sizes:List Int) (i:Nat) (pos used:Int),used≤g.sl→used+usedM (logM g a fill sizes i pos used)≤g.sl
 | [],_,_,_,h=>by simp [logM,usedM];omega
 | s::r,i,pos,used,h=>by
  unfold logM
  split
  ·simp [usedM];omega
  ·have:=logM_used (g:=g) (a:=a) (fill:=fill) r (i+1) ((pos+(nImg s:Nat)+1).tmod g.sl) (used+(nImg s:Nat)+1) (by omega)
   simp only [usedM,logTx] at this ⊢
   omega
theorem logM_pos {g:Geo} {a:An} {fill:UInt8}:∀ (sizes:List Int) (i:Nat) (pos used:Int) (j:Nat),j<(logM g a fill sizes i pos used).length→((logM g a fill sizes i pos used).getD j tz).pos=posM g ((logM g a fill sizes i pos used).take j) pos
 | [],_,_,_,j,h=>by simp [logM] at h
 | s::r,i,pos,used,j,h=>by
  unfold logM at h ⊢
  split at h
  ·simp at h
  ·rename_i hc
   rw [if_neg hc]
   cases j with
   | zero=>rfl
   | succ j=>
    have ih:=logM_pos r (i+1) ((pos+(nImg s:Nat)+1).tmod g.sl) (used+(nImg s:Nat)+1) j (by simpa using h)
    rw [List.take_succ_cons,posM,List.getD_cons_succ,ih]
    simp only [logTx]
    rw [Int.add_assoc]
theorem used_take:∀ (l:List Tx) (j:Nat),j<l.length→usedM (l.take (j+1))=usedM (l.take j)+(l.getD j tz).n
 | [],j,h=>by simp at h
 | t::r,0,_=>by simp [usedM]
 | t::r,j+1,h=>by
  have:=used_take r j (by simpa using h)
  simp only [List.take_succ_cons,usedM,List.getD_cons_succ] at this ⊢
  omega
section
variable {g:Geo} {a:An} {fill:UInt8} {sizes:List Int}
theorem log_get (hg:okG g=true) (ha:anOk g a=true) {j:Nat} (hj:j<(logM g a fill sizes 0 a.pos 0).length):((logM g a fill sizes 0 a.pos 0).getD j tz).seq=a.seq+j∧((logM g a fill sizes 0 a.pos 0).getD j tz).n=((logM g a fill sizes 0 a.pos 0).getD j tz).images.length+1∧1≤((logM g a fill sizes 0 a.pos 0).getD j tz).images.length∧((logM g a fill sizes 0 a.pos 0).getD j tz).images.length≤5:=by
 obtain⟨pos,n,e,n1,n2, -⟩:=(logM_in (a:=a) (fill:=fill) hg sizes 0 a.pos 0 (anOk_seq ha).2).at_ j hj
 rw [e]
 simp [logTx]
 omega
theorem log_mem {t:Tx} (hj:t∈logM g a fill sizes 0 a.pos 0):∃ j,j<(logM g a fill sizes 0 a.pos 0).length∧t=(logM g a fill sizes 0 a.pos 0).getD j tz:=by
 obtain⟨j,h,rfl⟩:=List.mem_iff_getElem.1 hj
 exact⟨j,h,by rw [List.getD_eq_getElem?_getD,List.getElem?_eq_getElem h];rfl⟩
theorem log_used (hg:okG g=true):usedM (logM g a fill sizes 0 a.pos 0)≤g.sl:=by
 obtain⟨h1,h2,h3,h4,h5⟩:=okG_iff.1 hg
 have:=logM_used (g:=g) (a:=a) (fill:=fill) sizes 0 a.pos 0 (by omega)
 omega
theorem log_room (hg:okG g=true) {j:Nat} (hj:j<(logM g a fill sizes 0 a.pos 0).length):usedM ((logM g a fill sizes 0 a.pos 0).take j)+((logM g a fill sizes 0 a.pos 0).getD j tz).n≤g.sl:=by
 rw [←used_take _ j hj]
 rw [logM_take sizes 0 a.pos 0 (j+1) hj]
 exact log_used hg
theorem log_take_nn (hg:okG g=true) (ha:anOk g a=true) (j:Nat):0≤usedM ((logM g a fill sizes 0 a.pos 0).take j):=used_nn fun t ht=>logM_nn hg ha t (List.mem_of_mem_take ht)
theorem log_slot (hg:okG g=true) (ha:anOk g a=true) {j k:Nat} (hj:j<(logM g a fill sizes 0 a.pos 0).length) (hk:k<((logM g a fill sizes 0 a.pos 0).getD j tz).images.length+1):slotM g ((logM g a fill sizes 0 a.pos 0).getD j tz).pos k=(a.pos+(usedM ((logM g a fill sizes 0 a.pos 0).take j)+k)).tmod g.sl:=by
 obtain⟨h1,h2,h3,h4,h5⟩:=okG_iff.1 hg
 have hq:=anOk_seq ha
 have hu:=log_take_nn (fill:=fill) (sizes:=sizes) hg ha j
 have hp:=posM_used hg ((logM g a fill sizes 0 a.pos 0).take j) a.pos hq.2.1 fun t ht=>logM_nn hg ha t (List.mem_of_mem_take ht)
 rw [tmod_lo hq.2.1 hq.2.2,←logM_pos sizes 0 a.pos 0 j hj] at hp
 have hgt:=log_get (fill:=fill) (sizes:=sizes) hg ha hj
 rw [hp]
 unfold slotM
 have q1:=Int.tmod_nonneg g.sl (show 0≤a.pos+usedM ((logM g a fill sizes 0 a.pos 0).take j) by omega)
 have q2:=Int.tmod_lt_of_pos (a.pos+usedM ((logM g a fill sizes 0 a.pos 0).take j)) (show 0<g.sl by omega)
 rw [show IntKind.i64.wrap ((a.pos+usedM ((logM g a fill sizes 0 a.pos 0).take j)).tmod g.sl+(k:Int))=(a.pos+usedM ((logM g a fill sizes 0 a.pos 0).take j)).tmod g.sl+k by rw [IntKind.wrap_i64];omega]
 rw [Int.tmod_eq_emod_of_nonneg (show 0≤a.pos+usedM ((logM g a fill sizes 0 a.pos 0).take j) by omega)] at q1 ⊢
 rw [Int.tmod_eq_emod_of_nonneg (by omega),Int.tmod_eq_emod_of_nonneg (by omega),Int.emod_add_emod,Int.add_assoc]
theorem recW_free {ep u:Int} (hg:okG g=true) (ha:anOk g a=true) (hu:usedM (logM g a fill sizes 0 a.pos 0)≤u) (hs:u<g.sl):recW g (logM g a fill sizes 0 a.pos 0) ep ((a.pos+u).tmod g.sl)=zeroC:=by
 obtain⟨h1,h2,h3,h4,h5⟩:=okG_iff.1 hg
 have hq:=anOk_seq ha
 have h0:=used_nn (logM_nn (fill:=fill) (sizes:=sizes) hg ha)
 have hw:=who_log (a:=a) (fill:=fill) hg (p0:=a.pos) hq.2 (u:=u) (by omega) sizes 0 0 0 ⟨Int.le_refl 0,by omega⟩
 rw [show (a.pos+0).tmod g.sl=a.pos by rw [Int.add_zero];exact tmod_lo hq.2.1 hq.2.2] at hw
 rw [findU_none _ 0 0 _ (logM_nn hg ha) (by omega)] at hw
 unfold recW
 rw [hw]
theorem slotM_0 (hg:okG g=true) {x:Int} (hx:0≤x):slotM g (x.tmod g.sl) 0=x.tmod g.sl:=by
 obtain⟨h1,h2,h3,h4,h5⟩:=okG_iff.1 hg
 have q1:=Int.tmod_nonneg g.sl hx
 have q2:=Int.tmod_lt_of_pos x (show 0<g.sl by omega)
 unfold slotM
 rw [Int.add_zero,show IntKind.i64.wrap (x.tmod g.sl)=x.tmod g.sl by rw [IntKind.wrap_i64];omega]
 exact tmod_lo q1 q2
theorem one_zero (b:An) (s at_ of_ left:Int):oneO (some zeroC) b s at_ of_ left=false:=by
 show isOne zeroC b s at_ of_ left=false
 exact decide_eq_false fun h=>h.1 rfl
theorem one_none (b:An) (s at_ of_ left:Int):oneO none b s at_ of_ left=false:=rfl
theorem saysW_at {L:List Tx} {ep s:Int} {bad:Int→Bool} (hs:0≤s∧s<g.sl):saysW g L ep bad s=if bad s then none else some (recW g L ep s):=by
 unfold saysW
 rw [if_pos hs]
theorem saysB_W {b:An} {ep:Int} {bad:Int→Bool} (hg:okG g=true) (ha:anOk g a=true) {j k:Nat} (hj:j<(logM g a fill sizes 0 a.pos 0).length) (hk:k<((logM g a fill sizes 0 a.pos 0).getD j tz).images.length+1) :
  SaysB b (saysW g (logM g a fill sizes 0 a.pos 0) ep bad (slotM g ((logM g a fill sizes 0 a.pos 0).getD j tz).pos k)) (!bad (slotM g ((logM g a fill sizes 0 a.pos 0).getD j tz).pos k)) ((recsOf ((logM g a fill sizes 0 a.pos 0).getD j tz).seq ep ((logM g a fill sizes 0 a.pos 0).getD j tz).images).getD k rc0) ((logM g a fill sizes 0 a.pos 0).getD j tz).seq k:=by
 obtain⟨q1,q2⟩:=recW_at (fill:=fill) (sizes:=sizes) (ep:=ep) hg ha hj hk
 rw [saysW_at q1,q2]
 unfold SaysB
 cases bad (slotM g ((logM g a fill sizes 0 a.pos 0).getD j tz).pos k)
 ·rfl
 ·exact fun _ _=>rfl
theorem allB_W {b:An} {ep:Int} {bad0 bad1:Int→Bool} (hg:okG g=true) (ha:anOk g a=true) {j n:Nat} (hj:j<(logM g a fill sizes 0 a.pos 0).length) (hn:n≤((logM g a fill sizes 0 a.pos 0).getD j tz).images.length+1) (he:ep=b.epoch∨a.seq+j≤b.last∧ep≤b.epoch) (hb:∀ k,k<n→(bad0 (slotM g ((logM g a fill sizes 0 a.pos 0).getD j tz).pos (k:Nat))&&bad1 (slotM g ((logM g a fill sizes 0 a.pos 0).getD j tz).pos (k:Nat)))=false) :
  AllB g b ep (saysW g (logM g a fill sizes 0 a.pos 0) ep bad0) (saysW g (logM g a fill sizes 0 a.pos 0) ep bad1) (fun s=>!bad0 s) (fun s=>!bad1 s) ((logM g a fill sizes 0 a.pos 0).getD j tz) n:=by
 refine⟨?_,fun k hk=>⟨saysB_W hg ha hj (by omega),saysB_W hg ha hj (by omega),?_⟩⟩
 ·rw [(log_get hg ha hj).1]
  exact he
 ·have:=hb k hk
  cases h0:bad0 (slotM g ((logM g a fill sizes 0 a.pos 0).getD j tz).pos k) <;> cases h1:bad1 (slotM g ((logM g a fill sizes 0 a.pos 0).getD j tz).pos k) <;> simp_all
end
theorem mem_take_ {l:List Tx} {n:Nat} {t:Tx} (h:t∈l.take n):∃ j,j<n∧j<l.length∧t=l.getD j tz:=by
 obtain⟨j,hj,rfl⟩:=List.mem_iff_getElem.1 h
 rw [List.length_take] at hj
 refine⟨j,by omega,by omega,?_⟩
 rw [List.getElem_take,List.getD_eq_getElem?_getD,List.getElem?_eq_getElem (by omega)]
 rfl
theorem txWr_none (g:Geo) (ep:Int) (l:List Tx) {b0 b1:Int→Bool} (h0:∀ s,b0 s=true) (h1:∀ s,b1 s=true):l.flatMap (txWr g ep b0 b1)=[]:=by
 rw [List.flatMap_eq_nil_iff]
 intro t _
 unfold txWr
 rw [List.flatMap_eq_nil_iff]
 intro k _
 simp [recWr,h0,h1,wantsB]
section
variable {g:Geo} {a:An} {fill:UInt8} {sizes:List Int}
end
def cutL (bit:Nat→Bool) (slot:Nat→Nat) (X U:List Gt):Nat→List Gt
 | 0=>X
 | k+1=>if bit k then (cutL bit slot X U k).set (slot k) (U.getD (slot k) gz) else cutL bit slot X U k
theorem cutL_len (bit:Nat→Bool) (slot:Nat→Nat) (X U:List Gt):∀ k,(cutL bit slot X U k).length=X.length
 | 0=>rfl
 | k+1=>by
  unfold cutL
  split
  ·rw [List.length_set,cutL_len bit slot X U k]
  ·exact cutL_len bit slot X U k
theorem cutL_mem {bit:Nat→Bool} {slot:Nat→Nat} {X U:List Gt} {Q:Gt→Prop} (hX:∀ z∈X,Q z) (hU:∀ z∈U,Q z):∀ k,(∀ i,i<k→slot i<U.length)→∀ z∈cutL bit slot X U k,Q z
 | 0,_=>hX
 | k+1,hs=>by
  have ih:=cutL_mem (bit:=bit) hX hU k fun i hi=>hs i (by omega)
  unfold cutL
  split
  ·intro z hz
   rcases List.mem_or_eq_of_mem_set hz with h | rfl
   ·exact ih z h
   ·exact hU _ (getD_mem (hs k (by omega)))
  ·exact ih
theorem first_no (P:Nat→Bool):∀ n,(∀ k,k<n→P k=true)∨∃ k0,k0<n∧P k0=false∧∀ k,k<k0→P k=true
 | 0=> .inl fun k hk=>by omega
 | n+1=>by
  rcases first_no P n with h | ⟨k0,h1,h2,h3⟩
  ·cases hn:P n with
   | true=>
    refine .inl fun k hk=>?_
    by_cases e:k=n
    ·rw [e,hn]
    ·exact h k (by omega)
   | false=>exact .inr ⟨n,by omega,hn,h⟩
  ·exact .inr ⟨k0,by omega,h2,h3⟩
theorem tmod_inj {p u v n:Int} (hp:0≤p∧p<n) (hu:0≤u∧u<n) (hv:0≤v∧v<n) (h:(p+u).tmod n=(p+v).tmod n):u=v:=by
 have h1:(p+u).tmod n=if p+u<n then p+u else p+u - n:=by
  split
  ·exact tmod_lo (by omega) (by omega)
  ·exact tmod_hi (by omega) (by omega) (by omega)
 have h2:(p+v).tmod n=if p+v<n then p+v else p+v - n:=by
  split
  ·exact tmod_lo (by omega) (by omega)
  ·exact tmod_hi (by omega) (by omega) (by omega)
 rw [h1,h2] at h
 split at h <;> split at h <;> omega
section
variable {g:Geo} {a:An} {fill:UInt8} {sizes:List Int}
theorem used_mono (hg:okG g=true) (ha:anOk g a=true) {i j:Nat} (h:i≤j):usedM ((logM g a fill sizes 0 a.pos 0).take i)≤usedM ((logM g a fill sizes 0 a.pos 0).take j):=by
 induction j with
 | zero=>rw [show i=0 by omega];exact Int.le_refl _
 | succ j ih=>
  by_cases e:i=j+1
  ·rw [e];exact Int.le_refl _
  ·have ih:=ih (by omega)
   by_cases hj:j<(logM g a fill sizes 0 a.pos 0).length
   ·rw [used_take _ j hj]
    have:=(log_get (fill:=fill) (sizes:=sizes) hg ha hj).2.1
    omega
   ·rw [List.take_of_length_le (show _≤j+1 by omega)]
    rw [List.take_of_length_le (show _≤j by omega)] at ih
    exact ih
theorem who_free {u:Int} (hg:okG g=true) (ha:anOk g a=true) (hu:usedM (logM g a fill sizes 0 a.pos 0)≤u) (hs:u<g.sl):whoM g ((a.pos+u).tmod g.sl) (logM g a fill sizes 0 a.pos 0) 0=none:=by
 obtain⟨h1,h2,h3,h4,h5⟩:=okG_iff.1 hg
 have hq:=anOk_seq ha
 have h0:=used_nn (logM_nn (fill:=fill) (sizes:=sizes) hg ha)
 have hw:=who_log (a:=a) (fill:=fill) hg (p0:=a.pos) hq.2 (u:=u) (by omega) sizes 0 0 0 ⟨Int.le_refl 0,by omega⟩
 rw [show (a.pos+0).tmod g.sl=a.pos by rw [Int.add_zero];exact tmod_lo hq.2.1 hq.2.2] at hw
 rw [findU_none _ 0 0 _ (logM_nn hg ha) (by omega)] at hw
 exact hw
theorem who_some (hg:okG g=true) (ha:anOk g a=true) {j k:Nat} (hj:j<(logM g a fill sizes 0 a.pos 0).length) (hk:k<((logM g a fill sizes 0 a.pos 0).getD j tz).images.length+1):(whoM g (slotM g ((logM g a fill sizes 0 a.pos 0).getD j tz).pos k) (logM g a fill sizes 0 a.pos 0) 0).isSome=true:=by
 obtain⟨-,r2⟩:=recW_at (ep:=0) hg ha hj hk
 cases h:whoM g (slotM g ((logM g a fill sizes 0 a.pos 0).getD j tz).pos k) (logM g a fill sizes 0 a.pos 0) 0 with
 | some _=>rfl
 | none=>
  unfold recW at r2
  rw [h] at r2
  have:=(recs_facts ((logM g a fill sizes 0 a.pos 0).getD j tz).seq 0 ((logM g a fill sizes 0 a.pos 0).getD j tz).images k hk).1
  rw [←r2] at this
  exact absurd rfl this
theorem log_pos (hg:okG g=true) (ha:anOk g a=true) {j:Nat} (hj:j<(logM g a fill sizes 0 a.pos 0).length):((logM g a fill sizes 0 a.pos 0).getD j tz).pos=(a.pos+usedM ((logM g a fill sizes 0 a.pos 0).take j)).tmod g.sl:=by
 have hq:=anOk_seq ha
 have hp:=posM_used hg ((logM g a fill sizes 0 a.pos 0).take j) a.pos hq.2.1 fun t ht=>logM_nn hg ha t (List.mem_of_mem_take ht)
 rw [tmod_lo hq.2.1 hq.2.2,←logM_pos sizes 0 a.pos 0 j hj] at hp
 exact hp
theorem slot_inj (hg:okG g=true) (ha:anOk g a=true) {j j' k k':Nat} (hj:j<(logM g a fill sizes 0 a.pos 0).length) (hj':j'<(logM g a fill sizes 0 a.pos 0).length) (hk:k<((logM g a fill sizes 0 a.pos 0).getD j tz).images.length+1) (hk':k'<((logM g a fill sizes 0 a.pos 0).getD j' tz).images.length+1) (h:slotM g ((logM g a fill sizes 0 a.pos 0).getD j tz).pos k=slotM g ((logM g a fill sizes 0 a.pos 0).getD j' tz).pos k'):j=j'∧k=k':=by
 have hq:=anOk_seq ha
 have r1:=log_room hg (a:=a) (fill:=fill) (sizes:=sizes) hj
 have r2:=log_room hg (a:=a) (fill:=fill) (sizes:=sizes) hj'
 have n1:=log_take_nn (fill:=fill) (sizes:=sizes) hg ha j
 have n2:=log_take_nn (fill:=fill) (sizes:=sizes) hg ha j'
 have g1:=(log_get (fill:=fill) (sizes:=sizes) hg ha hj).2.1
 have g2:=(log_get (fill:=fill) (sizes:=sizes) hg ha hj').2.1
 rw [log_slot hg ha hj hk,log_slot hg ha hj' hk'] at h
 have e:=tmod_inj hq.2 (by omega) (by omega) h
 have u1:=used_take _ j hj
 have u2:=used_take _ j' hj'
 rcases Nat.lt_trichotomy j j' with hlt | rfl | hlt
 ·have:=used_mono (fill:=fill) (sizes:=sizes) hg ha (show j+1≤j' by omega)
  exfalso;omega
 ·exact⟨rfl,by omega⟩
 ·have:=used_mono (fill:=fill) (sizes:=sizes) hg ha (show j'+1≤j by omega)
  exfalso;omega
end
abbrev PQ:=(Int→Option Rc) × (Int→Option Rc)
def upF (p:Int→Option Rc) (s:Int) (v:Option Rc):Int→Option Rc:=fun t=>if t=s then v else p t
def mend1 (g:Geo) (x:Wr) (z:PQ):PQ:=if x.addr - g.an<g.sl then (upF z.1 (x.addr - g.an) (saysR g ⟨0,x.bytes⟩ 0 (x.addr - g.an)),z.2) else (z.1,upF z.2 (x.addr - g.an - g.sl) (saysR g ⟨0,x.bytes⟩ 1 (x.addr - g.an - g.sl)))
def mendF (g:Geo):List Wr→PQ→PQ
 | [],z=>z
 | x::r,z=>mendF g r (mend1 g x z)
def wrS (g:Geo) (x:Wr):Int:=if x.addr - g.an<g.sl then x.addr - g.an else x.addr - g.an - g.sl
theorem mendF_app (g:Geo):∀ (l m:List Wr) (z:PQ),mendF g (l ++ m) z=mendF g m (mendF g l z)
 | [],_,_=>rfl
 | x::r,m,z=>mendF_app g r m (mend1 g x z)
def AtS (z z':PQ) (s:Int):Prop:=z.1 s=z'.1 s∧z.2 s=z'.2 s
theorem mend1_local {g:Geo} {x:Wr} {z z':PQ} {s:Int} (h:AtS z z' s):AtS (mend1 g x z) (mend1 g x z') s:=by
 unfold mend1 upF
 split
 ·refine⟨?_,h.2⟩
  dsimp only
  split
  ·rfl
  ·exact h.1
 ·refine⟨h.1,?_⟩
  dsimp only
  split
  ·rfl
  ·exact h.2
theorem mendF_local {g:Geo}:∀ (l:List Wr) {z z':PQ} {s:Int},AtS z z' s→AtS (mendF g l z) (mendF g l z') s
 | [],_,_,_,h=>h
 | _::r,_,_,_,h=>mendF_local r (mend1_local h)
theorem mend1_far {g:Geo} {x:Wr} {z:PQ} {s:Int} (h:wrS g x≠s):AtS (mend1 g x z) z s:=by
 unfold wrS at h
 unfold mend1 upF
 split
 ·rename_i hc
  rw [if_pos hc] at h
  exact⟨if_neg (Ne.symm h),rfl⟩
 ·rename_i hc
  rw [if_neg hc] at h
  exact⟨rfl,if_neg (Ne.symm h)⟩
theorem AtS.trans {a b c:PQ} {s:Int} (h:AtS a b s) (k:AtS b c s):AtS a c s:=⟨h.1.trans k.1,h.2.trans k.2⟩
theorem AtS.symm {a b:PQ} {s:Int} (h:AtS a b s):AtS b a s:=⟨h.1.symm,h.2.symm⟩
theorem mendF_far {g:Geo}:∀ (l:List Wr) {z:PQ} {s:Int},(∀ x∈l,wrS g x≠s)→AtS (mendF g l z) z s
 | [],_,_,_=>⟨rfl,rfl⟩
 | x::r,z,s,h=>(mendF_far r fun y hy=>h y (List.mem_cons_of_mem _ hy)).trans (mend1_far (h x (by simp)))
theorem okL_of {g:Geo} {c s:Int} (hc:c=0∨c=1) (hs:0≤s∧s<g.sl):okL g c s=true:=by
 rw [okL,inB_iff.2 (show 0≤s∧s≤g.sl - 1 by omega)]
 rcases hc with rfl | rfl <;> rfl
theorem mend1_cell {g:Geo} {c s:Int} {r:Rc} {z:PQ} (hg:okG g=true) (hc:c=0∨c=1) (hs:0≤s∧s<g.sl) (hr:okR g r=true):mend1 g ⟨logAt g c s,cellB g r c s⟩ z=if c=0 then (upF z.1 s (some r),z.2) else (z.1,upF z.2 s (some r)):=by
 have h:=says_cell hg hr (okL_of hc hs)
 unfold mend1 logAt
 rcases hc with rfl | rfl
 ·have e:g.an+0*g.sl+s - g.an=s:=by omega
  dsimp only
  rw [e,if_pos hs.2,if_pos rfl,h]
 ·have e:g.an+1*g.sl+s - g.an=s+g.sl:=by omega
  dsimp only
  rw [e,if_neg (by omega),if_neg (by decide),show s+g.sl - g.sl=s by omega,h]
theorem wrS_cell {g:Geo} {c s:Int} {b:List UInt8} (hc:c=0∨c=1) (hs:0≤s∧s<g.sl):wrS g ⟨logAt g c s,b⟩=s:=by
 unfold wrS logAt
 rcases hc with rfl | rfl
 ·dsimp only
  rw [if_pos (by omega)];omega
 ·dsimp only
  rw [if_neg (by omega)];omega
theorem rec_mend {g:Geo} {a:An} {p q:Int→Option Rc} {z':PQ} {pos seq left at_ of_:Int} (hg:okG g=true) (hok:∀ s r,p s=some r∨q s=some r→okR g r=true) (hs:0≤slotM g pos at_∧slotM g pos at_<g.sl) (h:(recP g a p q pos seq left at_ of_).2.1=1) (hz:AtS z' (mendF g (recP g a p q pos seq left at_ of_).2.2 (p,q)) (slotM g pos at_)):recP g a z'.1 z'.2 pos seq left at_ of_=((recP g a p q pos seq left at_ of_).1,1, []):=by
 unfold recP lookP at h hz ⊢
 dsimp only at h hz ⊢
 generalize slotM g pos at_=s at h hz hs ⊢
 cases hp:p s with
 | none=>
  cases hq:q s with
  | none=>rw [hp,hq] at h;simp [oneO,lookT] at h
  | some r=>
   rw [hp,hq] at h hz
   have ho:isOne r a seq at_ of_ left=true:=by
    cases hb:isOne r a seq at_ of_ left with
    | true=>rfl
    | false=>simp [oneO,hb,lookT] at h
   simp [oneO,ho,lookT,mendF] at hz
   rw [mend1_cell hg (.inl rfl) hs (hok s r (.inr hq)),if_pos rfl] at hz
   obtain⟨h1,h2⟩:=hz
   dsimp only [upF] at h1 h2
   rw [if_pos rfl] at h1
   rw [h1,h2,hq]
   simp [oneO,ho,lookT]
 | some r1=>
  cases hq:q s with
  | none=>
   rw [hp,hq] at h hz
   have ho:isOne r1 a seq at_ of_ left=true:=by
    cases hb:isOne r1 a seq at_ of_ left with
    | true=>rfl
    | false=>simp [oneO,hb,lookT] at h
   simp [oneO,ho,lookT,mendF] at hz
   rw [mend1_cell hg (.inr rfl) hs (hok s r1 (.inl hp)),if_neg (by decide)] at hz
   obtain⟨h1,h2⟩:=hz
   dsimp only [upF] at h1 h2
   rw [if_pos rfl] at h2
   rw [h1,h2,hp]
   simp [oneO,ho,lookT]
  | some r2=>
   rw [hp,hq] at h hz
   cases ho1:isOne r1 a seq at_ of_ left with
   | true=>
    cases ho2:isOne r2 a seq at_ of_ left with
    | true=>
     simp [oneO,ho1,ho2,lookT,mendF] at hz
     obtain⟨h1,h2⟩:=hz
     dsimp only at h1 h2
     rw [h1,h2,hp,hq]
     simp [oneO,ho1,ho2,lookT]
    | false=>
     simp [oneO,ho1,ho2,lookT,mendF] at hz
     rw [mend1_cell hg (.inr rfl) hs (hok s r1 (.inl hp)),if_neg (by decide)] at hz
     obtain⟨h1,h2⟩:=hz
     dsimp only [upF] at h1 h2
     rw [if_pos rfl] at h2
     rw [h1,h2,hp]
     simp [oneO,ho1,ho2,lookT]
   | false=>
    cases ho2:isOne r2 a seq at_ of_ left with
    | true=>
     simp [oneO,ho1,ho2,lookT,mendF] at hz
     rw [mend1_cell hg (.inl rfl) hs (hok s r2 (.inr hq)),if_pos rfl] at hz
     obtain⟨h1,h2⟩:=hz
     dsimp only [upF] at h1 h2
     rw [if_pos rfl] at h1
     rw [h1,h2,hq]
     simp [oneO,ho1,ho2,lookT]
    | false=>simp [oneO,ho1,ho2,lookT] at h
theorem recP_found {g:Geo} {a:An} {p q:Int→Option Rc} {pos seq left at_ of_:Int} (hok:∀ s r,p s=some r∨q s=some r→okR g r=true) (h:(recP g a p q pos seq left at_ of_).2.1=1):okR g (recP g a p q pos seq left at_ of_).1=true∧isOne (recP g a p q pos seq left at_ of_).1 a seq at_ of_ left=true:=by
 unfold recP lookP at h ⊢
 dsimp only at h ⊢
 generalize slotM g pos at_=s at h ⊢
 cases hp:p s with
 | none=>
  cases hq:q s with
  | none=>rw [hp,hq] at h;simp [oneO,lookT] at h
  | some r=>
   rw [hp,hq] at h
   cases hb:isOne r a seq at_ of_ left with
   | true=>simp [oneO,hb,lookT,hok s r (.inr hq)]
   | false=>simp [oneO,hb,lookT] at h
 | some r1=>
  cases hq:q s with
  | none=>
   rw [hp,hq] at h
   cases hb:isOne r1 a seq at_ of_ left with
   | true=>simp [oneO,hb,lookT,hok s r1 (.inl hp)]
   | false=>simp [oneO,hb,lookT] at h
  | some r2=>
   rw [hp,hq] at h
   cases ho1:isOne r1 a seq at_ of_ left with
   | true=>cases ho2:isOne r2 a seq at_ of_ left <;> simp [oneO,ho1,ho2,lookT,hok s r1 (.inl hp)]
   | false=>
    cases ho2:isOne r2 a seq at_ of_ left with
    | true=>simp [oneO,ho1,ho2,lookT,hok s r2 (.inr hq)]
    | false=>simp [oneO,ho1,ho2,lookT] at h
theorem lookT_01 (x y:Option Rc) (b1 b2:Bool):∀ c∈(lookT x y b1 b2).2.1,c=0∨c=1:=by
 unfold lookT
 cases b1 <;> cases b2
 ·by_cases h:(x.isSome || y.isSome)=true <;> simp [h]
 ·simp
 ·simp
 ·simp
theorem recP_wr {g:Geo} {a:An} {p q:Int→Option Rc} {pos seq left at_ of_:Int} (hs:0≤slotM g pos at_∧slotM g pos at_<g.sl):∀ x∈(recP g a p q pos seq left at_ of_).2.2,wrS g x=slotM g pos at_:=by
 intro x hx
 unfold recP at hx
 obtain⟨c,hc,rfl⟩:=List.mem_map.1 hx
 exact wrS_cell (lookT_01 _ _ _ _ c hc) hs
theorem lookT_none (x y:Option Rc) (b1 b2:Bool) (h:(lookT x y b1 b2).2.2≠1):(lookT x y b1 b2).2.1=[]:=by
 unfold lookT at h ⊢
 cases b1 <;> cases b2
 ·by_cases h:(x.isSome || y.isSome)=true <;> simp [h]
 ·simp at h
 ·simp at h
 ·simp at h
theorem cellB_short2 {g:Geo} {r:Rc} (h:okR g r=true) (copy slot:Int):(cellB g r copy slot).length≤200:=by
 have:=recB_short h
 rw [cellB,sealB_len]
 omega
theorem recP_short {g:Geo} {a:An} {p q:Int→Option Rc} {pos seq left at_ of_:Int} (hok:∀ s r,p s=some r∨q s=some r→okR g r=true):∀ x∈(recP g a p q pos seq left at_ of_).2.2,x.bytes.length≤200:=by
 intro x hx
 by_cases h:(recP g a p q pos seq left at_ of_).2.1=1
 ·have hr:=(recP_found hok h).1
  unfold recP at hx hr
  obtain⟨c,hc,rfl⟩:=List.mem_map.1 hx
  exact cellB_short2 hr _ _
 ·unfold recP lookP at hx h
  dsimp only at hx h
  rw [lookT_none _ _ _ _ h] at hx
  simp at hx
theorem slotM_off {g:Geo} {p0 U k:Int} (hg:okG g=true) (hp:0≤p0∧p0<g.sl) (hU:0≤U) (hk:0≤k∧k≤1000):slotM g ((p0+U).tmod g.sl) k=(p0+(U+k)).tmod g.sl:=by
 obtain⟨h1,h2,h3,h4,h5⟩:=okG_iff.1 hg
 unfold slotM
 have q1:=Int.tmod_nonneg g.sl (show 0≤p0+U by omega)
 have q2:=Int.tmod_lt_of_pos (p0+U) (show 0<g.sl by omega)
 rw [show IntKind.i64.wrap ((p0+U).tmod g.sl+k)=(p0+U).tmod g.sl+k by rw [IntKind.wrap_i64];omega]
 rw [Int.tmod_eq_emod_of_nonneg (show 0≤p0+U by omega)] at q1 ⊢
 rw [Int.tmod_eq_emod_of_nonneg (by omega),Int.tmod_eq_emod_of_nonneg (by omega),Int.emod_add_emod,Int.add_assoc]
theorem gather_step {look:Int→Rc × Int × List Wr} {f:Nat} {k:Int} {r:Rc} {im:List Img} {w:List Wr} (h:(look k).2.1=1):gatherM look (f+1) k r im w=gatherM look f (k+1) (look k).1 (if r.kind=1 then im ++ [r.img] else im) (w ++ (look k).2.2):=by
 conv=>lhs;unfold gatherM
 dsimp only
 rw [if_neg (not_not_intro h)]
theorem gather_stop {look:Int→Rc × Int × List Wr} {f:Nat} {k:Int} {r:Rc} {im:List Img} {w:List Wr} (h:(look k).2.1≠1):gatherM look (f+1) k r im w=((look k).2.1, [], []):=by
 conv=>lhs;unfold gatherM
 dsimp only
 rw [if_pos h]
theorem txnP_step {g:Geo} {a:An} {p q:Int→Option Rc} {pos seq left:Int} (h:(recP g a p q pos seq left 0 0).2.1=1):txnP g a p q pos seq left=(let t:=gatherM (fun k=>recP g a p q pos seq left k (recP g a p q pos seq left 0 0).1.of_) ((recP g a p q pos seq left 0 0).1.of_ - 1).toNat 1 (recP g a p q pos seq left 0 0).1 [] (recP g a p q pos seq left 0 0).2.2
  if t.1≠1 then (t.1,0, [], []) else (1,(recP g a p q pos seq left 0 0).1.of_,t.2.1,t.2.2)):=by
 conv=>lhs;unfold txnP
 dsimp only
 rw [if_neg (not_not_intro h)]
theorem txnP_stop {g:Geo} {a:An} {p q:Int→Option Rc} {pos seq left:Int} (h:(recP g a p q pos seq left 0 0).2.1≠1):txnP g a p q pos seq left=((recP g a p q pos seq left 0 0).2.1,0, [], []):=by
 conv=>lhs;unfold txnP
 dsimp only
 rw [if_pos h]
theorem gather_mend {look look':Int→Rc × Int × List Wr}:∀ (f:Nat) (k:Int) (r:Rc) (im:List Img) (w w0:List Wr),(∀ i,k≤i→i<k+f→(look i).2.1=1→look' i=((look i).1,1, []))→(gatherM look f k r im w).1=1→
  gatherM look' f k r im w0=(1,(gatherM look f k r im w).2.1,w0)∧(gatherM look f k r im w).2.2=w ++ (List.range f).flatMap (fun j=>(look (k+(j:Nat))).2.2)∧∀ i,k≤i→i<k+f→(look i).2.1=1
 | 0,k,r,im,w,w0,_,_=>⟨rfl,by simp [gatherM],fun i h1 h2=>by omega⟩
 | f+1,k,r,im,w,w0,hl,h=>by
  by_cases hq:(look k).2.1=1
  ·have e:=hl k (by omega) (by omega) hq
   rw [gather_step hq] at h ⊢
   rw [gather_step (show (look' k).2.1=1 by rw [e]),e]
   dsimp only
   obtain⟨i1,i2,i3⟩:=gather_mend f (k+1) (look k).1 (if r.kind=1 then im ++ [r.img] else im) (w ++ (look k).2.2) (w0 ++ []) (fun i h1 h2=>hl i (by omega) (by omega)) h
   refine⟨?_,?_,fun i h1 h2=>?_⟩
   ·rw [i1,List.append_nil]
   ·rw [i2,List.range_succ_eq_map,List.flatMap_cons,List.flatMap_map,List.append_assoc]
    congr 1
    congr 1
    ·rw [show k+((0:Nat):Int)=k by omega]
    ·congr 1
     funext j
     rw [show k+1+(j:Int)=k+((j.succ:Nat):Int) by omega]
   ·by_cases ei:i=k
    ·rw [ei];exact hq
    ·exact i3 i (by omega) (by omega)
  ·rw [gather_stop hq] at h
   exact absurd h hq
theorem gather_congr {look look':Int→Rc × Int × List Wr}:∀ (f:Nat) (k:Int) (r:Rc) (im:List Img) (w:List Wr),(∀ i,k≤i→i<k+f→look' i=look i)→gatherM look' f k r im w=gatherM look f k r im w
 | 0,_,_,_,_,_=>rfl
 | f+1,k,r,im,w,hl=>by
  unfold gatherM
  dsimp only
  rw [hl k (by omega) (by omega),gather_congr f (k+1) (look k).1 _ _ (fun i h1 h2=>hl i (by omega) (by omega))]
theorem mendF_one {g:Geo} {W:Nat→List Wr} {z:PQ} {s:Int} {k:Nat}:∀ n,k<n→(∀ j,j<n→j≠k→∀ x∈W j,wrS g x≠s)→AtS (mendF g ((List.range n).flatMap W) z) (mendF g (W k) z) s
 | 0,h,_=>by omega
 | n+1,hk,h=>by
  rw [List.range_succ,List.flatMap_append,mendF_app]
  simp only [List.flatMap_cons,List.flatMap_nil,List.append_nil]
  by_cases e:k=n
  ·subst e
   refine mendF_local (W k) (mendF_far _ fun x hx=>?_)
   obtain⟨j,hj,hx⟩:=List.mem_flatMap.1 hx
   have hj:=List.mem_range.1 hj
   exact h j (by omega) (by omega) x hx
  ·exact(mendF_far (W n) (h n (by omega) (Ne.symm e))).trans (mendF_one n (by omega) fun j hj hne=>h j (by omega) hne)
def Agree (g:Geo) (p0 U:Int) (z z':PQ):Prop:=∀ u,U≤u→u<g.sl→AtS z z' ((p0+u).tmod g.sl)
section
variable {g:Geo} {a:An} {p q:Int→Option Rc} {p0:Int}
theorem rec_agree {z':PQ} {pos seq left at_ of_:Int} (h:AtS z' (p,q) (slotM g pos at_)):recP g a z'.1 z'.2 pos seq left at_ of_=recP g a p q pos seq left at_ of_:=by
 unfold recP lookP
 dsimp only
 rw [h.1,h.2]
theorem txn_agree {z':PQ} {U seq left:Int} (hg:okG g=true) (hok:∀ s r,p s=some r∨q s=some r→okR g r=true) (hp:0≤p0∧p0<g.sl) (hU:0≤U∧U+left=g.sl∧0<left) (h:Agree g p0 U z' (p,q)):txnP g a z'.1 z'.2 ((p0+U).tmod g.sl) seq left=txnP g a p q ((p0+U).tmod g.sl) seq left:=by
 obtain⟨h1,h2,h3,h4,h5⟩:=okG_iff.1 hg
 have hr:∀ (k of_:Int),0≤k→U+k<g.sl→recP g a z'.1 z'.2 ((p0+U).tmod g.sl) seq left k of_=recP g a p q ((p0+U).tmod g.sl) seq left k of_:=fun k of_ hk hk2=>rec_agree (by rw [slotM_off hg hp hU.1 (by omega)];exact h _ (by omega) hk2)
 by_cases h0:(recP g a p q ((p0+U).tmod g.sl) seq left 0 0).2.1=1
 ·rw [txnP_step h0,txnP_step (by rw [hr 0 0 (by omega) (by omega)];exact h0),hr 0 0 (by omega) (by omega)]
  obtain⟨f1,f2⟩:=recP_found hok h0
  have hN:=one_of f1 f2
  have hlft:=hN.2.2.2.2.1 rfl
  rw [gather_congr (look:=fun k=>recP g a p q ((p0+U).tmod g.sl) seq left k (recP g a p q ((p0+U).tmod g.sl) seq left 0 0).1.of_) _ _ _ _ _ (fun i h1 h2=>hr i _ (by omega) (by omega))]
 ·rw [txnP_stop h0,txnP_stop (by rw [hr 0 0 (by omega) (by omega)];exact h0),hr 0 0 (by omega) (by omega)]
theorem txn_mend {U seq left:Int} (hg:okG g=true) (hok:∀ s r,p s=some r∨q s=some r→okR g r=true) (hp:0≤p0∧p0<g.sl) (hU:0≤U∧U+left=g.sl) (h:(txnP g a p q ((p0+U).tmod g.sl) seq left).1=1) :
  (2≤(txnP g a p q ((p0+U).tmod g.sl) seq left).2.1∧(txnP g a p q ((p0+U).tmod g.sl) seq left).2.1≤left)∧
  (∀ x∈(txnP g a p q ((p0+U).tmod g.sl) seq left).2.2.2,∃ u,(U≤u∧u<U+(txnP g a p q ((p0+U).tmod g.sl) seq left).2.1)∧wrS g x=(p0+u).tmod g.sl∧x.bytes.length≤200)∧
  ∀ z':PQ,(∀ u,U≤u→u<U+(txnP g a p q ((p0+U).tmod g.sl) seq left).2.1→AtS z' (mendF g (txnP g a p q ((p0+U).tmod g.sl) seq left).2.2.2 (p,q)) ((p0+u).tmod g.sl))→
   txnP g a z'.1 z'.2 ((p0+U).tmod g.sl) seq left=(1,(txnP g a p q ((p0+U).tmod g.sl) seq left).2.1,(txnP g a p q ((p0+U).tmod g.sl) seq left).2.2.1, []):=by
 obtain⟨h1,h2,h3,h4,h5⟩:=okG_iff.1 hg
 by_cases h0:(recP g a p q ((p0+U).tmod g.sl) seq left 0 0).2.1=1
 ·obtain⟨f1,f2⟩:=recP_found hok h0
  have hN:=one_of f1 f2
  have hlft:=hN.2.2.2.2.1 rfl
  obtain⟨of_,hof⟩:∃ n:Nat,(recP g a p q ((p0+U).tmod g.sl) seq left 0 0).1.of_=(n:Int)+1:=⟨((recP g a p q ((p0+U).tmod g.sl) seq left 0 0).1.of_ - 1).toNat,by omega⟩
  have et:((of_:Int)+1 - 1).toNat=of_:=by omega
  have hsl:∀ k:Int,0≤k→k≤of_→slotM g ((p0+U).tmod g.sl) k=(p0+(U+k)).tmod g.sl∧0≤slotM g ((p0+U).tmod g.sl) k∧slotM g ((p0+U).tmod g.sl) k<g.sl:=fun k hk hk2=>by
   have e:=slotM_off hg hp hU.1 (k:=k) (by omega)
   rw [e]
   exact⟨rfl,Int.tmod_nonneg g.sl (by omega),Int.tmod_lt_of_pos _ (by omega)⟩
  rw [txnP_step h0,hof,et] at h ⊢
  dsimp only at h ⊢
  by_cases hG:(gatherM (fun k=>recP g a p q ((p0+U).tmod g.sl) seq left k ((of_:Int)+1)) of_ 1 (recP g a p q ((p0+U).tmod g.sl) seq left 0 0).1 [] (recP g a p q ((p0+U).tmod g.sl) seq left 0 0).2.2).1=1
  ·rw [if_neg (not_not_intro hG)]
   dsimp only
   obtain⟨-,g2,g3⟩:=gather_mend (look':=fun i=>((recP g a p q ((p0+U).tmod g.sl) seq left i ((of_:Int)+1)).1,1, [])) of_ 1 (recP g a p q ((p0+U).tmod g.sl) seq left 0 0).1 [] (recP g a p q ((p0+U).tmod g.sl) seq left 0 0).2.2 [] (fun i _ _ _=>rfl) hG
   -- what is to be written,record by record
   have eW:(gatherM (fun k=>recP g a p q ((p0+U).tmod g.sl) seq left k ((of_:Int)+1)) of_ 1 (recP g a p q ((p0+U).tmod g.sl) seq left 0 0).1 [] (recP g a p q ((p0+U).tmod g.sl) seq left 0 0).2.2).2.2=(List.range (of_+1)).flatMap fun j=>(recP g a p q ((p0+U).tmod g.sl) seq left (j:Nat) (if j=0 then 0 else (of_:Int)+1)).2.2:=by
    rw [g2,List.range_succ_eq_map,List.flatMap_cons,List.flatMap_map]
    congr 1
    congr 1
    funext j
    rw [if_neg (Nat.succ_ne_zero j),show 1+(j:Int)=((j.succ:Nat):Int) by omega]
   have hwr:∀ j:Nat,j<of_+1→∀ x∈(recP g a p q ((p0+U).tmod g.sl) seq left (j:Nat) (if j=0 then 0 else (of_:Int)+1)).2.2,wrS g x=(p0+(U+j)).tmod g.sl:=fun j hj x hx=>by
    obtain⟨e1,e2⟩:=hsl j (by omega) (by omega)
    rw [recP_wr e2 x hx,e1]
   refine⟨⟨by omega,by omega⟩,fun x hx=>?_,fun z' hz=>?_⟩
   ·rw [eW] at hx
    obtain⟨j,hj,hx⟩:=List.mem_flatMap.1 hx
    have hj:=List.mem_range.1 hj
    exact⟨U+j,by omega,hwr j hj x hx,recP_short hok x hx⟩
   ·rw [eW] at hz
    have hrec:∀ k:Nat,k<of_+1→(recP g a p q ((p0+U).tmod g.sl) seq left (k:Nat) (if k=0 then 0 else (of_:Int)+1)).2.1=1→recP g a z'.1 z'.2 ((p0+U).tmod g.sl) seq left (k:Nat) (if k=0 then 0 else (of_:Int)+1)=((recP g a p q ((p0+U).tmod g.sl) seq left (k:Nat) (if k=0 then 0 else (of_:Int)+1)).1,1, []):=fun k hk hf=>by
     obtain⟨e1,e2⟩:=hsl k (by omega) (by omega)
     refine rec_mend hg hok e2 hf ?_
     rw [e1]
     refine(hz (U+k) (by omega) (by omega)).trans ?_
     refine mendF_one (W:=fun j=>(recP g a p q ((p0+U).tmod g.sl) seq left (j:Nat) (if j=0 then 0 else (of_:Int)+1)).2.2) (k:=k) _ hk fun j hj hne x hx e=>?_
     rw [hwr j hj x hx] at e
     have:=tmod_inj hp (by omega) (by omega) e
     omega
    have r0:=hrec 0 (by omega) h0
    rw [if_pos rfl] at r0
    have r0':recP g a z'.1 z'.2 ((p0+U).tmod g.sl) seq left 0 0=((recP g a p q ((p0+U).tmod g.sl) seq left 0 0).1,1, []):=r0
    rw [txnP_step (by rw [r0']),r0']
    dsimp only
    rw [hof,et]
    obtain⟨g4, -, -⟩:=gather_mend (look:=fun k=>recP g a p q ((p0+U).tmod g.sl) seq left k ((of_:Int)+1)) (look':=fun k=>recP g a z'.1 z'.2 ((p0+U).tmod g.sl) seq left k ((of_:Int)+1)) of_ 1 (recP g a p q ((p0+U).tmod g.sl) seq left 0 0).1 [] (recP g a p q ((p0+U).tmod g.sl) seq left 0 0).2.2 [] (fun i i1 i2 hf=>by
     obtain⟨k,rfl⟩:=Int.eq_ofNat_of_zero_le (show 0≤i by omega)
     have:=hrec k (by omega)
     rw [if_neg (by omega)] at this
     exact this hf) hG
    rw [g4]
    dsimp only
    rw [if_neg (fun h=>h rfl)]
  ·rw [if_pos hG] at h
   exact absurd h hG
 ·rw [txnP_stop h0] at h
  exact absurd h h0
theorem scan_mend (hg:okG g=true) (hok:∀ s r,p s=some r∨q s=some r→okR g r=true) (hp:0≤p0∧p0<g.sl):∀ (f:Nat) (U seq left:Int) (l:List Tx) (w:List Wr) {l':List Tx} {w':List Wr} {seq':Int},0≤U→U+left=g.sl→scanLP g a p q f ((p0+U).tmod g.sl) seq left l w=some (l',w',seq')→
  ∃ wr,w'=w ++ wr∧(∀ x∈wr,∃ u,(U≤u∧u<g.sl)∧wrS g x=(p0+u).tmod g.sl∧x.bytes.length≤200)∧∀ z':PQ,Agree g p0 U z' (mendF g wr (p,q))→∀ w0,scanLP g a z'.1 z'.2 f ((p0+U).tmod g.sl) seq left l w0=some (l',w0,seq')
 | 0,U,seq,left,l,w,l',w',seq',_,_,h=>by
  unfold scanLP at h
  injection h with h
  injection h with e1 h
  injection h with e2 e3
  subst e1 e2 e3
  exact⟨[],by simp,by simp,fun _ _ _=>rfl⟩
 | f+1,U,seq,left,l,w,l',w',seq',hU,hl,h=>by
  obtain⟨h1,h2,h3,h4,h5⟩:=okG_iff.1 hg
  unfold scanLP at h
  by_cases hc:0<left∧seq≤4294967295
  ·rw [if_pos hc] at h
   dsimp only at h
   by_cases t3:(txnP g a p q ((p0+U).tmod g.sl) seq left).1=3
   ·rw [if_pos t3] at h
    cases h
   ·rw [if_neg t3] at h
    by_cases t1:(txnP g a p q ((p0+U).tmod g.sl) seq left).1=1
    ·rw [if_neg (fun h=>h t1)] at h
     obtain⟨⟨n1,n2⟩,n3,n4⟩:=txn_mend hg hok hp ⟨hU,hl⟩ t1
     generalize txnP g a p q ((p0+U).tmod g.sl) seq left=T at h n1 n2 n3 n4
     obtain⟨how,n,im,tw⟩:=T
     dsimp only at h n1 n2 n3 n4
     have ep:((p0+U).tmod g.sl+n).tmod g.sl=(p0+(U+n)).tmod g.sl:=by
      rw [Int.tmod_eq_emod_of_nonneg (show 0≤p0+U by omega)]
      have q1:=Int.emod_nonneg (p0+U) (show g.sl≠0 by omega)
      rw [Int.tmod_eq_emod_of_nonneg (by omega),Int.tmod_eq_emod_of_nonneg (by omega),Int.emod_add_emod,Int.add_assoc]
     rw [ep] at h
     obtain⟨wr,i1,i2,i3⟩:=scan_mend hg hok hp f (U+n) (seq+1) (left - n) _ _ (by omega) (by omega) h
     refine⟨tw ++ wr,by rw [i1,List.append_assoc],fun x hx=>?_,fun z' hz w0=>?_⟩
     ·rcases List.mem_append.1 hx with hx | hx
      ·obtain⟨u,u1,u2⟩:=n3 x hx
       exact⟨u,by omega,u2⟩
      ·obtain⟨u,u1,u2⟩:=i2 x hx
       exact⟨u,by omega,u2⟩
     ·unfold Agree at hz
      have ht:=n4 z' fun u u1 u2=>by
       have:=hz u u1 (by omega)
       rw [mendF_app] at this
       refine this.trans (mendF_far wr fun x hx e=>?_)
       obtain⟨v,v1,v2, -⟩:=i2 x hx
       rw [v2] at e
       have:=tmod_inj hp (by omega) (by omega) e
       omega
      unfold scanLP
      rw [if_pos hc,ht]
      dsimp only
      rw [if_neg (by decide),if_neg (fun h=>h rfl),ep]
      have:=i3 z' (fun u u1 u2=>by
       have:=hz u (by omega) u2
       rw [mendF_app] at this
       refine this.trans (mendF_local wr (mendF_far tw fun x hx e=>?_))
       obtain⟨v,v1,v2, -⟩:=n3 x hx
       rw [v2] at e
       have:=tmod_inj hp (by omega) (by omega) e
       omega) (w0 ++ [])
      rw [this,List.append_nil]
    ·rw [if_pos t1] at h
     injection h with h
     injection h with e1 h
     injection h with e2 e3
     subst e1 e2 e3
     refine⟨[],by simp,by simp,fun z' hz w0=>?_⟩
     have ht:=txn_agree (a:=a) (seq:=seq) hg hok hp ⟨hU,hl,hc.1⟩ hz
     unfold scanLP
     rw [if_pos hc,ht]
     dsimp only
     rw [if_neg t3,if_pos t1]
  ·rw [if_neg hc] at h
   injection h with h
   injection h with e1 h
   injection h with e2 e3
   subst e1 e2 e3
   refine⟨[],by simp,by simp,fun z' hz w0=>?_⟩
   unfold scanLP
   rw [if_neg hc]
end

theorem anOk_parts {g:Geo} {a:An} (h:anOk g a=true):(0≤a.gen∧a.gen≤4294967295)∧(0≤a.epoch∧a.epoch≤4294967295)∧(1≤a.seq∧a.seq≤4294967295)∧(0≤a.last∧a.last≤4294967295∧a.seq - 1≤a.last)∧(0≤a.pos∧a.pos<g.sl)∧(a.homes.length:Int)=g.z∧∀ x∈a.homes,hmOk g x=true:=by
 simp only [anOk,List.all_cons,List.all_nil,Bool.and_eq_true,inB_iff,decide_eq_true_eq,List.all_eq_true] at h
 obtain⟨⟨q1,q2,q3,q4, -⟩,q5,q6,q7,q8,q9,q10⟩:=h
 exact⟨q1,q2,⟨q5,q3.2⟩,⟨q4.1,q4.2,q6⟩,⟨q7.1,by omega⟩,q9,q10⟩
theorem anOk_places {g:Geo} {a:An} (hg:okG g=true) (h:anOk g a=true):∀ x∈a.homes,x.places.length≤1000000:=by
 obtain⟨h1,h2,h3,h4,h5⟩:=okG_iff.1 hg
 intro x hx
 have:=(anOk_parts h).2.2.2.2.2.2 x hx
 simp only [hmOk,Bool.and_eq_true,decide_eq_true_eq] at this
 omega
theorem take_sub (L:List Tx) (m:Nat) (hm:m≤L.length) {n:Nat} (hn:n=m) {get:Nat→List AV} (hget:∀ i,i<m→get i=txC (L.getD i ⟨0,0,0, []⟩)) (c:Ctx) (u:Value) (h:Rd (.sl 4 n get) c u):Rd (txsA (L.take m)) c u:=by
 refine Rd.congr (by rw [List.length_take];omega) (fun i hi=>?_) h
 rw [hget i (by omega)]
 congr 1
 rw [List.getD_eq_getElem?_getD,List.getD_eq_getElem?_getD,List.getElem?_take_of_lt (by omega)]
theorem scanA_P {g:Geo} {b:An} {x y:List Gt} {p q:Int→Option Rc} {r:List Tx × List Wr × Int} (hg:okG g=true) (hb:anOk g b=true) (hx:(x.length:Int)=g.sl) (hy:(y.length:Int)=g.sl) (hp:saysF g x 0=p) (hq:saysF g y 1=q) (h:scanP g b p q=r):scanA g b x y=r:=by
 unfold scanA
 rw [if_pos (by rw [hg,hb];rfl),if_pos ⟨hx,hy⟩,scanM_P,hp,hq,h]
def mendL1 (g:Geo) (x:Wr) (z:List Gt × List Gt):List Gt × List Gt:=if x.addr - g.an<g.sl then (z.1.set (x.addr - g.an).toNat ⟨0,x.bytes⟩,z.2) else (z.1,z.2.set (x.addr - g.an - g.sl).toNat ⟨0,x.bytes⟩)
def mendL (g:Geo) (w:List Wr) (z:List Gt × List Gt):Nat→List Gt × List Gt
 | 0=>z
 | k+1=>mendL1 g (w.getD k ⟨0, []⟩) (mendL g w z k)
theorem mendL_len {g:Geo} {w:List Wr} {z:List Gt × List Gt}:∀ k,(mendL g w z k).1.length=z.1.length∧(mendL g w z k).2.length=z.2.length
 | 0=>⟨rfl,rfl⟩
 | k+1=>by
  obtain⟨h1,h2⟩:=mendL_len (g:=g) (w:=w) (z:=z) k
  unfold mendL mendL1
  split
  ·exact⟨by rw [List.length_set,h1],h2⟩
  ·exact⟨h1,by rw [List.length_set,h2]⟩
theorem saysF_up {g:Geo} {x:List Gt} {copy:Int} {k:Nat} {b:List UInt8} (hk:k<x.length):saysF g (x.set k ⟨0,b⟩) copy=upF (saysF g x copy) (k:Nat) (saysR g ⟨0,b⟩ copy (k:Nat)):=by
 funext s
 unfold saysF upF
 by_cases e:s=(k:Nat)
 ·subst e
  rw [if_pos rfl,Int.toNat_natCast,List.getD_eq_getElem?_getD,List.getElem?_set_self hk]
  rfl
 ·rw [if_neg e]
  by_cases hs:0≤s∧s<g.sl
  ·obtain⟨i,rfl⟩:=Int.eq_ofNat_of_zero_le hs.1
   rw [Int.toNat_natCast,List.getD_eq_getElem?_getD,List.getElem?_set_ne (by omega),←List.getD_eq_getElem?_getD]
   rfl
  ·rw [saysR_out hs]
   exact(saysR_out hs).symm
def wIn (g:Geo) (x:Wr):Prop:=0≤x.addr - g.an∧x.addr - g.an<2*g.sl
theorem mend_says {g:Geo} {w:List Wr} {z:List Gt × List Gt} (h1:(z.1.length:Int)=g.sl) (h2:(z.2.length:Int)=g.sl):∀ k,k≤w.length→(∀ x∈w,wIn g x)→(saysF g (mendL g w z k).1 0,saysF g (mendL g w z k).2 1)=mendF g (w.take k) (saysF g z.1 0,saysF g z.2 1)
 | 0,_,_=>rfl
 | k+1,hk,hw=>by
  have ih:=mend_says h1 h2 k (by omega) hw
  have hx:=hw _ (getD_mem (d:=⟨0, []⟩) (show k<w.length by omega))
  obtain⟨l1,l2⟩:=mendL_len (g:=g) (w:=w) (z:=z) k
  rw [List.take_succ_eq_append_getElem (by omega),mendF_app,←ih]
  rw [show w[k]=w.getD k ⟨0, []⟩ by rw [List.getD_eq_getElem?_getD,List.getElem?_eq_getElem (by omega)];rfl]
  simp only [mendF,mend1,mendL,mendL1]
  generalize w.getD k ⟨0, []⟩=x at hx
  unfold wIn at hx
  by_cases hc:x.addr - g.an<g.sl
  ·rw [if_pos hc,if_pos hc]
   dsimp only
   rw [saysF_up (by omega),Int.toNat_of_nonneg hx.1]
  ·rw [if_neg hc,if_neg hc]
   dsimp only
   rw [saysF_up (by omega),Int.toNat_of_nonneg (show 0≤x.addr - g.an - g.sl by omega)]
theorem saysF_ok {g:Geo} {x y:List Gt}:∀ s r,saysF g x 0 s=some r∨saysF g y 1 s=some r→okR g r=true:=by
 rintro s r (h | h)
 ·exact(saysR_ok h).1
 ·exact(saysR_ok h).1
theorem scanA_mend {g:Geo} {a:An} {x y:List Gt} {l:List Tx} {w:List Wr} (h:scanA g a x y=(l,w,0)):(okG g=true∧anOk g a=true)∧((x.length:Int)=g.sl∧(y.length:Int)=g.sl)∧(∀ z∈w,wIn g z∧z.bytes.length≤200)∧scanA g a (mendL g w (x,y) w.length).1 (mendL g w (x,y) w.length).2=(l, [],0):=by
 unfold scanA at h
 by_cases hA:(okG g&&anOk g a)=true
 ·rw [if_pos hA] at h
  obtain⟨hg,ha⟩:=Bool.and_eq_true_iff.1 hA
  obtain⟨h1,h2,h3,h4,h5⟩:=okG_iff.1 hg
  have hq:=anOk_seq ha
  by_cases hx:(x.length:Int)=g.sl∧(y.length:Int)=g.sl
  ·rw [if_pos hx,scanM_P] at h
   unfold scanP at h
   cases hR:scanLP g a (saysF g x 0) (saysF g y 1) g.sl.toNat a.pos a.seq g.sl [] [] with
   | none=>rw [hR] at h;simp [finM,damaged] at h
   | some R=>
    obtain⟨l',w',seq'⟩:=R
    rw [hR] at h
    by_cases hl:seq' - 1<a.last
    ·rw [finM_pos hl] at h
     simp [damaged] at h
    ·rw [finM_neg hl] at h
     injection h with e1 h
     injection h with e2 _
     subst e1 e2
     have e0:(a.pos+0).tmod g.sl=a.pos:=by rw [Int.add_zero];exact tmod_lo hq.2.1 hq.2.2
     rw [←e0] at hR
     obtain⟨wr,w1,w2,w3⟩:=scan_mend hg (saysF_ok (g:=g) (x:=x) (y:=y)) hq.2 g.sl.toNat 0 a.seq g.sl [] [] (Int.le_refl 0) (by omega) hR
     rw [List.nil_append] at w1
     subst w1
     have hin:∀ z∈w',wIn g z∧z.bytes.length≤200:=fun z hz=>by
      obtain⟨u,u1,u2,u3⟩:=w2 z hz
      refine⟨?_,u3⟩
      have q1:=Int.tmod_nonneg g.sl (show 0≤a.pos+u by omega)
      have q2:=Int.tmod_lt_of_pos (a.pos+u) (show 0<g.sl by omega)
      rw [←u2] at q1 q2
      unfold wrS at q1 q2
      unfold wIn
      split at q1 <;> omega
     refine⟨⟨hg,ha⟩,hx,hin,?_⟩
     obtain⟨l1,l2⟩:=mendL_len (g:=g) (w:=w') (z:=(x,y)) w'.length
     have hm:=mend_says (g:=g) (w:=w') (z:=(x,y)) hx.1 hx.2 w'.length (Nat.le_refl _) fun z hz=>(hin z hz).1
     rw [List.take_length] at hm
     have hm1:=congrArg Prod.fst hm
     have hm2:=congrArg Prod.snd hm
     refine scanA_P hg ha (by rw [l1];exact hx.1) (by rw [l2];exact hx.2) hm1 hm2 ?_
     unfold scanP
     have:=w3 (mendF g w' (saysF g x 0,saysF g y 1)) (fun u _ _=>⟨rfl,rfl⟩) []
     rw [e0] at this
     rw [this,finM_neg hl]
  ·rw [if_neg hx] at h
   injection h with _ h
   injection h with _ h
   cases h
 ·rw [if_neg hA] at h
  injection h with _ h
  injection h with _ h
  cases h
theorem scanL_wlen {g:Geo} {a:An} {x y:List Gt} (hg:okG g=true):∀ (f:Nat) (pos seq left:Int) (l:List Tx) (w:List Wr) {l':List Tx} {w':List Wr} {seq':Int},(0≤pos∧pos<g.sl)→scanL g a x y f pos seq left l w=some (l',w',seq')→w'.length≤w.length+30*f
 | 0,pos,seq,left,l,w,l',w',seq',_,h=>by
  unfold scanL at h
  injection h with h
  injection h with e1 h
  injection h with e2 e3
  subst e2
  omega
 | f+1,pos,seq,left,l,w,l',w',seq',hp,h=>by
  unfold scanL at h
  have fin:some (l,w,seq)=some (l',w',seq')→w'.length≤w.length+30*(f+1):=fun h=>by
   injection h with h
   injection h with e1 h
   injection h with e2 e3
   subst e2
   omega
  by_cases hc:0<left∧seq≤4294967295
  ·rw [if_pos hc] at h
   dsimp only at h
   have tf:=txnM_facts (a:=a) (x:=x) (y:=y) (seq:=seq) (left:=left) hg hp
   generalize txnM g a x y pos seq left=T at tf h
   obtain⟨how,n,im,ws⟩:=T
   dsimp only at tf h
   rcases tf with ⟨rfl,t1,t2⟩ | tf
   ·rw [if_neg (by decide),if_neg (by decide)] at h
    obtain⟨h1,h2,h3,h4,h5⟩:=okG_iff.1 hg
    have hm:=Int.tmod_lt_of_pos (pos+n) (show 0<g.sl by omega)
    have hm0:=Int.tmod_nonneg g.sl (show 0≤pos+n by omega)
    have:=scanL_wlen hg f _ _ _ _ _ ⟨hm0,hm⟩ h
    rw [List.length_append] at this
    omega
   ·by_cases e3:how=3
    ·rw [if_pos e3] at h
     cases h
    ·rw [if_neg e3,if_pos (by omega)] at h
     exact fin h
  ·rw [if_neg hc] at h
   exact fin h
theorem gather_short {look:Int→Rc × Int × List Wr}:∀ (f:Nat) (k:Int) (r:Rc) (im:List Img) (w:List Wr),(∀ i,k≤i→i<k+f→(look i).2.1=1→(look i).1.img.bytes.length≤59)→r.img.bytes.length≤59→(∀ i∈im,i.bytes.length≤59)→∀ i∈(gatherM look f k r im w).2.1,i.bytes.length≤59
 | 0,k,r,im,w,_,hr,hi=>by
  unfold gatherM
  dsimp only
  intro i hm
  split at hm
  ·rcases List.mem_append.1 hm with h | h
   ·exact hi i h
   ·have e:i=r.img:=by simpa using h
    rw [e];exact hr
  ·exact hi i hm
 | f+1,k,r,im,w,hl,hr,hi=>by
  by_cases hq:(look k).2.1=1
  ·rw [gather_step hq]
   refine gather_short f (k+1) _ _ _ (fun i h1 h2 h3=>hl i (by omega) (by omega) h3) (hl k (by omega) (by omega) hq) ?_
   intro i hm
   split at hm
   ·rcases List.mem_append.1 hm with h | h
    ·exact hi i h
    ·have e:i=r.img:=by simpa using h
     rw [e];exact hr
   ·exact hi i hm
  ·rw [gather_stop hq]
   simp
theorem txnM_short {g:Geo} {a:An} {x y:List Gt} {pos seq left:Int} (hg:okG g=true) (hp:0≤pos∧pos<g.sl):∀ i∈(txnM g a x y pos seq left).2.2.1,i.bytes.length≤59:=by
 have hf:=fun(k of_:Int) (hk:0≤k∧k≤1000)=>recM_facts (a:=a) (x:=x) (y:=y) (seq:=seq) (left:=left) (of_:=of_) (at_:=k) hg hp hk
 unfold txnM
 dsimp only
 split
 ·simp
 ·rename_i h0
  have h0:=Classical.not_not.1 h0
  obtain⟨e1,⟨e2,e2',e3⟩, -⟩:=(hf 0 0 (by omega)).resolve_right fun h=>by omega
  have hN:=one_of e2 e3
  split
  ·simp
  ·dsimp only
   refine gather_short _ _ _ _ _ (fun i h1 h2 h3=>?_) e2' (by simp)
   obtain⟨-,⟨-,q, -⟩, -⟩:=(hf i (recM g a x y pos seq left 0 0).1.of_ (by omega)).resolve_right fun h=>by omega
   exact q
theorem scanL_imgs {g:Geo} {a:An} {x y:List Gt} (hg:okG g=true):∀ (f:Nat) (pos seq left:Int) (l:List Tx) (w:List Wr) {l':List Tx} {w':List Wr} {seq':Int},(0≤pos∧pos<g.sl)→(∀ t∈l,t.images.length≤30∧∀ i∈t.images,i.bytes.length≤59)→scanL g a x y f pos seq left l w=some (l',w',seq')→l'.length≤l.length+f∧∀ t∈l',t.images.length≤30∧∀ i∈t.images,i.bytes.length≤59
 | 0,pos,seq,left,l,w,l',w',seq',_,hl,h=>by
  unfold scanL at h
  injection h with h
  injection h with e1 h
  subst e1
  exact⟨by omega,hl⟩
 | f+1,pos,seq,left,l,w,l',w',seq',hp,hl,h=>by
  unfold scanL at h
  have fin:some (l,w,seq)=some (l',w',seq')→l'.length≤l.length+(f+1)∧∀ t∈l',t.images.length≤30∧∀ i∈t.images,i.bytes.length≤59:=fun h=>by
   injection h with h
   injection h with e1 h
   subst e1
   exact⟨by omega,hl⟩
  by_cases hc:0<left∧seq≤4294967295
  ·rw [if_pos hc] at h
   dsimp only at h
   have tf:=txnM_facts (a:=a) (x:=x) (y:=y) (seq:=seq) (left:=left) hg hp
   have ti:=fun e=>txnM_imgs (a:=a) (x:=x) (y:=y) (seq:=seq) (left:=left) hg hp e
   have ts:=txnM_short (a:=a) (x:=x) (y:=y) (seq:=seq) (left:=left) hg hp
   generalize txnM g a x y pos seq left=T at tf h ti ts
   obtain⟨how,n,im,ws⟩:=T
   dsimp only at tf h ti ts
   rcases tf with ⟨rfl,t1,t2⟩ | tf
   ·rw [if_neg (by decide),if_neg (by decide)] at h
    obtain⟨h1,h2,h3,h4,h5⟩:=okG_iff.1 hg
    have hm:=Int.tmod_lt_of_pos (pos+n) (show 0<g.sl by omega)
    have hm0:=Int.tmod_nonneg g.sl (show 0≤pos+n by omega)
    have hi:=ti rfl
    have:=scanL_imgs hg f _ _ _ _ _ ⟨hm0,hm⟩ (fun t ht=>by
     rcases List.mem_append.1 ht with h | h
     ·exact hl t h
     ·have e:t=⟨seq,pos,n,im⟩:=by simpa using h
      rw [e]
      exact⟨by dsimp only;omega,ts⟩) h
    rw [List.length_append] at this
    exact⟨by have:=this.1;simp only [List.length_cons,List.length_nil] at this;omega,this.2⟩
   ·by_cases e3:how=3
    ·rw [if_pos e3] at h
     cases h
    ·rw [if_neg e3,if_pos (by omega)] at h
     exact fin h
  ·rw [if_neg hc] at h
   exact fin h
theorem scanA_wlen {g:Geo} {a:An} {x y:List Gt}:(scanA g a x y).2.1.length≤900:=by
 unfold scanA
 by_cases hA:(okG g&&anOk g a)=true
 ·rw [if_pos hA]
  obtain⟨hg,ha⟩:=Bool.and_eq_true_iff.1 hA
  obtain⟨h1,h2,h3,h4,h5⟩:=okG_iff.1 hg
  split
  ·unfold scanM
   cases hR:scanL g a x y g.sl.toNat a.pos a.seq g.sl [] [] with
   | none=>exact Nat.zero_le _
   | some R=>
    obtain⟨l',w',seq'⟩:=R
    have:=scanL_wlen hg _ _ _ _ _ _ (anOk_seq ha).2 hR
    by_cases hl:seq' - 1<a.last
    ·rw [finM_pos hl];exact Nat.zero_le _
    ·rw [finM_neg hl]
     simp only [List.length_nil] at this
     dsimp only
     omega
  ·exact Nat.zero_le _
 ·rw [if_neg hA];exact Nat.zero_le _
theorem scanL_max {g:Geo} {a:An} {x y:List Gt}:∀ (f:Nat) (pos seq left:Int) (l:List Tx) (w:List Wr) {l':List Tx} {w':List Wr} {seq':Int},seq≤4294967296→scanL g a x y f pos seq left l w=some (l',w',seq')→seq'≤4294967296
 | 0,pos,seq,left,l,w,l',w',seq',h1,h=>by
  unfold scanL at h
  injection h with h
  injection h with e1 h
  injection h with e2 e3
  omega
 | f+1,pos,seq,left,l,w,l',w',seq',h1,h=>by
  unfold scanL at h
  have fin:some (l,w,seq)=some (l',w',seq')→seq'≤4294967296:=fun h=>by
   injection h with h
   injection h with e1 h
   injection h with e2 e3
   omega
  by_cases hc:0<left∧seq≤4294967295
  ·rw [if_pos hc] at h
   simp only at h
   generalize txnM g a x y pos seq left=q at h
   split at h
   ·cases h
   ·split at h
    ·exact fin h
    ·exact scanL_max f _ _ _ _ _ (by omega) h
  ·rw [if_neg hc] at h
   exact fin h
theorem scanM_last {g:Geo} {a:An} {x y:List Gt} (hg:okG g=true) (ha:anOk g a=true) (h:(scanM g a x y).2.2=0):a.last≤a.seq+(scanM g a x y).1.length - 1∧a.seq+(scanM g a x y).1.length - 1≤4294967295:=by
 obtain⟨g1,g2,g3,g4,g5⟩:=okG_iff.1 hg
 have hq:=anOk_seq ha
 have hp:=anOk_parts ha
 unfold scanM at h ⊢
 cases hR:scanL g a x y g.sl.toNat a.pos a.seq g.sl [] [] with
 | none=>rw [hR] at h;simp [finM,damaged] at h
 | some q=>
  obtain⟨l,w,seq⟩:=q
  rw [hR] at h
  obtain⟨c1,c2,c3⟩:=scanL_right hg _ _ _ _ _ _ (l':=l) (w':=w) (seq':=seq) (show chainOk g [] a.seq a.pos from trivial) rfl (by simp) (by simp [usedM]) (by omega) hq.2 hR
  have hm:=scanL_max _ _ _ _ _ _ (by omega) hR
  by_cases hl:seq - 1<a.last
  ·rw [finM_pos hl] at h;simp [damaged] at h
  ·rw [finM_neg hl]
   simp only
   omega
def nextA (a:An) (n:Nat):An:={ a with gen:=a.gen+1,epoch:=a.epoch+1,last:=a.seq+n - 1 }
theorem nextA_ok {g:Geo} {a:An} {n:Nat} (ha:anOk g a=true) (h1:a.gen≠4294967295) (h2:a.epoch≠4294967295) (h3:a.seq+n - 1≤4294967295):anOk g (nextA a n)=true:=by
 have hp:=anOk_parts ha
 simp only [anOk,List.all_cons,List.all_nil,Bool.and_eq_true,inB_iff,decide_eq_true_eq] at ha
 simp only [anOk,List.all_cons,List.all_nil,Bool.and_eq_true,inB_iff,decide_eq_true_eq]
 obtain⟨⟨q1,q2,q3,q4,q11⟩,q5,q6,q7,q8,q9,q10⟩:=ha
 refine⟨⟨?_,?_,q3,?_,q11⟩,q5,?_,q7,q8,q9,q10⟩
 ·show 0≤a.gen+1∧a.gen+1≤4294967295;omega
 ·show 0≤a.epoch+1∧a.epoch+1≤4294967295;omega
 ·show 0≤a.seq+n - 1∧a.seq+n - 1≤4294967295;omega
 ·show a.seq - 1≤a.seq+n - 1;omega
def stOf (a:An) (t:List Tx):Stt:=⟨a,t,false,0,0,0,0, []⟩
def mount4 (g:Geo) (a:An) (t:List Tx) (d:Dk):Dk × Int × Stt:=
 if a.gen=4294967295∨a.epoch=4294967295 then (d,14,st0) else
 let q:=d.putAll (anCells g (nextA a t.length))
 if q.2.2 then (q.1,8,st0) else if q.2.1=0 then (q.1,14,st0) else (q.1,0,stOf (nextA a t.length) t)
def mount3 (g:Geo) (a:An) (q:List Tx × List Wr × Int) (d:Dk):Dk × Int × Stt:=
 if q.2.2≠0 then (d,q.2.2,st0) else
 if (d.mend q.2.1).2 then ((d.mend q.2.1).1,8,st0) else mount4 g a q.1 (d.mend q.2.1).1
def mount2 (g:Geo) (a:An) (d:Dk):Dk × Int × Stt:=
 if d.live (2*g.sl.toNat) then mount3 g a (scanM g a (gotsD d (logAts g 0)) (gotsD d (logAts g 1))) (d.adv (2*g.sl.toNat)) else (d.adv (2*g.sl.toNat),8,st0)
def mountM (g:Geo) (d:Dk):Dk × Int × Stt:=
 if d.live g.an.toNat then
  match pickN g (gotsD d (anAts g)) with
  | none=>(d.adv g.an.toNat,11,st0)
  | some (a,_)=>mount2 g a (d.adv g.an.toNat)
 else (d.adv g.an.toNat,8,st0)
theorem saysN_ok {g:Geo} {x:Gt} {i:Int} {a:An} (hg:okG g=true) (h:saysN g x i=some a):anOk g a=true:=by
 unfold saysN at h
 split at h
 ·cases hR:readA g (secPay x.bytes) with
  | none=>rw [hR] at h;cases h
  | some b=>
   rw [hR] at h
   simp only at h
   split at h
   ·cases h;exact(readA_some hg hR).1
   ·cases h
 ·cases h
theorem pick_ok {g:Geo} {l:List Gt} (hg:okG g=true):∀ (k:Nat) {a:An} {j:Nat},pickK g l k=some (a,j)→anOk g a=true
 | 0,a,j,h=>by cases h
 | k+1,a,j,h=>by
  rw [pickK_succ,pickS] at h
  cases hS:saysN g (l.getD k ⟨0, []⟩) (k:Nat) with
  | none=>rw [hS] at h;exact pick_ok hg k h
  | some b=>
   have hb:=saysN_ok hg hS
   rw [hS] at h
   cases hP:pickK g l k with
   | none=>rw [hP] at h;cases h;exact hb
   | some q=>
    obtain⟨c,i⟩:=q
    rw [hP] at h
    simp only at h
    split at h
    ·cases h;exact hb
    ·cases h;exact pick_ok hg k hP
theorem gotsD_short {d:Dk} (h:DkOk d) (l:List Int):∀ x∈gotsD d l,x.bytes.length≤100000:=by
 intro x hx
 simp only [gotsD,List.mem_map] at hx
 obtain⟨a,_,rfl⟩:=hx
 have:=got_short h a
 show (d.got a).1.length≤_
 omega
theorem scanW_in {g:Geo} {a:An} {x y:List Gt} {n:Nat} (hg:okG g=true) (ha:anOk g a=true) (hx:(x.length:Int)=g.sl) (hy:(y.length:Int)=g.sl) (hn:(n:Int)=cellsN g) (h:(scanM g a x y).2.2=0):(∀ w∈(scanM g a x y).2.1,WrIn n w)∧(scanM g a x y).2.1.length≤900:=by
 have e:scanA g a x y=scanM g a x y:=by rw [scanA,if_pos (by rw [hg,ha];rfl),if_pos ⟨hx,hy⟩]
 have hl:=scanA_wlen (g:=g) (a:=a) (x:=x) (y:=y)
 rw [e] at hl
 obtain⟨g1,g2,g3,g4,g5⟩:=okG_iff.1 hg
 have hc:=cells_ge hg
 refine⟨fun w hw=>?_,hl⟩
 obtain⟨_,_,h3,_⟩:=scanA_mend (l:=(scanM g a x y).1) (w:=(scanM g a x y).2.1) (e.trans (by rw [←h]))
 obtain⟨p1,p2⟩:=h3 w hw
 unfold wIn at p1
 exact⟨by omega,p2⟩
def Dk.tick (k:Nat) (d:Dk):Dk:=⟨d.cells,d.cache,min (d.reqs+k) 1048576,if d.left<0 then d.left else d.left - k⟩
structure Lv (d:Dk) (k:Nat):Prop where
 r:0≤d.reqs∧d.reqs≤1048576
 l:d.left<0∨(k:Int)≤d.left
theorem Lv.le {d:Dk} {k j:Nat} (h:Lv d k) (hj:j≤k):Lv d j:=⟨h.r,by have:=h.l;omega⟩
theorem req_tick {d:Dk} (h:0≤d.reqs∧d.reqs≤1048576) (_h0:d.left≠0) (hl:d.left<0∨1≤d.left):d.req=d.tick 1:=by
 unfold Dk.req Dk.tick
 rw [wi (by omega)]
 congr 1
 ·split <;> omega
 ·split <;> split <;> omega
theorem tick_tick {d:Dk} (a b:Nat) (_hr:d.reqs≤1048576) (h:d.left<0∨(a:Int)≤d.left):(d.tick a).tick b=d.tick (a+b):=by
 unfold Dk.tick
 congr 1
 ·simp only;omega
 ·simp only
  by_cases h':d.left<0
  ·simp only [h',if_true]
  ·rw [if_neg h',if_neg (by omega),if_neg h'];omega
theorem tick_zero {d:Dk} (hr:d.reqs≤1048576):d.tick 0=d:=by
 unfold Dk.tick
 obtain⟨c,ca,r,l⟩:=d
 simp only [Dk.mk.injEq,true_and] at hr ⊢
 constructor
 ·omega
 ·split <;> omega
theorem tick_lv {d:Dk} {a b:Nat} (h:Lv d (a+b)):Lv (d.tick a) b:=by
 have:=h.r;have:=h.l
 refine⟨?_,?_⟩
 ·show 0≤min _ _∧min _ _≤_;omega
 ·show (if d.left<0 then d.left else d.left - a)<0∨(b:Int)≤(if d.left<0 then d.left else d.left - a)
  split <;> omega
theorem adv_tick {d:Dk}:∀ (k:Nat),Lv d k→d.adv k=d.tick k
 | 0,h=>(tick_zero h.r.2).symm
 | k+1,h=>by
  have ih:=adv_tick k (h.le (by omega))
  have h1:=tick_lv (a:=k) (b:=1) h
  have h2:=h1.l
  show (if (d.adv k).left=0 then d.adv k else (d.adv k).req)=_
  rw [ih,if_neg (by omega),req_tick h1.r (by omega) (by omega),tick_tick k 1 h.r.2 (by have:=h.l;omega)]
def free (cs:List Cel) (w:Wr):Bool:=decide ((cs.getD w.addr.toNat cz).state≠2)
theorem write_live {d:Dk} {w:Wr} (h:Lv d 1) (hc:d.cache.length<2000):d.write w.addr w.bytes=if free d.cells w then (⟨d.cells,d.cache ++ [w],(d.tick 1).reqs,(d.tick 1).left⟩,0) else (d.tick 1,7):=by
 have:=h.l
 unfold Dk.write free
 rw [if_neg (by omega),req_tick h.r (by omega) (by omega)]
 by_cases h2:(d.cells.getD w.addr.toNat cz).state=2
 ·rw [if_pos (.inl h2),if_neg (by simpa using h2)]
 ·rw [if_neg (by rintro(h3 | h3);exact h2 h3;omega),if_pos (by simpa using h2)]
  rfl
theorem writes_go:∀ (l:List Wr) (d:Dk) (n:Nat),Lv d l.length→d.cache.length+l.length≤2000→l.foldl wrStep (d,n,false)=(⟨d.cells,d.cache ++ l.filter (free d.cells),(d.tick l.length).reqs,(d.tick l.length).left⟩,n+(l.filter (free d.cells)).length,false)
 | [],d,n,h,_=>by
  show (d,n,false)=_
  rw [show ([]:List Wr).length=0 from rfl,tick_zero h.r.2]
  simp only [List.filter_nil,List.append_nil,List.length_nil,Nat.add_zero]
 | w::l,d,n,h,hc=>by
  have hl:(w::l).length=l.length+1:=rfl
  rw [hl] at h hc ⊢
  have hw:=write_live (w:=w) (h.le (show 1≤l.length+1 by omega)) (by omega)
  have h1:Lv (d.tick 1) l.length:=tick_lv (by rw [Nat.add_comm];exact h)
  have ht:=tick_tick (d:=d) 1 l.length h.r.2 (by have:=h.l;omega)
  rw [Nat.add_comm] at ht
  show l.foldl wrStep (wrStep (d,n,false) w)=_
  have hs:wrStep (d,n,false) w=(match d.write w.addr w.bytes with | (d,e)=>if e=8 then (d,n,true) else (d,n+(if e=0 then 1 else 0),false)):=by
   unfold wrStep;rw [if_neg (by simp)]
  rw [hs,hw]
  cases hf:free d.cells w with
  | true=>
   simp only [if_true]
   rw [if_neg (by decide)]
   have hgo:=writes_go l ⟨d.cells,d.cache ++ [w],(d.tick 1).reqs,(d.tick 1).left⟩ (n+1) ⟨h1.r,h1.l⟩ (by simp;omega)
   have e1:((⟨d.cells,d.cache ++ [w],(d.tick 1).reqs,(d.tick 1).left⟩:Dk).tick l.length).reqs=(d.tick (l.length+1)).reqs∧((⟨d.cells,d.cache ++ [w],(d.tick 1).reqs,(d.tick 1).left⟩:Dk).tick l.length).left=(d.tick (l.length+1)).left:=by rw [←ht];exact⟨rfl,rfl⟩
   rw [e1.1,e1.2] at hgo
   rw [hgo]
   simp only [List.filter_cons,hf,if_true,List.length_cons,List.append_assoc,List.singleton_append,Prod.mk.injEq,and_true,true_and]
   omega
  | false=>
   simp only [Bool.false_eq_true,if_false]
   rw [if_neg (by decide),if_neg (by decide)]
   rw [writes_go l (d.tick 1) (n+0) h1 (by show d.cache.length+_≤_;omega),ht]
   simp only [List.filter_cons,hf,Bool.false_eq_true,if_false,Nat.add_zero]
   rfl
theorem writes_live {d:Dk} {l:List Wr} (h:Lv d l.length) (hc:d.cache.length+l.length≤2000):d.writes l=(⟨d.cells,d.cache ++ l.filter (free d.cells),(d.tick l.length).reqs,(d.tick l.length).left⟩,(l.filter (free d.cells)).length,false):=by
 rw [Dk.writes,writes_go l d 0 h hc,Nat.zero_add]
def finS (cs:List Cel) (w:Wr):List Cel:=if (cs.getD w.addr.toNat cz).state=2 then cs else cs.set w.addr.toNat ⟨0,w.bytes,(cs.getD w.addr.toNat cz).bytes⟩
def finL (cs:List Cel) (l:List Wr):List Cel:=l.foldl finS cs
theorem finS_len (cs:List Cel) (w:Wr):(finS cs w).length=cs.length:=by unfold finS;split <;> simp
theorem finL_len:∀ (l:List Wr) (cs:List Cel),(finL cs l).length=cs.length
 | [],_=>rfl
 | w::l,cs=>by show (finL (finS cs w) l).length=_;rw [finL_len l,finS_len]
theorem fin_cells (d:Dk) (w:Wr):d.fin w={ d with cells:=finS d.cells w }:=by unfold Dk.fin finS;split <;> rfl
theorem allFin_cells:∀ (l:List Wr) (d:Dk),d.allFin l={ d with cells:=finL d.cells l }
 | [],_=>rfl
 | w::l,d=>by
  show (d.fin w).allFin l=_
  rw [allFin_cells l,fin_cells];rfl
theorem finS_get (cs:List Cel) (w:Wr) (a:Nat) (ha:a<cs.length):(finS cs w).getD a cz=if w.addr.toNat=a∧(cs.getD a cz).state≠2 then ⟨0,w.bytes,(cs.getD a cz).bytes⟩ else cs.getD a cz:=by
 unfold finS
 by_cases h:(cs.getD w.addr.toNat cz).state=2
 ·rw [if_pos h,if_neg]
  rintro⟨rfl,h2⟩
  exact h2 h
 ·rw [if_neg h,getD_set_cel _ _ _ _ ha]
  by_cases e:w.addr.toNat=a
  ·subst e;rw [if_pos rfl,if_pos ⟨rfl,h⟩]
  ·rw [if_neg e,if_neg (fun h=>e h.1)]
theorem finL_miss:∀ (l:List Wr) (cs:List Cel) (a:Nat),a<cs.length→(∀ w∈l,w.addr.toNat≠a)→(finL cs l).getD a cz=cs.getD a cz
 | [],_,_,_,_=>rfl
 | w::l,cs,a,ha,h=>by
  have hs:=finS_get cs w a ha
  rw [if_neg (fun e=>h w (by simp) e.1)] at hs
  show (finL (finS cs w) l).getD a cz=_
  rw [finL_miss l (finS cs w) a (by rw [finS_len];exact ha) (fun x hx=>h x (List.mem_cons_of_mem _ hx)),hs]
theorem finL_stuck:∀ (l:List Wr) (cs:List Cel) (a:Nat),a<cs.length→(cs.getD a cz).state=2→(finL cs l).getD a cz=cs.getD a cz
 | [],_,_,_,_=>rfl
 | w::l,cs,a,ha,h=>by
  have hs:=finS_get cs w a ha
  rw [if_neg (fun e=>e.2 h)] at hs
  show (finL (finS cs w) l).getD a cz=_
  rw [finL_stuck l (finS cs w) a (by rw [finS_len];exact ha) (by rw [hs];exact h),hs]
theorem finL_any:∀ (l:List Wr) (cs:List Cel) (a:Nat),a<cs.length→(finL cs l).getD a cz=cs.getD a cz∨(cs.getD a cz).state≠2∧((finL cs l).getD a cz).state=0∧∃ w∈l,w.addr.toNat=a∧((finL cs l).getD a cz).bytes=w.bytes
 | [],_,_,_=> .inl rfl
 | w::l,cs,a,ha=>by
  have hs:=finS_get cs w a ha
  have ih:=finL_any l (finS cs w) a (by rw [finS_len];exact ha)
  by_cases e:w.addr.toNat=a∧(cs.getD a cz).state≠2
  ·rw [if_pos e] at hs
   rcases ih with ih | ⟨h1,h2,x,hx,h3,h4⟩
   ·refine .inr ⟨e.2,?_,w,by simp,e.1,?_⟩
    ·show ((finL (finS cs w) l).getD a cz).state=0;rw [ih,hs]
    ·show ((finL (finS cs w) l).getD a cz).bytes=_;rw [ih,hs]
   ·exact .inr ⟨e.2,h2,x,List.mem_cons_of_mem _ hx,h3,h4⟩
  ·rw [if_neg e] at hs
   rcases ih with ih | ⟨h1,h2,x,hx,h3,h4⟩
   ·exact .inl (ih.trans hs)
   ·exact .inr ⟨by rw [hs] at h1;exact h1,h2,x,List.mem_cons_of_mem _ hx,h3,h4⟩
theorem finL_hit {F:List UInt8}:∀ (l:List Wr) (cs:List Cel) (a:Nat),a<cs.length→(cs.getD a cz).state≠2→(∀ w∈l,w.addr.toNat=a→w.bytes=F)→(∃ w∈l,w.addr.toNat=a)∨((cs.getD a cz).state=0∧(cs.getD a cz).bytes=F)→((finL cs l).getD a cz).state=0∧((finL cs l).getD a cz).bytes=F
 | [],cs,a,_,_,_,h=>by
  rcases h with ⟨w,hw,_⟩ | h
  ·cases hw
  ·exact h
 | w::l,cs,a,ha,h2,hF,h=>by
  have hs:=finS_get cs w a ha
  have ha':a<(finS cs w).length:=by rw [finS_len];exact ha
  show ((finL (finS cs w) l).getD a cz).state=0∧((finL (finS cs w) l).getD a cz).bytes=F
  by_cases e:w.addr.toNat=a
  ·rw [if_pos ⟨e,h2⟩,hF w (by simp) e] at hs
   exact finL_hit l (finS cs w) a ha' (by rw [hs];show (0:Int)≠2;decide) (fun x hx=>hF x (List.mem_cons_of_mem _ hx)) (.inr (by rw [hs];exact⟨rfl,rfl⟩))
  ·rw [if_neg (fun q=>e q.1)] at hs
   refine finL_hit l (finS cs w) a ha' (by rw [hs];exact h2) (fun x hx=>hF x (List.mem_cons_of_mem _ hx)) ?_
   rcases h with ⟨x,hx,hxa⟩ | h
   ·rcases List.mem_cons.1 hx with rfl | hx
    ·exact absurd hxa e
    ·exact .inl ⟨x,hx,hxa⟩
   ·exact .inr (by rw [hs];exact h)
theorem finL_free:∀ (l:List Wr) (cs cs0:List Cel),(∀ a,(cs.getD a cz).state=2↔(cs0.getD a cz).state=2)→finL cs (l.filter (free cs0))=finL cs l
 | [],_,_,_=>rfl
 | w::l,cs,cs0,h=>by
  have hstep:∀ a,((finS cs w).getD a cz).state=2↔(cs0.getD a cz).state=2:=fun a=>by
   rw [←h a]
   by_cases ha:a<cs.length
   ·rw [finS_get cs w a ha]
    split
    ·rename_i e
     constructor
     ·intro q;exact absurd q (by simp)
     ·intro q;exact absurd q e.2
    ·exact Iff.rfl
   ·rw [List.getD_eq_getElem?_getD,List.getD_eq_getElem?_getD,List.getElem?_eq_none (by rw [finS_len];omega),List.getElem?_eq_none (by omega)]
  show _=finL (finS cs w) l
  rw [List.filter_cons]
  by_cases hf:free cs0 w=true
  ·rw [if_pos hf]
   exact finL_free l (finS cs w) cs0 hstep
  ·rw [if_neg hf]
   have:finS cs w=cs:=by
    unfold finS
    rw [if_pos]
    simp only [free,decide_eq_true_eq,Decidable.not_not] at hf
    exact(h _).2 hf
   rw [this]
   exact finL_free l cs cs0 h
theorem putAll_alive {d:Dk} {l:List Wr} (h:Lv d (l.length+1)) (hc:d.cache=[]) (hl:l.length≤2000):d.putAll l=(⟨finL d.cells l, [],(d.tick (l.length+1)).reqs,(d.tick (l.length+1)).left⟩,(l.filter (free d.cells)).length,false):=by
 have hw:=writes_live (h.le (show l.length≤l.length+1 by omega)) (by rw [hc];simpa using hl)
 have h1:=tick_lv (a:=l.length) (b:=1) h
 have h2:=h1.l
 rw [hc,List.nil_append] at hw
 unfold Dk.putAll
 rw [hw]
 simp only [Bool.false_eq_true,if_false]
 rw [if_neg (by show ¬(d.tick l.length).left=0;omega)]
 have ht:=tick_tick (d:=d) l.length 1 h.r.2 (by have:=h.l;omega)
 simp only [Prod.mk.injEq,and_true]
 unfold Dk.flush
 rw [allFin_cells]
 have h3:Lv ⟨d.cells,l.filter (free d.cells),(d.tick l.length).reqs,(d.tick l.length).left⟩ 1:=⟨h1.r,h1.l⟩
 have hr:=req_tick (d:=⟨d.cells,l.filter (free d.cells),(d.tick l.length).reqs,(d.tick l.length).left⟩) h3.r (by show (d.tick l.length).left≠0;omega) (by show (d.tick l.length).left<0∨1≤(d.tick l.length).left;omega)
 rw [hr,←ht]
 show (⟨finL d.cells (l.filter (free d.cells)), [],_,_⟩:Dk)=_
 rw [finL_free l d.cells d.cells fun _=>Iff.rfl]
 rfl
theorem lt0124 {m:Nat} {i:Nat} (hi:Nat.blt i m=true) (h:Nat.ble 3 m=true):∀ z∈ [0,1,2,i],z<m:=fun z hz=>by
 have:=Nat.le_of_ble_eq_true h
 have:=Nat.le_of_ble_eq_true hi
 simp at hz
 omega
set_option maxRecDepth 100000 in
theorem bmount_fn (g:Geo) (d:Dk) (hg:okG g=true) (h:DkOk d) (hn:(d.cells.length:Int)=cellsN g) :
  ACalls Tryz.prog false 49 [.bp 0 0] (bwH g st0 d) fun r H=>r = .v (.int .i64 (mountM g d).2.1)∧H=bwG g (mountM g d).2.2 (mountM g d).1:=by
 obtain⟨g1,g2,g3,g4,g5⟩:=okG_iff.1 hg
 have hcg:=cells_ge hg
 have ha:=anchors_fn g st0 d hg h (by omega)
 unfold mountM
 by_cases hl:d.live g.an.toNat
 ·rw [if_pos hl]
  have hp:=pick_fn g (gotsD d (anAts g)) hg (by rw [gotsD_len,anAts_len];omega) (gotsD_short h _)
  have hpo:=fun {a j}=>pick_ok (g:=g) (l:=gotsD d (anAts g)) hg (gotsD d (anAts g)).length (a:=a) (j:=j)
  have hpo:∀ {a j},pickN g (gotsD d (anAts g))=some (a,j)→anOk g a=true:=hpo
  have hgl:(gotsD d (anAts g)).length=g.an.toNat:=by rw [gotsD_len,anAts_len]
  generalize gotsD d (anAts g)=L at ha hp hpo hgl ⊢
  have hd1:=h.adv g.an.toNat
  have hs1:=(adv_same g.an.toNat d).1
  generalize d.adv g.an.toNat=d1 at ha hd1 hs1 ⊢
  cases hP:pickN g L with
  | none=>
   rw [hP] at hp
   refine ACalls.ofR tys_ok Tryz.func49 rfl rfl (Nat.le_of_ble_eq_true rfl) ?_
   conv=>whnf
   refine ha.mono ?_
   rintro _ _ ⟨h1, -⟩
   obtain⟨rfl,rfl⟩:=h1 hl
   conv=>whnf
   refine ACalls.shut hp.go ?_
   conv=>whnf
   refine And.intro (by rw [List.length_map,hgl]) ?_
   conv=>whnf
   refine ACalls.sub [.ag (geoC g),gotsA L] ⟨fun _ _ h=>h,row_sub (f:=gotC) L hgl.symm rfl,trivial⟩ ?_
   refine Fn.closed (hp) rfl ?_
   rintro _ rfl
   conv=>whnf
   exact⟨_, .v (.int .i64 11),bwG g st0 d1,fun _ _ h=>h,WkN.rc (ConvF.ofH (ConvH.move 1 3 (by decide) rfl rfl)) (s:= [0,1,2,3,6]) ⟨⟨rfl,trivial⟩,⟨rfl,rfl,rfl,trivial,rfl,trivial⟩,rfl,rfl,rfl,rfl,rfl⟩,rfl,rfl⟩
  | some q=>
   obtain⟨a,j⟩:=q
   have hao:=hpo hP
   rw [hP] at hp
   replace hp:Fn Tryz.prog 112 [.ag (geoC g),gotsA L] (fun r=>r = .tp [.ag (anC a), .v (.int .i64 (j:Nat)), .v (.int .i64 0)]):=hp
   have hlg:=blog_fn g st0 d1 hg hd1 (by rw [hs1];exact hn)
   simp only
   unfold mount2
   by_cases hl2:d1.live (2*g.sl.toNat)
   ·rw [if_pos hl2]
    have hlA:(anAts g).length=g.an.toNat:=anAts_len g
    have hx1:(gotsD d1 (logAts g 0)).length=g.sl.toNat:=by rw [gotsD_len,logAts_len]
    have hx2:(gotsD d1 (logAts g 1)).length=g.sl.toNat:=by rw [gotsD_len,logAts_len]
    have hsc:=scan_fn g a (gotsD d1 (logAts g 0)) (gotsD d1 (logAts g 1)) (by have:=(anBk_len hg hao 0 (Nat.zero_le _)).2.2.2.1;omega) (by have:=(anBk_len hg hao 0 (Nat.zero_le _)).2.1;omega) (gotsD_short hd1 _) (gotsD_short hd1 _)
    have hlast:=scanM_last (x:=gotsD d1 (logAts g 0)) (y:=gotsD d1 (logAts g 1)) hg hao
    have hin:=scanW_in (x:=gotsD d1 (logAts g 0)) (y:=gotsD d1 (logAts g 1)) (n:=d1.cells.length) hg hao (by omega) (by omega) (by rw [hs1];exact hn)
    rw [scanA,if_pos (by rw [hg,hao];rfl),if_pos ⟨by omega,by omega⟩] at hsc
    generalize scanM g a (gotsD d1 (logAts g 0)) (gotsD d1 (logAts g 1))=S at hsc hlast hin ⊢
    obtain⟨T,W,e⟩:=S
    simp only at hsc hlast hin
    generalize gotsD d1 (logAts g 0)=X1 at hlg hx1 hsc
    generalize gotsD d1 (logAts g 1)=X2 at hlg hx2 hsc
    have hd2:=hd1.adv (2*g.sl.toNat)
    have hs2:=(adv_same (2*g.sl.toNat) d1).1
    generalize d1.adv (2*g.sl.toNat)=d2 at hlg hd2 hs2 ⊢
    unfold mount3
    by_cases he:e=0
    ·subst he
     rw [if_neg (by simp)]
     have hin:=hin rfl
     have hlast:=hlast rfl
     have hm:=mends_fn g st0 d2 W hd2 (by rw [hs2];exact hin.1) (by omega)
     have hdm:DkOk (d2.mend W).1∧(d2.mend W).1.cells.length=d2.cells.length:=by
      unfold Dk.mend
      split
      ·exact⟨hd2,rfl⟩
      ·exact putAll_ok hd2 (by rw [hs2];exact hin.1)
     simp only
     cases hM:(d2.mend W).2 with
     | true=>
      rw [hM,if_pos rfl] at hm
      rw [if_pos rfl]
      refine ACalls.ofR tys_ok Tryz.func49 rfl rfl (Nat.le_of_ble_eq_true rfl) ?_
      conv=>whnf
      refine ha.mono ?_
      rintro _ _ ⟨h1, -⟩
      obtain⟨rfl,rfl⟩:=h1 hl
      conv=>whnf
      refine ACalls.shut hp.go ?_
      conv=>whnf
      refine And.intro (by rw [List.length_map,hgl]) ?_
      conv=>whnf
      refine ACalls.sub [.ag (geoC g),gotsA L] ⟨fun _ _ h=>h,row_sub (f:=gotC) L hgl.symm rfl,trivial⟩ ?_
      refine Fn.closed (hp) rfl ?_
      rintro _ rfl
      conv=>whnf
      refine ACalls.frame [0,1,2,3] hlg rfl rfl rfl rfl (by decide) (lt0123 rfl) ⟨rfl,rfl,rfl,rfl,trivial⟩ ?_
      rintro _ _ ⟨h1, -⟩
      obtain⟨rfl,rfl⟩:=h1 hl2
      conv=>whnf
      apply aDraw.treeK (0) tys_ok mixed (.one 0 (.one 1 (.one 2 (.one 3 (.one 4 (.one 5 (.one 6 (.one 7 (.one 8 (.one 9 (.one 10 (.one 11 (.one 12 (.one 13 (.one 14 .fin))))))))))))))) (by kernel_rfl)
      conv=>whnf
      (refine ACalls.shut hsc.go ?_;(conv=>whnf);refine And.intro (by rw [List.length_map,hx1]) ?_;(conv=>whnf);refine And.intro (by rw [List.length_map,hx2]) ?_;(conv=>whnf);refine ACalls.sub [.ag (geoC g), .ag (anC a),gotsA X1,gotsA X2] ⟨fun _ _ h=>h,fun _ _ h=>h,row_sub (f:=gotC) X1 hx1.symm rfl,row_sub (f:=gotC) X2 hx2.symm rfl,trivial⟩ ?_;refine Fn.closed hsc rfl ?_;rintro _ rfl)
      conv=>whnf
      conv=>whnf
      refine ACalls.frame [0,1,2,3] hm rfl rfl rfl rfl (by decide) (lt0123 rfl) ⟨rfl,rfl,rfl,rfl,trivial⟩ ?_
      rintro _ _ ⟨rfl,rfl⟩
      conv=>whnf
      exact⟨_, .v (.int .i64 8),bwG g st0 (d2.mend W).1,fun _ _ h=>h,WkN.r (s:= [0,1,2,3,8]) ⟨⟨rfl,trivial⟩,⟨rfl,rfl,rfl,trivial,rfl,trivial⟩,rfl,rfl,rfl,rfl,rfl⟩,rfl,rfl⟩
     | false=>
      rw [hM,if_neg (by decide)] at hm
      rw [if_neg (by decide)]
      generalize (d2.mend W).1=d3 at hm hdm ⊢
      have hpa:=anOk_parts hao
      unfold mount4
      by_cases hmx:a.gen=4294967295∨a.epoch=4294967295
      ·rw [if_pos hmx]
       refine ACalls.ofR tys_ok Tryz.func49 rfl rfl (Nat.le_of_ble_eq_true rfl) ?_
       conv=>whnf
       refine ha.mono ?_
       rintro _ _ ⟨h1, -⟩
       obtain⟨rfl,rfl⟩:=h1 hl
       conv=>whnf
       refine ACalls.shut hp.go ?_
       conv=>whnf
       refine And.intro (by rw [List.length_map,hgl]) ?_
       conv=>whnf
       refine ACalls.sub [.ag (geoC g),gotsA L] ⟨fun _ _ h=>h,row_sub (f:=gotC) L hgl.symm rfl,trivial⟩ ?_
       refine Fn.closed (hp) rfl ?_
       rintro _ rfl
       conv=>whnf
       refine ACalls.frame [0,1,2,3] hlg rfl rfl rfl rfl (by decide) (lt0123 rfl) ⟨rfl,rfl,rfl,rfl,trivial⟩ ?_
       rintro _ _ ⟨h1, -⟩
       obtain⟨rfl,rfl⟩:=h1 hl2
       conv=>whnf
       apply aDraw.treeK (0) tys_ok mixed (.one 0 (.one 1 (.one 2 (.one 3 (.one 4 (.one 5 (.one 6 (.one 7 (.one 8 (.one 9 (.one 10 (.one 11 (.one 12 (.one 13 (.one 14 .fin))))))))))))))) (by kernel_rfl)
       conv=>whnf
       (refine ACalls.shut hsc.go ?_;(conv=>whnf);refine And.intro (by rw [List.length_map,hx1]) ?_;(conv=>whnf);refine And.intro (by rw [List.length_map,hx2]) ?_;(conv=>whnf);refine ACalls.sub [.ag (geoC g), .ag (anC a),gotsA X1,gotsA X2] ⟨fun _ _ h=>h,fun _ _ h=>h,row_sub (f:=gotC) X1 hx1.symm rfl,row_sub (f:=gotC) X2 hx2.symm rfl,trivial⟩ ?_;refine Fn.closed hsc rfl ?_;rintro _ rfl)
       conv=>whnf
       conv=>whnf
       refine ACalls.frame [0,1,2,3] hm rfl rfl rfl rfl (by decide) (lt0123 rfl) ⟨rfl,rfl,rfl,rfl,trivial⟩ ?_
       rintro _ _ ⟨rfl,rfl⟩
       conv=>whnf
       refine boolK_intro (fun _=>?_) (fun q1=>?_)
       ·conv=>whnf
        exact⟨_, .v (.int .i64 14),bwG g st0 d3,fun _ _ h=>h,WkN.r (s:= [0,1,2,3,8]) ⟨⟨rfl,trivial⟩,⟨rfl,rfl,rfl,trivial,rfl,trivial⟩,rfl,rfl,rfl,rfl,rfl⟩,rfl,rfl⟩
       ·conv=>whnf
        refine boolK_intro (fun _=>?_) (fun q2=>by
         exfalso
         rcases hmx with e | e
         ·rw [e] at q1;exact absurd q1 (by decide)
         ·rw [e] at q2;exact absurd q2 (by decide))
        conv=>whnf
        exact⟨_, .v (.int .i64 14),bwG g st0 d3,fun _ _ h=>h,WkN.r (s:= [0,1,2,3,8]) ⟨⟨rfl,trivial⟩,⟨rfl,rfl,rfl,trivial,rfl,trivial⟩,rfl,rfl,rfl,rfl,rfl⟩,rfl,rfl⟩
      ·rw [if_neg hmx]
       have hna:=nextA_ok (n:=T.length) hao (fun e=>hmx (.inl e)) (fun e=>hmx (.inr e)) hlast.2
       have hban:=banchors_fn g st0 d3 (nextA a T.length) hg hna hdm.1 (anCells_in hg hna (by rw [hdm.2,hs2,hs1];exact hn))
       have b1:(a.gen == 4294967295)=false:=beq_eq_false_iff_ne.2 fun e=>hmx (.inl e)
       have b2:(a.epoch == 4294967295)=false:=beq_eq_false_iff_ne.2 fun e=>hmx (.inr e)
       have w1:IntKind.i64.wrap (a.gen+1)=a.gen+1:=wi (by omega)
       have w2:IntKind.i64.wrap (a.epoch+1)=a.epoch+1:=wi (by omega)
       have w3:IntKind.i64.wrap (IntKind.i64.wrap (a.seq+T.length) - 1)=a.seq+T.length - 1:=by
        rw [wi (n:=a.seq+T.length) (by omega)];exact wi (by omega)
       generalize hQ:d3.putAll (anCells g (nextA a T.length))=Q at hban ⊢
       obtain⟨d4,n,dead⟩:=Q
       simp only
       cases dead with
       | true=>
        rw [if_pos rfl]
        refine ACalls.ofR tys_ok Tryz.func49 rfl rfl (Nat.le_of_ble_eq_true rfl) ?_
        conv=>whnf
        refine ha.mono ?_
        rintro _ _ ⟨h1, -⟩
        obtain⟨rfl,rfl⟩:=h1 hl
        conv=>whnf
        refine ACalls.shut hp.go ?_
        conv=>whnf
        refine And.intro (by rw [List.length_map,hgl]) ?_
        conv=>whnf
        refine ACalls.sub [.ag (geoC g),gotsA L] ⟨fun _ _ h=>h,row_sub (f:=gotC) L hgl.symm rfl,trivial⟩ ?_
        refine Fn.closed (hp) rfl ?_
        rintro _ rfl
        conv=>whnf
        refine ACalls.frame [0,1,2,3] hlg rfl rfl rfl rfl (by decide) (lt0123 rfl) ⟨rfl,rfl,rfl,rfl,trivial⟩ ?_
        rintro _ _ ⟨h1, -⟩
        obtain⟨rfl,rfl⟩:=h1 hl2
        conv=>whnf
        apply aDraw.treeK (0) tys_ok mixed (.one 0 (.one 1 (.one 2 (.one 3 (.one 4 (.one 5 (.one 6 (.one 7 (.one 8 (.one 9 (.one 10 (.one 11 (.one 12 (.one 13 (.one 14 .fin))))))))))))))) (by kernel_rfl)
        conv=>whnf
        (refine ACalls.shut hsc.go ?_;(conv=>whnf);refine And.intro (by rw [List.length_map,hx1]) ?_;(conv=>whnf);refine And.intro (by rw [List.length_map,hx2]) ?_;(conv=>whnf);refine ACalls.sub [.ag (geoC g), .ag (anC a),gotsA X1,gotsA X2] ⟨fun _ _ h=>h,fun _ _ h=>h,row_sub (f:=gotC) X1 hx1.symm rfl,row_sub (f:=gotC) X2 hx2.symm rfl,trivial⟩ ?_;refine Fn.closed hsc rfl ?_;rintro _ rfl)
        conv=>whnf
        conv=>whnf
        refine ACalls.frame [0,1,2,3] hm rfl rfl rfl rfl (by decide) (lt0123 rfl) ⟨rfl,rfl,rfl,rfl,trivial⟩ ?_
        rintro _ _ ⟨rfl,rfl⟩
        conv=>whnf
        rw [b1]
        conv=>whnf
        rw [b2]
        conv=>whnf
        rw [w1,w2,w3]
        refine ACalls.frame [0,1,2,8] hban rfl rfl rfl rfl (by decide) (lt0124 rfl rfl) ⟨rfl,rfl,rfl,rfl,trivial⟩ ?_
        rintro _ _ ⟨rfl,rfl⟩
        conv=>whnf
        exact⟨_, .v (.int .i64 8),bwG g st0 d4,fun _ _ h=>h,WkN.r (s:= [0,1,2,3,9]) ⟨⟨rfl,trivial⟩,⟨rfl,rfl,rfl,trivial,rfl,trivial⟩,rfl,rfl,rfl,rfl,rfl⟩,rfl,rfl⟩
       | false=>
        rw [if_neg (by decide)]
        simp only [Bool.false_eq_true,if_false] at hban
        by_cases hn0:n=0
        ·subst hn0
         rw [if_pos rfl]
         refine ACalls.ofR tys_ok Tryz.func49 rfl rfl (Nat.le_of_ble_eq_true rfl) ?_
         conv=>whnf
         refine ha.mono ?_
         rintro _ _ ⟨h1, -⟩
         obtain⟨rfl,rfl⟩:=h1 hl
         conv=>whnf
         refine ACalls.shut hp.go ?_
         conv=>whnf
         refine And.intro (by rw [List.length_map,hgl]) ?_
         conv=>whnf
         refine ACalls.sub [.ag (geoC g),gotsA L] ⟨fun _ _ h=>h,row_sub (f:=gotC) L hgl.symm rfl,trivial⟩ ?_
         refine Fn.closed (hp) rfl ?_
         rintro _ rfl
         conv=>whnf
         refine ACalls.frame [0,1,2,3] hlg rfl rfl rfl rfl (by decide) (lt0123 rfl) ⟨rfl,rfl,rfl,rfl,trivial⟩ ?_
         rintro _ _ ⟨h1, -⟩
         obtain⟨rfl,rfl⟩:=h1 hl2
         conv=>whnf
         apply aDraw.treeK (0) tys_ok mixed (.one 0 (.one 1 (.one 2 (.one 3 (.one 4 (.one 5 (.one 6 (.one 7 (.one 8 (.one 9 (.one 10 (.one 11 (.one 12 (.one 13 (.one 14 .fin))))))))))))))) (by kernel_rfl)
         conv=>whnf
         (refine ACalls.shut hsc.go ?_;(conv=>whnf);refine And.intro (by rw [List.length_map,hx1]) ?_;(conv=>whnf);refine And.intro (by rw [List.length_map,hx2]) ?_;(conv=>whnf);refine ACalls.sub [.ag (geoC g), .ag (anC a),gotsA X1,gotsA X2] ⟨fun _ _ h=>h,fun _ _ h=>h,row_sub (f:=gotC) X1 hx1.symm rfl,row_sub (f:=gotC) X2 hx2.symm rfl,trivial⟩ ?_;refine Fn.closed hsc rfl ?_;rintro _ rfl)
         conv=>whnf
         conv=>whnf
         refine ACalls.frame [0,1,2,3] hm rfl rfl rfl rfl (by decide) (lt0123 rfl) ⟨rfl,rfl,rfl,rfl,trivial⟩ ?_
         rintro _ _ ⟨rfl,rfl⟩
         conv=>whnf
         rw [b1]
         conv=>whnf
         rw [b2]
         conv=>whnf
         rw [w1,w2,w3]
         refine ACalls.frame [0,1,2,8] hban rfl rfl rfl rfl (by decide) (lt0124 rfl rfl) ⟨rfl,rfl,rfl,rfl,trivial⟩ ?_
         rintro _ _ ⟨rfl,rfl⟩
         conv=>whnf
         exact⟨_, .v (.int .i64 14),bwG g st0 d4,fun _ _ h=>h,WkN.r (s:= [0,1,2,3,9]) ⟨⟨rfl,trivial⟩,⟨rfl,rfl,rfl,trivial,rfl,trivial⟩,rfl,rfl,rfl,rfl,rfl⟩,rfl,rfl⟩
        ·rw [if_neg hn0]
         have hnb:((n:Int) == 0)=false:=beq_eq_false_iff_ne.2 (by omega)
         refine ACalls.ofR tys_ok Tryz.func49 rfl rfl (Nat.le_of_ble_eq_true rfl) ?_
         conv=>whnf
         refine ha.mono ?_
         rintro _ _ ⟨h1, -⟩
         obtain⟨rfl,rfl⟩:=h1 hl
         conv=>whnf
         refine ACalls.shut hp.go ?_
         conv=>whnf
         refine And.intro (by rw [List.length_map,hgl]) ?_
         conv=>whnf
         refine ACalls.sub [.ag (geoC g),gotsA L] ⟨fun _ _ h=>h,row_sub (f:=gotC) L hgl.symm rfl,trivial⟩ ?_
         refine Fn.closed (hp) rfl ?_
         rintro _ rfl
         conv=>whnf
         refine ACalls.frame [0,1,2,3] hlg rfl rfl rfl rfl (by decide) (lt0123 rfl) ⟨rfl,rfl,rfl,rfl,trivial⟩ ?_
         rintro _ _ ⟨h1, -⟩
         obtain⟨rfl,rfl⟩:=h1 hl2
         conv=>whnf
         apply aDraw.treeK (0) tys_ok mixed (.one 0 (.one 1 (.one 2 (.one 3 (.one 4 (.one 5 (.one 6 (.one 7 (.one 8 (.one 9 (.one 10 (.one 11 (.one 12 (.one 13 (.one 14 .fin))))))))))))))) (by kernel_rfl)
         conv=>whnf
         (refine ACalls.shut hsc.go ?_;(conv=>whnf);refine And.intro (by rw [List.length_map,hx1]) ?_;(conv=>whnf);refine And.intro (by rw [List.length_map,hx2]) ?_;(conv=>whnf);refine ACalls.sub [.ag (geoC g), .ag (anC a),gotsA X1,gotsA X2] ⟨fun _ _ h=>h,fun _ _ h=>h,row_sub (f:=gotC) X1 hx1.symm rfl,row_sub (f:=gotC) X2 hx2.symm rfl,trivial⟩ ?_;refine Fn.closed hsc rfl ?_;rintro _ rfl)
         conv=>whnf
         conv=>whnf
         refine ACalls.frame [0,1,2,3] hm rfl rfl rfl rfl (by decide) (lt0123 rfl) ⟨rfl,rfl,rfl,rfl,trivial⟩ ?_
         rintro _ _ ⟨rfl,rfl⟩
         conv=>whnf
         rw [b1]
         conv=>whnf
         rw [b2]
         conv=>whnf
         rw [w1,w2,w3]
         refine ACalls.frame [0,1,2,8] hban rfl rfl rfl rfl (by decide) (lt0124 rfl rfl) ⟨rfl,rfl,rfl,rfl,trivial⟩ ?_
         rintro _ _ ⟨rfl,rfl⟩
         conv=>whnf
         rw [hnb]
         conv=>whnf
         refine⟨_, .v (.int .i64 0),bwG g (stOf (nextA a T.length) T) d4,fun _ _ h=>h,WkN.rc (ConvF.ofH (ConvH.subBox (cs':=bwC g (.bp 1 0) (stOf (nextA a T.length) T)) 0 rfl ?_)) (s:= [0,1,2,3,9]) ⟨⟨rfl,trivial⟩,⟨rfl,rfl,rfl,trivial,rfl,trivial⟩,rfl,rfl,rfl,rfl,rfl⟩,rfl,rfl⟩
         exact⟨fun _ _ h=>h,fun _ _ h=>h,fun _ _ h=>h,fun _ _ h=>h,fun _ _ h=>h,fun _ _ h=>h,fun _ _ h=>h,fun _ _ h=>h,fun _ _ h=>h,fun _ _ h=>h,fun _ _ h=>h,fun _ _ h=>h,fun _ _ h=>h,fun _ _ h=>h,fun _ _ h=>h,fun _ _ h=>h,fun _ _ h=>h,fun _ _ h=>h,fun _ _ h=>h,nil_sl 1 _,trivial⟩
    ·rw [if_pos (by simpa using he)]
     have hb:(e != 0)=true:=bne_iff_ne.2 he
     refine ACalls.ofR tys_ok Tryz.func49 rfl rfl (Nat.le_of_ble_eq_true rfl) ?_
     conv=>whnf
     refine ha.mono ?_
     rintro _ _ ⟨h1, -⟩
     obtain⟨rfl,rfl⟩:=h1 hl
     conv=>whnf
     refine ACalls.shut hp.go ?_
     conv=>whnf
     refine And.intro (by rw [List.length_map,hgl]) ?_
     conv=>whnf
     refine ACalls.sub [.ag (geoC g),gotsA L] ⟨fun _ _ h=>h,row_sub (f:=gotC) L hgl.symm rfl,trivial⟩ ?_
     refine Fn.closed (hp) rfl ?_
     rintro _ rfl
     conv=>whnf
     refine ACalls.frame [0,1,2,3] hlg rfl rfl rfl rfl (by decide) (lt0123 rfl) ⟨rfl,rfl,rfl,rfl,trivial⟩ ?_
     rintro _ _ ⟨h1, -⟩
     obtain⟨rfl,rfl⟩:=h1 hl2
     conv=>whnf
     apply aDraw.treeK (0) tys_ok mixed (.one 0 (.one 1 (.one 2 (.one 3 (.one 4 (.one 5 (.one 6 (.one 7 (.one 8 (.one 9 (.one 10 (.one 11 (.one 12 (.one 13 (.one 14 .fin))))))))))))))) (by kernel_rfl)
     conv=>whnf
     (refine ACalls.shut hsc.go ?_;(conv=>whnf);refine And.intro (by rw [List.length_map,hx1]) ?_;(conv=>whnf);refine And.intro (by rw [List.length_map,hx2]) ?_;(conv=>whnf);refine ACalls.sub [.ag (geoC g), .ag (anC a),gotsA X1,gotsA X2] ⟨fun _ _ h=>h,fun _ _ h=>h,row_sub (f:=gotC) X1 hx1.symm rfl,row_sub (f:=gotC) X2 hx2.symm rfl,trivial⟩ ?_;refine Fn.closed hsc rfl ?_;rintro _ rfl)
     conv=>whnf
     rw [hb]
     conv=>whnf
     exact⟨_, .v (.int .i64 e),bwG g st0 d2,fun _ _ h=>h,WkN.rc (ConvF.ofH (ConvH.move 1 3 (by decide) rfl rfl)) (s:= [0,1,2,3,8]) ⟨⟨rfl,trivial⟩,⟨rfl,rfl,rfl,trivial,rfl,trivial⟩,rfl,rfl,rfl,rfl,rfl⟩,rfl,rfl⟩
   ·rw [if_neg hl2]
    refine ACalls.ofR tys_ok Tryz.func49 rfl rfl (Nat.le_of_ble_eq_true rfl) ?_
    conv=>whnf
    refine ha.mono ?_
    rintro _ _ ⟨h1, -⟩
    obtain⟨rfl,rfl⟩:=h1 hl
    conv=>whnf
    refine ACalls.shut hp.go ?_
    conv=>whnf
    refine And.intro (by rw [List.length_map,hgl]) ?_
    conv=>whnf
    refine ACalls.sub [.ag (geoC g),gotsA L] ⟨fun _ _ h=>h,row_sub (f:=gotC) L hgl.symm rfl,trivial⟩ ?_
    refine Fn.closed (hp) rfl ?_
    rintro _ rfl
    conv=>whnf
    refine ACalls.frame [0,1,2,3] hlg rfl rfl rfl rfl (by decide) (lt0123 rfl) ⟨rfl,rfl,rfl,rfl,trivial⟩ ?_
    rintro _ _ ⟨-,h1⟩
    obtain⟨rfl,rfl⟩:=h1 hl2
    conv=>whnf
    exact⟨_, .v (.int .i64 8),bwG g st0 (d1.adv (2*g.sl.toNat)),fun _ _ h=>h,WkN.rc (ConvF.ofH (ConvH.move 1 3 (by decide) rfl rfl)) (s:= [0,1,2,3,6]) ⟨⟨rfl,trivial⟩,⟨rfl,rfl,rfl,trivial,rfl,trivial⟩,rfl,rfl,rfl,rfl,rfl⟩,rfl,rfl⟩
 ·rw [if_neg hl]
  refine ACalls.ofR tys_ok Tryz.func49 rfl rfl (Nat.le_of_ble_eq_true rfl) ?_
  conv=>whnf
  refine ha.mono ?_
  rintro _ _ ⟨-,h1⟩
  obtain⟨rfl,rfl⟩:=h1 hl
  conv=>whnf
  exact⟨_, .v (.int .i64 8),bwG g st0 (d.adv g.an.toNat),fun _ _ h=>h,WkN.rc (ConvF.ofH (bwG_of g st0 _)) (s:= [0,1,2,3,4]) ⟨⟨rfl,trivial⟩,⟨rfl,rfl,rfl,trivial,rfl,trivial⟩,rfl,rfl,rfl,rfl,rfl⟩,rfl,rfl⟩
theorem ACalls.pre {P:Program} {q:Bool} {f:FuncId} {args:List AV} {H H':List AB} {K:AV→List AB→Prop} (h:ConvH H H') (k:ACalls P q f args H' K):ACalls P q f args H K:=by
 refine⟨k.go,fun w0 M0 c us hs hr=>?_⟩
 obtain⟨c1,e1,s1,x1⟩:=h w0 M0 c hs
 have:=k.calls w0 M0 c1 us s1 (RdL.ext _ x1 hr)
 rw [e1] at this
 refine this.mono ?_
 rintro e w' ⟨v,c',r,H2,rfl,rfl,q1,q2,q3,q4,q5⟩
 exact⟨v,c',r,H2,rfl,rfl,q1,q2,x1.trans q3,q4,q5⟩
theorem setow_lt {es:List (List AV)} {i m:Nat} {e:List AV} (h:∀ x∈es,AV.ltL x 0=true) (he:AV.ltL e m=true):AV.ltL (es.set i e).flatten m=true:=by
 rw [ltL_iff]
 intro x hx
 obtain⟨y,hy,hx'⟩:=List.mem_flatten.1 hx
 rcases List.mem_or_eq_of_mem_set hy with hy | rfl
 ·exact AV.lt_mono x (Nat.zero_le _) (ltL_iff.1 (h y hy) x hx')
 ·exact ltL_iff.1 he x hx'
theorem setow_ren {es:List (List AV)} {i:Nat} {e:List AV} {f:Nat→Nat} (h:∀ x∈es,AV.ltL x 0=true) (he:AV.renL f e=e):(es.set i e).map (AV.renL f)=es.set i e:=by
 rw [List.map_set,he]
 congr 1
 conv=>rhs;rw [←List.map_id es]
 refine List.map_congr_left fun x hx=>?_
 exact AV.renL_id x (h x hx)
theorem tx_lt (l:List Tx):∀ x∈l.map txC,AV.ltL x 0=true:=by
 intro x hx
 obtain⟨t,_,rfl⟩:=List.mem_map.1 hx
 rfl
def txO (t:Tx) (k:Nat):List AV:= [.v (.int .i64 t.seq), .v (.int .i64 t.pos), .v (.int .i64 t.n), .ow k t.images.length]
theorem slin_tx {k n:Nat} {s:AV} (l:List Tx):(l.map txC).map (List.map (AV.slIn k n s))=l.map txC:=by
 rw [List.map_map]
 exact List.map_congr_left fun t _=>rfl
theorem slin_set (l:List Tx) (k:Nat) (t:Tx) (s:AV):((l.map txC).set k (txO t 1)).map (List.map (AV.slIn 1 (t.images.map imgC).length s))=(l.map txC).set k [.v (.int .i64 t.seq), .v (.int .i64 t.pos), .v (.int .i64 t.n),s]:=by
 rw [List.map_set,slin_tx]
 congr 1
 simp [txO,AV.slIn]
theorem over_conv {l:List Tx} {k:Nat} {t:Tx} (hk:k<l.length) (ht:t=l.getD k ⟨0,0,0, []⟩):ConvH [.rowo 78 4 ((l.map txC).set k (txO t 1)) 2, .row 83 3 (t.images.map imgC)] [.row 78 4 (l.map txC), .dead]:=by
 refine(ConvH.sealIn (H:= [.rowo 78 4 ((l.map txC).set k (txO t 1)) 2, .row 83 3 (t.images.map imgC)]) 0 1 rfl rfl (slin_set l k t _)).trans ?_
 refine(ConvH.row (k:=0) rfl (setow_lt (tx_lt l) rfl)).trans ?_
 refine ConvH.subRow (k:=0) (es':=l.map txC) rfl (by simp) fun i=>?_
 refine set_same (f:=txC) (d:=(⟨0,0,0, []⟩:Tx)) hk ?_ i
 rw [←ht]
 exact⟨fun _ _ h=>h,fun _ _ h=>h,fun _ _ h=>h,row_sub (f:=imgC) t.images (List.length_map _) rfl,trivial⟩
set_option maxRecDepth 100000 in
theorem over_fn (l:List Tx) (hl:l.length≤1000000) (hi:∀ t∈l,t.images.length≤1000000∧∀ x∈t.images,x.bytes.length≤1000000000):Fn Tryz.prog 117 [txsA l] fun r=>r=txsA l:=by
 have hc:=txclo_own l (by omega)
 refine Fn.of tys_ok Tryz.func117 rfl rfl (Nat.le_of_ble_eq_true rfl) ?_
 conv=>whnf
 refine ACalls.beside hc rfl ?_
 rintro _ _ ⟨rfl,rfl⟩
 conv=>whnf
 refine aLoop.ruleRR Nat (fun k=>([(0, .ow 0 l.length),(9, .v (.int .i64 l.length)),(10, .v (.int .i64 k))], [.row 78 4 (l.map txC)])) (fun k=>k≤l.length) (fun k=>l.length - k) 0 (Nat.zero_le _)
  (WkN.r (s:= [0]) ⟨⟨rfl,rfl,rfl,trivial⟩,⟨rfl,trivial⟩,rfl,rfl,rfl,rfl,rfl⟩) ?_
 intro k hk
 conv=>whnf
 refine boolI (fun h6=>?_) (fun h6=>?_) <;> (repeat rw [Int.toNat_natCast] at h6) <;> conv=>whnf
 ·have hk':k<l.length:=by omega
  have hm:=hi _ (getD_mem (d:=(⟨0,0,0, []⟩:Tx)) hk')
  have hE:(l.map txC).getD (k:Int).toNat []=txC (l.getD k ⟨0,0,0, []⟩):=by rw [Int.toNat_natCast];exact map_getD hk'
  have ho:=imclo_own (l.getD k ⟨0,0,0, []⟩).images (by omega)
  repeat' (first | (refine aSeq.go ?_;conv=>whnf) | fail)
  refine And.intro ⟨by omega,by omega⟩ ?_
  conv=>whnf
  refine And.intro ⟨rfl,(List.length_map _).symm,by rw [Int.toNat_natCast];exact hk'⟩ ?_
  conv=>whnf
  rw [hE]
  conv=>whnf
  refine ACalls.pre (ConvH.rowo (k:=0) rfl) ?_
  refine ACalls.beside ho rfl ?_
  rintro _ _ ⟨rfl,rfl⟩
  conv=>whnf
  refine And.intro ⟨by omega,by omega⟩ ?_
  conv=>whnf
  refine And.intro ⟨rfl,(List.length_map _).symm,by rw [Int.toNat_natCast];exact hk'⟩ ?_
  conv=>whnf
  rw [hE]
  conv=>whnf
  refine And.intro ⟨by omega,by omega⟩ ?_
  conv=>whnf
  refine And.intro ⟨rfl,by rw [List.length_set,List.length_map],by rw [Int.toNat_natCast];exact hk'⟩ ?_
  conv=>whnf
  rw [set_getD_eq (by rw [Int.toNat_natCast,List.length_map];exact hk')]
  conv=>whnf
  obtain⟨t,ht⟩:∃ t,t=l.getD k ⟨0,0,0, []⟩:=⟨_,rfl⟩
  rw [←ht] at hm hE ⊢
  have hS:∀ x∈l.map txC,AV.ltL x 0=true:=tx_lt l
  have hro:AV.ltL ((l.map txC).set k (txO t 1)).flatten 2=true:=setow_lt hS rfl
  refine aLoop.ruleRR Nat (fun j=>([(0, .ow 0 l.length),(3, .v (.int .i64 k)),(9, .v (.int .i64 l.length)),(10, .v (.int .i64 k)),(27, .ow 1 t.images.length),(28, .v (.int .i64 t.images.length)),(29, .v (.int .i64 j))], [.rowo 78 4 ((l.map txC).set k (txO t 1)) 2, .row 83 3 (t.images.map imgC)])) (fun j=>j≤t.images.length) (fun j=>t.images.length - j) 0 (Nat.zero_le _)
   (WkN.r (s:= [0,1]) ⟨⟨rfl,rfl,rfl,rfl,rfl,rfl,rfl,trivial⟩,⟨⟨hro,_,by rw [setow_ren hS rfl];rfl⟩,rfl,trivial⟩,rfl,rfl,rfl,rfl,rfl⟩) ?_
  intro j hj
  conv=>whnf
  refine boolI (fun h7=>?_) (fun h7=>?_) <;> (repeat rw [Int.toNat_natCast] at h7) <;> conv=>whnf
  ·have hj':j<t.images.length:=by omega
   have hF:(t.images.map imgC).getD (j:Int).toNat []=imgC (t.images.getD j ⟨0,0, []⟩):=by rw [Int.toNat_natCast];exact map_getD hj'
   have hG:((l.map txC).set k (txO t 1)).getD (k:Int).toNat []=txO t 1:=by rw [Int.toNat_natCast];exact set_getD_eq (by rw [List.length_map];exact hk')
   have b1:=bclone_fn (t.images.getD j ⟨0,0, []⟩).bytes (hm.2 _ (getD_mem hj'))
   refine And.intro ⟨by omega,by omega⟩ ?_
   conv=>whnf
   refine And.intro ⟨rfl,(List.length_map _).symm,by rw [Int.toNat_natCast];exact hj'⟩ ?_
   conv=>whnf
   rw [hF]
   conv=>whnf
   apply aDraw.treeK (0) tys_ok mixed (.one 0 (.one 1 (.one 2 (.one 3 (.one 4 (.one 5 (.one 6 (.one 7 (.one 8 (.one 9 (.one 10 (.one 11 .fin)))))))))))) (by kernel_rfl)
   conv=>whnf
   try (refine And.intro (by first | omega | (simp;done)) ?_;conv=>whnf)
   try (first | (refine And.intro ⟨rfl,by rw [List.length_set,List.length_map],by rw [Int.toNat_natCast];exact hk'⟩ ?_;(conv=>whnf);rw [hG]) | skip;conv=>whnf)
   try (first | (refine And.intro ⟨rfl,by rw [List.length_set,List.length_map],by rw [Int.toNat_natCast];exact hk'⟩ ?_;(conv=>whnf);rw [hG]) | skip;conv=>whnf)
   refine Fn.closed (b1) rfl ?_
   rintro _ rfl
   conv=>whnf
   try (refine And.intro (by first | omega | (simp;done)) ?_;conv=>whnf)
   try (refine And.intro ⟨rfl,by first | rfl | (simp;done) | (simp;omega),by first | omega | (simp;omega)⟩ ?_;conv=>whnf)
   (first | rw [hF] | skip)
   conv=>whnf
   all_goals refine⟨j+1,hj',by omega,WkN.rc (ConvF.ofH (ConvH.subRow (k:=1) rfl (es':=t.images.map imgC) (by simp) ?_)) (s:= [0,1]) ⟨⟨rfl,rfl,rfl,rfl,rfl,rfl,wsucc (by omega),trivial⟩,⟨⟨hro,_,by rw [setow_ren hS rfl];rfl⟩,rfl,trivial⟩,rfl,rfl,rfl,rfl,rfl⟩⟩
   all_goals
    intro i
    rw [Int.toNat_natCast]
    refine set_same (f:=imgC) (d:=(⟨0,0, []⟩:Img)) hj' ?_ i
    exact⟨fun _ _ h=>h,fun _ _ h=>h,fun _ _ h=>h,trivial⟩
  ·exact⟨k+1,hk',by omega,WkN.rc (ConvF.ofH (over_conv hk' ht)) (s:= [0]) ⟨⟨rfl,rfl,wsucc (by omega),trivial⟩,⟨rfl,trivial⟩,rfl,rfl,rfl,rfl,rfl⟩⟩
 ·refine And.intro (List.length_map _).symm ?_
  conv=>whnf
  exact⟨txsA l,row_sub (f:=txC) l rfl rfl,rfl⟩
theorem scanM_imgs {g:Geo} {a:An} {x y:List Gt} (hg:okG g=true) (ha:anOk g a=true):(scanM g a x y).1.length≤30∧∀ t∈(scanM g a x y).1,t.images.length≤30∧∀ i∈t.images,i.bytes.length≤59:=by
 obtain⟨h1,h2,h3,h4,h5⟩:=okG_iff.1 hg
 unfold scanM
 cases hR:scanL g a x y g.sl.toNat a.pos a.seq g.sl [] [] with
 | none=>exact⟨by simp [finM],by simp [finM]⟩
 | some R=>
  obtain⟨l',w',seq'⟩:=R
  have:=scanL_imgs hg _ _ _ _ _ _ (anOk_seq ha).2 (by simp) hR
  by_cases hl:seq' - 1<a.last
  ·rw [finM_pos hl];exact⟨by simp,by simp⟩
  ·rw [finM_neg hl]
   refine⟨?_,this.2⟩
   have:=this.1
   simp only [List.length_nil] at this
   dsimp only
   omega
structure StSm (s:Stt):Prop where
 h:s.a.homes.length≤4∧∀ h∈s.a.homes,h.places.length≤1000000
 l:s.a.label.size≤24
 t:s.txns.length≤30∧∀ t∈s.txns,t.images.length≤30∧∀ i∈t.images,i.bytes.length≤59
 o:s.lost.length≤1000000
theorem st0_sm:StSm st0:=⟨⟨by simp [st0,an0],by simp [st0,an0]⟩,by show (0:Nat)≤24;omega,⟨by simp [st0],by simp [st0]⟩,by simp [st0]⟩
theorem stOf_sm {g:Geo} {a:An} {t:List Tx} (hg:okG g=true) (ha:anOk g a=true) (ht:t.length≤30∧∀ x∈t,x.images.length≤30∧∀ i∈x.images,i.bytes.length≤59) (n:Nat):StSm (stOf (nextA a n) t):=
 ⟨⟨(anBk_len hg ha 0 (Nat.zero_le _)).2.1,fun h hh=>anOk_places hg ha h hh⟩,(anBk_len hg ha 0 (Nat.zero_le _)).2.2.2.1,ht,by simp [stOf]⟩
theorem mountM_sm {g:Geo} {d:Dk} (hg:okG g=true):StSm (mountM g d).2.2:=by
 unfold mountM
 split
 ·have hpo:=fun {a j}=>pick_ok (g:=g) (l:=gotsD d (anAts g)) hg (gotsD d (anAts g)).length (a:=a) (j:=j)
  have hpo:∀ {a j},pickN g (gotsD d (anAts g))=some (a,j)→anOk g a=true:=hpo
  cases hP:pickN g (gotsD d (anAts g)) with
  | none=>exact st0_sm
  | some q=>
   obtain⟨a,j⟩:=q
   have ha:=hpo hP
   simp only
   unfold mount2
   split
   ·have hi:=scanM_imgs (x:=gotsD (d.adv g.an.toNat) (logAts g 0)) (y:=gotsD (d.adv g.an.toNat) (logAts g 1)) hg ha
    generalize scanM g a (gotsD (d.adv g.an.toNat) (logAts g 0)) (gotsD (d.adv g.an.toNat) (logAts g 1))=S at hi ⊢
    unfold mount3
    split
    ·exact st0_sm
    ·split
     ·exact st0_sm
     ·unfold mount4
      split
      ·exact st0_sm
      ·simp only
       split
       ·exact st0_sm
       ·split
        ·exact st0_sm
        ·exact stOf_sm hg ha hi _
   ·exact st0_sm
 ·exact st0_sm
set_option maxRecDepth 100000 in
theorem btwin_fn (s:Stt) (h:StSm s):Fn Tryz.prog 51 [.ag (stC s)] fun r=>r = .ag (stC s):=by
 have c1:=atwin_fn s.a (by have:=h.h.1;omega) h.h.2
 have c2:=over_fn s.txns (by have:=h.t.1;omega) (fun t ht=>⟨by have:=(h.t.2 t ht).1;omega,fun x hx=>by have:=(h.t.2 t ht).2 x hx;omega⟩)
 have c3:=iclo_own s.lost (by have:=h.o;omega)
 refine Fn.of tys_ok Tryz.func51 rfl rfl (Nat.le_of_ble_eq_true rfl) ?_
 conv=>whnf
 apply aDraw.treeK (0) tys_ok mixed (.one 0 (.one 1 (.one 3 (.one 4 (.one 6 (.one 7 (.one 8 (.one 2 (.one 10 (.one 5 (.one 9 (.one 11 (.one 12 (.one 13 (.one 14 (.one 15 (.one 16 .fin))))))))))))))))) (by kernel_rfl)
 conv=>whnf
 refine Fn.closed (c1) rfl ?_
 rintro _ rfl
 conv=>whnf
 refine Fn.closed (c2) rfl ?_
 rintro _ rfl
 conv=>whnf
 (refine ACalls.beside c3 rfl ?_;rintro _ _ ⟨rfl,rfl⟩)
 conv=>whnf
 try (refine And.intro ⟨rfl,by first | rfl | (simp;done) | (simp;omega),by first | omega | (simp;omega)⟩ ?_;conv=>whnf)
 try (refine And.intro ⟨rfl,by first | rfl | (simp;done) | (simp;omega),by first | omega | (simp;omega)⟩ ?_;conv=>whnf)
 try (refine And.intro ⟨rfl,by first | rfl | (simp;done) | (simp;omega),by first | omega | (simp;omega)⟩ ?_;conv=>whnf)
 refine And.intro (List.length_map _).symm ?_
 conv=>whnf
 exact⟨.ag (stC s),ag_sub ⟨fun _ _ h=>h,fun _ _ h=>h,fun _ _ h=>h,fun _ _ h=>h,fun _ _ h=>h,fun _ _ h=>h,fun _ _ h=>h,fun _ _ h=>h,fun _ _ h=>h,fun _ _ h=>h,fun _ _ h=>h,fun _ _ h=>h,fun _ _ h=>h,int_sub rfl rfl,trivial⟩,rfl⟩
@[reducible] def bwD (g:Geo) (s:Stt) (d:Dk):List AB:= [.box 116 (bwC g (.bp 1 0) s), .box 164 (dkX (.ow 2 d.cells.length) (.ow 4 d.cache.length) d.reqs d.left), .dead, .dead, .dead]
set_option maxRecDepth 100000 in
theorem bdisk_fn (g:Geo) (s:Stt) (d:Dk) (h:DkOk d):ACalls Tryz.prog false 50 [.bp 0 0] (bwG g s d) fun r H=>r = .ag (dkC d)∧H=bwD g s d:=by
 have ht:=dtwin_fn d (by have:=h.n;omega) (by have:=h.m;omega) (fun c hc=>by have:=(h.c c hc).2;omega) (fun w hw=>by have:=(h.w w hw).2;omega)
 refine ACalls.ofR tys_ok Tryz.func50 rfl rfl (Nat.le_of_ble_eq_true rfl) ?_
 conv=>whnf
 refine ACalls.shut ht.go ?_
 conv=>whnf
 refine And.intro (List.length_map _).symm ?_
 conv=>whnf
 refine And.intro (List.length_map _).symm ?_
 conv=>whnf
 refine ACalls.sub [.ag (dkC d)] ⟨ag_sub ⟨row_sub (f:=celC) d.cells rfl rfl,row_sub (f:=wrC) d.cache rfl rfl,fun _ _ h=>h,fun _ _ h=>h,trivial⟩,trivial⟩ ?_
 refine Fn.closed (ht) rfl ?_
 rintro _ rfl
 conv=>whnf
 exact⟨_, .ag (dkC d),bwD g s d,fun _ _ h=>h,WkN.r (s:= [0,1,2,3,4]) ⟨⟨rfl,trivial⟩,⟨rfl,rfl,trivial,trivial,trivial,trivial⟩,rfl,rfl,rfl,rfl,rfl⟩,rfl,rfl⟩
theorem sized_fn (g:Geo) (d:Dk) (hg:okG g=true) (h1:d.cells.length≤1000000) (h2:d.cache.length≤1000000):Fn Tryz.prog 47 [.ag (geoC g), .ag (dkC d)] fun r=>r = .v (.bool (okDk d&&decide ((d.cells.length:Int)=cellsN g))):=by
 have c1:=gcells_fn g hg
 have c2:=dcheck_fn d h1 h2
 refine Fn.of tys_ok Tryz.func47 rfl rfl (Nat.le_of_ble_eq_true rfl) ?_
 conv=>whnf
 refine Fn.closed (c1) rfl ?_
 rintro _ rfl
 conv=>whnf
 refine Fn.closed (c2) rfl ?_
 rintro _ rfl
 conv=>whnf
 cases hk:okDk d with
 | false=>
  conv=>whnf
  exact⟨_,fun _ _ h=>h,rfl⟩
 | true=>
  conv=>whnf
  exact⟨_,fun _ _ h=>h,rfl⟩
def dk0:Dk:=⟨[], [],0,0⟩
def ze (n:Int):AV:= .v (.int .i64 n)
def nilV:AV:= .v (.slice none 0 0)
theorem st0_sub:SubL [ze 0,ze 0,ze 0,ze 0,ze 0, .v (.string ⟨#[]⟩),nilV,nilV, .v (.bool false),ze 0,ze 0,ze 0,ze 0,nilV] (stC st0):=
 ⟨fun _ _ h=>h,fun _ _ h=>h,fun _ _ h=>h,fun _ _ h=>h,fun _ _ h=>h,fun _ _ h=>h,nil_sl 3 _,nil_sl 4 _,fun _ _ h=>h,fun _ _ h=>h,fun _ _ h=>h,fun _ _ h=>h,fun _ _ h=>h,nil_sl 1 _,trivial⟩
theorem mountM_err {g:Geo} {d:Dk} (h:(mountM g d).2.1≠0):(mountM g d).2.2=st0:=by
 unfold mountM at h ⊢
 split
 ·rename_i hl
  rw [if_pos hl] at h
  split
  ·rfl
  ·rename_i a j hp
   rw [hp] at h
   simp only at h
   unfold mount2 at h ⊢
   split
   ·rename_i hl2
    rw [if_pos hl2] at h
    unfold mount3 at h ⊢
    split
    ·rfl
    ·rename_i h3
     rw [if_neg h3] at h
     split
     ·rfl
     ·rename_i h4
      rw [if_neg h4] at h
      unfold mount4 at h ⊢
      split
      ·rfl
      ·rename_i h5
       rw [if_neg h5] at h
       simp only at h ⊢
       split
       ·rfl
       ·rename_i h6
        rw [if_neg h6] at h
        split
        ·rfl
        ·rename_i h7
         rw [if_neg h7] at h
         exact absurd rfl h
   ·rfl
 ·rfl
theorem mountM_ok {g:Geo} {d:Dk} (hg:okG g=true) (h:DkOk d) (hn:(d.cells.length:Int)=cellsN g):DkOk (mountM g d).1∧(mountM g d).1.cells.length=d.cells.length:=by
 have ha:=h.adv g.an.toNat
 have hs:=(adv_same g.an.toNat d).1
 have hpo:=fun {a j}=>pick_ok (g:=g) (l:=gotsD d (anAts g)) hg (gotsD d (anAts g)).length (a:=a) (j:=j)
 have hpo:∀ {a j},pickN g (gotsD d (anAts g))=some (a,j)→anOk g a=true:=hpo
 unfold mountM
 split
 ·cases hP:pickN g (gotsD d (anAts g)) with
  | none=>exact⟨ha,by rw [hs]⟩
  | some q=>
   obtain⟨a,j⟩:=q
   have hao:=hpo hP
   simp only
   obtain⟨g1,g2,g3,g4,g5⟩:=okG_iff.1 hg
   generalize d.adv g.an.toNat=d1 at ha hs ⊢
   have ha2:=ha.adv (2*g.sl.toNat)
   have hs2:=(adv_same (2*g.sl.toNat) d1).1
   have hx1:(gotsD d1 (logAts g 0)).length=g.sl.toNat:=by rw [gotsD_len,logAts_len]
   have hx2:(gotsD d1 (logAts g 1)).length=g.sl.toNat:=by rw [gotsD_len,logAts_len]
   have hlast:=scanM_last (x:=gotsD d1 (logAts g 0)) (y:=gotsD d1 (logAts g 1)) hg hao
   have hin:=scanW_in (x:=gotsD d1 (logAts g 0)) (y:=gotsD d1 (logAts g 1)) (n:=d.cells.length) hg hao (by omega) (by omega) hn
   unfold mount2
   split
   ·generalize scanM g a (gotsD d1 (logAts g 0)) (gotsD d1 (logAts g 1))=S at hlast hin ⊢
    generalize d1.adv (2*g.sl.toNat)=d2 at ha2 hs2 ⊢
    have hn2:d2.cells.length=d.cells.length:=by rw [hs2,hs]
    unfold mount3
    split
    ·exact⟨ha2,hn2⟩
    ·rename_i he
     have he:S.2.2=0:=by simpa using he
     have hin:=hin he
     have hdm:DkOk (d2.mend S.2.1).1∧(d2.mend S.2.1).1.cells.length=d.cells.length:=by
      unfold Dk.mend
      split
      ·exact⟨ha2,hn2⟩
      ·have:=putAll_ok ha2 (l:=S.2.1) (by rw [hn2];exact hin.1)
       exact⟨this.1,this.2.trans hn2⟩
     generalize (d2.mend S.2.1)=M at hdm ⊢
     split
     ·exact hdm
     ·unfold mount4
      split
      ·exact hdm
      ·rename_i hmx
       have hna:=nextA_ok (n:=S.1.length) hao (fun e=>hmx (.inl e)) (fun e=>hmx (.inr e)) (hlast he).2
       have hpa:=putAll_ok hdm.1 (l:=anCells g (nextA a S.1.length)) (anCells_in hg hna (by rw [hdm.2];exact hn))
       rw [hdm.2] at hpa
       simp only
       split
       ·exact hpa
       ·split <;> exact hpa
   ·exact⟨ha2,by rw [hs2,hs]⟩
 ·exact⟨ha,by rw [hs]⟩
theorem lt7 {m:Nat} (h:Nat.ble 8 m=true):∀ z∈ [7,4,5,6],z<m:=fun z hz=>by
 have:=Nat.le_of_ble_eq_true h
 simp at hz
 omega
theorem lt8 {m:Nat} (h:Nat.ble 9 m=true):∀ z∈ [7,4,5,6,8],z<m:=fun z hz=>by
 have:=Nat.le_of_ble_eq_true h
 simp at hz
 omega
set_option maxRecDepth 100000 in
theorem mountX_ok (g:Geo) (d:Dk) (hg:okG g=true) (h:DkOk d) (hn:(d.cells.length:Int)=cellsN g):Fn Tryz.prog 13 [.ag (geoC g), .ag (dkC d)] fun r=>r = .tp [.ag (stC (mountM g d).2.2), .ag (dkC (mountM g d).1), .v (.int .i64 (mountM g d).2.1)]:=by
 have hG:Fn Tryz.prog 46 [.ag (geoC g)] fun r=>r = .v (errV (okG g)):=gcheck_fn g.z g.d g.sp g.sl g.an
 rw [hg] at hG
 have hN:=h.n
 have hM:=h.m
 have hs:=sized_fn g d hg (by omega) (by omega)
 rw [okDk_iff.2 h,decide_eq_true hn,Bool.true_and] at hs
 have ho:=down_fn d (by omega) (by omega)
 have hm:=bmount_fn g d hg h hn
 have hsm:=mountM_sm (g:=g) (d:=d) hg
 refine Fn.of tys_ok Tryz.func13 rfl rfl (Nat.le_of_ble_eq_true rfl) ?_
 conv=>whnf
 refine Fn.closed (hG) rfl ?_
 rintro _ rfl
 conv=>whnf
 refine Fn.closed (hs) rfl ?_
 rintro _ rfl
 conv=>whnf
 apply aDraw.treeK (0) tys_ok mixed (.one 0 (.one 1 (.one 2 (.one 3 (.one 4 (.one 5 .fin)))))) (by kernel_rfl)
 conv=>whnf
 (refine ACalls.beside ho rfl ?_;rintro _ _ ⟨rfl,rfl⟩)
 conv=>whnf
 have hmo:=mountM_ok hg h hn
 refine ACalls.pre (ConvH.subBox (cs':=bwC g (.bp 4 0) st0) 7 rfl ⟨fun _ _ h=>h,fun _ _ h=>h,fun _ _ h=>h,fun _ _ h=>h,fun _ _ h=>h,fun _ _ h=>h,fun _ _ h=>h,fun _ _ h=>h,fun _ _ h=>h,fun _ _ h=>h,fun _ _ h=>h,fun _ _ h=>h,nil_sl 3 _,nil_sl 4 _,fun _ _ h=>h,fun _ _ h=>h,fun _ _ h=>h,fun _ _ h=>h,fun _ _ h=>h,nil_sl 1 _,trivial⟩) ?_
 refine ACalls.frame [7,4,5,6] hm rfl rfl rfl rfl (by decide) (lt7 rfl) ⟨rfl,rfl,rfl,rfl,trivial⟩ ?_
 rintro _ _ ⟨rfl,rfl⟩
 have herr:=mountM_err (g:=g) (d:=d)
 generalize mountM g d=M at hmo herr hsm ⊢
 obtain⟨D,e,S⟩:=M
 simp only at hmo herr hsm
 have hdk:=bdisk_fn g S D hmo.1
 have htw:=btwin_fn S hsm
 conv=>whnf
 by_cases he:e=0
 ·subst he
  conv=>whnf
  refine Fn.closed (htw) rfl ?_
  rintro _ rfl
  conv=>whnf
  refine ACalls.frame [7,4,5,6,8] hdk rfl rfl rfl rfl (by decide) (lt8 rfl) ⟨rfl,rfl,rfl,rfl,rfl,trivial⟩ ?_
  rintro _ _ ⟨rfl,rfl⟩
  conv=>whnf
  exact⟨_,fun _ _ h=>h,rfl⟩
 ·have hb:(e != 0)=true:=bne_iff_ne.2 he
  rw [hb]
  have:=herr he
  subst this
  conv=>whnf
  refine ACalls.frame [7,4,5,6,8] hdk rfl rfl rfl rfl (by decide) (lt8 rfl) ⟨rfl,rfl,rfl,rfl,rfl,trivial⟩ ?_
  rintro _ _ ⟨rfl,rfl⟩
  conv=>whnf
  exact⟨.tp [.ag (stC st0), .ag (dkC D), .v (.int .i64 e)],tp_sub ⟨ag_sub st0_sub,fun _ _ h=>h,fun _ _ h=>h,trivial⟩,rfl⟩
theorem lv_of {d:Dk} (hd:DkOk d) (hl:d.left<0) (k:Nat):Lv d k:=⟨hd.r, .inl hl⟩
theorem tick_got (k:Nat) (d:Dk) (l:List Int):gotsD (d.tick k) l=gotsD d l:=rfl
theorem finL_two:∀ (l:List Wr) (cs:List Cel) (a:Nat),((finL cs l).getD a cz).state=2↔(cs.getD a cz).state=2:=fun l cs a=>by
 by_cases ha:a<cs.length
 ·by_cases h:(cs.getD a cz).state=2
  ·rw [finL_stuck l cs a ha h]
  ·rcases finL_any l cs a ha with e | ⟨_,e,_⟩
   ·rw [e]
   ·rw [e];exact⟨fun q=>absurd q (by decide),fun q=>absurd q h⟩
 ·rw [List.getD_eq_getElem?_getD,List.getD_eq_getElem?_getD,List.getElem?_eq_none (by rw [finL_len];omega),List.getElem?_eq_none (by omega)]
theorem free_fin (l:List Wr) (cs:List Cel):free (finL cs l)=free cs:=by
 funext w
 unfold free
 rw [Bool.eq_iff_iff,decide_eq_true_eq,decide_eq_true_eq]
 exact not_congr (finL_two l cs _)
def mtick (g:Geo) (w:List Wr):Nat:=g.an.toNat+2*g.sl.toNat+(if w=[] then 0 else w.length+1)+(g.an.toNat+1)
theorem mountM_live {g:Geo} {d:Dk} {a:An} {j:Nat} {L:List Tx} {w:List Wr} (hg:okG g=true) (hd:DkOk d) (hn:(d.cells.length:Int)=cellsN g) (hc:d.cache=[]) (hl:d.left<0) (hp:pickN g (gotsD d (anAts g))=some (a,j)) (hs:scanM g a (gotsD d (logAts g 0)) (gotsD d (logAts g 1))=(L,w,0)) (h1:a.gen≠4294967295) (h2:a.epoch≠4294967295) :
  mountM g d=(⟨finL (finL d.cells w) (anCells g (nextA a L.length)), [],(d.tick (mtick g w)).reqs,d.left⟩,if ((anCells g (nextA a L.length)).filter (free d.cells)).length=0 then 14 else 0,if ((anCells g (nextA a L.length)).filter (free d.cells)).length=0 then st0 else stOf (nextA a L.length) L):=by
 obtain⟨g1,g2,g3,g4,g5⟩:=okG_iff.1 hg
 have hao:=pick_ok hg _ hp
 have hin:=scanW_in (x:=gotsD d (logAts g 0)) (y:=gotsD d (logAts g 1)) (n:=d.cells.length) hg hao (by rw [gotsD_len,logAts_len];omega) (by rw [gotsD_len,logAts_len];omega) hn
 rw [hs] at hin
 obtain⟨hw1,hw2⟩:=hin rfl
 simp only at hw1 hw2
 have hlv:∀ k,d.live k:=fun k=> .inl hl
 have htl:∀ k,(d.tick k).left=d.left:=fun k=>if_pos hl
 have hr:=hd.r
 unfold mountM
 rw [if_pos (hlv _),hp]
 simp only
 unfold mount2
 rw [adv_tick _ (lv_of hd hl _),if_pos (show (d.tick g.an.toNat).live _ from .inl (by rw [htl];exact hl)),tick_got,tick_got,hs]
 rw [adv_tick _ (show Lv (d.tick g.an.toNat) (2*g.sl.toNat) from tick_lv (lv_of hd hl _)),tick_tick _ _ hr.2 (.inl hl)]
 unfold mount3
 simp only [ne_eq,not_true,if_false]
 have hm:(d.tick (g.an.toNat+2*g.sl.toNat)).mend w=(⟨finL d.cells w, [],(d.tick (g.an.toNat+2*g.sl.toNat+(if w=[] then 0 else w.length+1))).reqs,d.left⟩,false):=by
  unfold Dk.mend
  by_cases hw:w=[]
  ·subst hw
   rw [if_pos rfl,if_pos rfl,Nat.add_zero]
   simp only [Prod.mk.injEq,and_true]
   show (d.tick _:Dk)=_
   unfold Dk.tick
   rw [hc,if_pos hl]
   rfl
  ·rw [if_neg hw,if_neg hw,putAll_alive (tick_lv (lv_of hd hl _)) hc (by omega),tick_tick _ _ hr.2 (.inl hl)]
   simp only [htl]
   rfl
 rw [hm]
 simp only [Bool.false_eq_true,if_false]
 unfold mount4
 rw [if_neg (by rintro(h | h);exact h1 h;exact h2 h)]
 obtain⟨K,hK⟩:∃ K,K=g.an.toNat+2*g.sl.toNat+(if w=[] then 0 else w.length+1):=⟨_,rfl⟩
 rw [←hK]
 have hrk:0≤(d.tick K).reqs∧(d.tick K).reqs≤1048576:=by show 0≤min _ _∧min _ _≤_;omega
 have hlen:=anCells_len g (nextA a L.length)
 rw [putAll_alive (d:=⟨finL d.cells w, [],(d.tick K).reqs,d.left⟩) ⟨hrk, .inl hl⟩ rfl (by omega)]
 simp only [Bool.false_eq_true,if_false,free_fin,hlen]
 have e1:((⟨finL d.cells w, [],(d.tick K).reqs,d.left⟩:Dk).tick (g.an.toNat+1)).left=d.left:=if_pos hl
 have e2:((⟨finL d.cells w, [],(d.tick K).reqs,d.left⟩:Dk).tick (g.an.toNat+1)).reqs=(d.tick (mtick g w)).reqs:=by
  show min ((d.tick K).reqs+((g.an.toNat+1:Nat):Int)) _=min _ _
  show min (min (d.reqs+(K:Nat)) 1048576+((g.an.toNat+1:Nat):Int)) 1048576=min (d.reqs+(mtick g w:Nat)) 1048576
  unfold mtick
  rw [←hK]
  omega
 rw [e1,e2]
 split <;> rfl
theorem pickK_spec (g:Geo) (l:List Gt):∀ k,(pickK g l k=none→∀ i,i<k→saysN g (l.getD i ⟨0, []⟩) (i:Nat)=none)∧∀ a j,pickK g l k=some (a,j)→j<k∧saysN g (l.getD j ⟨0, []⟩) (j:Nat)=some a∧∀ i b,i<k→saysN g (l.getD i ⟨0, []⟩) (i:Nat)=some b→b.gen≤a.gen
 | 0=>⟨fun _ i hi=>by omega,fun a j h=>by cases h⟩
 | k+1=>by
  obtain⟨ih1,ih2⟩:=pickK_spec g l k
  rw [pickK_succ,pickS]
  cases hS:saysN g (l.getD k ⟨0, []⟩) (k:Nat) with
  | none=>
   refine⟨fun h i hi=>?_,fun a j h=>?_⟩
   ·by_cases e:i=k
    ·rw [e];exact hS
    ·exact ih1 h i (by omega)
   ·obtain⟨q1,q2,q3⟩:=ih2 a j h
    refine⟨by omega,q2,fun i b hi hb=>?_⟩
    by_cases e:i=k
    ·rw [e,hS] at hb;cases hb
    ·exact q3 i b (by omega) hb
  | some c=>
   cases hP:pickK g l k with
   | none=>
    refine⟨fun h=>(by cases h),fun a j h=>?_⟩
    cases h
    refine⟨by omega,hS,fun i b hi hb=>?_⟩
    by_cases e:i=k
    ·rw [e,hS] at hb;cases hb;exact Int.le_refl _
    ·rw [ih1 hP i (by omega)] at hb;cases hb
   | some q=>
    obtain⟨a0,j0⟩:=q
    obtain⟨q1,q2,q3⟩:=ih2 a0 j0 hP
    simp only
    by_cases hlt:a0.gen<c.gen
    ·rw [if_pos hlt]
     refine⟨fun h=>(by cases h),fun a j h=>?_⟩
     cases h
     refine⟨by omega,hS,fun i b hi hb=>?_⟩
     by_cases e:i=k
     ·rw [e,hS] at hb;cases hb;exact Int.le_refl _
     ·have:=q3 i b (by omega) hb;omega
    ·rw [if_neg hlt]
     refine⟨fun h=>(by cases h),fun a j h=>?_⟩
     cases h
     refine⟨by omega,q2,fun i b hi hb=>?_⟩
     by_cases e:i=k
     ·rw [e,hS] at hb;cases hb;omega
     ·exact q3 i b (by omega) hb
theorem anAts_gots {g:Geo} {d:Dk} {i:Nat} (hi:i<g.an.toNat):(gotsD d (anAts g)).getD i ⟨0, []⟩=gotG d (i:Nat):=by
 rw [gotsD,map_getD (d:=0) (by rw [anAts_len];exact hi),anAts_get hi]
theorem saysN_cell {g:Geo} {a:An} {i:Nat} (hg:okG g=true) (ha:anOk g a=true) (hi:(i:Int)≤65535):saysN g ⟨0,anCell a i⟩ i=some a:=by
 obtain⟨e1,e2,e3,e4⟩:=seal_open (anCell_ok hg ha (i:=(i:Nat)) ⟨by omega,hi⟩)
 unfold saysN
 rw [if_pos ⟨rfl,e1,e2⟩]
 show (match readA g (secPay (anCell a i)) with | some a_1=>if a_1.gen=secStamp (anCell a i) then some a_1 else none | none=>none)=_
 rw [show secPay (anCell a i)=anB a from e4,readA_anB hg ha,show secStamp (anCell a i)=a.gen from e3]
 simp
theorem scan_whole {g:Geo} {a b:An} {fill:UInt8} {sizes:List Int} {ep:Int} {bad0 bad1:Int→Bool} (hg:okG g=true) (ha:anOk g a=true) (hsq:a.seq≤1000000) (hl:sizes.length≤40) (hbs:b.seq=a.seq) (hbp:b.pos=a.pos) (hb:∀ s,(bad0 s&&bad1 s)=false) (he:∀ j:Nat,j<(logM g a fill sizes 0 a.pos 0).length→ep=b.epoch∨a.seq+j≤b.last∧ep≤b.epoch) :
  scanP g b (saysW g (logM g a fill sizes 0 a.pos 0) ep bad0) (saysW g (logM g a fill sizes 0 a.pos 0) ep bad1)=finM b (some (logM g a fill sizes 0 a.pos 0,(logM g a fill sizes 0 a.pos 0).flatMap (txWr g ep (fun s=>!bad0 s) fun s=>!bad1 s),a.seq+(logM g a fill sizes 0 a.pos 0).length)):=by
 obtain⟨h1,h2,h3,h4,h5⟩:=okG_iff.1 hg
 have hq:=anOk_seq ha
 have hU0:=used_nn (logM_nn (fill:=fill) (sizes:=sizes) hg ha)
 obtain⟨f,e1,e2,e3⟩:=scan_B (g:=g) (a:=a) (b:=b) (fill:=fill) (sizes:=sizes) (ep:=ep) (p:=saysW g (logM g a fill sizes 0 a.pos 0) ep bad0) (q:=saysW g (logM g a fill sizes 0 a.pos 0) ep bad1) (b0:=fun s=>!bad0 s) (b1:=fun s=>!bad1 s) hg ha hsq hl hbs hbp (fun t ht=>by
  obtain⟨j,j1,rfl⟩:=log_mem ht
  exact allB_W hg ha j1 (Nat.le_refl _) (he j j1) fun k _=>hb _)
 rw [e3,scanLP_end]
 intro hleft
 have hP:=slotM_0 (x:=a.pos+usedM (logM g a fill sizes 0 a.pos 0)) hg (by omega)
 have q1:=Int.tmod_nonneg g.sl (show 0≤a.pos+usedM (logM g a fill sizes 0 a.pos 0) by omega)
 have q2:=Int.tmod_lt_of_pos (a.pos+usedM (logM g a fill sizes 0 a.pos 0)) (show 0<g.sl by omega)
 have hz:∀ c:Int→Bool,saysW g (logM g a fill sizes 0 a.pos 0) ep c ((a.pos+usedM (logM g a fill sizes 0 a.pos 0)).tmod g.sl)=if c ((a.pos+usedM (logM g a fill sizes 0 a.pos 0)).tmod g.sl) then none else some zeroC:=fun c=>by
  rw [saysW_at ⟨q1,q2⟩,recW_free hg ha (Int.le_refl _) (by omega)]
 have hb':=hb ((a.pos+usedM (logM g a fill sizes 0 a.pos 0)).tmod g.sl)
 refine txn_other (fun of_ left=>?_) (fun of_ left=>?_) ?_
 ·rw [hP,hz];split;exact one_none _ _ _ _ _;exact one_zero _ _ _ _ _
 ·rw [hP,hz];split;exact one_none _ _ _ _ _;exact one_zero _ _ _ _ _
 ·rw [hP,hz,hz]
  cases h0:bad0 ((a.pos+usedM (logM g a fill sizes 0 a.pos 0)).tmod g.sl) <;> cases h1:bad1 ((a.pos+usedM (logM g a fill sizes 0 a.pos 0)).tmod g.sl) <;> simp_all
section
variable {g:Geo} {a:An} {fill:UInt8} {sizes:List Int}
def offs (g:Geo) (a:An) (u:Nat):Nat:=((a.pos+(u:Nat)).tmod g.sl).toNat
theorem slots_take (hg:okG g=true) (ha:anOk g a=true):∀ j,j≤(logM g a fill sizes 0 a.pos 0).length→((logM g a fill sizes 0 a.pos 0).take j).flatMap (fun t=>(List.range (t.images.length+1)).map fun k=>(slotM g t.pos (k:Nat)).toNat)=(List.range (usedM ((logM g a fill sizes 0 a.pos 0).take j)).toNat).map (offs g a)
 | 0,_=>by simp [usedM]
 | j+1,hj=>by
  have ih:=slots_take hg ha j (by omega)
  have hj':j<(logM g a fill sizes 0 a.pos 0).length:=by omega
  have hgt:=log_get (fill:=fill) (sizes:=sizes) hg ha hj'
  have hU:=log_take_nn (fill:=fill) (sizes:=sizes) hg ha j
  have hu:=used_take _ j hj'
  have eg:(logM g a fill sizes 0 a.pos 0)[j]=(logM g a fill sizes 0 a.pos 0).getD j tz:=by rw [List.getD_eq_getElem?_getD,List.getElem?_eq_getElem hj'];rfl
  rw [hu,List.take_succ_eq_append_getElem hj',List.flatMap_append,ih,eg]
  simp only [List.flatMap_cons,List.flatMap_nil,List.append_nil]
  rw [show (usedM ((logM g a fill sizes 0 a.pos 0).take j)+((logM g a fill sizes 0 a.pos 0).getD j tz).n).toNat=(usedM ((logM g a fill sizes 0 a.pos 0).take j)).toNat+(((logM g a fill sizes 0 a.pos 0).getD j tz).images.length+1) by omega]
  have hr:∀ A B:Nat,List.range (A+B)=List.range A ++ (List.range B).map fun x=>A+x:=fun A B=>List.range_add
  rw [hr (usedM ((logM g a fill sizes 0 a.pos 0).take j)).toNat,List.map_append,List.map_map]
  congr 1
  apply List.map_congr_left
  intro k hk
  have hk:=List.mem_range.1 hk
  rw [log_slot hg ha hj' hk]
  unfold offs
  simp only [Function.comp]
  congr 2
  omega
theorem offs_lt (hg:okG g=true) (ha:anOk g a=true) (u:Nat):offs g a u<g.sl.toNat:=by
 obtain⟨h1,h2,h3,h4,h5⟩:=okG_iff.1 hg
 have hq:=anOk_seq ha
 have q1:=Int.tmod_nonneg g.sl (show 0≤a.pos+(u:Nat) by omega)
 have q2:=Int.tmod_lt_of_pos (a.pos+(u:Nat)) (show 0<g.sl by omega)
 unfold offs
 omega
theorem offs_surj (hg:okG g=true) (ha:anOk g a=true) {s:Nat} (hs:(s:Int)<g.sl):∃ u:Nat,(u:Int)<g.sl∧offs g a u=s:=by
 obtain⟨h1,h2,h3,h4,h5⟩:=okG_iff.1 hg
 have hq:=anOk_seq ha
 by_cases h:a.pos≤(s:Nat)
 ·refine⟨((s:Int) - a.pos).toNat,by omega,?_⟩
  unfold offs
  rw [show a.pos+((((s:Int) - a.pos).toNat:Nat):Int)=(s:Nat) by omega,tmod_lo (by omega) hs]
  omega
 ·refine⟨((s:Int) - a.pos+g.sl).toNat,by omega,?_⟩
  unfold offs
  rw [show a.pos+((((s:Int) - a.pos+g.sl).toNat:Nat):Int)=(s:Nat)+g.sl by omega,tmod_hi (by omega) (by omega) (by omega)]
  omega
theorem who_offs (hg:okG g=true) (ha:anOk g a=true) {u:Nat} (hu:(u:Int)<g.sl):(whoM g ((offs g a u:Nat):Int) (logM g a fill sizes 0 a.pos 0) 0).isSome=decide ((u:Int)<usedM (logM g a fill sizes 0 a.pos 0)):=by
 have hq:=anOk_seq ha
 have q1:=Int.tmod_nonneg g.sl (show 0≤a.pos+(u:Nat) by omega)
 have e:((offs g a u:Nat):Int)=(a.pos+(u:Nat)).tmod g.sl:=by unfold offs;omega
 by_cases h:(u:Int)<usedM (logM g a fill sizes 0 a.pos 0)
 ·rw [decide_eq_true h]
  have hs:=slots_take (fill:=fill) (sizes:=sizes) hg ha (logM g a fill sizes 0 a.pos 0).length (Nat.le_refl _)
  rw [List.take_length] at hs
  have hm:offs g a u∈(List.range (usedM (logM g a fill sizes 0 a.pos 0)).toNat).map (offs g a):=List.mem_map.2 ⟨u,List.mem_range.2 (by omega),rfl⟩
  rw [←hs] at hm
  obtain⟨t,ht,hm⟩:=List.mem_flatMap.1 hm
  obtain⟨k,hk,hm⟩:=List.mem_map.1 hm
  have hk:=List.mem_range.1 hk
  obtain⟨j,hj,rfl⟩:=log_mem ht
  obtain⟨r1, -⟩:=recW_at (ep:=0) hg ha hj hk
  rw [←hm,Int.toNat_of_nonneg r1.1]
  exact who_some hg ha hj hk
 ·rw [decide_eq_false h,e,who_free hg ha (by omega) hu]
  rfl
end
def lgR (g:Geo) (t:Tx) (k:Nat):List Wr:=(List.range 2).map fun c=>⟨logAt g (c:Nat) (slotM g t.pos k),cellB g ((recsOf t.seq 0 t.images).getD k rc0) (c:Nat) (slotM g t.pos k)⟩
def lgT (g:Geo) (t:Tx):Nat→List Wr
 | 0=> []
 | k+1=>lgT g t k ++ lgR g t k
def lgL (g:Geo) (L:List Tx):Nat→List Wr
 | 0=> []
 | i+1=>lgL g L i ++ lgT g (L.getD i tz) ((L.getD i tz).images.length+1)
def logD (g:Geo) (s:ByteArray) (L:List Tx):Dk:={ fmtD g s with cells:=fmtL (fmtD g s).cells (lgL g L L.length) }
theorem lgT_mem {g:Geo} {t:Tx} {w:Wr}:∀ {n:Nat},w∈lgT g t n↔∃ k c:Nat,k<n∧c<2∧w=⟨logAt g c (slotM g t.pos k),cellB g ((recsOf t.seq 0 t.images).getD k rc0) c (slotM g t.pos k)⟩
 | 0=>by simp [lgT]
 | n+1=>by
  rw [lgT,List.mem_append,lgT_mem (n:=n)]
  simp only [lgR,List.mem_map,List.mem_range]
  constructor
  ·rintro(⟨k,c,h1,h2,h3⟩ | ⟨c,h1,h2⟩)
   ·exact⟨k,c,by omega,h2,h3⟩
   ·exact⟨n,c,by omega,h1,h2.symm⟩
  ·rintro⟨k,c,h1,h2,h3⟩
   by_cases e:k=n
   ·subst e;exact .inr ⟨c,h2,h3.symm⟩
   ·exact .inl ⟨k,c,by omega,h2,h3⟩
theorem lgL_mem {g:Geo} {L:List Tx} {w:Wr}:∀ {n:Nat},w∈lgL g L n↔∃ j k c:Nat,j<n∧k<(L.getD j tz).images.length+1∧c<2∧w=⟨logAt g c (slotM g (L.getD j tz).pos k),cellB g ((recsOf (L.getD j tz).seq 0 (L.getD j tz).images).getD k rc0) c (slotM g (L.getD j tz).pos k)⟩
 | 0=>by simp [lgL]
 | n+1=>by
  rw [lgL,List.mem_append,lgL_mem (n:=n),lgT_mem]
  constructor
  ·rintro(⟨j,k,c,h1,h2⟩ | ⟨k,c,h1⟩)
   ·exact⟨j,k,c,by omega,h2⟩
   ·exact⟨n,k,c,by omega,h1⟩
  ·rintro⟨j,k,c,h1,h2⟩
   by_cases e:j=n
   ·subst e;exact .inr ⟨k,c,h2⟩
   ·exact .inl ⟨j,k,c,by omega,h2⟩
theorem logAt_inj {g:Geo} {c c' s s':Int} (hc:c=0∨c=1) (hc':c'=0∨c'=1) (hs:0≤s∧s<g.sl) (hs':0≤s'∧s'<g.sl) (h:logAt g c s=logAt g c' s'):c=c'∧s=s':=by
 unfold logAt at h
 rcases hc with rfl | rfl <;> rcases hc' with rfl | rfl <;> omega
theorem logAt_bd {g:Geo} {c s:Int} (hc:c=0∨c=1) (hs:0≤s∧s<g.sl):g.an≤logAt g c s∧logAt g c s<g.an+2*g.sl:=by
 unfold logAt
 rcases hc with rfl | rfl <;> omega
def logF (g:Geo) (s:ByteArray) (L:List Tx) (ep a:Int):List UInt8:=
 if g.an≤a∧a<g.an+g.sl then cellB g (recW g L ep (a - g.an)) 0 (a - g.an) else if g.an≤a∧a<g.an+2*g.sl then cellB g (recW g L ep (a - g.an - g.sl)) 1 (a - g.an - g.sl) else fmtF g s a
theorem logF_at {g:Geo} {s:ByteArray} {L:List Tx} {ep c i:Int} (hc:c=0∨c=1) (hi:0≤i∧i<g.sl):logF g s L ep (logAt g c i)=cellB g (recW g L ep i) c i:=by
 unfold logF logAt
 rcases hc with rfl | rfl
 ·rw [if_pos (by omega),show g.an+0*g.sl+i - g.an=i by omega]
 ·rw [if_neg (by omega),if_pos (by omega),show g.an+1*g.sl+i - g.an - g.sl=i by omega]
theorem logF_out {g:Geo} {s:ByteArray} {L:List Tx} {ep a:Int} (h:a<g.an∨g.an+2*g.sl≤a) (_hs:0≤g.sl):logF g s L ep a=fmtF g s a:=by
 unfold logF
 rw [if_neg (by omega),if_neg (by omega)]
theorem log_cases {g:Geo} {a:Int} (h1:g.an≤a) (h2:a<g.an+2*g.sl):∃ c i:Int,(c=0∨c=1)∧(0≤i∧i<g.sl)∧a=logAt g c i:=by
 by_cases h:a<g.an+g.sl
 ·exact⟨0,a - g.an, .inl rfl,by omega,by unfold logAt;omega⟩
 ·exact⟨1,a - g.an - g.sl, .inr rfl,by omega,by unfold logAt;omega⟩
section
variable {g:Geo} {s:ByteArray} {a:An} {fill:UInt8} {sizes:List Int}
theorem who_rec (hg:okG g=true) (ha:anOk g a=true) {i:Int} (hi:0≤i∧i<g.sl) (h:(whoM g i (logM g a fill sizes 0 a.pos 0) 0).isSome=true):∃ j k:Nat,j<(logM g a fill sizes 0 a.pos 0).length∧k<((logM g a fill sizes 0 a.pos 0).getD j tz).images.length+1∧slotM g ((logM g a fill sizes 0 a.pos 0).getD j tz).pos k=i:=by
 have hq:=anOk_seq ha
 obtain⟨u,hu,e⟩:=offs_surj (a:=a) hg ha (s:=i.toNat) (by omega)
 have ei:i=((offs g a u:Nat):Int):=by omega
 rw [ei,who_offs (fill:=fill) (sizes:=sizes) hg ha hu,decide_eq_true_eq] at h
 have hst:=slots_take (fill:=fill) (sizes:=sizes) hg ha _ (Nat.le_refl (logM g a fill sizes 0 a.pos 0).length)
 rw [List.take_length] at hst
 have hm:offs g a u∈(List.range (usedM (logM g a fill sizes 0 a.pos 0)).toNat).map (offs g a):=List.mem_map.2 ⟨u,List.mem_range.2 (by omega),rfl⟩
 rw [←hst,List.mem_flatMap] at hm
 obtain⟨t,ht,hm⟩:=hm
 obtain⟨j,hj,rfl⟩:=log_mem ht
 obtain⟨k,hk,e2⟩:=List.mem_map.1 hm
 refine⟨j,k,hj,List.mem_range.1 hk,?_⟩
 obtain⟨r1,_⟩:=recW_at (ep:=0) (fill:=fill) (sizes:=sizes) hg ha hj (List.mem_range.1 hk)
 omega
theorem logd_cell (hg:okG g=true) (ha:anOk g a=true) {x:Int} (h0:0≤x) (h1:x<cellsN g):(logD g s (logM g a fill sizes 0 a.pos 0)).cells.getD x.toNat cz=⟨0,logF g s (logM g a fill sizes 0 a.pos 0) 0 x, []⟩:=by
 obtain⟨g1,g2,g3,g4,g5⟩:=okG_iff.1 hg
 have hf:=fmt_cell (s:=s) hg h0 h1
 have hfl:=(fmt_holds (s:=s) hg).len
 have hl:x.toNat<(fmtD g s).cells.length:=by omega
 have hw:∀ w∈lgL g (logM g a fill sizes 0 a.pos 0) (logM g a fill sizes 0 a.pos 0).length,∃ c i:Int,(c=0∨c=1)∧(0≤i∧i<g.sl)∧w=⟨logAt g c i,cellB g (recW g (logM g a fill sizes 0 a.pos 0) 0 i) c i⟩:=fun w hw=>by
  obtain⟨j,k,c,q1,q2,q3,rfl⟩:=lgL_mem.1 hw
  obtain⟨r1,r2⟩:=recW_at (ep:=0) (fill:=fill) (sizes:=sizes) hg ha q1 q2
  exact⟨(c:Nat),_,by omega,r1,by rw [r2]⟩
 show (fmtL (fmtD g s).cells _).getD x.toNat cz=_
 by_cases hx:g.an≤x∧x<g.an+2*g.sl
 ·obtain⟨c,i,hc,hi,rfl⟩:=log_cases hx.1 hx.2
  rw [logF_at hc hi]
  refine(fmtL_keep (F:=cellB g (recW g (logM g a fill sizes 0 a.pos 0) 0 i) c i) _ _ _ hl (fun w q qa=>?_) ?_).trans (by rw [hf])
  ·obtain⟨c',i',hc',hi',rfl⟩:=hw w q
   have hb:=logAt_bd (g:=g) hc' hi'
   obtain⟨rfl,rfl⟩:=logAt_inj (g:=g) hc' hc hi' hi (show logAt g c' i'=logAt g c i by have:(logAt g c' i').toNat=(logAt g c i).toNat:=qa;omega)
   rfl
  ·cases hS:(whoM g i (logM g a fill sizes 0 a.pos 0) 0) with
   | none=>
    right
    have:recW g (logM g a fill sizes 0 a.pos 0) 0 i=zeroC:=by unfold recW;rw [hS]
    rw [this,hf]
    have e:=fmtF_log (g:=g) (s:=s) (c:=c) (i:=i.toNat) hc (by omega)
    rw [Int.toNat_of_nonneg hi.1] at e
    exact e
   | some q=>
    left
    obtain⟨j,k,q1,q2,q3⟩:=who_rec (fill:=fill) (sizes:=sizes) hg ha hi (by rw [hS];rfl)
    refine⟨⟨logAt g (c.toNat:Nat) i,cellB g ((recsOf ((logM g a fill sizes 0 a.pos 0).getD j tz).seq 0 ((logM g a fill sizes 0 a.pos 0).getD j tz).images).getD k rc0) (c.toNat:Nat) i⟩,?_,?_⟩
    ·exact lgL_mem.2 ⟨j,k,c.toNat,q1,q2,by omega,by rw [q3]⟩
    ·rw [Int.toNat_of_nonneg (by omega)]
 ·rw [logF_out (by omega) (by omega),fmtL_miss _ _ _ hl,hf]
  intro w q e
  obtain⟨c',i',hc',hi',rfl⟩:=hw w q
  have hb:=logAt_bd (g:=g) hc' hi'
  have:(logAt g c' i').toNat=x.toNat:=e
  omega
theorem logd_holds (hg:okG g=true) (ha:anOk g a=true):Holds (logD g s (logM g a fill sizes 0 a.pos 0)) (cellsN g) (logF g s (logM g a fill sizes 0 a.pos 0) 0):=by
 refine⟨?_,rfl,fun x h0 h1=>by rw [logd_cell hg ha h0 h1];exact⟨rfl,rfl⟩⟩
 show ((fmtL (fmtD g s).cells _).length:Int)=_
 rw [fmtL_len]
 exact(fmt_holds hg).len
theorem anCell_short {b:An} (hg:okG g=true) (hb:anOk g b=true) (i:Int):(anCell b i).length≤200:=by
 have:=anB_short hg hb
 rw [anCell,sealB_len]
 omega
end
theorem row_cel {cs:List Cel} {n:Nat} (h:cs.length=n) {k:Nat} (hk:k<n):(cs.map celC).getD k []=celC (cs.getD k cz):=map_getD (by omega)
theorem tab0_ok {g:Geo} (hg:okG g=true):okT g (tab0 g)=true:=by
 obtain⟨g1,g2,g3,g4,g5⟩:=okG_iff.1 hg
 have hz:=sumC_le zero8
 simp only [okT,hg,tab0,List.length_replicate,Bool.and_eq_true,decide_eq_true_eq,Bool.true_and]
 refine⟨⟨by omega,?_⟩,?_⟩
 ·rw [List.all_eq_true]
  intro e he
  rw [List.eq_of_mem_replicate he]
  simp [entOk,ent0,num32,inB]
  exact decide_eq_true (by omega)
 ·have:lostAt (List.replicate (g.d+1).toNat ent0) g.d.toNat=false:=by
   unfold lostAt
   rw [List.getElem?_replicate_of_lt (by omega)];rfl
  rw [this];rfl
theorem tab0_fit {g:Geo} (hg:okG g=true) {a:Int} (ha:0≤a∧a≤65535):okS a 0 (tblB (tab0 g)):=by
 obtain⟨g1,g2,g3,g4,g5⟩:=okG_iff.1 hg
 refine⟨ha.1,ha.2,Int.le_refl _,by decide,?_⟩
 rw [tblB_len,tab0,List.length_replicate];omega
set_option maxRecDepth 100000 in
theorem format_ok (g:Geo) (s:ByteArray) (hg:okG g=true) (hs:labE s.data.toList=0) (hl:s.size≤1000000):Fn Tryz.prog 24 [.ag (geoC g), .v (.string s)] fun r=>r = .tp [.ag (dkC (fmtD g s)), .v (.int .i64 0)]:=by
 obtain⟨g1,g2,g3,g4,g5⟩:=okG_iff.1 hg
 have hcg:=cells_ge hg
 have hp:=per_bd hg
 have hN:1≤(cellsN g).toNat∧(cellsN g).toNat≤300:=by
  have:g.z*perG g≤4*7:=Int.mul_le_mul (by omega) (by omega) (by omega) (by omega)
  unfold cellsN at hcg ⊢
  omega
 have hcN:cellsN g=((cellsN g).toNat:Int):=by omega
 have hao:=firstA_ok hg hs
 have hA:=afirst_fn g s hl
 rw [hg,if_pos rfl,if_pos hs,if_pos rfl,hs] at hA
 have hC:=gcells_fn g hg
 rw [hcN] at hC
 have hD:=dnew_own (cellsN g).toNat hN
 refine Fn.of tys_ok Tryz.func24 rfl rfl (Nat.le_of_ble_eq_true rfl) ?_
 conv=>whnf
 refine Fn.closed (hA) rfl ?_
 rintro _ rfl
 conv=>whnf
 refine Fn.closed (hC) rfl ?_
 rintro _ rfl
 conv=>whnf
 refine ACalls.beside hD rfl ?_
 rintro _ _ ⟨rfl,rfl⟩
 conv=>whnf
 refine aLoop.ruleRR Nat (fun k=>([(2, .bp 0 0),(4, .bp 1 0),(5,ze 0),(6, .bp 2 0),(10, .bp 3 0),(51,ze g.an),(52,ze k)], [.box 23 (geoC g), .box 32 [nilV,nilV,ze 0,ze 0], .box 40 (anC (firstA g s)), .box 32 [.ow 4 (cellsN g).toNat,nilV,ze 0,ze (-1)], .row 87 3 ((fmtL (fmt0 g) ((anCells g (firstA g s)).take k)).map celC)])) (fun k=>k≤g.an.toNat) (fun k=>g.an.toNat - k) 0 (Nat.zero_le _)
  ?_ ?_
 ·refine WkN.rc (ConvF.ofH (ConvH.subRow (k:=3) rfl (es':=(fmt0 g).map celC) (by simp [fmt0]) fun i=>?_)) (s:= [0,1,2,4,3]) ⟨⟨rfl,rfl,rfl,rfl,rfl,rfl,rfl,trivial⟩,⟨rfl,rfl,rfl,rfl,rfl,trivial⟩,rfl,rfl,rfl,rfl,rfl⟩
  rw [fmt0,List.map_replicate]
  by_cases hi:i<(cellsN g).toNat
  ·rw [getD_rep hi,getD_rep hi];exact⟨fun _ _ h=>h,nil_sl 1 _,nil_sl 1 _,trivial⟩
  ·rw [List.getD_eq_getElem?_getD,List.getD_eq_getElem?_getD,List.getElem?_eq_none (by simpa using hi),List.getElem?_eq_none (by simpa using hi)];exact SubL.refl _
 ·intro k hk
  conv=>whnf
  refine boolI (fun h6=>?_) (fun h6=>?_) <;> (repeat rw [Int.toNat_natCast] at h6) <;> conv=>whnf
  ·have hk':k<(anCells g (firstA g s)).length:=by rw [anCells_len];omega
   have hsx:=fmtL_succ (fmt0 g) hk'
   rw [anCells_get (by omega)] at hsx
   have hlx:(fmtL (fmt0 g) ((anCells g (firstA g s)).take k)).length=(cellsN g).toNat:=by rw [fmtL_len,fmt0_len]
   generalize fmtL (fmt0 g) ((anCells g (firstA g s)).take k)=cs at hsx hlx ⊢
   have hga:=ganchor_fn g k hg (by omega)
   have hnc:=ncell_fn g (firstA g s) k hg hao (by omega)
   have hE:(cs.map celC).getD (k:Int).toNat []=celC (cs.getD (k:Int).toNat cz):=row_cel hlx (by omega)
   repeat' (first | (refine aSeq.go ?_;conv=>whnf) | fail)
   refine Fn.closed (hga) rfl ?_
   rintro _ rfl
   conv=>whnf
   apply aDraw.treeK (0) tys_ok mixed (.one 0 (.one 1 (.one 2 (.one 3 (.one 4 (.one 5 (.one 6 (.one 7 (.one 8 (.one 9 (.one 10 (.one 11 (.one 12 .fin))))))))))))) (by kernel_rfl)
   conv=>whnf
   refine Fn.closed (hnc) rfl ?_
   rintro _ rfl
   conv=>whnf
   try (refine And.intro (by first | omega | (simp;done)) ?_;conv=>whnf)
   try (refine And.intro ⟨rfl,by first | rfl | (simp;done) | (simp;omega),by first | omega | (simp;omega)⟩ ?_;conv=>whnf)
   (first | rw [hE] | skip)
   conv=>whnf
   exact⟨k+1,by omega,by omega,WkN.r (s:= [0,1,2,3,4]) ⟨⟨rfl,rfl,rfl,rfl,rfl,rfl,wsucc (by omega),trivial⟩,⟨rfl,rfl,rfl,rfl,congrArg (fun l=>some (AB.row _ _ l)) (by rw [hsx,fmtS_map];rfl),trivial⟩,rfl,rfl,rfl,rfl,rfl⟩⟩
  ·have ek:k=(anCells g (firstA g s)).length:=by rw [anCells_len];omega
   rw [ek,List.take_length]
   refine aLoop.ruleRR Nat (fun c=>([(2, .bp 0 0),(4, .bp 1 0),(5,ze 0),(6, .bp 2 0),(10, .bp 3 0),(74,ze c)], [.box 23 (geoC g), .box 32 [nilV,nilV,ze 0,ze 0], .box 40 (anC (firstA g s)), .box 32 [.ow 4 (cellsN g).toNat,nilV,ze 0,ze (-1)], .row 87 3 ((fmt2 g s c).map celC)])) (fun c=>c≤2) (fun c=>2 - c) 0 (Nat.zero_le _)
    (WkN.r (s:= [0,1,2,3,4]) ⟨⟨rfl,rfl,rfl,rfl,rfl,rfl,trivial⟩,⟨rfl,rfl,rfl,rfl,rfl,trivial⟩,rfl,rfl,rfl,rfl,rfl⟩) ?_
   intro c hc
   conv=>whnf
   refine boolI (fun h7=>?_) (fun h7=>?_) <;> (repeat rw [Int.toNat_natCast] at h7) <;> conv=>whnf
   ·have hc01:(c:Int)=0∨(c:Int)=1:=by omega
    repeat' (first | (refine aSeq.go ?_;conv=>whnf) | fail)
    refine aLoop.ruleRR Nat (fun i=>([(2, .bp 0 0),(4, .bp 1 0),(5,ze 0),(6, .bp 2 0),(10, .bp 3 0),(15,ze c),(74,ze c),(78,ze g.sl),(79,ze i)], [.box 23 (geoC g), .box 32 [nilV,nilV,ze 0,ze 0], .box 40 (anC (firstA g s)), .box 32 [.ow 4 (cellsN g).toNat,nilV,ze 0,ze (-1)], .row 87 3 ((fmtL (fmt2 g s c) ((logW g c).take i)).map celC)])) (fun i=>i≤g.sl.toNat) (fun i=>g.sl.toNat - i) 0 (Nat.zero_le _)
     (WkN.r (s:= [0,1,2,3,4]) ⟨⟨rfl,rfl,rfl,rfl,rfl,rfl,rfl,rfl,rfl,trivial⟩,⟨rfl,rfl,rfl,rfl,rfl,trivial⟩,rfl,rfl,rfl,rfl,rfl⟩) ?_
    intro i hi
    conv=>whnf
    refine boolI (fun h8=>?_) (fun h8=>?_) <;> (repeat rw [Int.toNat_natCast] at h8) <;> conv=>whnf
    ·have hlw:(logW g c).length=g.sl.toNat:=by simp [logW]
     have hi':i<(logW g c).length:=by omega
     have hsx:=fmtL_succ (fmt2 g s c) hi'
     rw [show (logW g c).getD i ⟨0, []⟩=⟨logAt g c (i:Nat),cellB g zeroC c (i:Nat)⟩ from range_get (by omega)] at hsx
     have hlx:(fmtL (fmt2 g s c) ((logW g c).take i)).length=(cellsN g).toNat:=by rw [fmtL_len,fmt2_len]
     generalize fmtL (fmt2 g s c) ((logW g c).take i)=cs at hsx hlx ⊢
     have hla:=log_at g c i hg hc01 (by omega)
     have hin:=logAt_in (n:=(cellsN g).toNat) hg hcN.symm hc01 (s:=i) (by omega)
     have hrc:=rcell_fn g zeroC c i (by decide)
     rw [okR_zeroC hg,show okL g c i=true by simp only [okL,Bool.and_eq_true,inB_iff];omega] at hrc
     have hE:(cs.map celC).getD (logAt g c i).toNat []=celC (cs.getD (logAt g c i).toNat cz):=row_cel hlx (by omega)
     repeat' (first | (refine aSeq.go ?_;conv=>whnf) | fail)
     refine Fn.closed (hla) rfl ?_
     rintro _ rfl
     conv=>whnf
     apply aDraw.treeK (0) tys_ok mixed (.one 0 (.one 1 (.one 2 (.one 3 (.one 4 (.one 5 (.one 6 (.one 7 (.one 8 (.one 9 (.one 10 (.one 11 (.one 12 (.one 13 .fin)))))))))))))) (by kernel_rfl)
     conv=>whnf
     (refine ACalls.sub [.ag (geoC g), .ag (rcC zeroC),ze c,ze i] (by repeat' (first | exact trivial | exact fun _ _ h=>h | exact nil_sl _ _ | refine And.intro ?_ ?_ | refine ag_sub ?_)) ?_;refine Fn.closed hrc rfl ?_;rintro _ rfl)
     conv=>whnf
     try (refine And.intro (by first | omega | (simp;done)) ?_;conv=>whnf)
     try (refine And.intro ⟨rfl,by first | rfl | (simp;done) | (simp;omega),by first | omega | (simp;omega)⟩ ?_;conv=>whnf)
     (first | rw [hE] | skip)
     conv=>whnf
     exact⟨i+1,by omega,by omega,WkN.r (s:= [0,1,2,3,4]) ⟨⟨rfl,rfl,rfl,rfl,rfl,rfl,rfl,rfl,wsucc (by omega),trivial⟩,⟨rfl,rfl,rfl,rfl,congrArg (fun l=>some (AB.row _ _ l)) (by rw [hsx,fmtS_map];rfl),trivial⟩,rfl,rfl,rfl,rfl,rfl⟩⟩
    ·have ei:i=(logW g c).length:=by simp [logW];omega
     repeat' (first | (refine aSeq.go ?_;conv=>whnf) | fail)
     exact⟨c+1,by omega,by omega,WkN.r (s:= [0,1,2,3,4]) ⟨⟨rfl,rfl,rfl,rfl,rfl,wsucc (by omega),trivial⟩,⟨rfl,rfl,rfl,rfl,by rw [ei,List.take_length];rfl,trivial⟩,rfl,rfl,rfl,rfl,rfl⟩⟩
   ·have ec:c=2:=by omega
    subst ec
    have hT:=tfirst_fn g hg
    have hB:=tbytes_fn g (tab0 g) (by rw [tab0,List.length_replicate];omega)
    rw [tab0_ok hg] at hB
    refine Fn.closed (hT) rfl ?_
    rintro _ rfl
    conv=>whnf
    refine Fn.closed (hB) rfl ?_
    rintro _ rfl
    conv=>whnf
    refine aLoop.ruleRR Nat (fun z=>([(2, .bp 0 0),(4, .bp 1 0),(5,ze 0),(6, .bp 2 0),(10, .bp 3 0),(21,bA (tblB (tab0 g))),(116,ze g.z),(117,ze z)], [.box 23 (geoC g), .box 32 [nilV,nilV,ze 0,ze 0], .box 40 (anC (firstA g s)), .box 32 [.ow 4 (cellsN g).toNat,nilV,ze 0,ze (-1)], .row 87 3 ((fmt3 g s z).map celC)])) (fun z=>z≤g.z.toNat) (fun z=>g.z.toNat - z) 0 (Nat.zero_le _)
     (WkN.r (s:= [0,1,2,3,4]) ⟨⟨rfl,rfl,rfl,rfl,rfl,rfl,rfl,rfl,trivial⟩,⟨rfl,rfl,rfl,rfl,rfl,trivial⟩,rfl,rfl,rfl,rfl,rfl⟩) ?_
    intro z hz
    conv=>whnf
    refine boolI (fun h9=>?_) (fun h9=>?_) <;> (repeat rw [Int.toNat_natCast] at h9) <;> conv=>whnf
    ·have htb:∀ k:Nat,k<2→0≤tabAt g z k∧tabAt g z k<((cellsN g).toNat:Int):=fun k hk=>by unfold tabAt;omega
     have hmul:(z:Int)*perG g≤(g.z - 1)*perG g:=Int.mul_le_mul_of_nonneg_right (by omega) (by omega)
     have hz0:0≤(z:Int)*perG g:=Int.mul_nonneg (by omega) (by omega)
     have hsb:∀ k:Nat,(k:Int)<perG g→0≤slotAt g z k∧slotAt g z k<((cellsN g).toNat:Int):=fun k hk=>by
      rw [←hcN];unfold slotAt cellsN;rw [Int.sub_mul,Int.one_mul] at hmul;omega
     repeat' (first | (refine aSeq.go ?_;conv=>whnf) | fail)
     refine aLoop.ruleRR Nat (fun k=>([(2, .bp 0 0),(4, .bp 1 0),(5,ze 0),(6, .bp 2 0),(10, .bp 3 0),(21,bA (tblB (tab0 g))),(23,ze z),(116,ze g.z),(117,ze z),(120,ze k)], [.box 23 (geoC g), .box 32 [nilV,nilV,ze 0,ze 0], .box 40 (anC (firstA g s)), .box 32 [.ow 4 (cellsN g).toNat,nilV,ze 0,ze (-1)], .row 87 3 ((fmtL (fmt3 g s z) ((tabW g z).take k)).map celC)])) (fun k=>k≤2) (fun k=>2 - k) 0 (Nat.zero_le _)
      (WkN.r (s:= [0,1,2,3,4]) ⟨⟨rfl,rfl,rfl,rfl,rfl,rfl,rfl,rfl,rfl,rfl,trivial⟩,⟨rfl,rfl,rfl,rfl,rfl,trivial⟩,rfl,rfl,rfl,rfl,rfl⟩) ?_
     intro k hk
     conv=>whnf
     refine boolI (fun h10=>?_) (fun h10=>?_) <;> (repeat rw [Int.toNat_natCast] at h10) <;> conv=>whnf
     ·have hlw:(tabW g z).length=2:=by simp [tabW]
      have hk':k<(tabW g z).length:=by omega
      have hsx:=fmtL_succ (fmt3 g s z) hk'
      rw [show (tabW g z).getD k ⟨0, []⟩=⟨tabAt g z (k:Nat),sealB (tabAt g z (k:Nat)) 0 (tblB (tab0 g))⟩ from range_get (by omega)] at hsx
      have hlx:(fmtL (fmt3 g s z) ((tabW g z).take k)).length=(cellsN g).toNat:=by rw [fmtL_len,fmt3_len]
      generalize fmtL (fmt3 g s z) ((tabW g z).take k)=cs at hsx hlx ⊢
      have hgt:=gtable_fn g z k hg (by omega) (by omega)
      have hin:=htb k (by omega)
      have hmk:=smake_fn (tabAt g z k) 0 (tblB (tab0 g)) (tab0_fit hg (by omega))
      have hE:(cs.map celC).getD (tabAt g z k).toNat []=celC (cs.getD (tabAt g z k).toNat cz):=row_cel hlx (by omega)
      repeat' (first | (refine aSeq.go ?_;conv=>whnf) | fail)
      refine Fn.closed (hgt) rfl ?_
      rintro _ rfl
      conv=>whnf
      apply aDraw.treeK (0) tys_ok mixed (.one 0 (.one 1 (.one 2 (.one 3 (.one 4 (.one 5 (.one 6 (.one 7 (.one 8 (.one 9 (.one 10 (.one 11 (.one 12 .fin))))))))))))) (by kernel_rfl)
      conv=>whnf
      refine Fn.closed (hmk) rfl ?_
      rintro _ rfl
      conv=>whnf
      try (refine And.intro (by first | omega | (simp;done)) ?_;conv=>whnf)
      try (refine And.intro ⟨rfl,by first | rfl | (simp;done) | (simp;omega),by first | omega | (simp;omega)⟩ ?_;conv=>whnf)
      (first | rw [hE] | skip)
      conv=>whnf
      exact⟨k+1,by omega,by omega,WkN.r (s:= [0,1,2,3,4]) ⟨⟨rfl,rfl,rfl,rfl,rfl,rfl,rfl,rfl,rfl,wsucc (by omega),trivial⟩,⟨rfl,rfl,rfl,rfl,congrArg (fun l=>some (AB.row _ _ l)) (by rw [hsx,fmtS_map];rfl),trivial⟩,rfl,rfl,rfl,rfl,rfl⟩⟩
     ·have ek:k=(tabW g z).length:=by simp [tabW];omega
      rw [ek,List.take_length]
      have hpr:=gSlots_fn g hg
      repeat' (first | (refine aSeq.go ?_;conv=>whnf) | fail)
      refine Fn.closed (hpr) rfl ?_
      rintro _ rfl
      conv=>whnf
      refine aLoop.ruleRR Nat (fun i=>([(2, .bp 0 0),(4, .bp 1 0),(5,ze 0),(6, .bp 2 0),(10, .bp 3 0),(21,bA (tblB (tab0 g))),(23,ze z),(116,ze g.z),(117,ze z),(144,ze (perG g)),(145,ze i)], [.box 23 (geoC g), .box 32 [nilV,nilV,ze 0,ze 0], .box 40 (anC (firstA g s)), .box 32 [.ow 4 (cellsN g).toNat,nilV,ze 0,ze (-1)], .row 87 3 ((fmtL (fmtL (fmt3 g s z) (tabW g z)) ((slotW g z).take i)).map celC)])) (fun i=>i≤(perG g).toNat) (fun i=>(perG g).toNat - i) 0 (Nat.zero_le _)
       (WkN.r (s:= [0,1,2,3,4]) ⟨⟨rfl,rfl,rfl,rfl,rfl,rfl,rfl,rfl,rfl,rfl,rfl,trivial⟩,⟨rfl,rfl,rfl,rfl,rfl,trivial⟩,rfl,rfl,rfl,rfl,rfl⟩) ?_
      intro i hi
      conv=>whnf
      refine boolI (fun h11=>?_) (fun h11=>?_) <;> (repeat rw [Int.toNat_natCast] at h11) <;> conv=>whnf
      ·have hlw:(slotW g z).length=(perG g).toNat:=by simp [slotW]
       have hi':i<(slotW g z).length:=by omega
       have hsx:=fmtL_succ (fmtL (fmt3 g s z) (tabW g z)) hi'
       rw [show (slotW g z).getD i ⟨0, []⟩=⟨slotAt g z (i:Nat),sealB (slotAt g z (i:Nat)) 0 zero8⟩ from range_get (by omega)] at hsx
       have hlx:(fmtL (fmtL (fmt3 g s z) (tabW g z)) ((slotW g z).take i)).length=(cellsN g).toNat:=by rw [fmtL_len,fmtL_len,fmt3_len]
       generalize fmtL (fmtL (fmt3 g s z) (tabW g z)) ((slotW g z).take i)=cs at hsx hlx ⊢
       have hgt:=gslot_fn g z i hg (by omega) (by omega)
       have hin:=hsb i (by omega)
       have hmk:=smake_fn (slotAt g z i) 0 zero8 ⟨hin.1,by omega,Int.le_refl _,by decide,by decide⟩
       have hE:(cs.map celC).getD (slotAt g z i).toNat []=celC (cs.getD (slotAt g z i).toNat cz):=row_cel hlx (by omega)
       repeat' (first | (refine aSeq.go ?_;conv=>whnf) | fail)
       refine Fn.closed (hgt) rfl ?_
       rintro _ rfl
       conv=>whnf
       apply aDraw.treeK (0) tys_ok mixed (.one 0 (.one 1 (.one 2 (.one 3 (.one 4 (.one 5 (.one 6 (.one 7 (.one 8 (.one 9 (.one 10 (.one 11 (.one 12 .fin))))))))))))) (by kernel_rfl)
       conv=>whnf
       (try (refine And.intro ⟨rfl,by decide,by decide⟩ ?_;conv=>whnf);refine ACalls.shut hmk.go ?_;(conv=>whnf);refine And.intro rfl ?_;(conv=>whnf);refine ACalls.sub [.ag [ze (slotAt g z i),ze 0,bA zero8]] ⟨ag_sub ⟨fun _ _ h=>h,fun _ _ h=>h,fun c v h=>Rd.congr rfl (fun i hi=>by have hi':i<8:=hi;rw [getD_rep (by exact hi'),zero8_get hi'];rfl) h,trivial⟩,trivial⟩ ?_;refine Fn.closed hmk rfl ?_;rintro _ rfl)
       conv=>whnf
       try (refine And.intro (by first | omega | (simp;done)) ?_;conv=>whnf)
       try (refine And.intro ⟨rfl,by first | rfl | (simp;done) | (simp;omega),by first | omega | (simp;omega)⟩ ?_;conv=>whnf)
       (first | rw [hE] | skip)
       conv=>whnf
       all_goals exact⟨i+1,by omega,by omega,WkN.r (s:= [0,1,2,3,4]) ⟨⟨rfl,rfl,rfl,rfl,rfl,rfl,rfl,rfl,rfl,rfl,wsucc (by omega),trivial⟩,⟨rfl,rfl,rfl,rfl,congrArg (fun l=>some (AB.row _ _ l)) (by rw [hsx,fmtS_map];rfl),trivial⟩,rfl,rfl,rfl,rfl,rfl⟩⟩
      ·have ei:i=(slotW g z).length:=by simp [slotW];omega
       repeat' (first | (refine aSeq.go ?_;conv=>whnf) | fail)
       exact⟨z+1,by omega,by omega,WkN.r (s:= [0,1,2,3,4]) ⟨⟨rfl,rfl,rfl,rfl,rfl,rfl,rfl,wsucc (by omega),trivial⟩,⟨rfl,rfl,rfl,rfl,by rw [ei,List.take_length];rfl,trivial⟩,rfl,rfl,rfl,rfl,rfl⟩⟩
    ·have ez:z=g.z.toNat:=by omega
     subst ez
     refine And.intro (by rw [List.length_map,fmt3_len]) ?_
     conv=>whnf
     exact⟨.tp [.ag (dkC (fmtD g s)), .v (.int .i64 0)],tp_sub ⟨ag_sub ⟨row_sub (f:=celC) (fmt3 g s g.z.toNat) (by rw [fmt3_len]) rfl,nil_sl 2 _,fun _ _ h=>h,fun _ _ h=>h,trivial⟩,fun _ _ h=>h,trivial⟩,rfl⟩
def volF (g:Geo) (s:ByteArray) (L:List Tx) (b:An) (a:Int):List UInt8:=if a<g.an then anCell b a else logF g s L 0 a
section
variable {g:Geo} {s:ByteArray} {a b:An} {fill:UInt8} {sizes:List Int} {d:Dk}
theorem holds_gots {F:Int→List UInt8} {n:Int} (h:Holds d n F) (l:List Int) (hl:∀ x∈l,0≤x∧x<n):gotsD d l=l.map fun x=>⟨0,F x⟩:=by
 unfold gotsD
 refine List.map_congr_left fun x hx=>?_
 exact h.got (hl x hx).1 (hl x hx).2
theorem logAts_in (hg:okG g=true) {c:Int} (hc:c=0∨c=1):∀ x∈logAts g c,0≤x∧x<cellsN g:=fun x hx=>by
 obtain⟨g1,g2,g3,g4,g5⟩:=okG_iff.1 hg
 have hcg:=cells_ge hg
 simp only [logAts,List.mem_map,List.mem_range] at hx
 obtain⟨i,hi,rfl⟩:=hx
 have:=logAt_bd (g:=g) hc (s:=(i:Nat)) (by omega)
 omega
theorem vol_log (hg:okG g=true) (L:List Tx) {c:Int} (hc:c=0∨c=1) (h:Holds d (cellsN g) (volF g s L b)):gotsD d (logAts g c)=writtenM g L 0 c g.sl.toNat:=by
 rw [holds_gots h _ (logAts_in hg hc)]
 unfold logAts writtenM
 rw [List.map_map]
 refine List.map_congr_left fun i hi=>?_
 have hi:=List.mem_range.1 hi
 have hb:=logAt_bd (g:=g) hc (s:=(i:Nat)) (by omega)
 show (⟨0,volF g s L b (logAt g c i)⟩:Gt)=_
 unfold volF
 rw [if_neg (by omega),logF_at hc (by omega)]
theorem vol_an (hg:okG g=true) {L:List Tx} (hb:anOk g b=true) (h:Holds d (cellsN g) (volF g s L b)):pickN g (gotsD d (anAts g))=some (b,(pkN (pickN g (gotsD d (anAts g))))):=by
 obtain⟨g1,g2,g3,g4,g5⟩:=okG_iff.1 hg
 have hcg:=cells_ge hg
 have hsp:=pickK_spec g (gotsD d (anAts g)) (gotsD d (anAts g)).length
 rw [gotsD_len,anAts_len] at hsp
 have hsay:∀ i,i<g.an.toNat→saysN g ((gotsD d (anAts g)).getD i ⟨0, []⟩) (i:Nat)=some b:=fun i hi=>by
  rw [anAts_gots hi,h.got (by omega) (by omega)]
  unfold volF
  rw [if_pos (by omega)]
  exact saysN_cell hg hb (by omega)
 have hpk:pickN g (gotsD d (anAts g))=pickK g (gotsD d (anAts g)) g.an.toNat:=by rw [pickN,gotsD_len,anAts_len]
 rw [hpk]
 cases hP:pickK g (gotsD d (anAts g)) g.an.toNat with
 | none=>
  have:=hsp.1 hP 0 (by omega)
  rw [hsay 0 (by omega)] at this
  cases this
 | some q=>
  obtain⟨a0,j⟩:=q
  obtain⟨q1,q2,q3⟩:=hsp.2 a0 j hP
  rw [hsay j q1] at q2
  cases q2
  rfl
theorem holds_fin {F:Int→List UInt8} (hg:okG g=true) {c:An} (h:Holds d (cellsN g) F) {r:Int} {l:Int}:Holds ⟨finL d.cells (anCells g c), [],r,l⟩ (cellsN g) (fun x=>if x<g.an then anCell c x else F x):=by
 obtain⟨g1,g2,g3,g4,g5⟩:=okG_iff.1 hg
 have hcg:=cells_ge hg
 refine⟨by rw [←h.len];show ((finL d.cells _).length:Int)=_;rw [finL_len],rfl,fun x h0 h1=>?_⟩
 obtain⟨e1,e2⟩:=h.cell x h0 h1
 have hlt:x.toNat<d.cells.length:=by have:=h.len;omega
 show ((finL d.cells _).getD x.toNat cz).state=0∧((finL d.cells _).getD x.toNat cz).bytes=_
 have hmem:∀ w∈anCells g c,∃ i:Nat,i<g.an.toNat∧w=⟨(i:Nat),anCell c (i:Nat)⟩:=fun w hw=>by
  simp only [anCells,List.mem_map,List.mem_range] at hw
  obtain⟨i,hi,rfl⟩:=hw
  exact⟨i,hi,rfl⟩
 by_cases hx:x<g.an
 ·rw [if_pos hx]
  refine finL_hit _ _ _ hlt (by rw [e1];decide) (fun w hw hwa=>?_) (.inl ⟨⟨x,anCell c x⟩,?_,rfl⟩)
  ·obtain⟨i,hi,rfl⟩:=hmem w hw
   have:((i:Nat):Int).toNat=x.toNat:=hwa
   show anCell c (i:Nat)=_
   congr 1;omega
  ·simp only [anCells,List.mem_map,List.mem_range]
   exact⟨x.toNat,by omega,by rw [Int.toNat_of_nonneg h0]⟩
 ·rw [if_neg hx,finL_miss _ _ _ hlt (fun w hw e=>?_)]
  ·exact⟨e1,e2⟩
  ·obtain⟨i,hi,rfl⟩:=hmem w hw
   have:((i:Nat):Int).toNat=x.toNat:=e
   omega
theorem free_all {n:Int} {F:Int→List UInt8} (h:Holds d n F) (l:List Wr) (hl:∀ w∈l,0≤w.addr∧w.addr<n):l.filter (free d.cells)=l:=by
 rw [List.filter_eq_self]
 intro w hw
 unfold free
 rw [(h.cell w.addr (hl w hw).1 (hl w hw).2).1]
 rfl
theorem vol_mount (hg:okG g=true) (hs:labE s.data.toList=0) (hl:sizes.length≤40) (hd:DkOk d) (hb:anOk g b=true) (h:Holds d (cellsN g) (volF g s (logM g (firstA g s) fill sizes 0 (firstA g s).pos 0) b)) (hlf:d.left<0) (hbs:b.seq=1) (hbp:b.pos=0) (hbe:0≤b.epoch) (hlast:b.last≤(logM g (firstA g s) fill sizes 0 (firstA g s).pos 0).length) (he:b.epoch=0∨b.last=(logM g (firstA g s) fill sizes 0 (firstA g s).pos 0).length) (h1:b.gen≠4294967295) (h2:b.epoch≠4294967295) :
  ∃ D,mountM g d=(D,0,stOf (nextA b (logM g (firstA g s) fill sizes 0 (firstA g s).pos 0).length) (logM g (firstA g s) fill sizes 0 (firstA g s).pos 0))∧Holds D (cellsN g) (volF g s (logM g (firstA g s) fill sizes 0 (firstA g s).pos 0) (nextA b (logM g (firstA g s) fill sizes 0 (firstA g s).pos 0).length))∧D.left=d.left∧D.reqs=(d.tick (mtick g [])).reqs:=by
 obtain⟨g1,g2,g3,g4,g5⟩:=okG_iff.1 hg
 have hcg:=cells_ge hg
 have hao:=firstA_ok hg hs
 have hok:=logM_ok (g:=g) (a:=firstA g s) (fill:=fill) (sizes:=sizes) (epoch:=0) hg hao (by show (1:Int)≤1000000;decide) (by decide)
 have hsc:=scan_whole (g:=g) (a:=firstA g s) (b:=b) (fill:=fill) (sizes:=sizes) (ep:=0) (bad0:=fun _=>false) (bad1:=fun _=>false) hg hao (by show (1:Int)≤1000000;decide) hl hbs hbp (fun _=>rfl) (fun j hj=>by
  rcases he with he | he
  ·exact .inl he.symm
  ·exact .inr ⟨by show (1:Int)+j≤_;omega,hbe⟩)
 rw [txWr_none _ _ _ (b0:=fun _=>!false) (b1:=fun _=>!false) (fun _=>rfl) (fun _=>rfl),finM_neg (by show ¬(1:Int)+_ - 1<b.last;omega)] at hsc
 have hv0:=vol_log (c:=0) hg _ (.inl rfl) h
 have hv1:=vol_log (c:=1) hg _ (.inr rfl) h
 have hs2:scanM g b (gotsD d (logAts g 0)) (gotsD d (logAts g 1))=(logM g (firstA g s) fill sizes 0 (firstA g s).pos 0, [],0):=by
  rw [scanM_P,hv0,hv1,saysF_W hg hok (.inl rfl),saysF_W hg hok (.inr rfl)]
  exact hsc
 have hm:=mountM_live hg hd h.len h.cache hlf (vol_an hg hb h) hs2 h1 h2
 have hna:=anCells_len g (nextA b (logM g (firstA g s) fill sizes 0 (firstA g s).pos 0).length)
 rw [free_all h _ (fun w hw=>by
  simp only [anCells,List.mem_map,List.mem_range] at hw
  obtain⟨i,hi,rfl⟩:=hw
  exact⟨by show (0:Int)≤(i:Nat);omega,by show ((i:Nat):Int)<_;omega⟩),if_neg (by omega),if_neg (by omega)] at hm
 refine⟨_,hm,?_,rfl,rfl⟩
 have hf:=holds_fin (r:=(d.tick (mtick g [])).reqs) (l:=d.left) hg (c:=nextA b (logM g (firstA g s) fill sizes 0 (firstA g s).pos 0).length) h
 refine⟨hf.len,hf.cache,fun x h0 h1=>?_⟩
 obtain⟨q1,q2⟩:=hf.cell x h0 h1
 refine⟨q1,q2.trans ?_⟩
 unfold volF
 by_cases hx:x<g.an
 ·simp only [if_pos hx]
 ·simp only [if_neg hx]
theorem vol_first (hg:okG g=true) (hs:labE s.data.toList=0):Holds (logD g s (logM g (firstA g s) fill sizes 0 (firstA g s).pos 0)) (cellsN g) (volF g s (logM g (firstA g s) fill sizes 0 (firstA g s).pos 0) (firstA g s)):=by
 obtain⟨g1,g2,g3,g4,g5⟩:=okG_iff.1 hg
 have h:=logd_holds (s:=s) (fill:=fill) (sizes:=sizes) hg (firstA_ok hg hs)
 refine⟨h.len,h.cache,fun x h0 h1=>?_⟩
 obtain⟨q1,q2⟩:=h.cell x h0 h1
 refine⟨q1,q2.trans ?_⟩
 unfold volF
 by_cases hx:x<g.an
 ·rw [if_pos hx,logF_out (.inl hx) (by omega),fmtF_an hx]
 ·rw [if_neg hx]
theorem cellF_short (hg:okG g=true) (hs:labE s.data.toList=0) {F:Int→List UInt8} (hF:F=logF g s (logM g (firstA g s) fill sizes 0 (firstA g s).pos 0) 0) {x:Int} (h0:0≤x) (h1:x<cellsN g):(F x).length≤200:=by
 obtain⟨g1,g2,g3,g4,g5⟩:=okG_iff.1 hg
 have hao:=firstA_ok hg hs
 have hok:=logM_ok (g:=g) (a:=firstA g s) (fill:=fill) (sizes:=sizes) (epoch:=0) hg hao (by show (1:Int)≤1000000;decide) (by decide)
 subst hF
 by_cases hx:g.an≤x∧x<g.an+2*g.sl
 ·obtain⟨c,i,hc,hi,rfl⟩:=log_cases hx.1 hx.2
  rw [logF_at hc hi]
  exact cellB_short2 (hok.ok i hi) c i
 ·rw [logF_out (by omega) (by omega)]
  unfold fmtF
  split
  ·exact anCell_short hg hao x
  ·rw [if_neg (by omega),if_neg (by omega)]
   split
   ·rw [sealB_len]
    have:=(tab0_fit (g:=g) (a:=x) hg (by omega)).2.2.2.2
    omega
   ·rw [sealB_len];decide
theorem logd_ok (hg:okG g=true) (hs:labE s.data.toList=0):DkOk (logD g s (logM g (firstA g s) fill sizes 0 (firstA g s).pos 0)):=by
 obtain⟨g1,g2,g3,g4,g5⟩:=okG_iff.1 hg
 have hao:=firstA_ok hg hs
 have hcg:=cells_ge hg
 have hp:=per_bd hg
 have h:=logd_holds (s:=s) (fill:=fill) (sizes:=sizes) hg hao
 have hlen:=h.len
 have hN:g.z*perG g≤4*7:=Int.mul_le_mul (by omega) (by omega) (by omega) (by omega)
 refine⟨?_,by rw [h.cache];simp,by show (0:Int)≤0∧(0:Int)≤_;decide,by show (-1:Int)≤ -1∧(-1:Int)≤_;decide,fun c hc=>?_,fun w hw=>by rw [h.cache] at hw;cases hw⟩
 ·unfold cellsN at hcg hlen;omega
 ·obtain⟨i,hi,rfl⟩:=List.getElem_of_mem hc
  have hci:=logd_cell (s:=s) (fill:=fill) (sizes:=sizes) hg hao (x:=(i:Nat)) (by omega) (by omega)
  have e:(logD g s (logM g (firstA g s) fill sizes 0 (firstA g s).pos 0)).cells.getD ((i:Nat):Int).toNat cz=(logD g s (logM g (firstA g s) fill sizes 0 (firstA g s).pos 0)).cells[i]:=by
   rw [Int.toNat_natCast,List.getD_eq_getElem?_getD,List.getElem?_eq_getElem hi];rfl
  rw [e] at hci
  rw [hci]
  exact⟨⟨Int.le_refl _,by show (0:Int)≤2;decide⟩,cellF_short hg hs rfl (by omega) (by omega),by simp⟩
end
theorem ConvF.cap {fr:Fr} {H H':List AB} (i k:Nat) {y:AV} (hx:fget fr i = .bp k 0) (h:capK [.bp k 0] H fun l H2=>l=[y]∧H2=H'):ConvF fr H ((i,y)::fr) H':=fun _ _ c _ a hs hf=>by
 have hr:RdL [.bp k 0] c [a.tmps.getD i undef]:=by
  simp only [RdL]
  exact⟨_,_,rfl,hx ▸ hf.get i,rfl⟩
 obtain⟨l',H1,c1,⟨rfl,rfl⟩,e1,s1,x1,r⟩:=capK_sound hs hr h
 simp only [RdL] at r
 obtain⟨u,us,e,r1,rfl⟩:=r
 injection e with e _
 subst e
 exact⟨c1,e1,s1,(hf.ext x1).cons i _ r1,x1⟩
def ringOk (g:Geo):List Tx→Int→Int→Int→Bool
 | [],_,_,_=>true
 | t::r,seq,pos,left=>(decide (t.seq=seq)&&(decide (t.seq≤4294967295)&&(decide (t.pos=pos)&&(decide (2≤t.n)&&(decide (t.n≤left)&&(decide (t.n=t.images.length+1)&&t.images.all (imgOk g)))))))&&ringOk g r (seq+1) ((pos+t.n).tmod g.sl) (left - t.n)
theorem ring1_fn (g:Geo) (x:Img) (hx:x.bytes.length≤100000):Fn Tryz.prog 124 [.ag (imgC x), .rp (geoC g)] fun r=>r = .v (.bool (!imgOk g x)):=by
 have h:=imageN_fn g x hx
 refine Fn.of tys_ok Tryz.func124 rfl rfl (Nat.le_of_ble_eq_true rfl) ?_
 conv=>whnf
 refine Fn.closed (h) rfl ?_
 rintro _ rfl
 conv=>whnf
 cases imgOk g x with
 | true=>exact⟨_,fun _ _ h=>h,rfl⟩
 | false=>exact⟨_,fun _ _ h=>h,rfl⟩
theorem rgi_ix (l:List Img) (g:Geo) (hb:∀ x∈l,x.bytes.length≤100000) (hl:l.length≤1000000):Fn Tryz.prog 178 [imgsA l, .fn 124 [.rp (geoC g)]] fun r=>r = .v (.int .i64 (ixI (fun x=>!imgOk g x) l)):=by
 refine Fn.of tys_ok Tryz.func178 rfl rfl (Nat.le_of_ble_eq_true rfl) ?_
 conv=>whnf
 refine aLoop.rule Nat (fun k=>([(0,imgsA l),(1, .fn 124 [.rp (geoC g)]),(7, .v (.int .i64 l.length)),(8, .v (.int .i64 k))], [])) (fun k=>k≤l.length∧(l.take k).any (fun x=>!imgOk g x)=false) (fun k=>l.length - k) 0 ⟨Nat.zero_le _,by simp⟩ ⟨[],trivial,⟨rfl,rfl,rfl,rfl,trivial⟩,trivial,rfl,rfl,rfl⟩ ?_
 rintro k ⟨hk,hI⟩
 conv=>whnf
 refine boolK_intro (fun h2=>?_) (fun h2=>?_) <;> simp at h2 <;> conv=>whnf
 ·refine⟨by first | omega | (refine⟨rfl,?_,?_⟩ <;> first | omega | (simp only [List.length_map];done) | (simp only [List.length_map];omega)) | (simp only [List.length_map];omega),?_⟩
  conv=>whnf
  refine Fn.closed (ring1_fn g (l.getD k ⟨0,0, []⟩) (hb _ (getD_mem h2))) rfl ?_
  rintro _ rfl
  conv=>whnf
  refine boolK_intro (fun h3=>?_) (fun h3=>?_) <;> conv=>whnf
  ·exact⟨_,fun _ _ h=>h,by rw [ixI_hit (d:=⟨0,0, []⟩) h2 hI (by first | exact h3 | (rw [Int.toNat_natCast] at h3;exact h3) | simpa using h3)]⟩
  ·refine⟨k+1,⟨by omega,any_take_succ (d:=⟨0,0, []⟩) h2 hI (by first | exact h3 | (rw [Int.toNat_natCast] at h3;exact h3) | simpa using h3)⟩,by omega, [],trivial,⟨rfl,rfl,rfl,wsucc (by omega),trivial⟩,trivial,rfl,rfl,rfl⟩
 ·exact⟨_,fun _ _ h=>h,by rw [List.take_of_length_le h2] at hI;rw [ixI_none hI]⟩
theorem rgi_cf (l:List Img) (g:Geo) (hb:∀ x∈l,x.bytes.length≤100000) (hl:l.length≤1000000):Fn Tryz.prog 126 [imgsA l, .fn 124 [.rp (geoC g)]] fun r=>r = .v (.bool (l.any (fun x=>!imgOk g x))):=by
 refine Fn.of tys_ok Tryz.func126 rfl rfl (Nat.le_of_ble_eq_true rfl) ?_
 conv=>whnf
 refine Fn.closed (rgi_ix l g hb hl) rfl ?_
 rintro _ rfl
 conv=>whnf
 exact⟨_,fun _ _ h=>h,by rw [ixI_ge]⟩

set_option maxRecDepth 100000 in
theorem ringcheck_fn (g:Geo) (a:An) (l:List Tx) (hl:a.label.size≤1000000) (hh:a.homes.length≤1000000) (hn:l.length≤1000000) (hi:∀ t∈l,t.images.length≤1000000∧∀ x∈t.images,x.bytes.length≤100000):Fn Tryz.prog 58 [.ag (geoC g), .ag (anC a),txsA l] fun r=>r = .v (errV ((okG g&&anOk g a)&&ringOk g l a.seq a.pos g.sl)):=by
 have hA:=acheck_fn g a hl hh
 cases hga:okG g&&anOk g a with
 | false=>
  rw [hga] at hA
  rw [Bool.false_and]
  refine Fn.of tys_ok Tryz.func58 rfl rfl (Nat.le_of_ble_eq_true rfl) ?_
  conv=>whnf
  refine Fn.closed (hA) rfl ?_
  rintro _ rfl
  conv=>whnf
  exact⟨_,fun _ _ h=>h,rfl⟩
 | true=>
  rw [hga] at hA
  rw [Bool.true_and]
  obtain⟨hg,ha⟩:=Bool.and_eq_true_iff.1 hga
  obtain⟨g1,g2,g3,g4,g5⟩:=okG_iff.1 hg
  have hp:=anOk_parts ha
  refine Fn.of tys_ok Tryz.func58 rfl rfl (Nat.le_of_ble_eq_true rfl) ?_
  conv=>whnf
  refine Fn.closed (hA) rfl ?_
  rintro _ rfl
  conv=>whnf
  refine aDraw.seq tys_ok mixed (by kernel_rfl) ?_
  conv=>whnf
  refine aLoop.ruleRR (Nat × Int × Int × Int) (fun x=>([(2,txsA l),(3, .rp (geoC g)),(8, .v (.int .i64 x.2.1)),(9, .v (.int .i64 x.2.2.1)),(10, .v (.int .i64 x.2.2.2)),(26,txsA l),(27, .v (.int .i64 l.length)),(28, .v (.int .i64 x.1))], []))
   (fun x=>x.1≤l.length∧(0≤x.2.1∧x.2.1<g.sl)∧(0≤x.2.2.1∧x.2.2.1≤4294967296)∧(0≤x.2.2.2∧x.2.2.2≤30)∧ringOk g l a.seq a.pos g.sl=ringOk g (l.drop x.1) x.2.2.1 x.2.1 x.2.2.2) (fun x=>l.length - x.1) (0,a.pos,a.seq,g.sl) ⟨Nat.zero_le _,by show 0≤a.pos∧a.pos<g.sl;omega,by show 0≤a.seq∧a.seq≤4294967296;omega,by show 0≤g.sl∧g.sl≤30;omega,rfl⟩
   ?_ ?_
  ·exact WkN.rc (ConvF.cap 3 0 (y:= .rp (geoC g)) rfl (by (conv=>whnf);exact⟨rfl,rfl⟩)) (s:= []) ⟨⟨rfl,rfl,rfl,rfl,rfl,rfl,rfl,rfl,trivial⟩,trivial,rfl,rfl,rfl,rfl,rfl⟩
  rintro⟨k,pos,seq,left⟩ ⟨hk,b1,b2,b3,hI⟩
  simp only at hk b1 b2 b3 hI ⊢
  conv=>whnf
  refine boolI (fun h6=>?_) (fun h6=>?_) <;> (repeat rw [Int.toNat_natCast] at h6) <;> conv=>whnf
  ·have hk':k<l.length:=by omega
   have hm:=hi _ (getD_mem (d:=(⟨0,0,0, []⟩:Tx)) hk')
   have hdr:l.drop k=l.getD k ⟨0,0,0, []⟩::l.drop (k+1):=by
    rw [List.getD_eq_getElem?_getD,List.getElem?_eq_getElem hk'];exact List.drop_eq_getElem_cons hk'
   rw [hdr,ringOk] at hI
   repeat' (first | (refine aSeq.go ?_;conv=>whnf) | fail)
   refine And.intro ⟨by omega,by omega⟩ ?_
   conv=>whnf
   rw [Int.toNat_natCast]
   generalize l.getD k ⟨0,0,0, []⟩=t at hm hI ⊢
   have hcf:=rgi_cf t.images g hm.2 hm.1
   rw [show (t.images.any fun x=>!imgOk g x) = !t.images.all (imgOk g) by rw [List.all_eq_not_any_not,Bool.not_not]] at hcf
   have wn:IntKind.i64.wrap ((t.images.length:Int)+1)=t.images.length+1:=wi (by omega)
   generalize hAll:t.images.all (imgOk g)=Q at hcf hI
   generalize hC:(decide (t.seq=seq)&&(decide (t.seq≤4294967295)&&(decide (t.pos=pos)&&(decide (2≤t.n)&&(decide (t.n≤left)&&(decide (t.n=t.images.length+1)&&Q))))))=C at hI
   clear hAll hm hi hdr hA
   conv=>whnf
   repeat' (first | (refine aSeq.go ?_;conv=>whnf) | fail)
   repeat' (first | (refine boolK_intro (fun h=>?_) (fun h=>?_) <;> (try simp at h) <;> conv=>whnf) | (refine aSeq.go ?_;conv=>whnf) | (refine Fn.closed hcf rfl ?_;rintro _ rfl;conv=>whnf))
   all_goals try (exact⟨_,fun _ _ h=>h,by rw [hI,show C=false by (rw [←hC,←Bool.not_eq_true];clear hI hC hcf;simp [*] <;> omega)];rfl⟩)
   have hC1:C=true:=by rw [←hC];clear hI hC hcf;simp [*] <;> omega
   rw [hC1,Bool.true_and] at hI
   have wn':t.n=t.images.length+1:=by omega
   have w1:IntKind.i64.wrap (pos+t.n)=pos+t.n:=wi (by omega)
   have w2:IntKind.i64.wrap (seq+1)=seq+1:=wi (by omega)
   have w3:IntKind.i64.wrap (left - t.n)=left - t.n:=wi (by omega)
   apply aDraw.treeK (0) tys_ok mixed (.one 0 (.one 1 (.one 2 (.one 3 (.one 4 (.one 5 (.one 6 (.one 7 (.one 8 (.one 9 (.one 10 (.one 11 (.one 12 (.one 13 (.one 14 (.one 15 .fin)))))))))))))))) (by kernel_rfl)
   conv=>whnf
   try (refine And.intro (by first | omega | (simp;done)) ?_;conv=>whnf)
   rw [w1,w2,w3]
   have hq1:=Int.tmod_nonneg g.sl (show 0≤pos+t.n by omega)
   have hq2:=Int.tmod_lt_of_pos (pos+t.n) (show 0<g.sl by omega)
   exact⟨(k+1,(pos+t.n).tmod g.sl,seq+1,left - t.n),⟨hk',⟨hq1,hq2⟩,(show 0≤seq+1∧seq+1≤4294967296 by omega),(show 0≤left - t.n∧left - t.n≤30 by omega),hI⟩,(show l.length - (k+1)<l.length - k by omega),WkN.r (s:= []) ⟨⟨rfl,rfl,rfl,rfl,rfl,rfl,rfl,wsucc (by omega),trivial⟩,trivial,rfl,rfl,rfl,rfl,rfl⟩⟩
  ·have ek:k=l.length:=by omega
   subst ek
   exact⟨_,fun _ _ h=>h,by rw [hI,List.drop_length];rfl⟩
def unitsN (g:Geo):Int:=1+g.sl+g.z*(2+g.d)
theorem units_bd {g:Geo} (hg:okG g=true):18≤unitsN g∧unitsN g≤55∧(3≤g.z*(2+g.d)∧g.z*(2+g.d)≤24):=by
 obtain⟨g1,g2,g3,g4,g5⟩:=okG_iff.1 hg
 have h1:g.z*(2+g.d)≤4*6:=Int.mul_le_mul (by omega) (by omega) (by omega) (by omega)
 have h2:1*3≤g.z*(2+g.d):=Int.mul_le_mul (by omega) (by omega) (by omega) (by omega)
 unfold unitsN
 omega
theorem units_fn (g:Geo) (hg:okG g=true):Fn Tryz.prog 59 [.ag (geoC g)] fun r=>r = .v (.int .i64 (unitsN g)):=by
 obtain⟨g1,g2,g3,g4,g5⟩:=okG_iff.1 hg
 have hu:=units_bd hg
 have w:IntKind.i64.wrap (IntKind.i64.wrap (1+g.sl)+IntKind.i64.wrap (g.z*IntKind.i64.wrap (2+g.d)))=unitsN g:=by
  rw [wi (n:=2+g.d) (by omega),wi (n:=g.z*(2+g.d)) (by omega),wi (n:=1+g.sl) (by omega)]
  exact wi (by unfold unitsN at hu;omega)
 refine Fn.of tys_ok Tryz.func59 rfl rfl (Nat.le_of_ble_eq_true rfl) ?_
 conv=>whnf
 exact⟨_,fun _ _ h=>h,by rw [w]⟩
def lostP (n:Int) (l:List Int) (i:Nat):Bool:=decide (0≤l.getD i 0)&&(decide (l.getD i 0<n)&&(decide (i=0) || decide (l.getD (i - 1) 0<l.getD i 0)))
def lostOk (n:Int) (l:List Int):Bool:=(List.range l.length).all (lostP n l)
theorem lost_succ {n:Int} {l:List Int} {k:Nat} (h:(List.range k).all (lostP n l)=true) (e:lostP n l k=true):(List.range (k+1)).all (lostP n l)=true:=by
 rw [List.range_succ,List.all_append,h,Bool.true_and,List.all_cons,e];rfl
theorem lost_no {n:Int} {l:List Int} {k:Nat} (hk:k<l.length) (e:lostP n l k=false):lostOk n l=false:=by
 rw [lostOk,←Bool.not_eq_true,List.all_eq_true]
 intro h
 rw [h k (List.mem_range.2 hk)] at e
 cases e
def healthOk (g:Geo) (s:Stt):Bool:=lostOk (g.z*g.d) s.lost&&(decide (0≤s.found)&&(decide (0≤s.fixed)&&decide (0≤s.moved)))
def hlC (s:Stt):List AV:= [.v (.int .i64 s.found), .v (.int .i64 s.fixed), .v (.int .i64 s.moved),iA s.lost]
set_option maxRecDepth 100000 in
theorem bhealth_fn (g:Geo) (s:Stt) (hg:okG g=true) (hl:s.lost.length≤1000000):Fn Tryz.prog 60 [.ag (geoC g), .ag (hlC s)] fun r=>r = .v (.bool (healthOk g s)):=by
 obtain⟨g1,g2,g3,g4,g5⟩:=okG_iff.1 hg
 have hm1:g.z*g.d≤4*4:=Int.mul_le_mul (by omega) (by omega) (by omega) (by omega)
 have hm0:0≤g.z*g.d:=Int.mul_nonneg (by omega) (by omega)
 have wm:IntKind.i64.wrap (g.z*g.d)=g.z*g.d:=wi (by omega)
 refine Fn.of tys_ok Tryz.func60 rfl rfl (Nat.le_of_ble_eq_true rfl) ?_
 conv=>whnf
 refine aLoop.ruleRR Nat (fun k=>([(2, .bp 0 0),(3, .bp 1 0),(8,iA s.lost),(9, .v (.int .i64 s.lost.length)),(10, .v (.int .i64 k))], [.box 23 (geoC g), .box 42 (hlC s)])) (fun k=>k≤s.lost.length∧(List.range k).all (lostP (g.z*g.d) s.lost)=true) (fun k=>s.lost.length - k) 0 ⟨Nat.zero_le _,rfl⟩
  (WkN.r (s:= [0,1]) ⟨⟨rfl,rfl,rfl,rfl,rfl,trivial⟩,⟨rfl,rfl,trivial⟩,rfl,rfl,rfl,rfl,rfl⟩) ?_
 rintro k ⟨hk,hI⟩
 conv=>whnf
 refine boolI (fun h6=>?_) (fun h6=>?_) <;> (repeat rw [Int.toNat_natCast] at h6) <;> conv=>whnf
 ·have hk':k<s.lost.length:=by omega
  have hno:=lost_no (n:=g.z*g.d) hk'
  have hyes:=lost_succ hI (n:=g.z*g.d) (l:=s.lost)
  unfold lostP at hno hyes
  repeat' (first | (refine aSeq.go ?_;conv=>whnf) | fail)
  refine And.intro ⟨by omega,by omega⟩ ?_
  conv=>whnf
  repeat' (first | (refine aSeq.go ?_;conv=>whnf) | fail)
  rw [Int.toNat_natCast]
  refine boolI (fun q1=>?_) (fun q1=>?_)
  ·conv=>whnf
   exact⟨_,fun _ _ h=>h,by rw [healthOk,hno (by rw [←Bool.not_eq_true];simp only [Bool.and_eq_true,Bool.or_eq_true,decide_eq_true_eq];omega),Bool.false_and]⟩
  ·conv=>whnf
   rw [wm]
   refine boolI (fun q2=>?_) (fun q2=>?_)
   ·conv=>whnf
    exact⟨_,fun _ _ h=>h,by rw [healthOk,hno (by rw [←Bool.not_eq_true];simp only [Bool.and_eq_true,Bool.or_eq_true,decide_eq_true_eq];omega),Bool.false_and]⟩
   ·conv=>whnf
    have wk:IntKind.i64.wrap ((k:Int) - 1)=(k:Int) - 1:=wi (by omega)
    refine boolI (fun q3=>?_) (fun q3=>?_)
    ·conv=>whnf
     rw [wk]
     refine And.intro ⟨by omega,by omega⟩ ?_
     conv=>whnf
     rw [show ((k:Int) - 1).toNat=k - 1 by omega]
     refine boolI (fun q4=>?_) (fun q4=>?_)
     ·conv=>whnf
      exact⟨_,fun _ _ h=>h,by rw [healthOk,hno (by rw [←Bool.not_eq_true];simp only [Bool.and_eq_true,Bool.or_eq_true,decide_eq_true_eq];omega),Bool.false_and]⟩
     ·conv=>whnf
      exact⟨k+1,⟨hk',hyes (by simp only [Bool.and_eq_true,Bool.or_eq_true,decide_eq_true_eq];omega)⟩,by omega,WkN.r (s:= [0,1]) ⟨⟨rfl,rfl,rfl,rfl,wsucc (by omega),trivial⟩,⟨rfl,rfl,trivial⟩,rfl,rfl,rfl,rfl,rfl⟩⟩
    ·conv=>whnf
     exact⟨k+1,⟨hk',hyes (by simp only [Bool.and_eq_true,Bool.or_eq_true,decide_eq_true_eq];omega)⟩,by omega,WkN.r (s:= [0,1]) ⟨⟨rfl,rfl,rfl,rfl,wsucc (by omega),trivial⟩,⟨rfl,rfl,trivial⟩,rfl,rfl,rfl,rfl,rfl⟩⟩
 ·have ek:k=s.lost.length:=by omega
  have hlo:lostOk (g.z*g.d) s.lost=true:=by rw [lostOk,←ek];exact hI
  refine⟨_,fun _ _ h=>h,?_⟩
  rw [healthOk,hlo,Bool.true_and]
  refine congrArg (fun b=>AV.v (.bool b)) ?_
  rw [Bool.eq_iff_iff]
  simp only [Bool.and_eq_true,decide_eq_true_eq]
  repeat' split
  all_goals omega
def stOk (g:Geo) (d:Dk) (s:Stt):Bool:=okG g&&((okDk d&&decide ((d.cells.length:Int)=cellsN g))&&(((okG g&&anOk g s.a)&&ringOk g s.txns s.a.seq s.a.pos g.sl)&&(decide (0≤s.cursor)&&(decide (s.cursor<unitsN g)&&healthOk g s))))
structure StBig (s:Stt):Prop where
 l:s.a.label.size≤1000000
 h:s.a.homes.length≤1000000
 t:s.txns.length≤1000000∧∀ t∈s.txns,t.images.length≤1000000∧∀ x∈t.images,x.bytes.length≤100000
 o:s.lost.length≤1000000
set_option maxRecDepth 100000 in
theorem bcheck_fn (g:Geo) (d:Dk) (s:Stt) (h1:d.cells.length≤1000000) (h2:d.cache.length≤1000000) (hs:StBig s):Fn Tryz.prog 19 [.ag (geoC g), .ag (dkC d), .ag (stC s)] fun r=>r = .v (errV (stOk g d s)):=by
 have hG:Fn Tryz.prog 46 [.ag (geoC g)] fun r=>r = .v (errV (okG g)):=gcheck_fn g.z g.d g.sp g.sl g.an
 unfold stOk
 cases hg:okG g with
 | false=>
  rw [hg] at hG
  refine Fn.of tys_ok Tryz.func19 rfl rfl (Nat.le_of_ble_eq_true rfl) ?_
  conv=>whnf
  refine Fn.closed (hG) rfl ?_
  rintro _ rfl
  conv=>whnf
  exact⟨_,fun _ _ h=>h,rfl⟩
 | true=>
  rw [hg] at hG
  have hz:=sized_fn g d hg h1 h2
  have hr:=ringcheck_fn g s.a s.txns hs.l hs.h hs.t.1 hs.t.2
  rw [hg] at hr
  have hu:=units_fn g hg
  have hh:=bhealth_fn g s hg hs.o
  generalize (okDk d&&decide ((d.cells.length:Int)=cellsN g))=Z at hz ⊢
  generalize ((true&&anOk g s.a)&&ringOk g s.txns s.a.seq s.a.pos g.sl)=R at hr ⊢
  generalize healthOk g s=Q at hh ⊢
  generalize unitsN g=U at hu ⊢
  cases Z with
  | false=>
   refine Fn.of tys_ok Tryz.func19 rfl rfl (Nat.le_of_ble_eq_true rfl) ?_
   conv=>whnf
   refine Fn.closed (hG) rfl ?_
   rintro _ rfl
   conv=>whnf
   refine Fn.closed (hz) rfl ?_
   rintro _ rfl
   conv=>whnf
   exact⟨_,fun _ _ h=>h,rfl⟩
  | true=>
   cases R with
   | false=>
    refine Fn.of tys_ok Tryz.func19 rfl rfl (Nat.le_of_ble_eq_true rfl) ?_
    conv=>whnf
    refine Fn.closed (hG) rfl ?_
    rintro _ rfl
    conv=>whnf
    refine Fn.closed (hz) rfl ?_
    rintro _ rfl
    conv=>whnf
    refine Fn.closed (hr) rfl ?_
    rintro _ rfl
    conv=>whnf
    exact⟨_,fun _ _ h=>h,rfl⟩
   | true=>
    refine Fn.of tys_ok Tryz.func19 rfl rfl (Nat.le_of_ble_eq_true rfl) ?_
    conv=>whnf
    refine Fn.closed (hG) rfl ?_
    rintro _ rfl
    conv=>whnf
    refine Fn.closed (hz) rfl ?_
    rintro _ rfl
    conv=>whnf
    refine Fn.closed (hr) rfl ?_
    rintro _ rfl
    conv=>whnf
    refine aDraw.seq tys_ok mixed (by kernel_rfl) ?_
    conv=>whnf
    refine boolI (fun q1=>?_) (fun q1=>?_)
    ·conv=>whnf
     exact⟨_,fun _ _ h=>h,by rw [decide_eq_false (by omega)];rfl⟩
    ·conv=>whnf
     refine Fn.closed (hu) rfl ?_
     rintro _ rfl
     conv=>whnf
     refine boolI (fun q2=>?_) (fun q2=>?_)
     ·conv=>whnf
      exact⟨_,fun _ _ h=>h,by rw [decide_eq_true (p:=0≤s.cursor) (by omega),decide_eq_false (p:=s.cursor<U) (by omega)];rfl⟩
     ·conv=>whnf
      refine Fn.closed (hh) rfl ?_
      rintro _ rfl
      conv=>whnf
      rw [decide_eq_true (p:=0≤s.cursor) (by omega),decide_eq_true (p:=s.cursor<U) (by omega)]
      cases Q with
      | false=>exact⟨_,fun _ _ h=>h,rfl⟩
      | true=>exact⟨_,fun _ _ h=>h,rfl⟩

section
variable {g:Geo} {a:An} {x y:List Gt} {pos seq left:Int}
end





set_option maxRecDepth 100000 in
theorem rformat_own (g:Geo) (s:ByteArray) (hg:okG g=true) (hs:labE s.data.toList=0):ACalls Tryz.prog false 26 [.ag (geoC g), .v (.string s)] [] fun r H=>r = .ag [.ow 0 (cellsN g).toNat,nilV,ze 0,ze (-1)]∧H=[.row 87 3 ((fmtD g s).cells.map celC)]:=by
 obtain⟨g1,g2,g3,g4,g5⟩:=okG_iff.1 hg
 have hcg:=cells_ge hg
 have hp:=per_bd hg
 have hN:1≤(cellsN g).toNat∧(cellsN g).toNat≤300:=by
  have:g.z*perG g≤4*7:=Int.mul_le_mul (by omega) (by omega) (by omega) (by omega)
  unfold cellsN at hcg ⊢
  omega
 have hcN:cellsN g=((cellsN g).toNat:Int):=by omega
 have hao:=firstA_ok hg hs
 have hA:=first_fn g s hg
 have hC:=rcellsN_fn g hg
 rw [hcN] at hC
 have hD:=rnew_own (cellsN g).toNat hN
 refine ACalls.ofR tys_ok Tryz.func26 rfl rfl (Nat.le_of_ble_eq_true rfl) ?_
 conv=>whnf
 refine Fn.closed (hC) rfl ?_
 rintro _ rfl
 conv=>whnf
 refine ACalls.beside hD rfl ?_
 rintro _ _ ⟨rfl,rfl⟩
 conv=>whnf
 refine Fn.closed (hA) rfl ?_
 rintro _ rfl
 conv=>whnf
 refine aLoop.ruleRR Nat (fun k=>([(2, .bp 0 0),(4, .bp 1 0),(5, .bp 2 0),(6, .bp 3 0),(7,ze k)], [.box 23 (geoC g), .box 32 [nilV,nilV,ze 0,ze 0], .box 32 [.ow 4 (cellsN g).toNat,nilV,ze 0,ze (-1)], .box 40 (anC (firstA g s)), .row 87 3 ((fmtL (fmt0 g) ((anCells g (firstA g s)).take k)).map celC)])) (fun k=>k≤g.an.toNat) (fun k=>g.an.toNat - k) 0 (Nat.zero_le _)
  ?_ ?_
 ·refine WkN.rc (ConvF.ofH (ConvH.subRow (k:=2) rfl (es':=(fmt0 g).map celC) (by simp [fmt0]) fun i=>?_)) (s:= [0,1,3,4,2]) ⟨⟨rfl,rfl,rfl,rfl,rfl,trivial⟩,⟨rfl,rfl,rfl,rfl,rfl,trivial⟩,rfl,rfl,rfl,rfl,rfl⟩
  rw [fmt0,List.map_replicate]
  by_cases hi:i<(cellsN g).toNat
  ·rw [getD_rep hi,getD_rep hi];exact⟨fun _ _ h=>h,nil_sl 1 _,nil_sl 1 _,trivial⟩
  ·rw [List.getD_eq_getElem?_getD,List.getD_eq_getElem?_getD,List.getElem?_eq_none (by simpa using hi),List.getElem?_eq_none (by simpa using hi)];exact SubL.refl _
 ·intro k hk
  conv=>whnf
  refine boolI (fun h6=>?_) (fun h6=>?_) <;> (repeat rw [Int.toNat_natCast] at h6) <;> conv=>whnf
  ·have hk':k<(anCells g (firstA g s)).length:=by rw [anCells_len];omega
   have hsx:=fmtL_succ (fmt0 g) hk'
   rw [anCells_get (by omega)] at hsx
   have hlx:(fmtL (fmt0 g) ((anCells g (firstA g s)).take k)).length=(cellsN g).toNat:=by rw [fmtL_len,fmt0_len]
   generalize fmtL (fmt0 g) ((anCells g (firstA g s)).take k)=cs at hsx hlx ⊢
   have hnc:=rancell_fn g (firstA g s) k hg hao (by omega)
   have hE:(cs.map celC).getD (k:Int).toNat []=celC (cs.getD (k:Int).toNat cz):=row_cel hlx (by omega)
   repeat' (first | (refine aSeq.go ?_;conv=>whnf) | fail)
   apply aDraw.treeK (0) tys_ok mixed (.one 0 (.one 1 (.one 2 (.one 3 (.one 4 (.one 5 (.one 6 (.one 7 (.one 8 .fin))))))))) (by kernel_rfl)
   conv=>whnf
   refine Fn.closed (hnc) rfl ?_
   rintro _ rfl
   conv=>whnf
   try (refine And.intro (by first | omega | (simp;done)) ?_;conv=>whnf)
   try (refine And.intro ⟨rfl,by first | rfl | (simp;done) | (simp;omega),by first | omega | (simp;omega)⟩ ?_;conv=>whnf)
   (first | rw [hE] | skip)
   conv=>whnf
   all_goals exact⟨k+1,by omega,by omega,WkN.r (s:= [0,1,2,3,4]) ⟨⟨rfl,rfl,rfl,rfl,wsucc (by omega),trivial⟩,⟨rfl,rfl,rfl,rfl,congrArg (fun l=>some (AB.row _ _ l)) (by rw [hsx,fmtS_map];rfl),trivial⟩,rfl,rfl,rfl,rfl,rfl⟩⟩
  ·have ek:k=(anCells g (firstA g s)).length:=by rw [anCells_len];omega
   rw [ek,List.take_length]
   repeat' (first | (refine aSeq.go ?_;conv=>whnf) | fail)
   refine aLoop.ruleRR Nat (fun c=>([(2, .bp 0 0),(4, .bp 1 0),(5, .bp 2 0),(6, .bp 3 0),(8,ze c)], [.box 23 (geoC g), .box 32 [nilV,nilV,ze 0,ze 0], .box 32 [.ow 4 (cellsN g).toNat,nilV,ze 0,ze (-1)], .box 40 (anC (firstA g s)), .row 87 3 ((fmt2 g s c).map celC)])) (fun c=>c≤2) (fun c=>2 - c) 0 (Nat.zero_le _)
    (WkN.r (s:= [0,1,2,3,4]) ⟨⟨rfl,rfl,rfl,rfl,rfl,trivial⟩,⟨rfl,rfl,rfl,rfl,rfl,trivial⟩,rfl,rfl,rfl,rfl,rfl⟩) ?_
   intro c hc
   conv=>whnf
   refine boolI (fun h7=>?_) (fun h7=>?_) <;> (repeat rw [Int.toNat_natCast] at h7) <;> conv=>whnf
   ·have hc01:(c:Int)=0∨(c:Int)=1:=by omega
    repeat' (first | (refine aSeq.go ?_;conv=>whnf) | fail)
    refine aLoop.ruleRR Nat (fun i=>([(2, .bp 0 0),(4, .bp 1 0),(5, .bp 2 0),(6, .bp 3 0),(8,ze c),(9,ze i)], [.box 23 (geoC g), .box 32 [nilV,nilV,ze 0,ze 0], .box 32 [.ow 4 (cellsN g).toNat,nilV,ze 0,ze (-1)], .box 40 (anC (firstA g s)), .row 87 3 ((fmtL (fmt2 g s c) ((logW g c).take i)).map celC)])) (fun i=>i≤g.sl.toNat) (fun i=>g.sl.toNat - i) 0 (Nat.zero_le _)
     (WkN.r (s:= [0,1,2,3,4]) ⟨⟨rfl,rfl,rfl,rfl,rfl,rfl,trivial⟩,⟨rfl,rfl,rfl,rfl,rfl,trivial⟩,rfl,rfl,rfl,rfl,rfl⟩) ?_
    intro i hi
    conv=>whnf
    refine boolI (fun h8=>?_) (fun h8=>?_) <;> (repeat rw [Int.toNat_natCast] at h8) <;> conv=>whnf
    ·have hlw:(logW g c).length=g.sl.toNat:=by simp [logW]
     have hi':i<(logW g c).length:=by omega
     have hsx:=fmtL_succ (fmt2 g s c) hi'
     rw [show (logW g c).getD i ⟨0, []⟩=⟨logAt g c (i:Nat),cellB g zeroC c (i:Nat)⟩ from range_get (by omega)] at hsx
     have hlx:(fmtL (fmt2 g s c) ((logW g c).take i)).length=(cellsN g).toNat:=by rw [fmtL_len,fmt2_len]
     generalize fmtL (fmt2 g s c) ((logW g c).take i)=cs at hsx hlx ⊢
     have hokl:okL g c i=true:=by simp only [okL,Bool.and_eq_true,inB_iff];omega
     have hla:=rlogAt_fn g c i hg hokl
     have hin:=logAt_in (n:=(cellsN g).toNat) hg hcN.symm hc01 (s:=i) (by omega)
     have hrc:=rrecCell_br g zeroC c i (okR_zeroC hg) hokl
     have hE:(cs.map celC).getD (logAt g c i).toNat []=celC (cs.getD (logAt g c i).toNat cz):=row_cel hlx (by omega)
     repeat' (first | (refine aSeq.go ?_;conv=>whnf) | fail)
     apply aDraw.treeK (0) tys_ok mixed (.one 0 (.one 1 (.one 2 (.one 3 (.one 4 (.one 6 (.one 7 (.one 8 (.one 9 (.one 5 (.one 10 (.one 11 (.one 12 (.one 13 .fin)))))))))))))) (by kernel_rfl)
     conv=>whnf
     refine Fn.closed (hla) rfl ?_
     rintro _ rfl
     conv=>whnf
     (refine ACalls.sub [.ag (geoC g), .ag (rcC zeroC),ze c,ze i] (by repeat' (first | exact trivial | exact fun _ _ h=>h | exact nil_sl _ _ | refine And.intro ?_ ?_ | refine ag_sub ?_)) ?_;refine Fn.closed hrc rfl ?_;rintro _ rfl)
     conv=>whnf
     try (refine And.intro (by first | omega | (simp;done)) ?_;conv=>whnf)
     try (refine And.intro ⟨rfl,by first | rfl | (simp;done) | (simp;omega),by first | omega | (simp;omega)⟩ ?_;conv=>whnf)
     (first | rw [hE] | skip)
     conv=>whnf
     all_goals exact⟨i+1,by omega,by omega,WkN.r (s:= [0,1,2,3,4]) ⟨⟨rfl,rfl,rfl,rfl,rfl,wsucc (by omega),trivial⟩,⟨rfl,rfl,rfl,rfl,congrArg (fun l=>some (AB.row _ _ l)) (by rw [hsx,fmtS_map];rfl),trivial⟩,rfl,rfl,rfl,rfl,rfl⟩⟩
    ·have ei:i=(logW g c).length:=by simp [logW];omega
     repeat' (first | (refine aSeq.go ?_;conv=>whnf) | fail)
     exact⟨c+1,by omega,by omega,WkN.r (s:= [0,1,2,3,4]) ⟨⟨rfl,rfl,rfl,rfl,wsucc (by omega),trivial⟩,⟨rfl,rfl,rfl,rfl,by rw [ei,List.take_length];rfl,trivial⟩,rfl,rfl,rfl,rfl,rfl⟩⟩
   ·have ec:c=2:=by omega
    subst ec
    have hT:=tab0_fn g hg
    have hz8:=sumC_le zero8
    have hB:=tabB_fn (tab0 g) (by rw [tab0,List.length_replicate];omega) (fun e he=>by rw [List.eq_of_mem_replicate he];simp only [ent0];omega)
    repeat' (first | (refine aSeq.go ?_;conv=>whnf) | fail)
    refine Fn.closed (hT) rfl ?_
    rintro _ rfl
    conv=>whnf
    refine Fn.closed (hB) rfl ?_
    rintro _ rfl
    conv=>whnf
    repeat' (first | (refine aSeq.go ?_;conv=>whnf) | fail)
    refine aLoop.ruleRR Nat (fun z=>([(2, .bp 0 0),(4, .bp 1 0),(5, .bp 2 0),(10,bA (tblB (tab0 g))),(11,ze z)], [.box 23 (geoC g), .box 32 [nilV,nilV,ze 0,ze 0], .box 32 [.ow 4 (cellsN g).toNat,nilV,ze 0,ze (-1)], .box 40 (anC (firstA g s)), .row 87 3 ((fmt3 g s z).map celC)])) (fun z=>z≤g.z.toNat) (fun z=>g.z.toNat - z) 0 (Nat.zero_le _)
     (WkN.r (s:= [0,1,2,3,4]) ⟨⟨rfl,rfl,rfl,rfl,rfl,trivial⟩,⟨rfl,rfl,rfl,rfl,rfl,trivial⟩,rfl,rfl,rfl,rfl,rfl⟩) ?_
    intro z hz
    conv=>whnf
    refine boolI (fun h9=>?_) (fun h9=>?_) <;> (repeat rw [Int.toNat_natCast] at h9) <;> conv=>whnf
    ·have htb:∀ k:Nat,k<2→0≤tabAt g z k∧tabAt g z k<((cellsN g).toNat:Int):=fun k hk=>by unfold tabAt;omega
     have hmul:(z:Int)*perG g≤(g.z - 1)*perG g:=Int.mul_le_mul_of_nonneg_right (by omega) (by omega)
     have hz0:0≤(z:Int)*perG g:=Int.mul_nonneg (by omega) (by omega)
     have hsb:∀ k:Nat,(k:Int)<perG g→0≤slotAt g z k∧slotAt g z k<((cellsN g).toNat:Int):=fun k hk=>by
      rw [←hcN];unfold slotAt cellsN;rw [Int.sub_mul,Int.one_mul] at hmul;omega
     repeat' (first | (refine aSeq.go ?_;conv=>whnf) | fail)
     refine aLoop.ruleRR Nat (fun k=>([(2, .bp 0 0),(4, .bp 1 0),(5, .bp 2 0),(10,bA (tblB (tab0 g))),(11,ze z),(12,ze k)], [.box 23 (geoC g), .box 32 [nilV,nilV,ze 0,ze 0], .box 32 [.ow 4 (cellsN g).toNat,nilV,ze 0,ze (-1)], .box 40 (anC (firstA g s)), .row 87 3 ((fmtL (fmt3 g s z) ((tabW g z).take k)).map celC)])) (fun k=>k≤2) (fun k=>2 - k) 0 (Nat.zero_le _)
      (WkN.r (s:= [0,1,2,3,4]) ⟨⟨rfl,rfl,rfl,rfl,rfl,rfl,trivial⟩,⟨rfl,rfl,rfl,rfl,rfl,trivial⟩,rfl,rfl,rfl,rfl,rfl⟩) ?_
     intro k hk
     conv=>whnf
     refine boolI (fun h10=>?_) (fun h10=>?_) <;> (repeat rw [Int.toNat_natCast] at h10) <;> conv=>whnf
     ·have hlw:(tabW g z).length=2:=by simp [tabW]
      have hk':k<(tabW g z).length:=by omega
      have hsx:=fmtL_succ (fmt3 g s z) hk'
      rw [show (tabW g z).getD k ⟨0, []⟩=⟨tabAt g z (k:Nat),sealB (tabAt g z (k:Nat)) 0 (tblB (tab0 g))⟩ from range_get (by omega)] at hsx
      have hlx:(fmtL (fmt3 g s z) ((tabW g z).take k)).length=(cellsN g).toNat:=by rw [fmtL_len,fmt3_len]
      generalize fmtL (fmt3 g s z) ((tabW g z).take k)=cs at hsx hlx ⊢
      have hgt:=rtable_fn g z k hg (by omega) (by omega)
      have hin:=htb k (by omega)
      have hmk:=rcellB_fn (tabAt g z k) 0 (tblB (tab0 g)) (tab0_fit hg (by omega))
      have hE:(cs.map celC).getD (tabAt g z k).toNat []=celC (cs.getD (tabAt g z k).toNat cz):=row_cel hlx (by omega)
      repeat' (first | (refine aSeq.go ?_;conv=>whnf) | fail)
      refine Fn.closed (hgt) rfl ?_
      rintro _ rfl
      conv=>whnf
      apply aDraw.treeK (0) tys_ok mixed (.one 0 (.one 1 (.one 2 (.one 3 (.one 4 (.one 5 (.one 6 (.one 7 (.one 8 .fin))))))))) (by kernel_rfl)
      conv=>whnf
      refine Fn.closed (hmk) rfl ?_
      rintro _ rfl
      conv=>whnf
      try (refine And.intro (by first | omega | (simp;done)) ?_;conv=>whnf)
      try (refine And.intro ⟨rfl,by first | rfl | (simp;done) | (simp;omega),by first | omega | (simp;omega)⟩ ?_;conv=>whnf)
      (first | rw [hE] | skip)
      conv=>whnf
      all_goals exact⟨k+1,by omega,by omega,WkN.r (s:= [0,1,2,3,4]) ⟨⟨rfl,rfl,rfl,rfl,rfl,wsucc (by omega),trivial⟩,⟨rfl,rfl,rfl,rfl,congrArg (fun l=>some (AB.row _ _ l)) (by rw [hsx,fmtS_map];rfl),trivial⟩,rfl,rfl,rfl,rfl,rfl⟩⟩
     ·have ek:k=(tabW g z).length:=by simp [tabW];omega
      rw [ek,List.take_length]
      have hpr:=rper_fn g hg
      repeat' (first | (refine aSeq.go ?_;conv=>whnf) | fail)
      refine aLoop.ruleRR Nat (fun i=>([(2, .bp 0 0),(4, .bp 1 0),(5, .bp 2 0),(10,bA (tblB (tab0 g))),(11,ze z),(14,ze i)], [.box 23 (geoC g), .box 32 [nilV,nilV,ze 0,ze 0], .box 32 [.ow 4 (cellsN g).toNat,nilV,ze 0,ze (-1)], .box 40 (anC (firstA g s)), .row 87 3 ((fmtL (fmtL (fmt3 g s z) (tabW g z)) ((slotW g z).take i)).map celC)])) (fun i=>i≤(perG g).toNat) (fun i=>(perG g).toNat - i) 0 (Nat.zero_le _)
       (WkN.r (s:= [0,1,2,3,4]) ⟨⟨rfl,rfl,rfl,rfl,rfl,rfl,trivial⟩,⟨rfl,rfl,rfl,rfl,rfl,trivial⟩,rfl,rfl,rfl,rfl,rfl⟩) ?_
      intro i hi
      conv=>whnf
      refine Fn.closed (hpr) rfl ?_
      rintro _ rfl
      conv=>whnf
      refine boolI (fun h11=>?_) (fun h11=>?_) <;> (repeat rw [Int.toNat_natCast] at h11) <;> conv=>whnf
      ·have hlw:(slotW g z).length=(perG g).toNat:=by simp [slotW]
       have hi':i<(slotW g z).length:=by omega
       have hsx:=fmtL_succ (fmtL (fmt3 g s z) (tabW g z)) hi'
       rw [show (slotW g z).getD i ⟨0, []⟩=⟨slotAt g z (i:Nat),sealB (slotAt g z (i:Nat)) 0 zero8⟩ from range_get (by omega)] at hsx
       have hlx:(fmtL (fmtL (fmt3 g s z) (tabW g z)) ((slotW g z).take i)).length=(cellsN g).toNat:=by rw [fmtL_len,fmtL_len,fmt3_len]
       generalize fmtL (fmtL (fmt3 g s z) (tabW g z)) ((slotW g z).take i)=cs at hsx hlx ⊢
       have hgt:=rslot_fn g z i hg (by omega) (by omega)
       have hin:=hsb i (by omega)
       have hmk:=rcellB_fn (slotAt g z i) 0 zero8 ⟨hin.1,by omega,Int.le_refl _,by decide,by decide⟩
       have hE:(cs.map celC).getD (slotAt g z i).toNat []=celC (cs.getD (slotAt g z i).toNat cz):=row_cel hlx (by omega)
       repeat' (first | (refine aSeq.go ?_;conv=>whnf) | fail)
       refine Fn.closed (hgt) rfl ?_
       rintro _ rfl
       conv=>whnf
       apply aDraw.treeK (0) tys_ok mixed (.one 0 (.one 1 (.one 2 (.one 3 (.one 4 (.one 5 (.one 6 (.one 7 (.one 8 .fin))))))))) (by kernel_rfl)
       conv=>whnf
       (try (refine And.intro ⟨rfl,by decide,by decide⟩ ?_;conv=>whnf);refine ACalls.shut hmk.go ?_;(conv=>whnf);refine And.intro rfl ?_;(conv=>whnf);refine ACalls.sub [ze (slotAt g z i),ze 0,bA zero8] ⟨fun _ _ h=>h,fun _ _ h=>h,fun c v h=>Rd.congr rfl (fun i hi=>by have hi':i<8:=hi;rw [getD_rep (by exact hi'),zero8_get hi'];rfl) h,trivial⟩ ?_;refine Fn.closed hmk rfl ?_;rintro _ rfl)
       conv=>whnf
       try (refine And.intro (by first | omega | (simp;done)) ?_;conv=>whnf)
       try (refine And.intro ⟨rfl,by first | rfl | (simp;done) | (simp;omega),by first | omega | (simp;omega)⟩ ?_;conv=>whnf)
       (first | rw [hE] | skip)
       conv=>whnf
       all_goals exact⟨i+1,by omega,by omega,WkN.r (s:= [0,1,2,3,4]) ⟨⟨rfl,rfl,rfl,rfl,rfl,wsucc (by omega),trivial⟩,⟨rfl,rfl,rfl,rfl,congrArg (fun l=>some (AB.row _ _ l)) (by rw [hsx,fmtS_map];rfl),trivial⟩,rfl,rfl,rfl,rfl,rfl⟩⟩
      ·have ei:i=(slotW g z).length:=by simp [slotW];omega
       repeat' (first | (refine aSeq.go ?_;conv=>whnf) | fail)
       exact⟨z+1,by omega,by omega,WkN.r (s:= [0,1,2,3,4]) ⟨⟨rfl,rfl,rfl,rfl,wsucc (by omega),trivial⟩,⟨rfl,rfl,rfl,rfl,by rw [ei,List.take_length];rfl,trivial⟩,rfl,rfl,rfl,rfl,rfl⟩⟩
    ·have ez:z=g.z.toNat:=by omega
     subst ez
     exact⟨_, .ag [.ow 0 (cellsN g).toNat,nilV,ze 0,ze (-1)], [.row 87 3 ((fmt3 g s g.z.toNat).map celC)],fun _ _ h=>h,WkN.r (s:= [4]) ⟨⟨rfl,trivial⟩,⟨rfl,trivial⟩,rfl,rfl,rfl,rfl,rfl⟩,rfl,rfl⟩
theorem lgR_succ {g:Geo} {t:Tx} {k c:Nat} (cs:List Cel) (h:c<2):fmtL cs ((lgR g t k).take (c+1))=fmtS (fmtL cs ((lgR g t k).take c)) ⟨logAt g c (slotM g t.pos k),cellB g ((recsOf t.seq 0 t.images).getD k rc0) c (slotM g t.pos k)⟩:=by
 rw [fmtL_succ cs (by simp [lgR];omega)]
 congr 1
 rw [lgR,range_get h]
@[reducible] def lgH (g:Geo) (a:An) (cs:List Cel):List AB:= [.box 23 (geoC g), .box 32 [nilV,nilV,ze 0,ze 0], .box 32 [.ow 4 (cellsN g).toNat,nilV,ze 0,ze (-1)], .box 40 (anC a), .row 87 3 (cs.map celC)]
set_option maxRecDepth 100000 in
theorem logged_own (g:Geo) (s:ByteArray) (sizes:List Int) (fill:UInt8) (hg:okG g=true) (hs:labE s.data.toList=0) (hl:sizes.length≤40):ACalls Tryz.prog false 11 [.ag (geoC g), .v (.string s),iA sizes, .v (.int .u8 fill.toNat)] [] fun r H=>r = .tp [.ag [.ow 0 (cellsN g).toNat,nilV,ze 0,ze (-1)],txsA (logM g (firstA g s) fill sizes 0 (firstA g s).pos 0)]∧H=[.row 87 3 ((logD g s (logM g (firstA g s) fill sizes 0 (firstA g s).pos 0)).cells.map celC)]:=by
 obtain⟨g1,g2,g3,g4,g5⟩:=okG_iff.1 hg
 have hao:=firstA_ok hg hs
 have hA:=first_fn g s hg
 have hF:=rformat_own g s hg hs
 have hL:=log_fn16 g (firstA g s) sizes fill hg hao (by show (1:Int)≤1000000;decide) hl
 have hok:=logM_ok (g:=g) (a:=firstA g s) (fill:=fill) (sizes:=sizes) (epoch:=0) hg hao (by show (1:Int)≤1000000;decide) (by decide)
 have hat:=fun j k hj hk=>recW_at (g:=g) (a:=firstA g s) (fill:=fill) (sizes:=sizes) (ep:=0) hg hao (j:=j) (k:=k) hj hk
 have hfl:(fmtD g s).cells.length=(cellsN g).toNat:=fmt3_len g s _
 refine ACalls.ofR tys_ok Tryz.func11 rfl rfl (Nat.le_of_ble_eq_true rfl) ?_
 conv=>whnf
 refine ACalls.beside hF rfl ?_
 rintro _ _ ⟨rfl,rfl⟩
 conv=>whnf
 refine Fn.closed (hA) rfl ?_
 rintro _ rfl
 conv=>whnf
 refine Fn.closed (hL) rfl ?_
 rintro _ rfl
 conv=>whnf
 generalize logM g (firstA g s) fill sizes 0 (firstA g s).pos 0=L at hok hat ⊢
 have hLl:=hok.len
 refine aLoop.ruleRR Nat (fun i=>([(4, .bp 0 0),(8, .bp 1 0),(10, .bp 2 0),(12,txsA L),(13,ze i)],lgH g (firstA g s) (fmtL (fmtD g s).cells (lgL g L i)))) (fun i=>i≤L.length) (fun i=>L.length - i) 0 (Nat.zero_le _)
  (WkN.r (s:= [0,1,3,4,2]) ⟨⟨rfl,rfl,rfl,rfl,rfl,trivial⟩,⟨rfl,rfl,rfl,rfl,rfl,trivial⟩,rfl,rfl,rfl,rfl,rfl⟩) ?_
 intro i hi
 conv=>whnf
 refine boolI (fun h6=>?_) (fun h6=>?_) <;> (repeat rw [Int.toNat_natCast] at h6) <;> conv=>whnf
 ·have hT:L.getD i tz∈L:=getD_mem (d:=tz) h6
  have him:=hok.img _ hT
  obtain⟨T,eT⟩:∃ T,T=L.getD i tz:=⟨_,rfl⟩
  rw [←eT] at him
  have eT':L.getD ((i:Nat):Int).toNat ⟨0,0,0, []⟩=T:=by rw [Int.toNat_natCast,eT];rfl
  have hR:=records_fn T.seq 0 T.images (by omega) (fun x hx=>by have:=him.2 x hx;omega)
  have hat':∀ k,k<T.images.length+1→_:=fun k hk=>hat i k h6 (by rw [←eT];exact hk)
  rw [←eT] at hat'
  apply aDraw.treeK (0) tys_ok mixed (.one 0 (.one 1 (.one 2 (.one 3 (.one 4 (.one 5 (.one 6 (.one 7 (.one 8 (.one 9 (.one 10 (.one 11 .fin)))))))))))) (by kernel_rfl)
  conv=>whnf
  try (refine And.intro (by first | omega | (simp;done)) ?_;conv=>whnf)
  try (refine And.intro (by first | omega | (simp;done)) ?_;conv=>whnf)
  (rw [eT'];(refine Fn.closed hR rfl ?_);rintro _ rfl)
  conv=>whnf
  have hRl:(recsOf T.seq 0 T.images).length=T.images.length+1:=recsOf_length _ _ _
  refine aLoop.ruleRR Nat (fun k=>([(4, .bp 0 0),(8, .bp 1 0),(10, .bp 2 0),(12,txsA L),(13,ze i),(14,recsA (recsOf T.seq 0 T.images)),(15,ze k)],lgH g (firstA g s) (fmtL (fmtL (fmtD g s).cells (lgL g L i)) (lgT g T k)))) (fun k=>k≤T.images.length+1) (fun k=>T.images.length+1 - k) 0 (Nat.zero_le _)
   (WkN.r (s:= [0,1,2,3,4]) ⟨⟨rfl,rfl,rfl,rfl,rfl,rfl,rfl,trivial⟩,⟨rfl,rfl,rfl,rfl,rfl,trivial⟩,rfl,rfl,rfl,rfl,rfl⟩) ?_
  intro k hk
  conv=>whnf
  rw [hRl]
  refine boolI (fun h7=>?_) (fun h7=>?_) <;> (repeat rw [Int.toNat_natCast] at h7) <;> conv=>whnf
  ·have hk':k<T.images.length+1:=by omega
   obtain⟨r1,r2⟩:=hat' k hk'
   have hokR:=hok.ok _ r1
   rw [r2] at hokR
   apply aDraw.treeK (0) tys_ok mixed (.one 0 (.one 1 (.one 2 (.one 3 (.one 4 (.one 5 (.one 6 (.one 7 (.one 8 (.one 9 (.one 10 .fin))))))))))) (by kernel_rfl)
   conv=>whnf
   try (refine And.intro (by first | omega | (simp;done)) ?_;conv=>whnf)
   try (refine And.intro (by first | omega | (simp;done)) ?_;conv=>whnf)
   rw [eT']
   obtain⟨S,hS⟩:∃ S,S=slotM g T.pos k:=⟨_,rfl⟩
   rw [show (IntKind.i64.wrap (T.pos+(k:Int))).tmod g.sl=S from hS.symm]
   rw [←hS] at r1
   obtain⟨X,hX⟩:∃ X,X=fmtL (fmtL (fmtD g s).cells (lgL g L i)) (lgT g T k):=⟨_,rfl⟩
   have hXl:X.length=(cellsN g).toNat:=by rw [hX,fmtL_len,fmtL_len,hfl]
   rw [←hX]
   obtain⟨r,hr⟩:∃ r,r=(recsOf T.seq 0 T.images).getD k rc0:=⟨_,rfl⟩
   rw [←hr] at hokR
   have er:(recsOf T.seq 0 T.images).getD ((k:Nat):Int).toNat ⟨0,0,0,0,0,⟨0,0, []⟩⟩=r:=by rw [Int.toNat_natCast,hr];rfl
   refine aLoop.ruleRR Nat (fun c=>([(4, .bp 0 0),(8, .bp 1 0),(10, .bp 2 0),(12,txsA L),(13,ze i),(14,recsA (recsOf T.seq 0 T.images)),(15,ze k),(16,ze S),(17,ze c)],lgH g (firstA g s) (fmtL X ((lgR g T k).take c)))) (fun c=>c≤2) (fun c=>2 - c) 0 (Nat.zero_le _)
    (WkN.r (s:= [0,1,2,3,4]) ⟨⟨rfl,rfl,rfl,rfl,rfl,rfl,rfl,rfl,rfl,trivial⟩,⟨rfl,rfl,rfl,rfl,rfl,trivial⟩,rfl,rfl,rfl,rfl,rfl⟩) ?_
   intro c hc
   conv=>whnf
   refine boolI (fun h8=>?_) (fun h8=>?_) <;> (repeat rw [Int.toNat_natCast] at h8) <;> conv=>whnf
   ·have hsx:=lgR_succ (g:=g) (t:=T) (k:=k) X (show c<2 by omega)
    rw [←hS,←hr] at hsx
    have hlx:(fmtL X ((lgR g T k).take c)).length=(cellsN g).toNat:=by rw [fmtL_len,hXl]
    generalize fmtL X ((lgR g T k).take c)=cs at hsx hlx ⊢
    have hc01:(c:Int)=0∨(c:Int)=1:=by omega
    have hoL:okL g (c:Nat) S=true:=okL_of hc01 r1
    have hbd:=logAt_bd (g:=g) hc01 r1
    have hcg:=cells_ge hg
    have hla:=rlogAt_fn g c S hg hoL
    have hrc:=rrecCell_br g r c S hokR hoL
    have hE:(cs.map celC).getD (logAt g c S).toNat []=celC (cs.getD (logAt g c S).toNat cz):=row_cel hlx (by omega)
    apply aDraw.treeK (0) tys_ok mixed (.one 0 (.one 1 (.one 2 (.one 3 (.one 4 (.one 6 (.one 7 (.one 8 (.one 9 (.one 10 (.one 11 (.one 12 (.one 5 (.one 13 (.one 14 (.one 15 (.one 16 .fin))))))))))))))))) (by kernel_rfl)
    conv=>whnf
    try (refine And.intro (by first | omega | (simp;done)) ?_;conv=>whnf)
    refine Fn.closed (hla) rfl ?_
    rintro _ rfl
    conv=>whnf
    ((try rw [er]);(refine Fn.closed hrc rfl ?_);rintro _ rfl)
    conv=>whnf
    try (refine And.intro (by first | omega | (simp;done)) ?_;conv=>whnf)
    try (refine And.intro ⟨rfl,by first | rfl | (simp;done) | (simp;omega),by first | omega | (simp;omega)⟩ ?_;conv=>whnf)
    (first | rw [hE] | skip)
    conv=>whnf
    all_goals
     refine⟨c+1,by omega,by omega,?_⟩
     rw [hsx]
     exact WkN.r (s:= [0,1,2,3,4]) ⟨⟨rfl,rfl,rfl,rfl,rfl,rfl,rfl,rfl,wsucc (by omega),trivial⟩,⟨rfl,rfl,rfl,rfl,congrArg (fun l=>some (AB.row _ _ l)) (by rw [fmtS_map];rfl),trivial⟩,rfl,rfl,rfl,rfl,rfl⟩
   ·have ec:c=(lgR g T k).length:=by simp [lgR];omega
    rw [ec,List.take_length]
    repeat' (first | (refine aSeq.go ?_;conv=>whnf) | fail)
    refine⟨k+1,by omega,by omega,?_⟩
    rw [lgT,fmtL_app,←hX]
    exact WkN.r (s:= [0,1,2,3,4]) ⟨⟨rfl,rfl,rfl,rfl,rfl,rfl,wsucc (by omega),trivial⟩,⟨rfl,rfl,rfl,rfl,rfl,trivial⟩,rfl,rfl,rfl,rfl,rfl⟩
  ·have ek:k=T.images.length+1:=by omega
   repeat' (first | (refine aSeq.go ?_;conv=>whnf) | fail)
   refine⟨i+1,by omega,by omega,?_⟩
   rw [lgL,←eT,fmtL_app,←ek]
   exact WkN.r (s:= [0,1,2,3,4]) ⟨⟨rfl,rfl,rfl,rfl,wsucc (by omega),trivial⟩,⟨rfl,rfl,rfl,rfl,rfl,trivial⟩,rfl,rfl,rfl,rfl,rfl⟩
 ·have ei:i=L.length:=by omega
  subst ei
  exact⟨_, .tp [.ag [.ow 0 (cellsN g).toNat,nilV,ze 0,ze (-1)],txsA L], [.row 87 3 ((logD g s L).cells.map celC)],fun _ _ h=>h,WkN.r (s:= [4]) ⟨⟨rfl,trivial⟩,⟨rfl,trivial⟩,rfl,rfl,rfl,rfl,rfl⟩,rfl,rfl⟩

theorem log_ringOk {g:Geo} {a:An} {fill:UInt8} (hg:okG g=true) (hsq:a.seq≤1000000):∀ (sizes:List Int) (i:Nat) (pos used:Int),0≤used∧used≤g.sl→i+sizes.length≤1000→ringOk g (logM g a fill sizes i pos used) (a.seq+i) pos (g.sl - used)=true
 | [],_,_,_,_,_=>rfl
 | s::r,i,pos,used,hu,hi=>by
  have hn:=nImg_in s
  simp only [List.length_cons] at hi
  unfold logM
  by_cases hc:g.sl<used+(nImg s:Nat)+1
  ·rw [if_pos hc];rfl
  ·rw [if_neg hc]
   have ih:=log_ringOk (fill:=fill) hg hsq r (i+1) ((pos+(nImg s:Nat)+1).tmod g.sl) (used+(nImg s:Nat)+1) (by omega) (by omega)
   have e1:(logTx g a fill i pos (nImg s)).seq=a.seq+i:=rfl
   have e2:(logTx g a fill i pos (nImg s)).pos=pos:=rfl
   have e3:(logTx g a fill i pos (nImg s)).n=(nImg s:Nat)+1:=rfl
   have e4:(logTx g a fill i pos (nImg s)).images=(List.range (nImg s)).map fun k=>logImg g fill i k:=rfl
   unfold ringOk
   rw [e1,e2,e3,e4,decide_eq_true rfl,decide_eq_true (by omega),decide_eq_true rfl,decide_eq_true (by omega),decide_eq_true (by omega),decide_eq_true (by simp)]
   rw [show a.seq+(i:Int)+1=a.seq+((i+1:Nat):Int) by omega,show pos+(((nImg s:Nat):Int)+1)=pos+(nImg s:Nat)+1 by omega,show g.sl - used - (((nImg s:Nat):Int)+1)=g.sl - (used+(nImg s:Nat)+1) by omega,ih]
   simp only [Bool.true_and,Bool.and_true,List.all_map,List.all_eq_true]
   intro k _
   exact logImg_ok hg fill i k
section
variable {g:Geo} {s:ByteArray} {b:An} {fill:UInt8} {sizes:List Int} {D:Dk}
theorem fin_stOk (hg:okG g=true) (hl:sizes.length≤40) (hD:DkOk D) (hn:(D.cells.length:Int)=cellsN g) (hb:anOk g b=true) (hbs:b.seq=1) (hbp:b.pos=0):stOk g D (stOf b (logM g (firstA g s) fill sizes 0 (firstA g s).pos 0))=true:=by
 obtain⟨g1,g2,g3,g4,g5⟩:=okG_iff.1 hg
 have hu:=units_bd hg
 have hr:=log_ringOk (a:=firstA g s) (fill:=fill) hg (by show (1:Int)≤1000000;decide) sizes 0 (firstA g s).pos 0 ⟨Int.le_refl _,by omega⟩ (by omega)
 have e1:(firstA g s).seq+((0:Nat):Int)=b.seq:=by rw [hbs];rfl
 have e2:(firstA g s).pos=b.pos:=by rw [hbp];rfl
 unfold stOk
 rw [hg,okDk_iff.2 hD,decide_eq_true hn]
 show (true&&((true&&true)&&(((true&&anOk g b)&&ringOk g (logM g (firstA g s) fill sizes 0 (firstA g s).pos 0) b.seq b.pos g.sl)&&(decide ((0:Int)≤0)&&(decide ((0:Int)<unitsN g)&&healthOk g (stOf b _))))))=true
 rw [e1,e2,Int.sub_zero] at hr
 rw [e2,hb,hr,decide_eq_true (show (0:Int)<unitsN g by omega)]
 rfl
end
theorem StSm.big {S:Stt} (h:StSm S):StBig S:=
 ⟨by have:=h.l;omega,by have:=h.h.1;omega,⟨by have:=h.t.1;omega,fun t ht=>⟨by have:=(h.t.2 t ht).1;omega,fun x hx=>by have:=(h.t.2 t ht).2 x hx;omega⟩⟩,by have:=h.o;omega⟩
def lx:ByteArray:=⟨#[120]⟩
theorem lab_x:labE lx.data.toList=0:=by decide +kernel
theorem logD_nil (g:Geo) (s:ByteArray):logD g s []=fmtD g s:=by
 unfold logD
 rw [show lgL g [] ([]:List Tx).length=[] from rfl,show fmtL (fmtD g s).cells []=(fmtD g s).cells from rfl]
theorem logM_nil (g:Geo) (a:An) (fill:UInt8) (p:Int):logM g a fill [] 0 p 0=[]:=rfl
set_option maxRecDepth 100000 in
theorem wakes22_fn:Fn Tryz.prog 17 [] fun r=>r = .v (.bool true):=by
 have h1:=some_fn 0 0 0 0 1
 have hg:=someG_ok 0 0 0 0 1
 have hc:cellsN (someG 0 0 0 0 1)=34:=by decide
 have ht:mtick (someG 0 0 0 0 1) []=33:=by decide
 generalize someG 0 0 0 0 1=g at h1 hg hc ht
 have hs:labE lx.data.toList=0:=lab_x
 have h2:=format_ok g lx hg hs (by show (1:Nat)≤_;decide)
 have hf:=vol_first (s:=lx) (fill:=0) (sizes:= []) hg hs
 have hdk:=logd_ok (s:=lx) (fill:=0) (sizes:= []) hg hs
 rw [logM_nil,logD_nil] at hf hdk
 have hvm:=vol_mount (s:=lx) (fill:=0) (sizes:= []) (b:=firstA g lx) (d:=fmtD g lx) hg hs (by simp) hdk (firstA_ok hg hs) (by rw [logM_nil];exact hf) (by show (-1:Int)<0;decide) rfl rfl (Int.le_refl _) (by show (0:Int)≤((logM g (firstA g lx) 0 [] 0 (firstA g lx).pos 0).length:Nat);omega) (.inl rfl) (by show (1:Int)≠_;decide) (by show (0:Int)≠_;decide)
 rw [logM_nil,List.length_nil] at hvm
 obtain⟨D,m1,m2,m3,m4⟩:=hvm
 have hD:=mountM_ok hg hdk hf.len
 have hsm:=mountM_sm (g:=g) (d:=fmtD g lx) hg
 have h3:=mountX_ok g _ hg hdk hf.len
 rw [m1] at hD hsm h3
 simp only at hD hsm h3
 have hna:=nextA_ok (n:=0) (firstA_ok (g:=g) (s:=lx) hg hs) (by show (1:Int)≠_;decide) (by show (0:Int)≠_;decide) (by show (1:Int)+0 - 1≤_;decide)
 have hok:=fin_stOk (s:=lx) (fill:=0) (sizes:= []) hg (by simp) hD.1 (by rw [hD.2];exact hf.len) hna rfl rfl
 rw [logM_nil] at hok
 have hN:=hD.1.n
 have hM:=hD.1.m
 have h4:=bcheck_fn g D _ (by omega) (by omega) hsm.big
 have e4:stOk g D (stOf (nextA (firstA g lx) 0) [])=true:=hok
 rw [e4] at h4
 have hr:D.reqs=33:=by
  rw [m4,ht]
  show min ((0:Int)+(33:Nat)) 1048576=33
  decide
 have hcl:(fmtD g lx).cells.length=34:=by have:=hf.len;omega
 obtain⟨S,hS⟩:∃ S,S=stOf (nextA (firstA g lx) 0) []:=⟨_,rfl⟩
 have q1:S.a.gen=2:=by rw [hS];rfl
 have q2:S.a.epoch=1:=by rw [hS];rfl
 have q3:S.a.last=0:=by rw [hS];rfl
 have q4:S.txns.length=0:=by rw [hS];rfl
 rw [←hS] at h3 h4
 generalize fmtD g lx=d at h2 h3 hcl
 refine Fn.of tys_ok Tryz.func17 rfl rfl (Nat.le_of_ble_eq_true rfl) ?_
 conv=>whnf
 refine Fn.closed (h1) rfl ?_
 rintro _ rfl
 conv=>whnf
 refine Fn.closed (h2) rfl ?_
 rintro _ rfl
 conv=>whnf
 refine Fn.closed (h3) rfl ?_
 rintro _ rfl
 conv=>whnf
 rw [show ((d.cells.length:Int) == 34)=true by rw [hcl];rfl]
 conv=>whnf
 rw [show (S.a.gen == 2)=true by rw [q1];rfl]
 conv=>whnf
 rw [show (S.a.epoch == 1)=true by rw [q2];rfl]
 conv=>whnf
 rw [show (S.a.last == 0)=true by rw [q3];rfl]
 conv=>whnf
 rw [show ((S.txns.length:Int) == 0)=true by rw [q4];rfl]
 conv=>whnf
 rw [show (D.reqs == 33)=true by rw [hr];rfl]
 conv=>whnf
 refine Fn.closed (h4) rfl ?_
 rintro _ rfl
 conv=>whnf
 exact⟨_,fun _ _ h=>h,rfl⟩
theorem dk_own_sub {n:Nat} {d:Dk} {es:List (List AV)} (hn:d.cells.length=n) (he:es=d.cells.map celC) (hc:d.cache=[]) (hr:d.reqs=0) (hl:d.left = -1):SubL [.sl 3 n fun i=>es.getD i [],nilV,ze 0,ze (-1)] (dkC d):=by
 subst he hn
 unfold dkC
 rw [hc,hr,hl]
 exact⟨row_sub (f:=celC) d.cells rfl rfl,nil_sl 2 _,fun _ _ h=>h,fun _ _ h=>h,trivial⟩
def cSet (d:Dk) (a:Int) (c:Cel):Dk:={ d with cells:=d.cells.set a.toNat c }
def Dk.fault (d:Dk) (kind a frm bit bits:Int):Dk × Int:=
 if inB a 0 ((d.cells.length:Int) - 1)=false then (d,1) else if 0<d.cache.length then (d,9) else
 let c:=d.cells.getD a.toNat cz
 if kind=11 then (cSet d a { c with state:=if c.state=0 then 1 else c.state },0)
 else if kind=12 then (cSet d a { c with state:=2 },0)
 else if kind=13 then (if bit<0∨bits<0 then (d,1) else (cSet d a { c with bytes:=flipT c.bytes bit bits },0))
 else if kind=14 then (cSet d a { c with bytes:=c.old },0)
 else if kind=15 then (if inB frm 0 ((d.cells.length:Int) - 1)=false then (d,1) else (cSet d a { c with bytes:=(d.cells.getD frm.toNat cz).bytes },0))
 else (d,1)
structure Q4 where
 a:Int
 b:Int
 c:Int
 d:Int
theorem cSet_ok {d:Dk} {a:Int} {c:Cel} (h:DkOk d) (hc:(0≤c.state∧c.state≤2)∧c.bytes.length≤200∧c.old.length≤200):DkOk (cSet d a c):=by
 refine⟨by simpa [cSet] using h.n,h.m,h.r,h.l,fun x hx=>?_,fun w hw=>by simpa [cSet] using h.w w hw⟩
 rcases List.mem_or_eq_of_mem_set hx with hx | rfl
 ·exact h.c x hx
 ·exact hc
theorem getD_ok {d:Dk} (h:DkOk d) (i:Nat):(0≤(d.cells.getD i cz).state∧(d.cells.getD i cz).state≤2)∧(d.cells.getD i cz).bytes.length≤200∧(d.cells.getD i cz).old.length≤200:=by
 by_cases hi:i<d.cells.length
 ·exact h.c _ (getD_mem (d:=cz) hi)
 ·rw [List.getD_eq_getElem?_getD,List.getElem?_eq_none (by omega)]
  exact⟨⟨Int.le_refl _,show (0:Int)≤2 by decide⟩,by simp [cz],by simp [cz]⟩
theorem DkOk.fault {d:Dk} (h:DkOk d) (kind a frm bit bits:Int):DkOk (d.fault kind a frm bit bits).1∧(d.fault kind a frm bit bits).1.cells.length=d.cells.length∧(d.fault kind a frm bit bits).1.cache=d.cache∧(d.fault kind a frm bit bits).1.left=d.left∧(d.fault kind a frm bit bits).1.reqs=d.reqs:=by
 have hc:=getD_ok h a.toNat
 have hf:=getD_ok h frm.toNat
 have go:∀ c:Cel,((0≤c.state∧c.state≤2)∧c.bytes.length≤200∧c.old.length≤200)→DkOk (cSet d a c)∧(cSet d a c).cells.length=d.cells.length∧(cSet d a c).cache=d.cache∧(cSet d a c).left=d.left∧(cSet d a c).reqs=d.reqs:=fun c h1=>⟨cSet_ok h h1,by simp [cSet],rfl,rfl,rfl⟩
 have st:DkOk d∧d.cells.length=d.cells.length∧d.cache=d.cache∧d.left=d.left∧d.reqs=d.reqs:=⟨h,rfl,rfl,rfl,rfl⟩
 unfold Dk.fault
 split
 ·exact st
 ·split
  ·exact st
  ·simp only
   split
   ·refine go _ ⟨?_,hc.2⟩
    simp only
    split
    ·exact⟨by decide,by decide⟩
    ·exact hc.1
   ·split
    ·exact go _ ⟨⟨show (0:Int)≤2 by decide,Int.le_refl 2⟩,hc.2⟩
    ·split
     ·split
      ·exact st
      ·exact go _ ⟨hc.1,by simp only [flipT_length];exact hc.2.1,hc.2.2⟩
     ·split
      ·exact go _ ⟨hc.1,hc.2.2,hc.2.2⟩
      ·split
       ·split
        ·exact st
        ·exact go _ ⟨hc.1,hf.2.1,hc.2.2⟩
       ·exact st
theorem gotG_plain {d:Dk} (hc:d.cache=[]) (a:Int):gotG d a=if (d.cells.getD a.toNat cz).state=0 then ⟨0,(d.cells.getD a.toNat cz).bytes⟩ else ⟨6, []⟩:=by
 have hq:d.got a=if (d.cells.getD a.toNat cz).state=0 then ((d.cells.getD a.toNat cz).bytes,0) else ([],6):=by
  unfold Dk.got
  rw [hc]
  rfl
 unfold gotG
 rw [hq]
 split <;> rfl
def SpoiltC (c:Cel) (B:List UInt8):Prop:=c.state≠0∨∃ bit bits:Int,c.bytes=flipT B bit bits
theorem spoilt_saysN {g:Geo} {d:Dk} {a:An} {i:Nat} (hg:okG g=true) (ha:anOk g a=true) (hi:(i:Int)≤65535) (hc:d.cache=[]) (h:SpoiltC (d.cells.getD i cz) (anCell a i)):saysN g (gotG d (i:Nat)) i=none:=by
 rw [gotG_plain hc,Int.toNat_natCast]
 unfold saysN
 rw [if_neg]
 rintro⟨h1,h2,h3⟩
 split at h1
 ·rename_i h0
  rw [if_pos h0] at h2
  rcases h with h | ⟨bit,bits,e⟩
  ·exact h h0
  ·rw [e] at h2
   have ho:=openE_flip (seal_open (anCell_ok hg ha (i:=(i:Nat)) ⟨by omega,hi⟩)).1 bit bits
   have:openE (flipT (anCell a i) bit bits)=5:=ho
   rw [this] at h2
   cases h2
 ·cases h1
theorem ank_pick {g:Geo} {d:Dk} {b:An} (hg:okG g=true) (hb:anOk g b=true) (hc:d.cache=[]) (hcell:∀ i:Nat,i<g.an.toNat→((d.cells.getD i cz).state=0∧(d.cells.getD i cz).bytes=anCell b i)∨SpoiltC (d.cells.getD i cz) (anCell b i)) :
  ((∃ i:Nat,i<g.an.toNat∧(d.cells.getD i cz).state=0∧(d.cells.getD i cz).bytes=anCell b i)→∃ j,pickN g (gotsD d (anAts g))=some (b,j))∧((∀ i:Nat,i<g.an.toNat→SpoiltC (d.cells.getD i cz) (anCell b i))→pickN g (gotsD d (anAts g))=none):=by
 obtain⟨g1,g2,g3,g4,g5⟩:=okG_iff.1 hg
 have hsp:=pickK_spec g (gotsD d (anAts g)) (gotsD d (anAts g)).length
 rw [gotsD_len,anAts_len] at hsp
 have hpk:pickN g (gotsD d (anAts g))=pickK g (gotsD d (anAts g)) g.an.toNat:=by rw [pickN,gotsD_len,anAts_len]
 have hgood:∀ i:Nat,i<g.an.toNat→(d.cells.getD i cz).state=0∧(d.cells.getD i cz).bytes=anCell b i→saysN g ((gotsD d (anAts g)).getD i ⟨0, []⟩) (i:Nat)=some b:=fun i hi ⟨e1,e2⟩=>by
  rw [anAts_gots hi,gotG_plain hc,Int.toNat_natCast,if_pos e1,e2]
  exact saysN_cell hg hb (by omega)
 have hbad:∀ i:Nat,i<g.an.toNat→SpoiltC (d.cells.getD i cz) (anCell b i)→saysN g ((gotsD d (anAts g)).getD i ⟨0, []⟩) (i:Nat)=none:=fun i hi h=>by
  rw [anAts_gots hi]
  exact spoilt_saysN hg hb (by omega) hc h
 rw [hpk]
 cases hP:pickK g (gotsD d (anAts g)) g.an.toNat with
 | none=>
  refine⟨fun⟨i,hi,h⟩=>?_,fun _=>rfl⟩
  have:=hsp.1 hP i hi
  rw [hgood i hi h] at this
  cases this
 | some q=>
  obtain⟨a0,j⟩:=q
  obtain⟨q1,q2,q3⟩:=hsp.2 a0 j hP
  refine⟨fun _=>⟨j,?_⟩,fun h=>?_⟩
  ·rcases hcell j q1 with h | h
   ·rw [hgood j q1 h] at q2;cases q2;rfl
   ·rw [hbad j q1 h] at q2;cases q2
  ·rw [hbad j q1 (h j q1)] at q2;cases q2
section
variable {g:Geo} {s:ByteArray} {b:An} {fill:UInt8} {sizes:List Int} {d:Dk} {bad0 bad1:Int→Bool}
theorem ank_mount (hg:okG g=true) (hs:labE s.data.toList=0) (hl:sizes.length≤40) (hd:DkOk d) (hn:(d.cells.length:Int)=cellsN g) (hc:d.cache=[]) (hlf:d.left<0) (hb:anOk g b=true) (hbs:b.seq=1) (hbp:b.pos=0) (hbe:0≤b.epoch) (hlast:b.last≤(logM g (firstA g s) fill sizes 0 (firstA g s).pos 0).length) (he:b.epoch=0∨b.last=(logM g (firstA g s) fill sizes 0 (firstA g s).pos 0).length) (h1:b.gen≠4294967295) (h2:b.epoch≠4294967295)
  (hcell:∀ i:Nat,i<g.an.toNat→((d.cells.getD i cz).state=0∧(d.cells.getD i cz).bytes=anCell b i)∨SpoiltC (d.cells.getD i cz) (anCell b i)) (hone:∃ i:Nat,i<g.an.toNat∧(d.cells.getD i cz).state=0∧(d.cells.getD i cz).bytes=anCell b i)
  (h0s:saysF g (gotsD d (logAts g 0)) 0=saysW g (logM g (firstA g s) fill sizes 0 (firstA g s).pos 0) 0 bad0) (h1s:saysF g (gotsD d (logAts g 1)) 1=saysW g (logM g (firstA g s) fill sizes 0 (firstA g s).pos 0) 0 bad1) (hbb:∀ s,(bad0 s&&bad1 s)=false) :
  ∃ D,mountM g d=(D,0,stOf (nextA b (logM g (firstA g s) fill sizes 0 (firstA g s).pos 0).length) (logM g (firstA g s) fill sizes 0 (firstA g s).pos 0))∧D.cells=finL (finL d.cells ((logM g (firstA g s) fill sizes 0 (firstA g s).pos 0).flatMap (txWr g 0 (fun s=>!bad0 s) fun s=>!bad1 s))) (anCells g (nextA b (logM g (firstA g s) fill sizes 0 (firstA g s).pos 0).length))∧D.cache=[]∧D.left=d.left:=by
 obtain⟨g1,g2,g3,g4,g5⟩:=okG_iff.1 hg
 have hcg:=cells_ge hg
 have hao:=firstA_ok hg hs
 have hsc:=scan_whole (g:=g) (a:=firstA g s) (b:=b) (fill:=fill) (sizes:=sizes) (ep:=0) (bad0:=bad0) (bad1:=bad1) hg hao (by show (1:Int)≤1000000;decide) hl hbs hbp hbb (fun j hj=>by
  rcases he with he | he
  ·exact .inl he.symm
  ·exact .inr ⟨by show (1:Int)+j≤_;omega,hbe⟩)
 rw [finM_neg (by show ¬(1:Int)+_ - 1<b.last;omega)] at hsc
 rw [←h0s,←h1s,←scanM_P] at hsc
 obtain⟨j,hpk⟩:=(ank_pick hg hb hc hcell).1 hone
 have hm:=mountM_live hg hd hn hc hlf hpk hsc h1 h2
 obtain⟨i,hi,e1,e2⟩:=hone
 have hf:((anCells g (nextA b (logM g (firstA g s) fill sizes 0 (firstA g s).pos 0).length)).filter (free d.cells)).length≠0:=by
  intro h
  have h:=List.eq_nil_of_length_eq_zero h
  rw [List.filter_eq_nil_iff] at h
  refine h ⟨(i:Nat),anCell (nextA b (logM g (firstA g s) fill sizes 0 (firstA g s).pos 0).length) (i:Nat)⟩ ?_ ?_
  ·simp only [anCells,List.mem_map,List.mem_range]
   exact⟨i,hi,rfl⟩
  ·unfold free
   simp only [Int.toNat_natCast,e1]
   rfl
 rw [if_neg hf,if_neg hf] at hm
 exact⟨_,hm,rfl,rfl,rfl⟩
theorem anCells_mem {c:An} {w:Wr} (h:w∈anCells g c):∃ i:Nat,i<g.an.toNat∧w=⟨(i:Nat),anCell c (i:Nat)⟩:=by
 simp only [anCells,List.mem_map,List.mem_range] at h
 obtain⟨i,hi,rfl⟩:=h
 exact⟨i,hi,rfl⟩
end
def Dk.faultX (d:Dk) (kind a frm bit bits:Int):Dk:=if (d.fault kind a frm bit bits).2=0 then (d.fault kind a frm bit bits).1 else dk0
theorem dcheck_ok {d:Dk} (h:DkOk d):Fn Tryz.prog 97 [.ag (dkC d)] fun r=>r = .v (.int .i64 0):=by
 have:=dcheck_fn d (by have:=h.n;omega) (by have:=h.m;omega)
 rwa [okDk_iff.2 h] at this
theorem lt234 {m:Nat} (h:Nat.ble 5 m=true):∀ z∈ [2,3,4],z<m:=fun z hz=>by
 have:=Nat.le_of_ble_eq_true h
 simp at hz
 omega
set_option maxRecDepth 100000 in
theorem dreadX_fn (d:Dk) (a:Int) (h:DkOk d) (ha:0≤a∧a<d.cells.length):Fn Tryz.prog 37 [.ag (dkC d), .v (.int .i64 a)] fun r=>r = .tp [.ag (dkC (d.read a).1),bA (d.read a).2.1, .v (.int .i64 (d.read a).2.2)]:=by
 have hn:=h.n
 have hm:=h.m
 have w1:IntKind.i64.wrap ((d.cells.length:Int) - 1)=d.cells.length - 1:=wi (by omega)
 have i1:=din_fn a 0 ((d.cells.length:Int) - 1)
 have hA:inB a 0 ((d.cells.length:Int) - 1)=true:=inB_iff.2 (by omega)
 rw [hA] at i1
 have hck:=dcheck_ok h
 have ho:=down_fn d (by omega) (by omega)
 have hr:=dread_fn (fun b hb=>bclone_fn b hb) d a h.l ha hm (fun c hc=>by have:=(h.c c hc).2;omega) (fun w hw=>by have:=(h.w w hw).2;omega)
 have hR:=h.read a
 generalize d.read a=R at hr hR
 obtain⟨D,b,e⟩:=R
 simp only at hr hR
 have ht:=dtwin_fn D (by have:=hR.n;omega) (by have:=hR.m;omega) (fun c hc=>by have:=(hR.c c hc).2;omega) (fun w hw=>by have:=(hR.w w hw).2;omega)
 refine Fn.of tys_ok Tryz.func37 rfl rfl (Nat.le_of_ble_eq_true rfl) ?_
 conv=>whnf
 refine Fn.closed (hck) rfl ?_
 rintro _ rfl
 conv=>whnf
 rw [w1]
 refine Fn.closed (i1) rfl ?_
 rintro _ rfl
 conv=>whnf
 refine ACalls.beside ho rfl ?_
 rintro _ _ ⟨rfl,rfl⟩
 conv=>whnf
 refine ACalls.frame [2,3,4] hr rfl rfl rfl rfl (by decide) (lt234 rfl) ⟨rfl,rfl,rfl,trivial⟩ ?_
 rintro _ _ ⟨rfl,rfl⟩
 conv=>whnf
 refine ACalls.shut ht.go ?_
 conv=>whnf
 refine And.intro (List.length_map _).symm ?_
 conv=>whnf
 refine And.intro (List.length_map _).symm ?_
 conv=>whnf
 refine ACalls.sub [.ag (dkC D)] ⟨ag_sub ⟨row_sub (f:=celC) D.cells rfl rfl,row_sub (f:=wrC) D.cache rfl rfl,fun _ _ h=>h,fun _ _ h=>h,trivial⟩,trivial⟩ ?_
 refine Fn.closed (ht) rfl ?_
 rintro _ rfl
 conv=>whnf
 exact⟨_,fun _ _ h=>h,rfl⟩
def keepB (keep:Int) (i:Nat):Bool:=IntKind.i64.wrap ((BitVec.ofInt IntKind.i64.bits (keep.fdiv (2 ^ min (((i:Nat):Int).tmod 31).toNat IntKind.i64.bits))&&&BitVec.ofInt IntKind.i64.bits 1).toNat:Nat) == 1
def crashK (d:Dk) (keep:Int):Nat→Dk
 | 0=>d
 | k+1=>if keepB keep k then (crashK d keep k).fin (d.cache.getD k ⟨0, []⟩) else crashK d keep k
def Dk.crash (d:Dk) (keep:Int):Dk:={ crashK d keep d.cache.length with cache:= [],left:= -1 }
theorem crashK_ok {d:Dk} (h:DkOk d) (keep:Int):∀ k,k≤d.cache.length→DkOk (crashK d keep k)∧(crashK d keep k).cells.length=d.cells.length∧(crashK d keep k).cache=d.cache∧(crashK d keep k).left=d.left
 | 0,_=>⟨h,rfl,rfl,rfl⟩
 | k+1,hk=>by
  obtain⟨h1,h2,h3,h4⟩:=crashK_ok h keep k (by omega)
  have hw:=h.w _ (getD_mem (d:=(⟨0, []⟩:Wr)) (show k<d.cache.length by omega))
  have hf:=fin_cache (crashK d keep k) (d.cache.getD k ⟨0, []⟩)
  show DkOk (if _ then _ else _)∧(if _ then _ else _:Dk).cells.length=_∧(if _ then _ else _:Dk).cache=_∧(if _ then _ else _:Dk).left=_
  split
  ·exact⟨h1.fin hw.2,by rw [fin_len,h2],hf.1.trans h3,hf.2.2.trans h4⟩
  ·exact⟨h1,h2,h3,h4⟩
theorem DkOk.crash {d:Dk} (h:DkOk d) (keep:Int):DkOk (d.crash keep)∧(d.crash keep).cells.length=d.cells.length:=by
 obtain⟨h1,h2,h3,h4⟩:=crashK_ok h keep d.cache.length (Nat.le_refl _)
 exact⟨⟨h1.n,by simp [Dk.crash],h1.r,by show (-1:Int)≤ -1∧(-1:Int)≤_;decide,h1.c,fun w hw=>by simp [Dk.crash] at hw⟩,h2⟩
set_option maxRecDepth 100000 in
theorem dcrash_fn (d:Dk) (keep:Int) (h:DkOk d) (hk0:0≤keep):Fn Tryz.prog 34 [.ag (dkC d), .v (.int .i64 keep)] fun r=>r = .tp [.ag (dkC (d.crash keep)), .v (.int .i64 0)]:=by
 have hn:=h.n
 have hm:=h.m
 have hck:=dcheck_ok h
 have ho:=down_fn d (by omega) (by omega)
 obtain⟨hC,hCl⟩:=h.crash keep
 have ht:=dtwin_fn (d.crash keep) (by have:=hC.n;omega) (by have:=hC.m;omega) (fun c hc=>by have:=(hC.c c hc).2;omega) (fun w hw=>by have:=(hC.w w hw).2;omega)
 refine Fn.of tys_ok Tryz.func34 rfl rfl (Nat.le_of_ble_eq_true rfl) ?_
 conv=>whnf
 refine Fn.closed (hck) rfl ?_
 rintro _ rfl
 conv=>whnf
 rw [show decide (keep<0)=false from decide_eq_false (by omega)]
 conv=>whnf
 refine ACalls.beside ho rfl ?_
 rintro _ _ ⟨rfl,rfl⟩
 conv=>whnf
 refine aLoop.ruleRR Nat (fun k=>([(1, .v (.int .i64 keep)),(4, .bp 1 0),(6, .bp 2 0),(23, .ow 4 d.cache.length),(24, .v (.int .i64 d.cache.length)),(25, .v (.int .i64 k))], [.box 32 (dkC d), .box 32 [nilV,nilV,ze 0,ze 0], .box 164 (dkX (.ow 3 (crashK d keep k).cells.length) (.ow 4 (crashK d keep k).cache.length) (crashK d keep k).reqs (crashK d keep k).left), .row 87 3 ((crashK d keep k).cells.map celC), .row 130 2 ((crashK d keep k).cache.map wrC)])) (fun k=>k≤d.cache.length) (fun k=>d.cache.length - k) 0 (Nat.zero_le _)
  (WkN.r (s:= [0,1,2,3,4]) ⟨⟨rfl,rfl,rfl,rfl,rfl,rfl,trivial⟩,⟨rfl,rfl,rfl,rfl,rfl,trivial⟩,rfl,rfl,rfl,rfl,rfl⟩) ?_
 intro k hk
 obtain⟨o1,o2,o3,o4⟩:=crashK_ok h keep k hk
 have hsx:crashK d keep (k+1)=if keepB keep k then (crashK d keep k).fin (d.cache.getD k ⟨0, []⟩) else crashK d keep k:=rfl
 conv=>whnf
 refine boolI (fun h6=>?_) (fun h6=>?_) <;> (repeat rw [Int.toNat_natCast] at h6) <;> conv=>whnf
 ·have hk':k<d.cache.length:=by omega
  have hw:=h.w _ (getD_mem (d:=(⟨0, []⟩:Wr)) hk')
  generalize crashK d keep k=D at o1 o2 o3 o4 hsx ⊢
  have hE:(D.cache.map wrC).getD ((k:Nat):Int).toNat []=wrC (d.cache.getD k ⟨0, []⟩):=by rw [Int.toNat_natCast,o3];exact map_getD hk'
  have hdn:=ddone_fn D (d.cache.getD k ⟨0, []⟩) (by rw [o2];exact hw.1)
  generalize d.cache.getD k ⟨0, []⟩=W at hE hdn hsx hw
  repeat' (first | (refine aSeq.go ?_;conv=>whnf) | fail)
  refine And.intro ⟨by omega,by omega⟩ ?_
  conv=>whnf
  refine And.intro ⟨rfl,by rw [List.length_map,o3],by rw [Int.toNat_natCast];exact hk'⟩ ?_
  conv=>whnf
  rw [hE]
  conv=>whnf
  repeat' (first | (refine aSeq.go ?_;conv=>whnf) | fail)
  refine And.intro (by decide) ?_
  conv=>whnf
  refine And.intro (Int.tmod_nonneg 31 (by omega)) ?_
  conv=>whnf
  rw [show (IntKind.i64.wrap ((BitVec.ofInt IntKind.i64.bits (keep.fdiv (2 ^ min (((k:Nat):Int).tmod 31).toNat IntKind.i64.bits))&&&BitVec.ofInt IntKind.i64.bits 1).toNat:Nat) == 1)=keepB keep k from rfl]
  cases hb:keepB keep k with
  | false=>
   rw [hb] at hsx
   conv=>whnf
   repeat' (first | (refine aSeq.go ?_;conv=>whnf) | fail)
   refine⟨k+1,by omega,by omega,?_⟩
   rw [show crashK d keep (k+1)=D from hsx]
   exact WkN.r (s:= [0,1,2,3,4]) ⟨⟨rfl,rfl,rfl,rfl,rfl,wsucc (by omega),trivial⟩,⟨rfl,rfl,rfl,rfl,rfl,trivial⟩,rfl,rfl,rfl,rfl,rfl⟩
  | true=>
   rw [hb] at hsx
   conv=>whnf
   refine ACalls.frame [2,3,4] hdn rfl rfl rfl rfl (by decide) (lt234 rfl) ⟨rfl,rfl,rfl,trivial⟩ ?_
   rintro _ _ ⟨rfl,rfl⟩
   conv=>whnf
   repeat' (first | (refine aSeq.go ?_;conv=>whnf) | fail)
   refine⟨k+1,by omega,by omega,?_⟩
   rw [show crashK d keep (k+1)=D.fin W from hsx]
   exact WkN.r (s:= [0,1,2,3,4]) ⟨⟨rfl,rfl,rfl,rfl,rfl,wsucc (by omega),trivial⟩,⟨rfl,rfl,rfl,rfl,rfl,trivial⟩,rfl,rfl,rfl,rfl,rfl⟩
 ·have ek:k=d.cache.length:=by omega
  subst ek
  repeat' (first | (refine aSeq.go ?_;conv=>whnf) | fail)
  refine ACalls.shut ht.go ?_
  conv=>whnf
  refine And.intro (List.length_map _).symm ?_
  conv=>whnf
  refine ACalls.sub [.ag (dkC (d.crash keep))] ⟨ag_sub ⟨row_sub (f:=celC) (d.crash keep).cells rfl rfl,nil_sl 2 _,fun _ _ h=>h,fun _ _ h=>h,trivial⟩,trivial⟩ ?_
  refine Fn.closed (ht) rfl ?_
  rintro _ rfl
  conv=>whnf
  exact⟨_,fun _ _ h=>h,rfl⟩

def ln:ByteArray:=⟨#[110]⟩
theorem sealDisk {H:List AB} (j k:Nat) {N:Nat} {es:List (List AV)} (hN:N=es.length) (hj:H[j]? = some (.box 32 [.ow k N,nilV,ze 0,ze (-1)])) (hk:H[k]? = some (.row 87 3 es)):ConvH H ((H.set k .dead).set j (.box 32 [.sl 3 N fun i=>es.getD i [],nilV,ze 0,ze (-1)])):=
 ConvH.sealBox j k hj hk (by subst hN;simp [AV.slIn,nilV,ze])
structure Reach (W:List Wr) (x d:Dk):Prop where
 len:d.cells.length=x.cells.length
 cell:∀ a:Nat,a<x.cells.length→d.cells.getD a cz=x.cells.getD a cz∨(d.cells.getD a cz).state=0∧∃ v∈W,v.addr.toNat=a∧(d.cells.getD a cz).bytes=v.bytes
 cache:∀ v∈d.cache,v∈W
section
variable {W:List Wr} {x d:Dk}
theorem Reach.base (h:x.cache=[]):Reach W x x:=⟨rfl,fun _ _=> .inl rfl,fun v hv=>by rw [h] at hv;cases hv⟩
theorem Reach.same {d':Dk} (h:Reach W x d) (h1:d'.cells=d.cells) (h2:d'.cache=d.cache):Reach W x d':=⟨by rw [h1];exact h.len,fun a ha=>by rw [h1];exact h.cell a ha,fun v hv=>h.cache v (by rw [←h2];exact hv)⟩
theorem Reach.fin (h:Reach W x d) {w:Wr} (hw:w∈W):Reach W x (d.fin w):=by
 rw [fin_cells]
 refine⟨by show (finS d.cells w).length=_;rw [finS_len];exact h.len,fun a ha=>?_,h.cache⟩
 show (finS d.cells w).getD a cz=_∨((finS d.cells w).getD a cz).state=0∧_
 rw [finS_get d.cells w a (by rw [h.len];exact ha)]
 by_cases e:w.addr.toNat=a∧(d.cells.getD a cz).state≠2
 ·rw [if_pos e];exact .inr ⟨rfl,w,hw,e.1,rfl⟩
 ·rw [if_neg e];exact h.cell a ha
theorem Reach.write (h:Reach W x d) {w:Wr} (hw:w∈W):Reach W x (d.write w.addr w.bytes).1:=by
 unfold Dk.write
 split
 ·exact h
 ·split
  ·exact h.same rfl rfl
  ·refine⟨h.len,h.cell,fun v hv=>?_⟩
   rcases List.mem_append.1 hv with hv | hv
   ·exact h.cache v hv
   ·simp at hv;subst hv;exact hw
theorem Reach.step (n:Nat) (f:Bool) (h:Reach W x d) {w:Wr} (hw:w∈W):Reach W x (wrStep (d,n,f) w).1:=by
 unfold wrStep
 split
 ·exact h
 ·have:=h.write hw
  revert this
  simp only
  generalize d.write w.addr w.bytes=q
  obtain⟨D,e⟩:=q
  intro this
  simp only
  split <;> exact this
theorem Reach.go:∀ (l:List Wr) (d:Dk) (n:Nat) (f:Bool),Reach W x d→(∀ w∈l,w∈W)→Reach W x (l.foldl wrStep (d,n,f)).1
 | [],_,_,_,h,_=>h
 | w::l,d,n,f,h,hl=>by
  have h1:=h.step n f (hl w (by simp))
  show Reach W x (l.foldl wrStep (wrStep (d,n,f) w)).1
  revert h1
  generalize wrStep (d,n,f) w=q
  obtain⟨D,m,b⟩:=q
  exact fun h1=>Reach.go l D m b h1 fun v hv=>hl v (List.mem_cons_of_mem _ hv)
theorem Reach.fins:∀ (l:List Wr) (d:Dk),Reach W x d→(∀ w∈l,w∈W)→Reach W x (d.allFin l)
 | [],_,h,_=>h
 | w::l,_,h,hl=>Reach.fins l _ (h.fin (hl w (by simp))) fun v hv=>hl v (List.mem_cons_of_mem _ hv)
theorem Reach.flush (h:Reach W x d):Reach W x d.flush:=by
 have h1:=Reach.fins d.cache d.req (h.same rfl rfl) h.cache
 exact⟨h1.len,h1.cell,fun v hv=>by simp [Dk.flush] at hv⟩
theorem Reach.putAll (h:Reach W x d) {l:List Wr} (hl:∀ w∈l,w∈W):Reach W x (d.putAll l).1:=by
 have h1:=Reach.go l d 0 false h hl
 unfold Dk.putAll Dk.writes
 revert h1
 generalize l.foldl wrStep (d,0,false)=q
 obtain⟨D,m,b⟩:=q
 intro h1
 simp only
 split
 ·exact h1
 ·split
  ·exact h1
  ·exact Reach.flush h1
theorem Reach.adv (h:Reach W x d) (k:Nat):Reach W x (d.adv k):=h.same (adv_same k d).1 (adv_same k d).2
theorem Reach.crash (h:Reach W x d) (keep:Int):Reach W x (d.crash keep):=by
 have:∀ k,k≤d.cache.length→Reach W x (crashK d keep k):=fun k=>by
  induction k with
  | zero=>exact fun _=>h
  | succ k ih=>
   intro hk
   have:=ih (by omega)
   show Reach W x (if _ then _ else _)
   split
   ·exact this.fin (h.cache _ (getD_mem (d:=(⟨0, []⟩:Wr)) (by omega)))
   ·exact this
 have h1:=this d.cache.length (Nat.le_refl _)
 exact⟨h1.len,h1.cell,fun v hv=>by simp [Dk.crash] at hv⟩
theorem Reach.free (h:Reach W x d) (h0:∀ a:Nat,a<x.cells.length→(x.cells.getD a cz).state=0) (a:Nat):(d.cells.getD a cz).state≠2:=by
 by_cases ha:a<x.cells.length
 ·rcases h.cell a ha with e | e
  ·rw [e,h0 a ha];decide
  ·rw [e.1];decide
 ·rw [List.getD_eq_getElem?_getD,List.getElem?_eq_none (by rw [h.len];omega)]
  decide
end
theorem wr_keep:∀ (l:List Wr) (d:Dk) (n:Nat) (f:Bool),(l.foldl wrStep (d,n,f)).2.2=false→f=false∧n≤(l.foldl wrStep (d,n,f)).2.1
 | [],_,_,_,h=>⟨h,Nat.le_refl _⟩
 | w::l,d,n,f,h=>by
  have hs:∃ D m b,wrStep (d,n,f) w=(D,m,b)∧(b=false→f=false∧n≤m):=by
   unfold wrStep
   simp only
   cases f with
   | true=>exact⟨_,_,_,rfl,fun h=>by cases h⟩
   | false=>
    simp only [Bool.false_eq_true,if_false]
    generalize d.write w.addr w.bytes=q
    obtain⟨D,e⟩:=q
    simp only
    split
    ·exact⟨_,_,_,rfl,fun h=>by cases h⟩
    ·exact⟨_,_,_,rfl,fun _=>⟨trivial,by omega⟩⟩
  obtain⟨D,m,b,e,hb⟩:=hs
  have h:(l.foldl wrStep (wrStep (d,n,f) w)).2.2=false:=h
  rw [e] at h
  obtain⟨k1,k2⟩:=wr_keep l D m b h
  obtain⟨k3,k4⟩:=hb k1
  refine⟨k3,?_⟩
  show n≤(l.foldl wrStep (wrStep (d,n,f) w)).2.1
  rw [e]
  omega
theorem puts_some {d:Dk} {w:Wr} {l:List Wr} (h2:(d.cells.getD w.addr.toNat cz).state≠2) (hc:d.cache=[]) (h:(d.putAll (w::l)).2.2=false):(d.putAll (w::l)).2.1≠0:=by
 have hq:∀ q:Dk × Nat × Bool,d.writes (w::l)=q→(d.putAll (w::l)).2.1=q.2.1∧((d.putAll (w::l)).2.2=false→q.2.2=false):=fun q e=>by
  unfold Dk.putAll
  rw [e]
  obtain⟨D,m,b⟩:=q
  simp only
  cases b with
  | true=>exact⟨rfl,fun h=>by cases h⟩
  | false=>
   rw [if_neg (by simp)]
   split <;> exact⟨rfl,fun _=>rfl⟩
 obtain⟨q1,q2⟩:=hq _ rfl
 have hf:=q2 h
 rw [q1]
 unfold Dk.writes at hf ⊢
 have hf:(l.foldl wrStep (wrStep (d,0,false) w)).2.2=false:=hf
 show (l.foldl wrStep (wrStep (d,0,false) w)).2.1≠0
 have hs:wrStep (d,0,false) w=if d.left=0 then (d,0,true) else ({ d.req with cache:= [w] },1,false):=by
  have hw:d.write w.addr w.bytes=if d.left=0 then (d,8) else ({ d.req with cache:= [w] },0):=by
   unfold Dk.write
   by_cases hl:d.left=0
   ·rw [if_pos hl,if_pos hl]
   ·rw [if_neg hl,if_neg hl]
    split
    ·rename_i h3
     rcases h3 with h3 | h3
     ·exact absurd h3 h2
     ·rw [hc] at h3;simp at h3
    ·rw [hc];rfl
  show (match d.write w.addr w.bytes with | (d,e)=>if e=8 then (d,0,true) else (d,0+(if e=0 then 1 else 0),false))=_
  rw [hw]
  by_cases hl:d.left=0
  ·rw [if_pos hl,if_pos hl]
   rfl
  ·rw [if_neg hl,if_neg hl]
   rfl
 rw [hs] at hf ⊢
 by_cases hl:d.left=0
 ·rw [if_pos hl] at hf
  have:=(wr_keep l _ _ _ hf).1
  cases this
 ·rw [if_neg hl] at hf ⊢
  have:=(wr_keep l _ _ _ hf).2
  omega
theorem anCells_cons {g:Geo} (hg:okG g=true) (a:An):∃ w l,anCells g a=w::l:=by
 obtain⟨g1,g2,g3,g4,g5⟩:=okG_iff.1 hg
 have:=anCells_len g a
 cases h:anCells g a with
 | nil=>rw [h] at this;simp at this;omega
 | cons w l=>exact⟨w,l,rfl⟩
theorem mount_reach {g:Geo} {x:Dk} {a:An} {j:Nat} {L:List Tx} {w:List Wr} (hg:okG g=true) (hc:x.cache=[]) (h0:∀ a:Nat,a<x.cells.length→(x.cells.getD a cz).state=0) (hp:pickN g (gotsD x (anAts g))=some (a,j)) (hs:scanM g a (gotsD x (logAts g 0)) (gotsD x (logAts g 1))=(L,w,0)) (h1:a.gen≠4294967295) (h2:a.epoch≠4294967295) :
  Reach (w ++ anCells g (nextA a L.length)) x (mountM g x).1∧((mountM g x).2.1=8∨(mountM g x).2.1=0∧(mountM g x).2.2=stOf (nextA a L.length) L):=by
 have hb:Reach (w ++ anCells g (nextA a L.length)) x x:= .base hc
 have hgs:∀ k l,gotsD (x.adv k) l=gotsD x l:=fun k l=>by
  unfold gotsD
  refine List.map_congr_left fun a _=>?_
  unfold gotG Dk.got
  rw [(adv_same k x).1,(adv_same k x).2]
 unfold mountM
 split
 ·rw [hp]
  simp only
  unfold mount2
  split
  ·rw [hgs,hgs,hs]
   have hb2:=(hb.adv g.an.toNat).adv (2*g.sl.toNat)
   have hc2:((x.adv g.an.toNat).adv (2*g.sl.toNat)).cache=[]:=by rw [(adv_same _ _).2,(adv_same _ _).2,hc]
   generalize (x.adv g.an.toNat).adv (2*g.sl.toNat)=d at hb2 hc2 ⊢
   unfold mount3
   simp only [ne_eq,not_true,if_false]
   have hm:Reach (w ++ anCells g (nextA a L.length)) x (d.mend w).1∧((d.mend w).2=false→(d.mend w).1.cache=[]):=by
    unfold Dk.mend
    split
    ·exact⟨hb2,fun _=>hc2⟩
    ·refine⟨hb2.putAll fun v hv=>List.mem_append_left _ hv,?_⟩
     unfold Dk.putAll
     generalize d.writes w=q
     obtain⟨D,m,b⟩:=q
     simp only
     cases b with
     | true=>exact fun h=>by cases h
     | false=>
      simp only [Bool.false_eq_true,if_false]
      split
      ·exact fun h=>by cases h
      ·exact fun _=>rfl
   obtain⟨m1,m2⟩:=hm
   by_cases hd:(d.mend w).2=true
   ·rw [if_pos hd]
    exact⟨m1, .inl rfl⟩
   ·rw [if_neg hd]
    have hd:(d.mend w).2=false:=by simpa using hd
    have m2:=m2 hd
    generalize (d.mend w).1=D at m1 m2 ⊢
    unfold mount4
    rw [if_neg (by rintro(h | h);exact h1 h;exact h2 h)]
    simp only
    have hpu:=m1.putAll (l:=anCells g (nextA a L.length)) fun v hv=>List.mem_append_right _ hv
    obtain⟨v,l,el⟩:=anCells_cons hg (nextA a L.length)
    by_cases hq:(D.putAll (anCells g (nextA a L.length))).2.2=true
    ·rw [if_pos hq]
     exact⟨hpu, .inl rfl⟩
    ·rw [if_neg hq]
     have hq:(D.putAll (anCells g (nextA a L.length))).2.2=false:=by simpa using hq
     rw [if_neg (by rw [el] at hq ⊢;exact puts_some (m1.free h0 _) m2 hq)]
     exact⟨hpu, .inr ⟨rfl,rfl⟩⟩
  ·exact⟨(hb.adv _).adv _, .inl rfl⟩
 ·exact⟨hb.adv _, .inl rfl⟩
section
variable {g:Geo} {a:An} {fill:UInt8} {sizes:List Int}
end
end Go.Proofs.YtldngmdpiifamaaGreatDoor.A
end
