/-
Several texts in one.
-/
import Derived.Test.YtldngmdpiifamaaGreatDoorPPB4P4
import Derived.Test.YtldngmdpiifamaaGreatDoorPPB4P3
import Derived.Test.YtldngmdpiifamaaGreatDoorRows
import Derived.Below
import Derived.ChangeSame
import Derived.Carry
import Derived.Test.YtldngmdpiifamaaGreatDoorPPB4P1
import Derived.Lib.LaidIn
import Derived.Lib.LaidU8T
import Derived.LaidHandle
import Derived.MakeChecks
import Derived.Handed
section
namespace Go.Proofs.YtldngmdpiifamaaGreatDoor.A
open Go.RowKit
section
variable {g:Geo} {a b:An} {fill:UInt8} {sizes:List Int} {ep:Int}
def saysZ (g:Geo) (L:List Tx) (ep:Int) (z:Int→Bool):Int→Option Rc:=fun s=>if 0≤s∧s<g.sl then some (if z s then zeroC else recW g L ep s) else none
theorem saysZ_at {L:List Tx} {z:Int→Bool} {s:Int} (hs:0≤s∧s<g.sl):saysZ g L ep z s=some (if z s then zeroC else recW g L ep s):=if_pos hs
theorem allB_Z {z0 z1:Int→Bool} (hg:okG g=true) (ha:anOk g a=true) {j n:Nat} (hj:j<(logM g a fill sizes 0 a.pos 0).length) (hn:n≤((logM g a fill sizes 0 a.pos 0).getD j tz).images.length+1) (he:ep=b.epoch∨a.seq+j≤b.last∧ep≤b.epoch) (hb:∀ k:Nat,k<n→(z0 (slotM g ((logM g a fill sizes 0 a.pos 0).getD j tz).pos (k:Nat))&&z1 (slotM g ((logM g a fill sizes 0 a.pos 0).getD j tz).pos (k:Nat)))=false) :
  AllB g b ep (saysZ g (logM g a fill sizes 0 a.pos 0) ep z0) (saysZ g (logM g a fill sizes 0 a.pos 0) ep z1) (fun s=>!z0 s) (fun s=>!z1 s) ((logM g a fill sizes 0 a.pos 0).getD j tz) n:=by
 have hs:∀ (z:Int→Bool) (k:Nat),k<n→SaysB b (saysZ g (logM g a fill sizes 0 a.pos 0) ep z (slotM g ((logM g a fill sizes 0 a.pos 0).getD j tz).pos k)) (!z (slotM g ((logM g a fill sizes 0 a.pos 0).getD j tz).pos k)) ((recsOf ((logM g a fill sizes 0 a.pos 0).getD j tz).seq ep ((logM g a fill sizes 0 a.pos 0).getD j tz).images).getD k rc0) ((logM g a fill sizes 0 a.pos 0).getD j tz).seq k:=fun z k hk=>by
  obtain⟨q1,q2⟩:=recW_at (ep:=ep) hg ha hj (show k<_ by omega)
  rw [saysZ_at q1,q2]
  unfold SaysB
  cases z (slotM g ((logM g a fill sizes 0 a.pos 0).getD j tz).pos k)
  ·rfl
  ·exact fun _ _=>one_zero _ _ _ _ _
 refine⟨?_,fun k hk=>⟨hs z0 k hk,hs z1 k hk,?_⟩⟩
 ·rw [(log_get hg ha hj).1]
  exact he
 ·have:=hb k hk
  cases h0:z0 (slotM g ((logM g a fill sizes 0 a.pos 0).getD j tz).pos k) <;> cases h1:z1 (slotM g ((logM g a fill sizes 0 a.pos 0).getD j tz).pos k) <;> simp_all
theorem late_other {r:Rc} {seq at_ of_ left:Int} (h1:r.epoch≠b.epoch) (h2:b.last<seq):oneO (some r) b seq at_ of_ left=false:=by
 show isOne r b seq at_ of_ left=false
 refine decide_eq_false fun h=>?_
 rcases h.2.2.2.2.2 with h | h
 ·exact h1 h
 ·omega
theorem scan_Z {n:Nat} {z0 z1:Int→Bool} (hg:okG g=true) (ha:anOk g a=true) (hs:a.seq≤1000000) (hl:sizes.length≤40) (hbs:b.seq=a.seq) (hbp:b.pos=a.pos) (hn:n≤(logM g a fill sizes 0 a.pos 0).length)
  (hb:∀ j k:Nat,j<n→k<((logM g a fill sizes 0 a.pos 0).getD j tz).images.length+1→(z0 (slotM g ((logM g a fill sizes 0 a.pos 0).getD j tz).pos (k:Nat))&&z1 (slotM g ((logM g a fill sizes 0 a.pos 0).getD j tz).pos (k:Nat)))=false)
  (hB:n=(logM g a fill sizes 0 a.pos 0).length∨n+1=(logM g a fill sizes 0 a.pos 0).length∧∃ k:Nat,k<((logM g a fill sizes 0 a.pos 0).getD n tz).images.length+1∧z0 (slotM g ((logM g a fill sizes 0 a.pos 0).getD n tz).pos (k:Nat))=true∧z1 (slotM g ((logM g a fill sizes 0 a.pos 0).getD n tz).pos (k:Nat))=true)
  (he:ep=b.epoch∨ep<b.epoch∧b.last=a.seq+n - 1) :
  scanP g b (saysZ g (logM g a fill sizes 0 a.pos 0) ep z0) (saysZ g (logM g a fill sizes 0 a.pos 0) ep z1)=finM b (some ((logM g a fill sizes 0 a.pos 0).take n,((logM g a fill sizes 0 a.pos 0).take n).flatMap (txWr g ep (fun s=>!z0 s) fun s=>!z1 s),a.seq+n)):=by
 obtain⟨h1,h2,h3,h4,h5⟩:=okG_iff.1 hg
 have hq:=anOk_seq ha
 have eT:=logM_take (g:=g) (a:=a) (fill:=fill) sizes 0 a.pos 0 n (by omega)
 have hU0:=log_take_nn (fill:=fill) (sizes:=sizes) hg ha n
 have hlen:=logM_len (g:=g) (a:=a) (fill:=fill) sizes 0 a.pos 0 (by omega)
 obtain⟨f,e1,e2,e3⟩:=scan_B (g:=g) (a:=a) (b:=b) (fill:=fill) (sizes:=sizes.take n) (ep:=ep) (p:=saysZ g (logM g a fill sizes 0 a.pos 0) ep z0) (q:=saysZ g (logM g a fill sizes 0 a.pos 0) ep z1) (b0:=fun s=>!z0 s) (b1:=fun s=>!z1 s) hg ha hs (by rw [List.length_take];omega) hbs hbp (fun t ht=>by
  rw [←eT] at ht
  obtain⟨j,j1,j2,rfl⟩:=mem_take_ ht
  exact allB_Z (b:=b) hg ha j2 (Nat.le_refl _) (he.imp id fun h=>⟨by omega,by omega⟩) fun k hk=>hb j k j1 hk)
 rw [←eT] at e1 e2 e3
 have hln:((logM g a fill sizes 0 a.pos 0).take n).length=n:=by rw [List.length_take];omega
 rw [hln] at e3
 rw [e3,scanLP_end]
 intro hleft
 rcases hB with hB | ⟨hB,k1,k2,k3,k4⟩
 ·have hf:(logM g a fill sizes 0 a.pos 0).take n=logM g a fill sizes 0 a.pos 0:=by rw [hB,List.take_length]
  rw [hf] at hleft ⊢
  have hU1:=used_nn (logM_nn (fill:=fill) (sizes:=sizes) hg ha)
  have hP:=slotM_0 (x:=a.pos+usedM (logM g a fill sizes 0 a.pos 0)) hg (by omega)
  have q1:=Int.tmod_nonneg g.sl (show 0≤a.pos+usedM (logM g a fill sizes 0 a.pos 0) by omega)
  have q2:=Int.tmod_lt_of_pos (a.pos+usedM (logM g a fill sizes 0 a.pos 0)) (show 0<g.sl by omega)
  have hz:∀ c:Int→Bool,saysZ g (logM g a fill sizes 0 a.pos 0) ep c ((a.pos+usedM (logM g a fill sizes 0 a.pos 0)).tmod g.sl)=some zeroC:=fun c=>by
   rw [saysZ_at ⟨q1,q2⟩,recW_free hg ha (Int.le_refl _) (by omega)]
   split <;> rfl
  refine txn_other (fun of_ left=>?_) (fun of_ left=>?_) ?_
  ·rw [hP,hz];exact one_zero _ _ _ _ _
  ·rw [hP,hz];exact one_zero _ _ _ _ _
  ·rw [hP,hz];rfl
 ·have hi:n<(logM g a fill sizes 0 a.pos 0).length:=by omega
  have hgi:=log_get (fill:=fill) (sizes:=sizes) hg ha hi
  have hpi:=log_pos (fill:=fill) (sizes:=sizes) hg ha hi
  have hroom:=log_room hg (a:=a) (fill:=fill) (sizes:=sizes) hi
  rw [←hpi,←hgi.1]
  rcases he with he | he
  ·obtain⟨k0,r1,r2,r3⟩:=(first_no (fun k=>!(z0 (slotM g ((logM g a fill sizes 0 a.pos 0).getD n tz).pos (k:Nat))&&z1 (slotM g ((logM g a fill sizes 0 a.pos 0).getD n tz).pos (k:Nat)))) (((logM g a fill sizes 0 a.pos 0).getD n tz).images.length+1)).resolve_left fun h=>by
    have:=h k1 k2
    rw [k3,k4] at this
    cases this
   refine txnP_fail (b0:=fun s=>!z0 s) (b1:=fun s=>!z1 s) (ep:=ep) (k0:=k0) (allB_Z (b:=b) hg ha hi (by omega) (.inl he) fun k hk=>by have:=r3 k hk;simpa only [Bool.not_eq_true'] using this) (by omega) (by omega) (by decide) ?_
   intro of_
   obtain⟨s1, -⟩:=recW_at (ep:=ep) hg ha hi (show k0<_ by omega)
   have r2:(z0 (slotM g ((logM g a fill sizes 0 a.pos 0).getD n tz).pos (k0:Nat))&&z1 (slotM g ((logM g a fill sizes 0 a.pos 0).getD n tz).pos (k0:Nat)))=true:=by simpa using r2
   rw [Bool.and_eq_true] at r2
   unfold recP lookP
   dsimp only
   rw [saysZ_at s1,saysZ_at s1,r2.1,r2.2]
   simp only [if_true,one_zero]
   rfl
  ·obtain⟨s1,s2⟩:=recW_at (ep:=ep) hg ha hi (show 0<_ by omega)
   have hr:=recs_facts ((logM g a fill sizes 0 a.pos 0).getD n tz).seq ep ((logM g a fill sizes 0 a.pos 0).getD n tz).images 0 (by omega)
   have hz:∀ (z:Int→Bool) (of_ left:Int),oneO (saysZ g (logM g a fill sizes 0 a.pos 0) ep z (slotM g ((logM g a fill sizes 0 a.pos 0).getD n tz).pos 0)) b ((logM g a fill sizes 0 a.pos 0).getD n tz).seq 0 of_ left=false:=fun z of_ left=>by
    rw [show slotM g ((logM g a fill sizes 0 a.pos 0).getD n tz).pos 0=slotM g ((logM g a fill sizes 0 a.pos 0).getD n tz).pos ((0:Nat):Int) from rfl,saysZ_at s1]
    split
    ·exact one_zero _ _ _ _ _
    ·rw [s2]
     refine late_other ?_ ?_
     ·rw [hr.2.2.1];omega
     ·rw [hgi.1];omega
   refine txn_other (hz z0) (hz z1) ?_
   rw [show slotM g ((logM g a fill sizes 0 a.pos 0).getD n tz).pos 0=slotM g ((logM g a fill sizes 0 a.pos 0).getD n tz).pos ((0:Nat):Int) from rfl,saysZ_at s1]
   rfl
end
def chA (g:Geo) (s:ByteArray) (n:Nat):Nat→An
 | 0=>firstA g s
 | k+1=>nextA (chA g s n k) n
section
variable {g:Geo} {s:ByteArray} {n:Nat}
theorem chA_facts:∀ k,(chA g s n k).gen=1+(k:Nat)∧(chA g s n k).epoch=(k:Nat)∧(chA g s n k).seq=1∧(chA g s n k).pos=0∧(chA g s n k).last=if k=0 then 0 else ((n:Nat):Int)
 | 0=>⟨rfl,rfl,rfl,rfl,rfl⟩
 | k+1=>by
  obtain⟨h1,h2,h3,h4, -⟩:=chA_facts k
  refine⟨?_,?_,h3,h4,?_⟩
  ·show (chA g s n k).gen+1=_;rw [h1];omega
  ·show (chA g s n k).epoch+1=_;rw [h2];omega
  ·show (chA g s n k).seq+n - 1=_;rw [h3,if_neg (by omega)];omega
theorem chA_ok (hg:okG g=true) (hs:labE s.data.toList=0) (hn:n≤1000):∀ k,k≤1000→anOk g (chA g s n k)=true
 | 0,_=>firstA_ok hg hs
 | k+1,hk=>by
  obtain⟨h1,h2,h3, -⟩:=chA_facts (g:=g) (s:=s) (n:=n) k
  exact nextA_ok (chA_ok hg hs hn k (by omega)) (by rw [h1];omega) (by rw [h2];omega) (by rw [h3];omega)
def Out (g:Geo) (L:List Tx) (n:Nat) (x:Int):Prop:=∀ j k:Nat,j<n→k<(L.getD j tz).images.length+1→x≠slotM g (L.getD j tz).pos (k:Nat)
structure Agn (g:Geo) (s:ByteArray) (L:List Tx) (n:Nat) (Z:Int→Int→Bool) (K:Nat) (d:Dk):Prop where
 ok:DkOk d
 len:(d.cells.length:Int)=cellsN g
 cache:d.cache=[]
 left:d.left = -1
 st:∀ a:Nat,a<d.cells.length→(d.cells.getD a cz).state=0
 an:∀ i:Nat,i<g.an.toNat→∃ k,k≤K∧(d.cells.getD i cz).bytes=anCell (chA g s n k) i
 lg:∃ z:Int→Int→Bool,(∀ c x,z c x=true→Z c x=true)∧(∀ c x,c=0∨c=1→0≤x∧x<g.sl→Out g L n x→z c x=Z c x)∧∀ c x:Int,c=0∨c=1→0≤x∧x<g.sl→(d.cells.getD (logAt g c x).toNat cz).bytes=cellB g (if z c x then zeroC else recW g L 0 x) c x
variable {fill:UInt8} {sizes:List Int} {Z:Int→Int→Bool} {K:Nat} {d:Dk} {L:List Tx}
structure AgZ (g:Geo) (L:List Tx) (n:Nat) (Z:Int→Int→Bool):Prop where
 le:n≤L.length
 a:∀ j k:Nat,j<n→k<(L.getD j tz).images.length+1→(Z 0 (slotM g (L.getD j tz).pos (k:Nat))&&Z 1 (slotM g (L.getD j tz).pos (k:Nat)))=false
 b:n=L.length∨n+1=L.length∧∃ k:Nat,k<(L.getD n tz).images.length+1∧Z 0 (slotM g (L.getD n tz).pos (k:Nat))=true∧Z 1 (slotM g (L.getD n tz).pos (k:Nat))=true
theorem agn_found (hg:okG g=true) (hs:labE s.data.toList=0) (hl:sizes.length≤40) (hL:L=logM g (firstA g s) fill sizes 0 (firstA g s).pos 0) (hZ:AgZ g L n Z) (hK:K≤100) (h:Agn g s L n Z K d) :
  ∃ (k j:Nat) (w:List Wr),k≤K∧pickN g (gotsD d (anAts g))=some (chA g s n k,j)∧scanM g (chA g s n k) (gotsD d (logAts g 0)) (gotsD d (logAts g 1))=(L.take n,w,0)∧∀ v∈w,∃ (j k:Nat) (c:Int),j<n∧k<(L.getD j tz).images.length+1∧(c=0∨c=1)∧(0≤slotM g (L.getD j tz).pos (k:Nat)∧slotM g (L.getD j tz).pos (k:Nat)<g.sl)∧v=⟨logAt g c (slotM g (L.getD j tz).pos (k:Nat)),cellB g (recW g L 0 (slotM g (L.getD j tz).pos (k:Nat))) c (slotM g (L.getD j tz).pos (k:Nat))⟩:=by
 obtain⟨g1,g2,g3,g4,g5⟩:=okG_iff.1 hg
 have hcg:=cells_ge hg
 have hao:=firstA_ok hg hs
 have hlen:=h.len
 subst hL
 have hok:=logM_ok (g:=g) (a:=firstA g s) (fill:=fill) (sizes:=sizes) (epoch:=0) hg hao (by show (1:Int)≤1000000;decide) (by decide)
 have hn:n≤1000:=by have:=hok.len;have:=hZ.le;omega
 have hsp:=pickK_spec g (gotsD d (anAts g)) (gotsD d (anAts g)).length
 rw [gotsD_len,anAts_len] at hsp
 have hpk:pickN g (gotsD d (anAts g))=pickK g (gotsD d (anAts g)) g.an.toNat:=by rw [pickN,gotsD_len,anAts_len]
 have hsay:∀ i:Nat,i<g.an.toNat→∃ k,k≤K∧saysN g ((gotsD d (anAts g)).getD i ⟨0, []⟩) (i:Nat)=some (chA g s n k):=fun i hi=>by
  obtain⟨k,k1,k2⟩:=h.an i hi
  refine⟨k,k1,?_⟩
  rw [anAts_gots hi,gotG_plain h.cache,Int.toNat_natCast,if_pos (h.st i (by omega)),k2]
  exact saysN_cell hg (chA_ok hg hs hn k (by omega)) (by omega)
 obtain⟨k,j,hk,hp⟩:∃ (k j:Nat),k≤K∧pickN g (gotsD d (anAts g))=some (chA g s n k,j):=by
  rw [hpk]
  cases hP:pickK g (gotsD d (anAts g)) g.an.toNat with
  | none=>
   obtain⟨k, -,hk⟩:=hsay 0 (by omega)
   rw [hsp.1 hP 0 (by omega)] at hk
   cases hk
  | some q=>
   obtain⟨a0,j⟩:=q
   obtain⟨q1,q2, -⟩:=hsp.2 a0 j hP
   obtain⟨k,hk,hk2⟩:=hsay j q1
   rw [q2] at hk2
   cases hk2
   exact⟨k,j,hk,rfl⟩
 obtain⟨z,z1,z2,z3⟩:=h.lg
 have hzr:okR g zeroC=true:=okR_zero hg
 have hF:∀ c:Int,c=0∨c=1→saysF g (gotsD d (logAts g c)) c=saysZ g (logM g (firstA g s) fill sizes 0 (firstA g s).pos 0) 0 (z c):=fun c hc=>by
  funext x
  unfold saysF saysZ
  by_cases hx:0≤x∧x<g.sl
  ·rw [if_pos hx]
   have hb:=logAt_bd (g:=g) hc hx
   have hc3:=z3 c x hc hx
   have hst:=h.st (logAt g c x).toNat (by omega)
   have hr:=hok.ok _ hx
   obtain⟨k,rfl⟩:=Int.eq_ofNat_of_zero_le hx.1
   have hLk:=okL_of (g:=g) hc hx
   have e:(gotsD d (logAts g c)).getD ((k:Nat):Int).toNat gz=gotG d (logAt g c (k:Nat)):=by
    rw [Int.toNat_natCast,gotsD,map_getD (d:=0) (by rw [logAts_len];omega),logAts_get (by omega)]
   rw [e,gotG_plain h.cache,if_pos hst,hc3]
   cases z c (k:Nat) with
   | true=>exact says_cell hg hzr hLk
   | false=>exact says_cell hg hr hLk
  ·rw [if_neg hx]
   exact saysR_out hx
 obtain⟨f1,f2,f3,f4,f5⟩:=chA_facts (g:=g) (s:=s) (n:=n) k
 have hsc:=scan_Z (g:=g) (a:=firstA g s) (b:=chA g s n k) (fill:=fill) (sizes:=sizes) (ep:=0) (n:=n) (z0:=z 0) (z1:=z 1) hg hao (by show (1:Int)≤1000000;decide) hl f3 f4 hZ.le
  (fun j k hj hk=>by
   have:=hZ.a j k hj hk
   cases q0:z 0 (slotM g ((logM g (firstA g s) fill sizes 0 (firstA g s).pos 0).getD j tz).pos (k:Nat)) with
   | false=>rfl
   | true=>
    cases q1:z 1 (slotM g ((logM g (firstA g s) fill sizes 0 (firstA g s).pos 0).getD j tz).pos (k:Nat)) with
    | false=>rfl
    | true=>rw [z1 _ _ q0,z1 _ _ q1] at this;exact this)
  (hZ.b.imp id fun⟨b1,k0,b2,b3,b4⟩=>⟨b1,k0,b2,by
   obtain⟨r1, -⟩:=recW_at (g:=g) (a:=firstA g s) (fill:=fill) (sizes:=sizes) (ep:=0) hg hao (show n<_ by omega) b2
   have ho:Out g (logM g (firstA g s) fill sizes 0 (firstA g s).pos 0) n (slotM g ((logM g (firstA g s) fill sizes 0 (firstA g s).pos 0).getD n tz).pos (k0:Nat)):=fun j k hj hk e=>by
    have:=(slot_inj (g:=g) (a:=firstA g s) (fill:=fill) (sizes:=sizes) hg hao (show n<_ by omega) (show j<_ by omega) b2 hk e).1
    omega
   exact⟨(z2 0 _ (.inl rfl) r1 ho).trans b3,(z2 1 _ (.inr rfl) r1 ho).trans b4⟩⟩)
  (by
   by_cases hk0:k=0
   ·left;rw [f2,hk0];rfl
   ·right
    rw [f2,f5,if_neg hk0]
    exact⟨by omega,by show _=(1:Int)+_ - 1;omega⟩)
 rw [finM_neg (by rw [f5];show ¬(1:Int)+_ - 1<_;split <;> omega),←hF 0 (.inl rfl),←hF 1 (.inr rfl),←scanM_P] at hsc
 refine⟨k,j,_,hk,hp,hsc,fun v hv=>?_⟩
 simp only [List.mem_flatMap,txWr,recWr,List.mem_range,List.mem_map] at hv
 obtain⟨t,ht,k,hk,c,hc,rfl⟩:=hv
 obtain⟨j,j1,j2,rfl⟩:=mem_take_ ht
 obtain⟨r1,r2⟩:=recW_at (g:=g) (a:=firstA g s) (fill:=fill) (sizes:=sizes) (ep:=0) hg hao j2 hk
 refine⟨j,k,c,j1,hk,?_,r1,by rw [r2]⟩
 unfold wantsB at hc
 revert hc
 split
 ·split
  ·exact fun h=>by cases h
  ·exact fun h=> .inr (by simpa using h)
 ·exact fun h=> .inl (by simpa using h)
end
def setLeft (d:Dk) (q:Int):Dk:={ d with left:=q }
theorem setLeft_ok {d:Dk} (h:DkOk d) {q:Int} (h0 : -1≤q∧q≤1048576):DkOk (setLeft d q):=⟨h.n,h.m,h.r,h0,h.c,h.w⟩
section
variable {g:Geo} {s:ByteArray} {n:Nat} {fill:UInt8} {sizes:List Int} {Z:Int→Int→Bool} {K:Nat} {d:Dk} {L:List Tx}
open Classical in
theorem agn_step (hg:okG g=true) (hs:labE s.data.toList=0) (hl:sizes.length≤40) (hL:L=logM g (firstA g s) fill sizes 0 (firstA g s).pos 0) (hZ:AgZ g L n Z) (hK:K≤100) (h:Agn g s L n Z K d) {q:Int} (hq : -1≤q∧q≤1048576) :
  ((mountM g (setLeft d q)).2.1=8∨(mountM g (setLeft d q)).2.1=0∧∃ k,k≤K∧(mountM g (setLeft d q)).2.2=stOf (chA g s n (k+1)) (L.take n))∧∀ keep,Agn g s L n Z (K+1) ((mountM g (setLeft d q)).1.crash keep):=by
 obtain⟨g1,g2,g3,g4,g5⟩:=okG_iff.1 hg
 have hcg:=cells_ge hg
 have hlen:=h.len
 obtain⟨k,j,w,hk,hp,hsc,hw⟩:=agn_found hg hs hl hL hZ hK h
 obtain⟨f1,f2,f3,f4,f5⟩:=chA_facts (g:=g) (s:=s) (n:=n) k
 have htl:(L.take n).length=n:=by rw [List.length_take];have:=hZ.le;omega
 have hmr:=mount_reach (x:=setLeft d q) hg h.cache h.st hp hsc (by rw [f1];omega) (by rw [f2];omega)
 rw [htl] at hmr
 obtain⟨r1,r2⟩:=hmr
 refine⟨r2.imp id fun⟨e1,e2⟩=>⟨e1,k,hk,e2⟩,fun keep=>?_⟩
 obtain⟨o1,o2⟩:=mountM_ok (d:=setLeft d q) hg (setLeft_ok h.ok hq) h.len
 obtain⟨c1,c2⟩:=o1.crash keep
 have hr:=r1.crash keep
 generalize hD:(mountM g (setLeft d q)).1.crash keep=D at c1 c2 hr ⊢
 have hcell:∀ a:Nat,a<d.cells.length→D.cells.getD a cz=d.cells.getD a cz∨(D.cells.getD a cz).state=0∧∃ v∈w ++ anCells g (nextA (chA g s n k) n),v.addr.toNat=a∧(D.cells.getD a cz).bytes=v.bytes:=hr.cell
 have hDl:D.cells.length=d.cells.length:=hr.len
 refine⟨c1,by rw [hDl];exact hlen,by rw [←hD];rfl,by rw [←hD];rfl,fun a ha=>?_,fun i hi=>?_,?_⟩
 ·rcases hcell a (by omega) with e | e
  ·rw [e];exact h.st a (by omega)
  ·exact e.1
 ·rcases hcell i (by omega) with e | ⟨-,v,hv,e1,e2⟩
  ·obtain⟨k',k1,k2⟩:=h.an i hi
   exact⟨k',by omega,by rw [e];exact k2⟩
  ·rcases List.mem_append.1 hv with hv | hv
   ·obtain⟨j',k',c, -, -,hc,hx,rfl⟩:=hw v hv
    have hb:=logAt_bd (g:=g) hc hx
    simp only at e1
    omega
   ·obtain⟨i',hi',rfl⟩:=anCells_mem hv
    have e1:((i':Nat):Int).toNat=i:=e1
    rw [Int.toNat_natCast] at e1
    subst e1
    exact⟨k+1,by omega,e2⟩
 ·obtain⟨z,z1,z2,z3⟩:=h.lg
  have hch:∀ c x:Int,c=0∨c=1→0≤x∧x<g.sl→D.cells.getD (logAt g c x).toNat cz=d.cells.getD (logAt g c x).toNat cz∨¬Out g L n x∧(D.cells.getD (logAt g c x).toNat cz).bytes=cellB g (recW g L 0 x) c x:=fun c x hc hx=>by
   have hb:=logAt_bd (g:=g) hc hx
   rcases hcell (logAt g c x).toNat (by omega) with e | ⟨-,v,hv,e1,e2⟩
   ·exact .inl e
   ·right
    rcases List.mem_append.1 hv with hv | hv
    ·obtain⟨j',k',c',hj',hk',hc',hx',rfl⟩:=hw v hv
     have hb':=logAt_bd (g:=g) hc' hx'
     simp only at e1 e2
     obtain⟨i1,i2⟩:=logAt_inj hc' hc hx' hx (by omega)
     rw [i1,i2] at e2
     exact⟨fun ho=>ho j' k' hj' hk' i2.symm,e2⟩
    ·obtain⟨i',hi',rfl⟩:=anCells_mem hv
     have e1:((i':Nat):Int).toNat=(logAt g c x).toNat:=e1
     omega
  refine⟨fun c x=>z c x&&decide (D.cells.getD (logAt g c x).toNat cz=d.cells.getD (logAt g c x).toNat cz),fun c x hzc=>z1 c x (by simp only [Bool.and_eq_true] at hzc;exact hzc.1),fun c x hc hx ho=>?_,fun c x hc hx=>?_⟩
  ·rcases hch c x hc hx with e | ⟨e, -⟩
   ·simp only [decide_eq_true e,Bool.and_true];exact z2 c x hc hx ho
   ·exact absurd ho e
  ·by_cases e:D.cells.getD (logAt g c x).toNat cz=d.cells.getD (logAt g c x).toNat cz
   ·simp only [decide_eq_true e,Bool.and_true]
    rw [e]
    exact z3 c x hc hx
   ·simp only [decide_eq_false e,Bool.and_false,Bool.false_eq_true,if_false]
    exact((hch c x hc hx).resolve_left e).2
theorem agn_last (hg:okG g=true) (hs:labE s.data.toList=0) (hl:sizes.length≤40) (hL:L=logM g (firstA g s) fill sizes 0 (firstA g s).pos 0) (hZ:AgZ g L n Z) (hK:K≤100) (h:Agn g s L n Z K d):(mountM g d).2.1=0∧∃ k,k≤K∧(mountM g d).2.2=stOf (chA g s n (k+1)) (L.take n):=by
 obtain⟨k,j,w,hk,hp,hsc,hw⟩:=agn_found hg hs hl hL hZ hK h
 obtain⟨f1,f2,f3,f4,f5⟩:=chA_facts (g:=g) (s:=s) (n:=n) k
 have htl:(L.take n).length=n:=by rw [List.length_take];have:=hZ.le;omega
 obtain⟨-,r2⟩:=mount_reach (x:=d) hg h.cache h.st hp hsc (by rw [f1];omega) (by rw [f2];omega)
 have hm:=mountM_live hg h.ok h.len h.cache (by rw [h.left];decide) hp hsc (by rw [f1];omega) (by rw [f2];omega)
 rw [htl] at r2
 have:(mountM g d).2.1≠8:=by
  rw [hm]
  simp only
  split <;> decide
 obtain⟨e1,e2⟩:=r2.resolve_left this
 exact⟨e1,k,hk,e2⟩
end
def agB (h c:Int):Bool:=if c=0 then decide (h=1∨h=3) else decide (h=2∨h=3)
def agH (kept:List Int) (k:Nat):Int:=if k<kept.length then modU (kept.getD k 0) 4 else 3
theorem agH_in (kept:List Int) (k:Nat):0≤agH kept k∧agH kept k<4:=by
 unfold agH
 split
 ·exact modU_in (by decide) (by decide)
 ·decide
def agR (g:Geo) (t:Tx) (h:Int) (k:Nat):Nat→List Wr
 | 0=> []
 | c+1=>if agB h (c:Nat) then agR g t h k c else agR g t h k c ++ [⟨logAt g (c:Nat) (slotM g t.pos k),cellB g zeroC (c:Nat) (slotM g t.pos k)⟩]
def agT (g:Geo) (t:Tx) (kept:List Int):Nat→List Wr
 | 0=> []
 | k+1=>agT g t kept k ++ agR g t (agH kept k) k 2
def agW (kept:List Int):Nat→Bool
 | 0=>true
 | k+1=>agW kept k&&decide (0<agH kept k)
theorem agR_mem {g:Geo} {t:Tx} {h:Int} {k:Nat} {w:Wr}:∀ {n:Nat},w∈agR g t h k n↔∃ c:Nat,c<n∧agB h (c:Nat)=false∧w=⟨logAt g (c:Nat) (slotM g t.pos k),cellB g zeroC (c:Nat) (slotM g t.pos k)⟩
 | 0=>by simp [agR]
 | n+1=>by
  have ih:=agR_mem (g:=g) (t:=t) (h:=h) (k:=k) (w:=w) (n:=n)
  unfold agR
  cases hb:agB h (n:Nat) with
  | true=>
   rw [if_pos rfl,ih]
   refine⟨fun⟨c,h1,h2⟩=>⟨c,by omega,h2⟩,fun⟨c,h1,h2,h3⟩=>⟨c,?_,h2,h3⟩⟩
   by_cases e:c=n
   ·rw [e,hb] at h2;cases h2
   ·omega
  | false=>
   rw [if_neg (by simp),List.mem_append,ih,List.mem_singleton]
   refine⟨fun q=>?_,fun⟨c,h1,h2,h3⟩=>?_⟩
   ·rcases q with ⟨c,h1,h2⟩ | q
    ·exact⟨c,by omega,h2⟩
    ·exact⟨n,by omega,hb,q⟩
   ·by_cases e:c=n
    ·subst e;exact .inr h3
    ·exact .inl ⟨c,by omega,h2,h3⟩
theorem agT_mem {g:Geo} {t:Tx} {kept:List Int} {w:Wr}:∀ {n:Nat},w∈agT g t kept n↔∃ k c:Nat,k<n∧c<2∧agB (agH kept k) (c:Nat)=false∧w=⟨logAt g (c:Nat) (slotM g t.pos (k:Nat)),cellB g zeroC (c:Nat) (slotM g t.pos (k:Nat))⟩
 | 0=>by simp [agT]
 | n+1=>by
  rw [agT,List.mem_append,agT_mem (n:=n),agR_mem]
  constructor
  ·rintro(⟨k,c,h1,h2⟩ | ⟨c,h2⟩)
   ·exact⟨k,c,by omega,h2⟩
   ·exact⟨n,c,by omega,h2⟩
  ·rintro⟨k,c,h1,h2⟩
   by_cases e:k=n
   ·subst e;exact .inr ⟨c,h2⟩
   ·exact .inl ⟨k,c,by omega,h2⟩
theorem agW_iff {kept:List Int}:∀ {n:Nat},agW kept n=true↔∀ k,k<n→0<agH kept k
 | 0=>by simp [agW]
 | n+1=>by
  have ih:=agW_iff (kept:=kept) (n:=n)
  rw [agW,Bool.and_eq_true,ih,decide_eq_true_eq]
  refine⟨fun⟨h1,h2⟩ k hk=>?_,fun h=>⟨fun k hk=>h k (by omega),h n (by omega)⟩⟩
  by_cases e:k=n
  ·rw [e];exact h2
  ·exact h1 k (by omega)
theorem fmtL_any:∀ (l:List Wr) (cs:List Cel) (a:Nat),a<cs.length→(fmtL cs l).getD a cz=cs.getD a cz∨∃ w∈l,w.addr.toNat=a∧(fmtL cs l).getD a cz={ cs.getD a cz with bytes:=w.bytes }
 | [],_,_,_=> .inl rfl
 | w::l,cs,a,ha=>by
  have hs:=fmtS_get cs w a ha
  have ih:=fmtL_any l (fmtS cs w) a (by rw [fmtS_len];exact ha)
  show (fmtL (fmtS cs w) l).getD a cz=_∨∃ v∈w::l,v.addr.toNat=a∧(fmtL (fmtS cs w) l).getD a cz=_
  by_cases e:w.addr.toNat=a
  ·rw [if_pos e] at hs
   right
   rcases ih with ih | ⟨v,hv,h1,h2⟩
   ·exact⟨w,by simp,e,ih.trans hs⟩
   ·exact⟨v,List.mem_cons_of_mem _ hv,h1,by rw [h2,hs]⟩
  ·rw [if_neg e] at hs
   rw [hs] at ih
   exact ih.imp id fun⟨v,hv,h⟩=>⟨v,List.mem_cons_of_mem _ hv,h⟩
section
variable {g:Geo} {s:ByteArray} {fill:UInt8} {sizes kept:List Int} {L:List Tx} {m:Nat}
def agD (g:Geo) (s:ByteArray) (L:List Tx) (t:Tx) (kept:List Int) (k:Nat):Dk:={ logD g s L with cells:=fmtL (logD g s L).cells (agT g t kept k) }
open Classical in
theorem agn_init (hg:okG g=true) (hs:labE s.data.toList=0) (hL:L=logM g (firstA g s) fill sizes 0 (firstA g s).pos 0) (hm:L.length=m+1) :
  ∃ Z,AgZ g L (if agW kept ((L.getD m tz).images.length+1) then m+1 else m) Z∧Agn g s L (if agW kept ((L.getD m tz).images.length+1) then m+1 else m) Z 0 (agD g s L (L.getD m tz) kept ((L.getD m tz).images.length+1)):=by
 obtain⟨g1,g2,g3,g4,g5⟩:=okG_iff.1 hg
 have hcg:=cells_ge hg
 have hao:=firstA_ok hg hs
 subst hL
 have hok:=logM_ok (g:=g) (a:=firstA g s) (fill:=fill) (sizes:=sizes) (epoch:=0) hg hao (by show (1:Int)≤1000000;decide) (by decide)
 have hf:=vol_first (s:=s) (fill:=fill) (sizes:=sizes) hg hs
 have hdk:=logd_ok (s:=s) (fill:=fill) (sizes:=sizes) hg hs
 have hat:=fun(j k:Nat) hj hk=>recW_at (g:=g) (a:=firstA g s) (fill:=fill) (sizes:=sizes) (ep:=0) hg hao (j:=j) (k:=k) hj hk
 have hinj:=fun(j j' k k':Nat) hj hj' hk hk' e=>slot_inj (g:=g) (a:=firstA g s) (fill:=fill) (sizes:=sizes) hg hao (j:=j) (j':=j') (k:=k) (k':=k') hj hj' hk hk' e
 have hcell:∀ x:Int,0≤x→x<cellsN g→((logD g s (logM g (firstA g s) fill sizes 0 (firstA g s).pos 0)).cells.getD x.toNat cz).state=0∧((logD g s (logM g (firstA g s) fill sizes 0 (firstA g s).pos 0)).cells.getD x.toNat cz).bytes=volF g s (logM g (firstA g s) fill sizes 0 (firstA g s).pos 0) (firstA g s) x:=hf.cell
 have hln:=hf.len
 unfold agD
 generalize hd0:logD g s (logM g (firstA g s) fill sizes 0 (firstA g s).pos 0)=d0 at hf hdk hcell hln ⊢
 have hd1:d0.cache=[]∧d0.left = -1:=by rw [←hd0];exact⟨rfl,rfl⟩
 clear hd0
 generalize logM g (firstA g s) fill sizes 0 (firstA g s).pos 0=L at *
 obtain⟨t,ht⟩:∃ t,t=L.getD m tz:=⟨_,rfl⟩
 rw [←ht]
 have hmL:m<L.length:=by omega
 have hatm:=fun k hk=>hat m k hmL hk
 have hslot:∀ k:Nat,k<t.images.length+1→0≤slotM g t.pos (k:Nat)∧slotM g t.pos (k:Nat)<g.sl:=fun k hk=>by
  have:=(hatm k (by rw [←ht];exact hk)).1
  rw [←ht] at this
  exact this
 refine⟨fun c x=>decide (∃ k:Nat,k<t.images.length+1∧x=slotM g t.pos (k:Nat)∧agB (agH kept k) c=false),⟨?_,?_,?_⟩,?_⟩
 ·split <;> omega
 ·intro j k hj hk
  by_cases e:j=m
  ·subst e
   rw [←ht] at hk ⊢
   have hw:agW kept (t.images.length+1)=true:=by
    cases h:agW kept (t.images.length+1) with
    | true=>rfl
    | false=>rw [h] at hj;simp at hj
   have h0:=agW_iff.1 hw k hk
   have h1:=agH_in kept k
   rw [Bool.and_eq_false_iff]
   have hone:∀ c:Int,decide (∃ k':Nat,k'<t.images.length+1∧slotM g t.pos (k:Nat)=slotM g t.pos (k':Nat)∧agB (agH kept k') c=false) = !agB (agH kept k) c:=fun c=>by
    cases hb:agB (agH kept k) c with
    | false=>exact decide_eq_true ⟨k,hk,rfl,hb⟩
    | true=>
     refine decide_eq_false ?_
     rintro⟨k',q1,q2,q3⟩
     have:=(hinj j j k k' hmL hmL (by rw [←ht];exact hk) (by rw [←ht];exact q1) (by rw [←ht];exact q2)).2
     rw [←this,hb] at q3
     cases q3
   simp only [hone]
   unfold agB
   rcases(show agH kept k=1∨agH kept k=2∨agH kept k=3 by omega) with e | e | e <;> rw [e] <;> decide
  ·have:decide (∃ k':Nat,k'<t.images.length+1∧slotM g (L.getD j tz).pos (k:Nat)=slotM g t.pos (k':Nat)∧agB (agH kept k') 0=false)=false:=by
    refine decide_eq_false ?_
    rintro⟨k',q1,q2, -⟩
    rw [ht] at q1 q2
    have hj2:j<L.length:=by revert hj;split <;> omega
    exact e (hinj j m k k' hj2 hmL hk q1 q2).1
   rw [this,Bool.false_and]
 ·by_cases hw:agW kept (t.images.length+1)=true
  ·rw [if_pos hw];exact .inl hm.symm
  ·rw [if_neg hw]
   right
   refine⟨hm.symm,?_⟩
   have:∃ k,k<t.images.length+1∧agH kept k=0:=by
    refine Classical.byContradiction fun hn=>hw (agW_iff.2 fun k hk=>?_)
    have:=agH_in kept k
    have:agH kept k≠0:=fun e=>hn ⟨k,hk,e⟩
    omega
   obtain⟨k,hk,e⟩:=this
   rw [←ht]
   refine⟨k,hk,decide_eq_true ⟨k,hk,rfl,?_⟩,decide_eq_true ⟨k,hk,rfl,?_⟩⟩ <;> rw [e] <;> rfl
 ·have hany:∀ a:Nat,a<d0.cells.length→(fmtL d0.cells (agT g t kept (t.images.length+1))).getD a cz=d0.cells.getD a cz∨∃ k c:Nat,k<t.images.length+1∧c<2∧agB (agH kept k) (c:Nat)=false∧(logAt g (c:Nat) (slotM g t.pos (k:Nat))).toNat=a∧(fmtL d0.cells (agT g t kept (t.images.length+1))).getD a cz={ d0.cells.getD a cz with bytes:=cellB g zeroC (c:Nat) (slotM g t.pos (k:Nat)) }:=fun a ha=>by
   rcases fmtL_any (agT g t kept (t.images.length+1)) d0.cells a ha with h | ⟨w,hw,h1,h2⟩
   ·exact .inl h
   ·obtain⟨k,c,q1,q2,q3,rfl⟩:=agT_mem.1 hw
    exact .inr ⟨k,c,q1,q2,q3,h1,h2⟩
  have hflen:(fmtL d0.cells (agT g t kept (t.images.length+1))).length=d0.cells.length:=fmtL_len _ _
  have hst:∀ a:Nat,a<d0.cells.length→(d0.cells.getD a cz).state=0:=fun a ha=>by
   have:=(hcell (a:Nat) (by omega) (by omega)).1
   rw [Int.toNat_natCast] at this
   exact this
  refine⟨⟨by show 1≤(fmtL d0.cells _).length∧(fmtL d0.cells _).length≤300;rw [hflen];exact hdk.n,hdk.m,hdk.r,hdk.l,fun c hc=>?_,fun w hw=>?_⟩,by show ((fmtL d0.cells _).length:Int)=_;rw [hflen];exact hln,hd1.1,hd1.2,fun a ha=>?_,fun i hi=>?_,?_⟩
  ·obtain⟨i,hi,rfl⟩:=List.getElem_of_mem hc
   have hi0:i<d0.cells.length:=by rw [←hflen];exact hi
   have e:(fmtL d0.cells (agT g t kept (t.images.length+1)))[i]=(fmtL d0.cells (agT g t kept (t.images.length+1))).getD i cz:=by rw [List.getD_eq_getElem?_getD,List.getElem?_eq_getElem hi];rfl
   have h0:=hdk.c _ (getD_mem (d:=cz) hi0)
   rw [e]
   rcases hany i hi0 with h | ⟨k,c, -, -, -, -,h⟩
   ·rw [h];exact h0
   ·rw [h];exact⟨h0.1,cellB_short2 (okR_zero hg) _ _,h0.2.2⟩
  ·have:=hdk.w w hw
   show (0≤w.addr∧w.addr<((fmtL d0.cells _).length:Int))∧_
   rw [hflen]
   exact this
  ·have ha:a<d0.cells.length:=by rw [←hflen];exact ha
   rcases hany a ha with h | ⟨k,c, -, -, -, -,h⟩
   ·show ((fmtL d0.cells _).getD a cz).state=0;rw [h];exact hst a ha
   ·show ((fmtL d0.cells _).getD a cz).state=0;rw [h];exact hst a ha
  ·refine⟨0,Nat.le_refl _,?_⟩
   have hi0:i<d0.cells.length:=by omega
   rcases hany i hi0 with h | ⟨k,c,q1,q2, -,q3, -⟩
   ·show ((fmtL d0.cells _).getD i cz).bytes=_
    rw [h]
    have:=(hcell (i:Nat) (by omega) (by omega)).2
    rw [Int.toNat_natCast] at this
    rw [this]
    unfold volF
    rw [if_pos (by omega)]
    rfl
   ·have:=logAt_bd (g:=g) (c:=(c:Nat)) (by omega) (hslot k q1)
    omega
  ·refine⟨_,fun _ _ h=>h,fun _ _ _ _ _=>rfl,fun c x hc hx=>?_⟩
   have hb:=logAt_bd (g:=g) hc hx
   have h0:=(hcell (logAt g c x) (by omega) (by omega)).2
   unfold volF at h0
   rw [if_neg (by omega),logF_at hc hx] at h0
   show ((fmtL d0.cells _).getD _ cz).bytes=_
   by_cases hz:∃ k:Nat,k<t.images.length+1∧x=slotM g t.pos (k:Nat)∧agB (agH kept k) c=false
   ·rw [if_pos (decide_eq_true hz)]
    obtain⟨k,q1,q2,q3⟩:=hz
    have e1:∀ w∈agT g t kept (t.images.length+1),w.addr.toNat=(logAt g c x).toNat→w.bytes=cellB g zeroC c x:=fun w hw e=>by
     obtain⟨k',c',p1,p2,p3,rfl⟩:=agT_mem.1 hw
     have hb':=logAt_bd (g:=g) (c:=(c':Nat)) (by omega) (hslot k' p1)
     obtain⟨i1,i2⟩:=logAt_inj (g:=g) (c:=(c':Nat)) (by omega) hc (hslot k' p1) hx (by simp only at e;omega)
     simp only
     rw [i1,i2]
    have e2:∃ w∈agT g t kept (t.images.length+1),w.addr.toNat=(logAt g c x).toNat:=by
     obtain⟨c',rfl⟩:=Int.eq_ofNat_of_zero_le (show 0≤c by omega)
     exact⟨_,agT_mem.2 ⟨k,c',q1,by omega,q3,rfl⟩,by simp only;rw [q2]⟩
    rw [fmtL_keep _ _ _ (by omega) e1 (.inl e2)]
   ·rw [if_neg (by simpa using hz)]
    have e1:∀ w∈agT g t kept (t.images.length+1),w.addr.toNat≠(logAt g c x).toNat:=fun w hw e=>by
     obtain⟨k',c',p1,p2,p3,rfl⟩:=agT_mem.1 hw
     have hb':=logAt_bd (g:=g) (c:=(c':Nat)) (by omega) (hslot k' p1)
     obtain⟨i1,i2⟩:=logAt_inj (g:=g) (c:=(c':Nat)) (by omega) hc (hslot k' p1) hx (by simp only at e;omega)
     exact hz ⟨k',p1,i2.symm,by rw [←i1];exact p3⟩
    rw [fmtL_miss _ _ _ (by omega) e1]
    exact h0
end
theorem agn_none {g:Geo} {s:ByteArray} {fill:UInt8} {sizes:List Int} {L:List Tx} (hg:okG g=true) (hs:labE s.data.toList=0) (hL:L=logM g (firstA g s) fill sizes 0 (firstA g s).pos 0) (h0:L.length=0):AgZ g L 0 (fun _ _=>false)∧Agn g s L 0 (fun _ _=>false) 0 (logD g s L):=by
 obtain⟨g1,g2,g3,g4,g5⟩:=okG_iff.1 hg
 have hcg:=cells_ge hg
 subst hL
 have hf:=vol_first (s:=s) (fill:=fill) (sizes:=sizes) hg hs
 have hdk:=logd_ok (s:=s) (fill:=fill) (sizes:=sizes) hg hs
 have hcell:∀ x:Int,0≤x→x<cellsN g→((logD g s (logM g (firstA g s) fill sizes 0 (firstA g s).pos 0)).cells.getD x.toNat cz).state=0∧((logD g s (logM g (firstA g s) fill sizes 0 (firstA g s).pos 0)).cells.getD x.toNat cz).bytes=volF g s (logM g (firstA g s) fill sizes 0 (firstA g s).pos 0) (firstA g s) x:=hf.cell
 have hln:=hf.len
 refine⟨⟨by omega,fun j k hj=>by omega, .inl h0.symm⟩,⟨hdk,hln,rfl,rfl,fun a ha=>?_,fun i hi=>⟨0,Nat.le_refl _,?_⟩,fun _ _=>false,fun _ _ h=>h,fun _ _ _ _ _=>rfl,fun c x hc hx=>?_⟩⟩
 ·have:=(hcell (a:Nat) (by omega) (by omega)).1
  rw [Int.toNat_natCast] at this
  exact this
 ·have:=(hcell (i:Nat) (by omega) (by omega)).2
  rw [Int.toNat_natCast] at this
  rw [this]
  unfold volF
  rw [if_pos (by omega)]
  rfl
 ·have hb:=logAt_bd (g:=g) hc hx
  have h0:=(hcell (logAt g c x) (by omega) (by omega)).2
  unfold volF at h0
  rw [if_neg (by omega),logF_at hc hx] at h0
  rw [if_neg (by simp)]
  exact h0
structure Q2 where
 a:Int
 b:Int
def q2C (x:Q2):List AV:= [.v (.int .i64 x.a), .v (.int .i64 x.b)]
def q2sA (l:List Q2):AV:= .sl 2 l.length fun i=>q2C (l.getD i ⟨0,0⟩)
section
open Go.ChangeShapes Go.WideShapes Go.ChangeAt Go.Deep
variable {H:Type} {enc:TypeId × Value→H} {w:World}
theorem oQ2:OpenE enc w 88 2 fun L=>∃ x,L=q2C x:=
 (oe_arr Tryz.underlying88 (by kernel_rfl)).mono fun L h=>by
  obtain⟨l,hl,rfl, -⟩:=h
  match l,hl with
  | [a,b],_=>exact⟨⟨a,b⟩,rfl⟩
def gQ2s (L:List AV):Prop:=∃ l,L=[q2sA l]
theorem oQ2s:OpenE enc w 75 1 gQ2s:=
 (oe_sl (α:=Q2) (sz:=2) (f:=q2C) (d:=⟨0,0⟩) Tryz.underlying75 (by kernel_rfl) (by decide) oQ2).mono fun L ⟨l,h⟩=>⟨l,h⟩
end
theorem agB_bit {h c:Int} (hh:0≤h∧h<4) (hc:c=0∨c=1):(IntKind.i64.wrap ((BitVec.ofInt IntKind.i64.bits (h.fdiv (2 ^ min c.toNat IntKind.i64.bits))&&&BitVec.ofInt IntKind.i64.bits 1).toNat:Nat) == 0) = !agB h c:=by
 rcases(show h=0∨h=1∨h=2∨h=3 by omega) with e | e | e | e <;> rcases hc with e2 | e2 <;> rw [e,e2] <;> decide +kernel
set_option maxRecDepth 100000 in
theorem again22_fn (g:Geo) (s:ByteArray) (sizes:List Int) (fill:UInt8) (kept:List Int) (cuts:List Q2) (hsz:s.size≤9223372036854775807):Fn Tryz.prog 6 [.ag (geoC g), .v (.string s),iA sizes, .v (.int .u8 fill.toNat),iA kept,q2sA cuts] fun r=>r = .v (.bool true):=by
 have h1:=rgeom_br g
 have h2:=rlabel_fn s hsz
 cases hg:okG g with
 | false=>
  rw [hg] at h1
  refine Fn.of tys_ok Tryz.func6 rfl rfl (Nat.le_of_ble_eq_true rfl) ?_
  conv=>whnf
  refine Fn.closed (h1) rfl ?_
  rintro _ rfl
  conv=>whnf
  exact⟨_,fun _ _ h=>h,rfl⟩
 | true=>
  rw [hg] at h1
  by_cases hs:labE s.data.toList=0
  ·rw [hs] at h2
   by_cases hl:sizes.length≤40
   ·by_cases hq:cuts.length≤6
    ·by_cases hp:kept.length≤40
     ·have hw:=wakes22_fn
      obtain⟨g1,g2,g3,g4,g5⟩:=okG_iff.1 hg
      have hlg:=logged_own g s sizes fill hg hs hl
      have hcg:=cells_ge hg
      have hao:=firstA_ok hg hs
      have hok:=logM_ok (g:=g) (a:=firstA g s) (fill:=fill) (sizes:=sizes) (epoch:=0) hg hao (by show (1:Int)≤1000000;decide) (by decide)
      have hat:=fun(j k:Nat) hj hk=>recW_at (g:=g) (a:=firstA g s) (fill:=fill) (sizes:=sizes) (ep:=0) hg hao (j:=j) (k:=k) hj hk
      have hge:=fun(j:Nat) hj=>log_get (g:=g) (a:=firstA g s) (fill:=fill) (sizes:=sizes) (j:=j) hg hao hj
      obtain⟨L,eL⟩:∃ L,L=logM g (firstA g s) fill sizes 0 (firstA g s).pos 0:=⟨_,rfl⟩
      rw [←eL] at hlg hok hat hge
      have hLn:=hok.len
      obtain⟨D,W,n,Z,hD0,hD1,hn,hZ,hA⟩:∃ (D:Dk) (W:Bool) (n:Nat) (Z:Int→Int→Bool),(L.length=0→D=logD g s L∧W=true)∧(∀ m,L.length=m+1→D=agD g s L (L.getD m tz) kept ((L.getD m tz).images.length+1)∧W=agW kept ((L.getD m tz).images.length+1))∧(n=if W then L.length else L.length - 1)∧AgZ g L n Z∧Agn g s L n Z 0 D:=by
       by_cases h0:L.length=0
       ·obtain⟨q1,q2⟩:=agn_none hg hs eL h0
        exact⟨_,true,0,_,fun _=>⟨rfl,rfl⟩,fun m h=>by omega,h0.symm,q1,q2⟩
       ·obtain⟨m,hm⟩:∃ m,L.length=m+1:=⟨L.length - 1,by omega⟩
        obtain⟨Z,q1,q2⟩:=agn_init (kept:=kept) hg hs eL hm
        refine⟨_,agW kept ((L.getD m tz).images.length+1),_,Z,fun h=>absurd h h0,fun m' h=>?_,?_,q1,q2⟩
        ·rw [show m'=m by omega];exact⟨rfl,rfl⟩
        ·rw [hm];rfl
      refine Fn.of tys_ok Tryz.func6 rfl rfl (Nat.le_of_ble_eq_true rfl) ?_
      conv=>whnf
      refine Fn.closed (h1) rfl ?_
      rintro _ rfl
      conv=>whnf
      refine Fn.closed (h2) rfl ?_
      rintro _ rfl
      conv=>whnf
      rw [show decide ((sizes.length:Int) > 40)=false from decide_eq_false (by omega)]
      conv=>whnf
      rw [show decide ((cuts.length:Int) > 6)=false from decide_eq_false (by omega)]
      conv=>whnf
      rw [show decide ((kept.length:Int) > 40)=false from decide_eq_false (by omega)]
      conv=>whnf
      refine ACalls.beside hlg rfl ?_
      rintro _ _ ⟨rfl,rfl⟩
      conv=>whnf
      refine aSeq.cutR Unit (fun _=>([(5,q2sA cuts),(6, .bp 0 0),(13, .bp 1 0),(14,txsA L),(15, .v (.bool W))], [.box 23 (geoC g), .box 32 [.ow 2 (cellsN g).toNat,nilV,ze 0,ze (-1)], .row 87 3 (D.cells.map celC)])) (fun _=>True) ?_ ?_
      ·conv=>whnf
       refine boolI (fun h6=>?_) (fun h6=>?_) <;> (repeat rw [Int.toNat_natCast] at h6) <;> conv=>whnf
       ·obtain⟨m,hm⟩:∃ m,L.length=m+1:=⟨L.length - 1,by omega⟩
        obtain⟨q1,q2⟩:=hD1 m hm
        rw [wi (show -9223372036854775808≤(L.length:Int) - 1∧(L.length:Int) - 1≤9223372036854775807 by omega),show (L.length:Int) - 1=(m:Nat) by omega]
        refine And.intro ⟨by omega,by omega⟩ ?_
        conv=>whnf
        obtain⟨t,et⟩:∃ t,t=L.getD m tz:=⟨_,rfl⟩
        have hgm:=hge m (by omega)
        have hatm:=fun k hk=>hat m k (show m<L.length by omega) hk
        rw [←et] at hgm hatm q1 q2
        obtain⟨d0,e0⟩:∃ d0,d0=(logD g s L).cells:=⟨_,rfl⟩
        have hfl:d0.length=(cellsN g).toNat:=by have:=(vol_first (s:=s) (fill:=fill) (sizes:=sizes) hg hs).len;rw [←eL,←e0] at this;omega
        have q1':D.cells=fmtL d0 (agT g t kept (t.images.length+1)):=by rw [q1,e0];rfl
        rw [Int.toNat_natCast,show (logD g s L).cells=d0 from e0.symm,show L.getD m ⟨0,0,0, []⟩=t from et.symm]
        refine aLoop.ruleRR Nat (fun k=>([(4,iA kept),(5,q2sA cuts),(6, .bp 0 0),(13, .bp 1 0),(14,txsA L),(15, .v (.bool (agW kept k))),(16, .bp 3 0),(17,ze k)], [.box 23 (geoC g), .box 32 [.ow 2 (cellsN g).toNat,nilV,ze 0,ze (-1)], .row 87 3 ((fmtL d0 (agT g t kept k)).map celC), .box 78 (txC t)])) (fun k=>k≤t.images.length+1) (fun k=>t.images.length+1 - k) 0 (Nat.zero_le _)
         (WkN.r (s:= [0,2,1,3]) ⟨⟨rfl,rfl,rfl,rfl,rfl,rfl,rfl,rfl,trivial⟩,⟨rfl,rfl,rfl,rfl,trivial⟩,rfl,rfl,rfl,rfl,rfl⟩) ?_
        intro k hk
        conv=>whnf
        refine boolI (fun h7=>?_) (fun h7=>?_) <;> (repeat rw [Int.toNat_natCast] at h7) <;> conv=>whnf
        ·have hk2:k<t.images.length+1:=by omega
         have hh:=agH_in kept k
         repeat' (first | (refine aSeq.go ?_;conv=>whnf) | fail)
         obtain⟨r1, -⟩:=hatm k hk2
         obtain⟨S,hS⟩:∃ S,S=slotM g t.pos (k:Nat):=⟨_,rfl⟩
         rw [←hS] at r1
         obtain⟨h,eh⟩:∃ h,h=agH kept k:=⟨_,rfl⟩
         rw [←eh] at hh
         by_cases hb:k<kept.length
         rw [show decide ((k:Int)<(kept.length:Nat))=true from decide_eq_true (by omega)]
         conv=>whnf
         refine And.intro ⟨by omega,by omega⟩ ?_
         conv=>whnf
         refine And.intro (by decide) ?_
         conv=>whnf
         rw [Int.toNat_natCast,show IntKind.i64.wrap ((IntKind.u64.wrap (kept.getD k 0)).tmod 4)=h from (show agH kept k=_ from if_pos hb).symm.trans eh.symm]
         rotate_left 1
         have eh3:h=3:=eh.trans (if_neg hb)
         rw [show decide ((k:Int)<(kept.length:Nat))=false from decide_eq_false (by omega)]
         conv=>whnf
         all_goals
          refine And.intro (by omega) ?_
          conv=>whnf
          rw [show (IntKind.i64.wrap (t.pos+(k:Int))).tmod g.sl=S from hS.symm]
          obtain⟨X,hX⟩:∃ X,X=fmtL d0 (agT g t kept k):=⟨_,rfl⟩
          have hXl:X.length=(cellsN g).toNat:=by rw [hX,fmtL_len,hfl]
          rw [←hX]
          refine aLoop.ruleRR Nat (fun c=>([(4,iA kept),(5,q2sA cuts),(6, .bp 0 0),(13, .bp 1 0),(14,txsA L),(15, .v (.bool (agW kept k))),(16, .bp 3 0),(17,ze k),(18,ze h),(19,ze S),(20,ze c)], [.box 23 (geoC g), .box 32 [.ow 2 (cellsN g).toNat,nilV,ze 0,ze (-1)], .row 87 3 ((fmtL X (agR g t h k c)).map celC), .box 78 (txC t)])) (fun c=>c≤2) (fun c=>2 - c) 0 (Nat.zero_le _)
           (WkN.r (s:= [0,1,2,3]) ⟨⟨rfl,rfl,rfl,rfl,rfl,rfl,rfl,rfl,by first | rfl | (rw [eh3];rfl),rfl,rfl,trivial⟩,⟨rfl,rfl,rfl,rfl,trivial⟩,rfl,rfl,rfl,rfl,rfl⟩) ?_
          intro c hc
          have hsx:fmtL X (agR g t h k (c+1))=if agB h (c:Nat) then fmtL X (agR g t h k c) else fmtS (fmtL X (agR g t h k c)) ⟨logAt g (c:Nat) S,cellB g zeroC (c:Nat) S⟩:=by
           rw [hS]
           show fmtL X (if agB h (c:Nat) then agR g t h k c else agR g t h k c ++ [⟨logAt g (c:Nat) (slotM g t.pos k),cellB g zeroC (c:Nat) (slotM g t.pos k)⟩])=_
           split
           ·rfl
           ·rw [fmtL_app];rfl
          conv=>whnf
          refine boolI (fun h8=>?_) (fun h8=>?_) <;> (repeat rw [Int.toNat_natCast] at h8) <;> conv=>whnf
          ·repeat' (first | (refine aSeq.go ?_;conv=>whnf) | fail)
           rw [show IntKind.u64.wrap (c:Int)=c by rw [IntKind.wrap_u64];omega]
           refine And.intro (by omega) ?_
           conv=>whnf
           have hc01:(c:Int)=0∨(c:Int)=1:=by omega
           rw [agB_bit hh hc01]
           cases hbb:agB h (c:Nat) with
           | true=>
            rw [hbb,if_pos rfl] at hsx
            conv=>whnf
            refine⟨c+1,by omega,by omega,?_⟩
            rw [hsx]
            exact WkN.r (s:= [0,1,2,3]) ⟨⟨rfl,rfl,rfl,rfl,rfl,rfl,rfl,rfl,rfl,rfl,wsucc (by omega),trivial⟩,⟨rfl,rfl,rfl,rfl,trivial⟩,rfl,rfl,rfl,rfl,rfl⟩
           | false=>
            rw [hbb,if_neg (by simp)] at hsx
            have hlx:(fmtL X (agR g t h k c)).length=(cellsN g).toNat:=by rw [fmtL_len,hXl]
            generalize fmtL X (agR g t h k c)=cs at hsx hlx ⊢
            have hoL:okL g (c:Nat) S=true:=okL_of hc01 r1
            have hbd:=logAt_bd (g:=g) hc01 r1
            have hla:=rlogAt_fn g c S hg hoL
            have hrc:=rrecCell_br g zeroC c S (okR_zero hg) hoL
            have hE:(cs.map celC).getD (logAt g c S).toNat []=celC (cs.getD (logAt g c S).toNat cz):=row_cel hlx (by omega)
            conv=>whnf
            refine Fn.closed (hla) rfl ?_
            rintro _ rfl
            conv=>whnf
            apply aDraw.treeK (0) tys_ok mixed (.one 0 (.one 1 (.one 2 (.one 3 (.one 4 (.one 5 (.one 6 (.one 7 (.one 8 (.one 9 (.one 10 .fin))))))))))) (by kernel_rfl)
            conv=>whnf
            (refine ACalls.sub [.ag (geoC g), .ag (rcC zeroC),ze c,ze S] (by repeat' (first | exact trivial | exact fun _ _ h=>h | exact nil_sl _ _ | refine And.intro ?_ ?_ | refine ag_sub ?_)) ?_;refine Fn.closed hrc rfl ?_;rintro _ rfl)
            conv=>whnf
            try (refine And.intro (by first | omega | (simp;done)) ?_;conv=>whnf)
            try (refine And.intro ⟨rfl,by first | rfl | (simp;done) | (simp;omega),by first | omega | (simp;omega)⟩ ?_;conv=>whnf)
            (first | rw [hE] | skip)
            conv=>whnf
            all_goals
             refine⟨c+1,by omega,by omega,?_⟩
             rw [hsx]
             exact WkN.r (s:= [0,1,2,3]) ⟨⟨rfl,rfl,rfl,rfl,rfl,rfl,rfl,rfl,rfl,rfl,wsucc (by omega),trivial⟩,⟨rfl,rfl,congrArg (fun l=>some (AB.row _ _ l)) (by rw [fmtS_map];rfl),rfl,trivial⟩,rfl,rfl,rfl,rfl,rfl⟩
          ·have ec:c=2:=by omega
           have hwk:agW kept (k+1)=(agW kept k&&decide (0<h)):=by rw [eh];rfl
           have hT:fmtL d0 (agT g t kept (k+1))=fmtL X (agR g t h k c):=by
            show fmtL d0 (agT g t kept k ++ agR g t (agH kept k) k 2)=_
            rw [fmtL_app,←hX,←eh,ec]
           cases hW:agW kept k
           all_goals
            rw [hW] at hwk
            conv=>whnf
            refine⟨k+1,by omega,by omega,?_⟩
            rw [hT,hwk]
            exact WkN.r (s:= [0,1,2,3]) ⟨⟨rfl,rfl,rfl,rfl,rfl,rfl,rfl,wsucc (by omega),trivial⟩,⟨rfl,rfl,rfl,rfl,trivial⟩,rfl,rfl,rfl,rfl,rfl⟩
        ·have ek:k=t.images.length+1:=by omega
         rw [q1',q2,←ek]
         repeat' (first | (refine aSeq.go ?_;conv=>whnf) | fail)
         exact⟨(),trivial,WkN.r (s:= [0,1,2]) ⟨⟨rfl,rfl,rfl,rfl,rfl,trivial⟩,⟨rfl,rfl,rfl,trivial⟩,rfl,rfl,rfl,rfl,rfl⟩⟩
       ·obtain⟨q1,q2⟩:=hD0 (by omega)
        rw [q1,q2]
        exact⟨(),trivial,WkN.r (s:= [0,2,1]) ⟨⟨rfl,rfl,rfl,rfl,rfl,trivial⟩,⟨rfl,rfl,rfl,trivial⟩,rfl,rfl,rfl,rfl,rfl⟩⟩
      ·intro _ _
       have hcl:(D.cells.map celC).length=(cellsN g).toNat:=by rw [List.length_map];have:=hA.len;omega
       conv=>whnf
       have hDr:D.reqs=0:=by
        by_cases h0:L.length=0
        ·rw [(hD0 h0).1];rfl
        ·rw [(hD1 (L.length - 1) (by omega)).1];rfl
       have hds:=dk_own_sub (n:=(cellsN g).toNat) (d:=D) (by have:=hA.len;omega) rfl hA.cache hDr hA.left
       refine aSeq.cutR Unit (fun _=>([(5,q2sA cuts),(6, .bp 0 0),(13, .bp 1 0),(22,txsA (L.take n))], [.box 23 (geoC g), .box 32 (dkC D)])) (fun _=>True) ?_ ?_
       ·cases hW:W
        ·rw [hW] at hn
         have hLp:L.length≠0:=fun h0=>by rw [(hD0 h0).2] at hW;cases hW
         have hn:n=L.length - 1:=hn
         conv=>whnf
         rw [wi (show -9223372036854775808≤(L.length:Int) - 1∧(L.length:Int) - 1≤9223372036854775807 by omega),show (L.length:Int) - 1=(n:Nat) by omega]
         refine And.intro ⟨by omega,by omega,by omega,by omega⟩ ?_
         conv=>whnf
         exact⟨(),trivial,WkN.rc (ConvF.trans (ConvF.sub 22 rfl (take_sub L n (by omega) (by omega) fun i hi=>by simp)) (ConvF.trans (ConvF.ofH (sealDisk 1 2 hcl.symm rfl rfl)) (ConvF.ofH (ConvH.subBox 1 rfl hds)))) (s:= [0,1]) ⟨⟨rfl,rfl,rfl,rfl,trivial⟩,⟨rfl,rfl,trivial⟩,rfl,rfl,rfl,rfl,rfl⟩⟩
        ·rw [hW] at hn
         have hn:n=L.length:=hn
         conv=>whnf
         rw [show L.take n=L by rw [hn,List.take_length]]
         exact⟨(),trivial,WkN.rc (ConvF.trans (ConvF.ofH (sealDisk 1 2 hcl.symm rfl rfl)) (ConvF.ofH (ConvH.subBox 1 rfl hds))) (s:= [0,1]) ⟨⟨rfl,rfl,rfl,rfl,trivial⟩,⟨rfl,rfl,trivial⟩,rfl,rfl,rfl,rfl,rfl⟩⟩
       ·intro _ _
        have htl:(L.take n).length=n:=by rw [List.length_take];have:=hZ.le;omega
        have h6:=txns_fn (L.take n) (L.take n) (by rw [htl];have:=hZ.le;omega) (fun t ht=>by have:=hok.img t (List.mem_of_mem_take ht);exact⟨by omega,fun x hx=>by have:=this.2 x hx;omega⟩)
        rw [decide_eq_true rfl] at h6
        have h6s:∀ S:Stt,S.txns=L.take n→Fn Tryz.prog 18 [txsA S.txns,txsA (L.take n)] fun r=>r = .v (.bool true):=fun S hS=>by rw [hS];exact h6
        conv=>whnf
        refine aLoop.ruleRR (Nat × Dk) (fun x=>([(5,q2sA cuts),(6, .bp 0 0),(13, .bp 1 0),(22,txsA (L.take n)),(23,ze x.1)], [.box 23 (geoC g), .box 32 (dkC x.2)])) (fun x=>x.1≤cuts.length∧Agn g s L n Z x.1 x.2) (fun x=>cuts.length - x.1) (0,D) ⟨Nat.zero_le _,hA⟩
         (WkN.r (s:= [0,1]) ⟨⟨rfl,rfl,rfl,rfl,rfl,trivial⟩,⟨rfl,rfl,trivial⟩,rfl,rfl,rfl,rfl,rfl⟩) ?_
        rintro⟨i,d⟩ ⟨hi,hI⟩
        have hi:i≤cuts.length:=hi
        have hI:Agn g s L n Z i d:=hI
        conv=>whnf
        refine boolI (fun h6=>?_) (fun h6=>?_) <;> (repeat rw [Int.toNat_natCast] at h6) <;> conv=>whnf
        ·have hi2:i<cuts.length:=by omega
         have htw:=ktwindisk_fn d (by have:=hI.ok.n;omega) (by have:=hI.ok.m;omega) (fun c hc=>by have:=(hI.ok.c c hc).2;omega) (fun w hw=>by have:=(hI.ok.w w hw).2;omega)
         have hqa:=modU_in (x:=(cuts.getD i ⟨0,0⟩).a) (n:=120) (by decide) (by decide)
         have hqb:=modU_in (x:=(cuts.getD i ⟨0,0⟩).b) (n:=2147483648) (by decide) (by decide)
         obtain⟨q,eq⟩:∃ q,q=modU (cuts.getD i ⟨0,0⟩).a 120:=⟨_,rfl⟩
         obtain⟨keep,ek⟩:∃ q,q=modU (cuts.getD i ⟨0,0⟩).b 2147483648:=⟨_,rfl⟩
         rw [←eq] at hqa
         rw [←ek] at hqb
         have hst:=agn_step hg hs hl eL hZ (by omega) hI (q:=q) (by omega)
         have hmo:=mountM_ok (d:=setLeft d q) hg (setLeft_ok hI.ok (by omega)) hI.len
         have h3:=mountX_ok g (setLeft d q) hg (setLeft_ok hI.ok (by omega)) hI.len
         obtain⟨hst,hin⟩:=hst
         have hin:=hin keep
         generalize mountM g (setLeft d q)=M at hst hin hmo h3
         obtain⟨Y,e,S⟩:=M
         simp only at hst hin hmo h3
         have hcr:=dcrash_fn Y keep hmo.1 hqb.1
         repeat' (first | (refine aSeq.go ?_;conv=>whnf) | fail)
         refine Fn.closed (htw) rfl ?_
         rintro _ rfl
         conv=>whnf
         refine And.intro (by show (0:Int)≤(i:Nat)∧((i:Nat):Int)<(cuts.length:Nat);omega) ?_
         conv=>whnf
         refine And.intro ⟨Int.le_refl _,by decide⟩ ?_
         conv=>whnf
         refine And.intro (by decide) ?_
         conv=>whnf
         rw [show IntKind.i64.wrap ((IntKind.u64.wrap (cuts.getD (((i,d).1:Nat):Int).toNat ⟨0,0⟩).a).tmod 120)=q from eq.symm]
         refine Fn.closed (h3) rfl ?_
         rintro _ rfl
         conv=>whnf
         rcases hst with e8 | ⟨e0,k,hk,eS⟩
         subst e8
         repeat' (first | (refine aSeq.go ?_;conv=>whnf) | fail)
         rotate_left 1
         subst e0
         have q1:S.txns=L.take n:=by rw [eS];rfl
         have h6u:=h6s S q1
         repeat' (first | (refine aSeq.go ?_;conv=>whnf) | fail)
         refine Fn.closed (h6u) rfl ?_
         rintro _ rfl
         conv=>whnf
         all_goals
          have hi3:(((i,d):Nat × Dk).1:Nat)<cuts.length:=hi2
          apply aDraw.treeM (0) tys_ok mixed (.one 0 (.one 1 (.one 2 (.one 3 (.one 4 (.one 5 (.one 6 (.one 7 (.one 8 (.two 9 (.one 10 (.one 11 (.one 12 (.one 13 (.one 14 (.one 15 .fin)))))) 13 (.one 9 (.one 10 (.one 11 (.one 12 (.one 14 (.one 15 .fin)))))))))))))))) [28,29,167,168,169,170,171,172,173,174,175,176,177,178,179] (by kernel_rfl)
          ·conv=>whnf
           try (refine And.intro (by first | omega | (simp;done)) ?_;conv=>whnf)
           try (refine And.intro (by first | omega | (simp;done)) ?_;conv=>whnf)
           try (refine And.intro (by first | omega | (simp;done)) ?_;conv=>whnf)
           refine And.intro ?_ ?_
           ·conv=>whnf
            (rw [show IntKind.i64.wrap ((IntKind.u64.wrap (cuts.getD (((i,d).1:Nat):Int).toNat ⟨0,0⟩).b).tmod 2147483648)=keep from ek.symm];refine Fn.closed hcr rfl ?_;rintro _ rfl)
            conv=>whnf
            try (refine And.intro ⟨rfl,by first | rfl | (simp;done) | (simp;omega),by first | omega | (simp;omega)⟩ ?_;conv=>whnf)
            exact⟨rfl,rfl⟩
           ·conv=>whnf
            (rw [show IntKind.i64.wrap ((IntKind.u64.wrap (cuts.getD (((i,d).1:Nat):Int).toNat ⟨0,0⟩).b).tmod 2147483648)=keep from ek.symm];refine Fn.closed hcr rfl ?_;rintro _ rfl)
            conv=>whnf
            try (refine And.intro ⟨rfl,by first | rfl | (simp;done) | (simp;omega),by first | omega | (simp;omega)⟩ ?_;conv=>whnf)
            exact⟨rfl,rfl⟩
          conv=>whnf
          repeat' (first | (refine aSeq.go ?_;conv=>whnf) | fail)
          exact⟨(i+1,Y.crash keep),⟨by show i+1≤_;omega,hin⟩,by show cuts.length - (i+1)<cuts.length - i;omega,WkN.r (s:= [0,1]) ⟨⟨rfl,rfl,rfl,rfl,wsucc (by omega),trivial⟩,⟨rfl,rfl,trivial⟩,rfl,rfl,rfl,rfl,rfl⟩⟩
        ·have hla:=agn_last hg hs hl eL hZ (by omega) hI
         have h3:=mountX_ok g d hg hI.ok hI.len
         generalize mountM g d=M at hla h3
         obtain⟨Y,e,S⟩:=M
         simp only at hla h3
         obtain⟨rfl,k,hk,eS⟩:=hla
         have q1:S.txns=L.take n:=by rw [eS];rfl
         have q2:S.a.last=(L.take n).length:=by
          obtain⟨f1,f2,f3,f4,f5⟩:=chA_facts (g:=g) (s:=s) (n:=n) (k+1)
          rw [eS,htl]
          show (chA g s n (k+1)).last=_
          rw [f5,if_neg (by omega)]
         have h6u:=h6s S q1
         refine Fn.closed (h3) rfl ?_
         rintro _ rfl
         conv=>whnf
         refine Fn.closed (h6u) rfl ?_
         rintro _ rfl
         conv=>whnf
         rw [show (S.a.last == ((L.take n).length:Int))=true by rw [q2];simp]
         conv=>whnf
         refine Fn.closed (hw) rfl ?_
         rintro _ rfl
         conv=>whnf
         exact⟨_,fun _ _ h=>h,rfl⟩
     ·refine Fn.of tys_ok Tryz.func6 rfl rfl (Nat.le_of_ble_eq_true rfl) ?_
      conv=>whnf
      refine Fn.closed (h1) rfl ?_
      rintro _ rfl
      conv=>whnf
      refine Fn.closed (h2) rfl ?_
      rintro _ rfl
      conv=>whnf
      rw [show decide ((sizes.length:Int) > 40)=false from decide_eq_false (by omega)]
      conv=>whnf
      rw [show decide ((cuts.length:Int) > 6)=false from decide_eq_false (by omega)]
      conv=>whnf
      rw [show decide ((kept.length:Int) > 40)=true from decide_eq_true (by omega)]
      conv=>whnf
      exact⟨_,fun _ _ h=>h,rfl⟩
    ·refine Fn.of tys_ok Tryz.func6 rfl rfl (Nat.le_of_ble_eq_true rfl) ?_
     conv=>whnf
     refine Fn.closed (h1) rfl ?_
     rintro _ rfl
     conv=>whnf
     refine Fn.closed (h2) rfl ?_
     rintro _ rfl
     conv=>whnf
     rw [show decide ((sizes.length:Int) > 40)=false from decide_eq_false (by omega)]
     conv=>whnf
     rw [show decide ((cuts.length:Int) > 6)=true from decide_eq_true (by omega)]
     conv=>whnf
     exact⟨_,fun _ _ h=>h,rfl⟩
   ·refine Fn.of tys_ok Tryz.func6 rfl rfl (Nat.le_of_ble_eq_true rfl) ?_
    conv=>whnf
    refine Fn.closed (h1) rfl ?_
    rintro _ rfl
    conv=>whnf
    refine Fn.closed (h2) rfl ?_
    rintro _ rfl
    conv=>whnf
    rw [show decide ((sizes.length:Int) > 40)=true from decide_eq_true (by omega)]
    conv=>whnf
    exact⟨_,fun _ _ h=>h,rfl⟩
  ·refine Fn.of tys_ok Tryz.func6 rfl rfl (Nat.le_of_ble_eq_true rfl) ?_
   conv=>whnf
   refine Fn.closed (h1) rfl ?_
   rintro _ rfl
   conv=>whnf
   refine Fn.closed (h2) rfl ?_
   rintro _ rfl
   conv=>whnf
   rw [show (labE s.data.toList != 0)=true from bne_iff_ne.2 hs]
   conv=>whnf
   exact⟨_,fun _ _ h=>h,rfl⟩
end Go.Proofs.YtldngmdpiifamaaGreatDoor.A
end
section
namespace Go.Proofs.YtldngmdpiifamaaGreatDoor
open Go.ChangeShapes Go.WideShapes Go.ChangeAt Go.RowKit
theorem own_none:ownKnob Tryz.prog.godebug=none:=by kernel_rfl
theorem laidOut:laidOutB Tryz.prog=true:=by kernel_rfl

section
variable {H:Type} {enc:TypeId × Value→H}
set_option maxRecDepth 100000 in
theorem law_post {f:Func} {s:ChangeSpec} {apart fresh handsOn again:Bool} {W W':World} {args:Array Value} {ds:List (DataW H)} {before:List MemPlace}
  (hW:DataW.Whole enc Tryz.prog f.params.toList s.vars apart W args.toList ds [] before) (hv:s.vars=[]) (hvs:(s.fn H (ds ++ [])).vars=[])
  (hr:f.resultTypes = #[4]) (hfr:(s.fn H (ds ++ [])).results=[.lit (.bool true)]) (hfa:(s.fn H (ds ++ [])).args=ds)
  (hrow:∀ t∈f.params.toList,Tryz.prog.readableRec t=true∧t<Tryz.prog.types.size) (hb:Below W.heap.size W W') :
  s.post enc Tryz.prog f apart fresh handsOn again W args (.bool true) W':=by
 have hlt:∀ p∈before,p.block<W.heap.size:=fun p hp=>hW.lt p hp
 obtain⟨p,q,hA,hV,hpq,hz,hn⟩:=id hW
 rw [hv] at hV
 obtain⟨-,rfl⟩:=trodVars_none hV
 rw [List.append_nil] at hpq
 subst hpq
 have stay:∀ sp:Nat→Bool,(∀ x∈before,sp x.block=true)→DataW.TrodAll enc Tryz.prog W' 0 sp true f.params.toList args.toList ds before:=by
  intro sp hsp
  have go:∀ (ts:List TypeId) (vs:List Value) (es:List (DataW H)) (ps:List MemPlace),(∀ t∈ts,Tryz.prog.readableRec t=true∧t<Tryz.prog.types.size)→(∀ x∈ps,x∈before)→
    DataW.TrodAll enc Tryz.prog W 0 (fun _=>true) true ts vs es ps→DataW.TrodAll enc Tryz.prog W' 0 sp true ts vs es ps:=by
   intro ts
   induction ts with
   | nil=>
    intro vs es ps _ _ h
    cases vs <;> cases es <;> exact h
   | cons t ts ih=>
    intro vs es ps ht hin h
    cases vs with
    | nil=>cases es <;> exact h.elim
    | cons v vs=>
     cases es with
     | nil=>exact h.elim
     | cons e es=>
      obtain⟨p1,p2,h1,h2,rfl⟩:=h
      exact⟨p1,p2,WideElems.Trod_stays laidOut (ht t (by simp)).1 (ht t (by simp)).2 h1 (fun x hx=>hb.same (hlt x (hin x (by simp [hx])))) (fun x hx=>hsp x (hin x (by simp [hx]))),
       ih vs es p2 (fun t' ht'=>ht t' (by simp [ht'])) (fun x hx=>hin x (by simp [hx])) h2,rfl⟩
  exact go _ _ _ _ hrow (fun x hx=>hx) hA
 have hres:∀ (b:Nat) (sp:Nat→Bool) (hd:Bool),DataW.TrodAll enc Tryz.prog W' b sp hd f.resultTypes.toList ((Value.bool true).resultList f.resultTypes.size) (s.fn H (ds ++ [])).results []:=by
  intro b sp hd
  rw [hr,hfr]
  exact trodAll_mk1 ⟨1,by simp [DataW.trod,Value.cells,Tryz.underlying4]⟩
 have hold:∀ p∈before,(fun b=>decide (b<W.heap.size)) p.block=true:=fun p hp=>by simpa using hlt p hp
 have hvars:∀ sp:Nat→Bool,DataW.TrodVars enc Tryz.prog W' sp s.vars (s.fn H (ds ++ [])).vars []:=by
  intro sp;rw [hv,hvs];exact rfl
 refine⟨ds, [],before, [],before, [],hW,hres _ _ _,by rw [hfa];exact stay _ hold,hvars _,World.keptBut_mono (fun p hp=>⟨hp,?_⟩) (hb.frame (·∈before)),fun _=>?_⟩
 ·exact Or.inr (by simpa using hp)
 ·refine⟨ok_one hr rfl (by simp [Value.okWide,Tryz.underlying4,Cell.okWide,Cell.ok]),_,_,([] ++ before) ++ [],⟨[] ++ before, [],trodAll_append (stay _ (fun _ _=>rfl)) (hres _ _ _),hvars _,rfl,?_,?_⟩,?_⟩
  ·intro b off hp
   have hin:MemPlace.cell b off∈before:=by simpa using hp
   rw [hb.frozen (hlt _ hin)]
   exact hz b off hin
  ·intro ha
   have:=hn ha
   simpa using this
  ·intro p hp _
   simpa using hp
end
abbrev laidL : List (String × DataW Unit) := [("unicode/utf8.acceptRanges", Rows.laid_unicode_utf8_acceptRanges), ("unicode/utf8.first", Rows.laid_unicode_utf8_first)]
noncomputable def laidWorld (os:Os):World:=
 let w0:=World.holding Tryz.prog os ⟨#[], #[], []⟩
 let put (h:Array Obj) (g:Nat) (cs:Array Value):Array Obj:=h.modify g fun
  | .cells _ t frozen=> .cells cs t frozen
  | o=>o
 let h1:=put w0.heap 0 (Lib.firstTab.map fun z=>Value.int .u8 z).toArray
 let h2:=put h1 1 ((List.range 16).flatMap fun i=> [Value.int .u8 (Lib.accLo i),Value.int .u8 (Lib.accHi i)]).toArray
 { w0 with heap:=h2 }
theorem laid_met (os:Os) (args:Array Value):laidMetH Tryz.prog laidL ((laidWorld os).forCall (fun _ _=>0) ⟨#[],args, []⟩).memory:=by
 rw [MakeChecks.laidMetH_plain _ _ _ (by kernel_rfl)]
 exact(LaidIn.of_run (l:=laidL) [1,0] 8 (by kernel_rfl) (by kernel_rfl) (by kernel_rfl) (by kernel_rfl)).met
theorem first_data:Rows.laid_unicode_utf8_first=Lib.firstData:=by kernel_rfl
theorem accept_data:(Rows.laid_unicode_utf8_acceptRanges:DataW Unit)=Lib.acceptData:=by kernel_rfl
theorem laid_tabs {W:World} (h:laidMetH Tryz.prog laidL W):A.globOk W:=by
 rw [MakeChecks.laidMetH_plain _ _ _ (by kernel_rfl)] at h
 have h1:=Lib.laidMet.reads h (.head _)
 have h2:=Lib.laidMet.reads h (.tail _ (.head _))
 rw [accept_data] at h1
 rw [first_data] at h2
 exact utf8Tabs_of_readsT (U8Types.of196 Tryz.laysValid) ⟨by kernel_rfl,by kernel_rfl,by kernel_rfl,by kernel_rfl,by kernel_rfl,by kernel_rfl,by kernel_rfl⟩ h2 h1
end Go.Proofs.YtldngmdpiifamaaGreatDoor
end
