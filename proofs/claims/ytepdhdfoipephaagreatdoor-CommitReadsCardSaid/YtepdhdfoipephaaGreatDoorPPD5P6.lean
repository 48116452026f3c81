/-
Several texts in one.
-/
import Derived.Test.YtepdhdfoipephaaGreatDoorPPD5P5
import Derived.Test.YtepdhdfoipephaaGreatDoorPPD5P2
import Derived.Test.YtepdhdfoipephaaGreatDoorPPD5P3
import Derived.Test.YtepdhdfoipephaaGreatDoorPPD5P4
import Derived.Test.YtepdhdfoipephaaGreatDoorRows
import Derived.Below
import Derived.ChangeSame
import Derived.Carry
import Derived.Test.YtepdhdfoipephaaGreatDoorPPD5P1
import Derived.Lib.LaidIn
import Derived.Lib.LaidU8T
import Derived.LaidHandle
import Derived.MakeChecks
import Derived.Handed
set_option maxRecDepth 100000
set_option maxHeartbeats 8000000
set_option linter.unusedSimpArgs false
set_option linter.unusedVariables false
set_option linter.deprecated false
namespace Go.Proofs.YtepdhdfoipephaaGreatDoor.A
section
open Go.RowKit
theorem Nh (d:Dk) (a:Int) (b:List UInt8):(d.write a b).1.cells=d.cells/\∃ W,(d.write a b).1.cache=d.cache ++ W/\∀ w∈W,w.addr=a:=by
 unfold Dk.write;split
 ·exact⟨rfl, [],(AT _).symm,fun w hw=>by cases hw⟩
 ·split
  ·exact⟨rfl, [],(AT _).symm,fun w hw=>by cases hw⟩
  ·exact⟨rfl, [⟨a,b⟩],rfl,fun w hw=>by rw [Ay] at hw;rw [hw]⟩
theorem Yv {g:Geo} (d:Dk) (x:Rc) {Q:Int} (hQ:0<=Q/\Q<g.sl):(Ry g d x Q).cells=d.cells/\∃ W,(Ry g d x Q).cache=d.cache ++ W/\∀ w∈W,g.an<=w.addr/\w.addr<g.an+2*g.sl:=by
 obtain⟨e1,W1,c1,h1⟩:=Nh d (Bh g 0 Q) (BG g x 0 Q);obtain⟨e2,W2,c2,h2⟩:=Nh (d.write (Bh g 0 Q) (BG g x 0 Q)).1 (Bh g 1 Q) (BG g x 1 Q);refine⟨e2.trans e1,W1 ++ W2,by unfold Ry;rw [c2,c1,AE],fun w hw=>?_⟩;rcases A2.1 hw with q | q
 ·rw [h1 w q];exact Iq (.inl rfl) hQ
 ·rw [h2 w q];exact Iq (.inr rfl) hQ
theorem RV {g:Geo} {P:Int} {R:List Rc} {n:Nat} (hP:∀ i:Nat,i<n->0<=Dd g P (i:Nat)/\Dd g P (i:Nat)<g.sl) (d:Dk):∀ i,i<=n->(dW g P R d i).cells=d.cells/\∃ W,(dW g P R d i).cache=d.cache ++ W/\∀ w∈W,g.an<=w.addr/\w.addr<g.an+2*g.sl
 | 0,_=>⟨rfl, [],(AT _).symm,fun w hw=>by cases hw⟩
 | i+1,hi=>by
  obtain⟨e1,W1,c1,h1⟩:=RV (R:=R) hP d i (by omega);obtain⟨e2,W2,c2,h2⟩:=Yv (dW g P R d i) (R.getD i rc0) (hP i (by omega));refine⟨e2.trans e1,W1 ++ W2,by show (Ry g _ _ _).cache=_;rw [c2,c1,AE],fun w hw=>?_⟩;rcases A2.1 hw with q | q
  ·exact h1 w q
  ·exact h2 w q
theorem U3 {d:Dk} {q:Int} (hq:0<=q/\q<d.cells.length) (h:∀ w∈d.cache,0<=w.addr/\w.addr≠q):d.flush.got q=if (d.cells.getD q.toNat cz).state=0 then ((d.cells.getD q.toNat cz).bytes,0) else ([],6):=by
 have e:d.flush.cells=CX d.cells d.cache:=by
  unfold Dk.flush;rw [allFin_cells];try rfl
 unfold Dk.got;rw [e,show d.flush.cache=[] from rfl];show (if ((CX d.cells d.cache).getD q.toNat cz).state=0 then (((CX d.cells d.cache).getD q.toNat cz).bytes,(0:Int)) else ([],6))=_;rw [finL_miss _ _ _ (by omega) fun w hw=>by have:=h w hw;omega]
theorem Gs.after {g:Geo} (hg:Bm g=true) {P:Int} {R:List Rc} {n:Nat} (hR:∀ i:Nat,i<n->Fz g (R.getD i rc0)=true) (hP:∀ i:Nat,i<n->0<=Dd g P (i:Nat)/\Dd g P (i:Nat)<g.sl) {d:Dk} {G:Gr} (h:Gs (Aq g) d G) (hc:d.cache=[]):Gs (Aq g) (dW g P R d n).flush (Fu (dW g P R d n).flush)/\(∀ q,g.an+2*g.sl<=q->q<Aq g->Fu (dW g P R d n).flush q=G q)/\(dW g P R d n).flush.cache=[]:=by
 obtain⟨g1,g2,g3,g4,g5⟩:=Ar.1 hg;obtain⟨h1,h2,h3⟩:=Oa hg hR hP h.ok h.left h.len n (Ah _);obtain⟨e1,W,c1,hW⟩:=RV (R:=R) hP d n (Ah _);rw [hc,B9] at c1;generalize dW g P R d n=D at *
 have hl:=h.len;refine⟨Gs.of h1.flush ?_ ?_,fun q q1 q2=>?_,rfl⟩
 ·unfold Dk.flush;rw [allFin_cells];show D.req.left = -1;unfold Dk.req;rw [h2];try rfl
 ·unfold Dk.flush;rw [allFin_cells];show ((CX D.cells D.cache).length:Int)=_;rw [finL_len];exact h3
 ·have hq:=h.got q (by omega) q2;have hf:=U3 (d:=D) (q:=q) ⟨by omega,by omega⟩ (by rw [c1];intro w hw;have:=hW w hw;omega);unfold Fu;simp only;have hd:d.got q=D.flush.got q:=by
   rw [hf,e1];unfold Dk.got;rw [hc];try rfl
  rw [<-hd,hq]
theorem Gd.gs {n:Int} {d:Dk} {F:Int->List UInt8} (h:Gd n d F):Gs n d (Fu d)/\∀ q,0<=q->q<n->Fu d q=⟨0,F q⟩:=
 ⟨Gs.of h.ok h.left h.len,fun q h0 h1=>by show (⟨_,_⟩:Gt)=_;rw [h.got h0 h1]⟩
theorem Ow {g:Geo} (hg:Bm g=true) {s:Stt} {G:Gr} {F:Int->List UInt8} {z:Int} (hz:0<=z/\z<g.z) (h:∀ q,g.an+2*g.sl<=q->q<Aq g->G q=⟨0,F q⟩):G0 g s G z=EW g s F z:=by
 obtain⟨g1,g2,g3,g4,g5⟩:=Ar.1 hg;have h0:=D5 (k:=0) hg hz (by decide);have h1:=D5 (k:=1) hg hz (by decide);unfold G0 EW;rw [h _ h0.1 h0.2.2,h _ h1.1 h1.2.2];try rfl
def Dk.faultX (d:Dk) (kind a frm bit bits:Int):Dk:=if (d.fault kind a frm bit bits).2=0 then (d.fault kind a frm bit bits).1 else dk0
theorem Xz {d:Dk} {a x:Int} {c:Cel} (hx:0<=x/\x<d.cells.length) (ha:0<=a):(F5 d a c).cells.getD x.toNat cz=if x=a then c else d.cells.getD x.toNat cz:=by
 unfold F5;simp only;rw [Gq _ _ _ _ (by omega)];by_cases h:x=a
 ·subst h;rw [if_pos rfl,if_pos rfl]
 ·rw [if_neg h,if_neg (by omega)]
theorem RI {d:Dk} (hc:d.cache=[]) (a:Int):OW d a=if (d.cells.getD a.toNat cz).state=0 then ⟨0,(d.cells.getD a.toNat cz).bytes⟩ else ⟨6, []⟩:=by
 have hq:d.got a=if (d.cells.getD a.toNat cz).state=0 then ((d.cells.getD a.toNat cz).bytes,0) else ([],6):=by
  unfold Dk.got;rw [hc];try rfl
 unfold OW;rw [hq];split <;> rfl
section
variable {g:Geo} {s:ByteArray} {b:An} {fill:UInt8} {sizes:List Int} {d:Dk} {bad0 bad1:Int->Bool}
end
theorem YF {g:Geo} {x:Img} (h:B3 g x=true) (hw:x.what=255):(BW g x.bytes).isSome=true:=by
 simp only [B3,Ad] at h;have h2:=h.2.2;rwa [if_pos hw] at h2
theorem St {g:Geo} (hg:Bm g=true) {l:List Tx} (h:∀ t∈l,∀ x∈t.images,B3 g x=true) {z:Int}:∀ p,Cr l z 255=some p->p.1.bytes.length<=100000/\(BW g p.1.bytes).isSome=true:=fun p hp=>by
 obtain⟨x,s⟩:=p;obtain⟨t,ht, -,hx, -,hw⟩:=Ho (Ah _) hp;have hi:=h t ht x hx;exact⟨by have:=Eg hg hi;show x.bytes.length<=_;omega,YF hi hw⟩
theorem NK {g:Geo} (hg:Bm g=true) {s:Stt} {G:Gr} {lba S:Int} {b:List UInt8} (himg:∀ t∈s.txns,∀ x∈t.images,B3 g x=true) (hs:0<=S/\S<=4294967295) (hlba:0<=lba/\lba<g.z*g.d) (hb:b.length=8) {t:List Ent} (ht:G0 g s G (lba.tdiv g.d)=some t):(F3 g s G S lba b).length=3/\(∀ x∈F3 g s G S lba b,B3 g x=true)/\OneTab (F3 g s G S lba b):=by
 obtain⟨g1,g2,g3,g4,g5⟩:=Ar.1 hg;have hZ2:0<=lba.tdiv g.d/\lba.tdiv g.d<g.z:=by
  rw [AX hlba.1];exact⟨CT hlba.1 (by omega),CB (by omega) hlba.2⟩
 have hA2:0<=lba.tmod g.d/\lba.tmod g.d<g.d:=⟨Bx _ hlba.1,Bb _ (by omega)⟩;have htok:=Ov ht;have h01:∀ x∈ [b],x.length=8:=fun x hx=>by rw [Ay] at hx;rw [hx];exact hb
 have hA3:∀ x∈ [lba.tmod g.d],0<=x/\x<g.d:=fun x hx=>by rw [Ay] at hx;rw [hx];exact hA2
 unfold F3;rw [ht];simp only;refine⟨by rw [EA];try rfl,fun x hx=>?_,?_⟩
 ·exact(Jq hg hZ2 (Fk hg htok hs) (E_ (Mw hg himg).2 h01 (show [lba.tmod g.d].length<= [b].length from Ah 1) _) hA3 h01 (Ah 1) x hx).1
 ·exact Iu (l:= []) hg List.Pairwise.nil (fun x hx=>by cases hx) hA3
structure Sk (k n:Int) (d:Dk) (F:Int->List UInt8) (A:Int->Prop):Prop where
 ok:DkOk d
 left:d.left = -1
 len:(d.cells.length:Int)=n
 cache:d.cache=[]
 cell:∀ a:Int,0<=a->a<n->(d.cells.getD a.toNat cz).bytes=F a/\((d.cells.getD a.toNat cz).state=0/\¬A a\/(d.cells.getD a.toNat cz).state=k/\A a)
theorem Gd.sk {k n:Int} {d:Dk} {F:Int->List UInt8} (h:Gd n d F):Sk k n d F fun _=>False:=⟨h.ok,h.left,h.len,h.cache,fun a h0 h1=>⟨(h.cell a h0 h1).2, .inl ⟨(h.cell a h0 h1).1,id⟩⟩⟩
theorem Sk.fault {k j n:Int} {d:Dk} {F:Int->List UInt8} {A:Int->Prop} (hk:k=1/\j=11\/k=2/\j=12) (h:Sk k n d F A) {q:Int} (hq:0<=q/\q<n):(d.fault j q 0 0 0).2=0/\Sk k n (d.faultX j q 0 0 0) F fun a=>A a\/a=q:=by
 have hl:=h.len;have e:d.fault j q 0 0 0=(F5 d q { d.cells.getD q.toNat cz with state:=k },0):=by
  have hc:=h.cell q hq.1 hq.2;unfold Dk.fault;rw [if_neg (by rw [Bool.not_eq_false,AF];omega),if_neg (by rw [h.cache];decide)];rcases hk with ⟨rfl,rfl⟩ | ⟨rfl,rfl⟩
  ·rw [if_pos rfl];rcases hc.2 with h | h
   ·simp only [if_pos h.1]
   ·simp only [h.1];rfl
  ·rw [if_neg (by decide),if_pos rfl]
 have ho:=h.ok.fault j q 0 0 0;unfold Dk.faultX;rw [e] at ho |-
 rw [if_pos rfl];refine⟨rfl,ho.1,h.left,by rw [<-hl];exact congrArg Nat.cast ho.2.1,h.cache,fun a h0 h1=>?_⟩;have hc:=h.cell a h0 h1;show ((d.cells.set q.toNat _).getD a.toNat cz).bytes=_/\_;rw [show (F5 d q { d.cells.getD q.toNat cz with state:=k }).cells=d.cells.set q.toNat { d.cells.getD q.toNat cz with state:=k } from rfl,Gq _ _ _ _ (by omega)];by_cases hqa:q.toNat=a.toNat
 ·have:a=q:=by omega
  subst this;rw [if_pos rfl];exact⟨hc.1, .inr ⟨rfl, .inr rfl⟩⟩
 ·rw [if_neg hqa];refine⟨hc.1,hc.2.imp (fun x=>⟨x.1,fun y=>y.elim x.2 fun z=>hqa (by rw [z])⟩) fun x=>⟨x.1, .inl x.2⟩⟩
theorem Sk.gs {k n:Int} {d:Dk} {F:Int->List UInt8} {A:Int->Prop} (hk:k=1\/k=2) (h:Sk k n d F A) {q:Int} (h0:0<=q) (h1:q<n):(¬A q->Fu d q=⟨0,F q⟩)/\(A q->(Fu d q).err≠0):=by
 have hc:=h.cell q h0 h1;have e:Fu d q=⟨(if (d.cells.getD q.toNat cz).state=0 then ((d.cells.getD q.toNat cz).bytes,(0:Int)) else ([],6)).2,(if (d.cells.getD q.toNat cz).state=0 then ((d.cells.getD q.toNat cz).bytes,(0:Int)) else ([],6)).1⟩:=by
  show (⟨(d.got q).2,(d.got q).1⟩:Gt)=_;unfold Dk.got;rw [h.cache];try rfl
 rw [e];refine⟨fun hA=>?_,fun hA=>?_⟩
 ·rw [if_pos (hc.2.resolve_right fun x=>hA x.2).1,hc.1]
 ·rw [if_neg (by have:=(hc.2.resolve_left fun x=>x.2 hA).1;omega)];decide
theorem Sk.stuck {n:Int} {d:Dk} {F:Int->List UInt8} {A:Int->Prop} (h:Sk 2 n d F A) {q:Int} (h0:0<=q) (h1:q<n):(A q->decide ((d.cells.getD q.toNat cz).state=2)=true)/\(¬A q->decide ((d.cells.getD q.toNat cz).state=2)=false):=by
 have hc:=h.cell q h0 h1;exact⟨fun hA=>decide_eq_true (hc.2.resolve_left fun x=>x.2 hA).1,fun hA=>decide_eq_false (by have:=(hc.2.resolve_right fun x=>hA x.2).1;omega)⟩
theorem L3 {d:Dk} (h:DkOk d) (a:Int):(Fu d a).bytes.length<=100000/\(Fu d a).err≠8:=by
 show (d.got a).1.length<=100000/\(d.got a).2≠8;unfold Dk.got;split
 ·rename_i w hw;have:=(h.w w (NF _ _ _ rfl hw)).2;exact⟨by show w.bytes.length<=_;omega,by show (0:Int)≠8;decide⟩
 ·split
  ·refine⟨?_,by show (0:Int)≠8;decide⟩;show (d.cells.getD a.toNat ⟨0, [], []⟩).bytes.length<=_;by_cases hi:a.toNat<d.cells.length
   ·have:=(h.c _ (A5 (d:=(⟨0, [], []⟩:Cel)) hi)).2.1;omega
   ·rw [Aa,AG (by omega)];exact Aj _
  ·exact⟨Aj _,by show (6:Int)≠8;decide⟩
theorem Ng {d:Dk} (hl:d.left = -1) (hc:d.cache.length<2000) (a:Int) (b:List UInt8):(d.write a b).2=(if (d.cells.getD a.toNat cz).state=2 then 7 else 0)/\(d.write a b).1.cells=d.cells/\(d.write a b).1.left = -1/\(d.write a b).1.cache.length<=d.cache.length+1:=by
 have hr:d.req.left = -1:=by unfold Dk.req;rw [hl];try rfl
 unfold Dk.write;rw [if_neg (by rw [hl];decide)];by_cases h:(d.cells.getD a.toNat cz).state=2
 ·rw [if_pos (.inl h),if_pos h];exact⟨rfl,rfl,hr,by show d.cache.length<=_;omega⟩
 ·rw [if_neg (by rintro(q | q);exact h q;omega),if_neg h];exact⟨rfl,rfl,hr,by show (d.cache ++ [_]).length<=_;rw [Ai];exact Ah _⟩
def stuck (d:Dk) (a:Int):Bool:=decide ((d.cells.getD a.toNat cz).state=2)
theorem SB {g:Geo} {d:Dk} (hl:d.left = -1) (hc:d.cache.length<1999) (x:Rc) (Q:Int):aG g d x Q=(!(stuck d (Bh g 0 Q)&&stuck d (Bh g 1 Q)))/\(Ry g d x Q).cells=d.cells/\(Ry g d x Q).left = -1/\(Ry g d x Q).cache.length<=d.cache.length+2:=by
 obtain⟨e1,c1,l1,n1⟩:=Ng hl (by omega) (Bh g 0 Q) (BG g x 0 Q);obtain⟨e2,c2,l2,n2⟩:=Ng l1 (by omega) (Bh g 1 Q) (BG g x 1 Q);refine⟨?_,by unfold Ry;rw [c2,c1],l2,by unfold Ry;omega⟩;unfold aG stuck;rw [e2,e1,c1];by_cases h1:(d.cells.getD (Bh g 0 Q).toNat cz).state=2 <;> by_cases h2:(d.cells.getD (Bh g 1 Q).toNat cz).state=2 <;> simp_all
theorem Xr {g:Geo} {P:Int} {R:List Rc} {d:Dk} (hl:d.left = -1) (hc:d.cache=[]):∀ i:Nat,i<=100->(dW g P R d i).cells=d.cells/\(dW g P R d i).left = -1/\(dW g P R d i).cache.length<=2*i
 | 0,_=>⟨rfl,hl,by show d.cache.length<=_;rw [hc];exact Aj _⟩
 | i+1,hi=>by
  obtain⟨e1,l1,n1⟩:=Xr (R:=R) (P:=P) hl hc i (by omega);obtain⟨-,e2,l2,n2⟩:=SB (g:=g) l1 (by omega) (R.getD i rc0) (Dd g P (i:Nat));exact⟨e2.trans e1,l2,by show (Ry g _ _ _).cache.length<=_;omega⟩
theorem Z6 {g:Geo} {P:Int} {R:List Rc} {d:Dk} (hl:d.left = -1) (hc:d.cache=[]) (i:Nat) (hi:i<=100):tW g P R d i = !(stuck d (Bh g 0 (Dd g P (i:Nat)))&&stuck d (Bh g 1 (Dd g P (i:Nat)))):=by
 obtain⟨e1,l1,n1⟩:=Xr (g:=g) (R:=R) (P:=P) hl hc i hi;obtain⟨e2, -⟩:=SB (g:=g) l1 (by omega) (R.getD i rc0) (Dd g P (i:Nat));unfold tW;rw [e2];unfold stuck;rw [e1]
@[reducible] def bwZ (g:Geo) (s:Stt) (d:Dk):List AB:= [.box 116 (Zr g (.bp 1 0) (.ow 4 s.txns.length) (iA s.lost) s), .box 185 (GX (.ow 2 d.cells.length) (.ow 3 d.cache.length) d.reqs d.left), .dead, .dead, .row 112 4 (s.txns.map CV)]
theorem Of (g:Geo) (s:Stt) (d:Dk) (h:DkOk d):ACalls Tryz.prog false 44 [.bp 0 0] (Gk g s d) fun r H=>r = .ag (EP d)/\H=bwZ g s d:=by
 have ht:=Qu d (by have:=h.n;omega) (by have:=h.m;omega) (fun c hc=>by have:=(h.c c hc).2;omega) (fun w hw=>by have:=(h.w w hw).2;omega);refine zT tys_ok Tryz.func44 rfl rfl (Ag rfl) ?_;conv=>whnf
 refine zN ht.go ?_;refine Ae (Ac _).symm ?_;refine Ae (Ac _).symm ?_;conv=>whnf
 refine zX [.ag (EP d)] ⟨Bk ⟨Bc (f:=B7) d.cells rfl rfl,Bc (f:=EE) d.cache rfl rfl,ri,ri,tv⟩,tv⟩ ?_;refine zZ ht ?_;exact⟨_, .ag (EP d),bwZ g s d,fun _ _ h=>h,zS (s:= [0,1,2,3,4]) tA,rfl,rfl⟩
def bg (o:Option (List UInt8)) (d:Dk):AV:=match o with
 | some b=> .tp [bA b, .ag (EP d),iv 0]
 | none=> .tp [bA [], .ag (EP d),iv 13]
theorem RZ (g:Geo) (s:Stt) (d:Dk) (G:Gr) (lba:Int) (hg:Bm g=true) (hst:Ox g d s=true) (hsm:StSm s) (himg:∀ t∈s.txns,∀ x∈t.images,B3 g x=true) (ha:Bn g s.a=true) (h:Gs (Aq g) d G) (hF:∀ a,(G a).bytes.length<=100000) (h8:∀ a,(G a).err≠8) (hb:0<=lba/\lba<g.z*g.d) (hB:∀ p,Cr s.txns (lba.tdiv g.d) 255=some p->p.1.bytes.length<=100000/\(BW g p.1.bytes).isSome=true) :
  Fn Tryz.prog 12 [.ag (AU g), .ag (EP d), .ag (Fe s),iv lba] fun r=>∃ d',Gs (Aq g) d' G/\r=bg (MR g s G (lba.tdiv g.d) (lba.tmod g.d)) d':=by
 have c1:=Ta g d s h.ok hst hsm;have hlb:LogB s.txns:=⟨by have:=hsm.t.1;omega,fun t ht=>⟨by have:=(hsm.t.2 t ht).1;omega,fun x hx=>by have:=(hsm.t.2 t ht).2 x hx;omega⟩⟩;have c2:=Pg g s d G lba hg hlb himg ha h hF h8 hb hB;cases hO:MR g s G (lba.tdiv g.d) (lba.tmod g.d) with
 | some b=>
  rw [hO] at c2;refine zR Tryz.func12 rfl ?_;conv=>whnf
  refine zV c1 rfl ?_;rintro _ _ ⟨rfl,rfl⟩;conv=>whnf
  refine ze9 [4,5,6,7,8] c2 ?_;rintro _ _ ⟨rfl,d2,hd2,rfl⟩;have c4:=Of g s d2 hd2.ok;conv=>whnf
  refine ze9 [4,5,6,7,8] c4 ?_;rintro _ _ ⟨rfl,rfl⟩;exact⟨_,ri,d2,hd2,rfl⟩
 | none=>
  rw [hO] at c2;refine zR Tryz.func12 rfl ?_;conv=>whnf
  refine zV c1 rfl ?_;rintro _ _ ⟨rfl,rfl⟩;conv=>whnf
  refine ze9 [4,5,6,7,8] c2 ?_;rintro _ _ ⟨rfl,d2,hd2,rfl⟩;have c4:=Of g s d2 hd2.ok;conv=>whnf
  refine ze9 [4,5,6,7,8] c4 ?_;rintro _ _ ⟨rfl,rfl⟩;exact⟨_,ri,d2,hd2,rfl⟩
theorem Vol.st2 {g:Geo} {K:Int} {d0 d:Dk} {s:Stt} (hg:Bm g=true) (h:Vol g K d0 s) (hd:DkOk d) (hn:(d.cells.length:Int)=Aq g) (o:Bool):Ox g d { s with only:=o }=true:=by
 obtain⟨r1,r2,r3,r4,r5,r6⟩:=h.rest;have hu:=LE hg;have hh:EB g { s with only:=o }=true:=by
  unfold EB;rw [show ({ s with only:=o }:Stt).found=0 from r3,show ({ s with only:=o }:Stt).fixed=0 from r4,show ({ s with only:=o }:Stt).moved=0 from r5,show ({ s with only:=o }:Stt).lost=[] from r6];try rfl
 unfold Ox;rw [hh,hg,PW.2 hd,decide_eq_true hn,show ({ s with only:=o }:Stt).a=s.a from rfl,show ({ s with only:=o }:Stt).txns=s.txns from rfl,show ({ s with only:=o }:Stt).cursor=0 from r2,h.an,h.ring,decide_eq_true (show (0:Int)<GS g by omega)];try rfl
structure Un (g:Geo) (d:Dk):Prop where
 ok:DkOk d
 left:d.left = -1
 len:(d.cells.length:Int)=Aq g
 cache:d.cache=[]
def au (g:Geo) (a:An) (l:List Tx) (G:Gr) (lba:Int) (b:List UInt8):Tx:=⟨a.seq+(l.length:Int),(a.pos+C6 l).tmod g.sl,4,F3 g (AJ a l) G (a.seq+(l.length:Int)) lba b⟩
def Lb (g:Geo) (d:Dk) (P:Int) (j:Nat):Bool:=stuck d (Bh g 0 (Dd g P (j:Nat)))&&stuck d (Bh g 1 (Dd g P (j:Nat)))
theorem ao {g:Geo} {K:Int} {d0:Dk} {a:An} {l:List Tx} {G:Gr} {lba:Int} {b:List UInt8} {t:List Ent} (hg:Bm g=true) (hv:Vol g K d0 (AJ a l)) (hK:K<=4294967294) (hlba:0<=lba/\lba<g.z*g.d) (hb:b.length=8) (hroom:4<=g.sl - C6 l) (ht:G0 g (AJ a l) G (lba.tdiv g.d)=some t):Vol g (K+1) d0 (AJ a (l ++ [au g a l G lba b]))/\(au g a l G lba b).images.length=3:=by
 have ha:=(Ej hv.an).2.1;have hq:a.seq+(l.length:Int)<=K:=hv.seq;have ha1:1<=a.seq:=ha.1;have himg:∀ t∈l,∀ x∈t.images,B3 g x=true:=fun t ht=>Av.1 (Dp hv.ring t ht).1
 obtain⟨c1,c2,c3⟩:=NK hg (s:=AJ a l) (G:=G) (S:=a.seq+(l.length:Int)) himg (by omega) hlba hb ht;exact⟨hv.add hg hK hv.gd (x:=au g a l G lba b) rfl rfl (by show (2:Int)<=4;omega) (by show (4:Int)<=g.sl - C6 l;omega) (by show (4:Int)=((F3 g (AJ a l) G (a.seq+(l.length:Int)) lba b).length:Int)+1;omega) c2 c3,c1⟩
theorem Qn {d:Dk} {q:Int} (h:stuck d.flush q=true):stuck d q=true:=by
 have e:d.flush.cells=CX d.cells d.cache:=by
  unfold Dk.flush;rw [allFin_cells];try rfl
 unfold stuck at h |-
 rw [decide_eq_true_eq,e] at h;rw [decide_eq_true_eq];by_cases hi:q.toNat<d.cells.length
 ·rcases finL_any d.cache d.cells q.toNat hi with e | ⟨-,e, -⟩
  ·rwa [e] at h
  ·rw [e] at h;cases h
 ·rw [Aa,AG (by rw [finL_len];omega)] at h;cases h
theorem av {g:Geo} {K:Int} {d0 d:Dk} {a:An} {l:List Tx} {lba:Int} {b:List UInt8} {t:List Ent} (hg:Bm g=true) (hv:Vol g K d0 (AJ a l)) (hK:K<=4294967294) (hd:Un g d) (hlba:0<=lba/\lba<g.z*g.d) (hb:b.length=8) (hroom:4<=g.sl - C6 l) (ht:G0 g (AJ a l) (Fu d) (lba.tdiv g.d)=some t) (P:Int) (hP:P=(a.pos+C6 l).tmod g.sl) :
  Fn Tryz.prog 16 [.ag (AU g), .ag (EP d), .ag (Fe (AJ a l)),iA [lba],ER [b]] fun r=>((∀ j:Nat,j<4->Lb g d P j=false)/\∃ d',Un g d'/\(∀ q,g.an+2*g.sl<=q->q<Aq g->Fu d' q=Fu d q)/\(∀ q,stuck d' q=true->stuck d q=true)/\r = .tp [.ag (Fe (AJ a (l ++ [au g a l (Fu d) lba b]))), .ag (EP d'),iv 0])\/((∃ j:Nat,j<4/\Lb g d P j=true)/\∃ d',(DkOk d'/\(d'.cells.length:Int)=Aq g)/\r = .tp [.ag (Fe { AJ a l with only:=true }), .ag (EP d'),iv 14]):=by
 have hsm:=hv.sm hg;have ha:Bn g a=true:=hv.an;have hring:Cw g l a.seq a.pos g.sl=true:=hv.ring;have himg:∀ t∈l,∀ x∈t.images,B3 g x=true:=fun t ht=>Av.1 (Dp hring t ht).1
 obtain⟨a1,a2,a3,a4⟩:=Ej ha;have hseq:a.seq+(l.length:Int)<=K:=hv.seq;obtain⟨g1,g2,g3,g4,g5⟩:=Ar.1 hg;obtain⟨hv2,hL3⟩:=ao hg hv hK hlba hb hroom ht;have hG:=Gs.of hd.ok hd.left hd.len;obtain⟨-,hLok, -⟩:=NK hg (s:=AJ a l) (G:=Fu d) (S:=a.seq+(l.length:Int)) himg (by omega) hlba hb ht;obtain⟨L,hL⟩:∃ L,L=F3 g (AJ a l) (Fu d) (a.seq+(l.length:Int)) lba b:=⟨_,rfl⟩;have hcm:au g a l (Fu d) lba b=⟨a.seq+(l.length:Int),P,4,L⟩:=by rw [hL,hP];try rfl
 rw [hcm] at hL3 hv2 |-
 rw [<-hL] at hLok;have hst:=hv.st2 hg hd.ok hd.len false;have hc:=Q6 g a l d (Fu d) lba b t hg ha hring hst hsm (by omega) hG (fun a=>(L3 hd.ok a).1) (fun a=>(L3 hd.ok a).2) hlba hb hroom (St hg himg) ht (a.seq+(l.length:Int)) P L rfl hP hL hL3 hLok (hv2.sm hg);have hep:0<=a.epoch/\a.epoch<=4294967295:=by
  have:=ha;simp only [Bn,A_,BC,B5,Ad,decide_eq_true_eq,AF] at this;omega
 have hS1:CQ (a.seq+(l.length:Int)) 0 4294967295=true:=AF.2 (by omega);have hLb:∀ x∈L,x.bytes.length<=45:=fun x hx=>Eg hg (hLok x hx)
 have hLen:L.length=3:=hL3;have hRok:∀ k:Nat,k<4->Fz g ((CP (a.seq+(l.length:Int)) a.epoch L).getD k rc0)=true:=fun k hk=>by
  rw [I6 _ _ _ (by omega)];split
  ·rename_i q;exact Lw hg hS1 (AF.2 hep) (hLok _ (A5 (d:=⟨0,0, []⟩) q)) q hLen
  ·rw [show k=L.length by omega];exact Lu hg hS1 (AF.2 hep) hLen
 have hPb:∀ i:Nat,i<4->0<=Dd g P (i:Nat)/\Dd g P (i:Nat)<g.sl:=fun i hi=>Id hg (pos:=P) (at_:=(i:Nat)) (by rw [hP];have:=ET l l.length;exact⟨Bx _ (by unfold C6;omega),Bb _ (by omega)⟩) (by omega)
 refine hc.mono fun r hr=>?_
 obtain⟨d1,hd1,hr⟩:=hr;have ec:d1.cells=d.cells:=hd1.cells;have ek:d1.cache=[]:=hd1.cache.trans hd.cache;have hT:∀ j:Nat,j<4->tW g P (CP (a.seq+(l.length:Int)) a.epoch L) d1 j = !Lb g d P j:=fun j hj=>by
  rw [Z6 hd1.left ek j (by omega)];unfold Lb stuck;rw [ec]
 rcases hr with ⟨ht,rfl⟩ | ⟨k,hk, -,htk,rfl⟩
 ·obtain⟨n1,n2,n3⟩:=Gs.after hg hRok hPb hd1 ek;refine .inl ⟨fun j hj=>by have:=ht j hj;rw [hT j hj] at this;simpa using this,_,⟨n1.ok,n1.left,n1.len,n3⟩,n2,fun q hq=>?_,rfl⟩;have hq:=Qn hq;unfold stuck at hq |-
  rwa [(RV hPb d1 4 (Ah _)).1,ec] at hq
 ·obtain⟨m1,m2,m3⟩:=Oa hg hRok hPb hd1.ok hd1.left hd1.len (k+1) (by omega);exact .inr ⟨⟨k,hk,by rw [hT k hk] at htk;simpa using htk⟩,_,⟨m1,m3⟩,rfl⟩
theorem Xy {g:Geo} {K:Int} {d0 d:Dk} {a:An} {l:List Tx} {lba:Int} (hg:Bm g=true) (hv:Vol g K d0 (AJ a l)) (hd:Un g d) (hlba:0<=lba/\lba<g.z*g.d) :
  Fn Tryz.prog 12 [.ag (AU g), .ag (EP d), .ag (Fe (AJ a l)),iv lba] fun r=>∃ d',Gs (Aq g) d' (Fu d)/\r=bg (MR g (AJ a l) (Fu d) (lba.tdiv g.d) (lba.tmod g.d)) d':=by
 have himg:∀ t∈l,∀ x∈t.images,B3 g x=true:=fun t ht=>Av.1 (Dp hv.ring t ht).1
 exact RZ g (AJ a l) d (Fu d) lba hg (hv.st2 hg hd.ok hd.len false) (hv.sm hg) himg hv.an (Gs.of hd.ok hd.left hd.len) (fun a=>(L3 hd.ok a).1) (fun a=>(L3 hd.ok a).2) hlba (St hg himg)
def Fg (g:Geo) (G:Gr) (F:Int->List UInt8):Prop:=∀ q,g.an+2*g.sl<=q->q<Aq g->G q=⟨0,F q⟩
theorem OL {g:Geo} (hg:Bm g=true) {s:Stt} (ha:Bn g s.a=true) {G:Gr} {F:Int->List UInt8} {t:List Ent} {z w:Int} (hz:0<=z/\z<g.z) (hw : -1<=w/\w<g.d) (h:Fg g G F):Fi g s G t z w=JL g s F t z w:=by
 obtain⟨g1,g2,g3,g4,g5⟩:=Ar.1 hg;obtain⟨i,e,hi⟩:=Em hg ha hz hw;have:=E0 hg hz hi;unfold Fi JL;rw [h _ (by omega) (by omega)];try rfl
theorem YJ {g:Geo} (hg:Bm g=true) {s:Stt} (ha:Bn g s.a=true) {G:Gr} {F:Int->List UInt8} {t:List Ent} {z:Int} (hz:0<=z/\z<g.z) (h:Fg g G F):EI g s G t z=D1 g s F t z:=by
 obtain⟨g1,g2,g3,g4,g5⟩:=Ar.1 hg;unfold EI D1 Kz;rw [Bj,A8,List.map_singleton];congr 1
 ·refine C4 fun i hi=>?_
  have:=AR.1 hi;rw [show QJ g i=(i:Int) by unfold QJ;rw [if_neg (by omega)]];exact OL hg ha hz (by omega) h
 ·rw [show QJ g g.d.toNat = -1 by unfold QJ;rw [if_pos (by omega)]];rw [OL hg ha hz (by omega) h]
theorem Us {g:Geo} (hg:Bm g=true) {s:Stt} (ha:Bn g s.a=true) {G:Gr} {F:Int->List UInt8} {S lba:Int} {b:List UInt8} (hz:0<=lba.tdiv g.d/\lba.tdiv g.d<g.z) (h:Fg g G F):F3 g s G S lba b=GM g s F S lba b:=by
 unfold F3 GM;rw [Ow hg hz h];cases EW g s F (lba.tdiv g.d) with
 | some t=>
  simp only;rw [YJ hg ha hz h]
 | none=>rfl
theorem Vb {g:Geo} (hg:Bm g=true) {a:An} (ha:Bn g a=true) {l:List Tx} {G:Gr} {F:Int->List UInt8} {V:Int->Int->List UInt8} (hV:VolV g a l F V) (h:Fg g G F) {z w:Int} (hz:0<=z/\z<g.z) (hw:0<=w/\w<g.d):MR g (AJ a l) G z w=some (V z w)/\(V z w).length=8:=by
 obtain⟨t,ht⟩:=hV z hz.1 hz.2;have e1:=ht.ent w (by omega) hw.2;have e2:=ht.len w (by omega) hw.2;have e3:=ht.one (w:=w) ⟨by omega,hw.2⟩;rw [show (Ev g w).toNat=w.toNat by unfold Ev;rw [if_neg (by omega)]] at e1;unfold MR;rw [Ow hg hz h,ht.tab];simp only;rw [if_neg (by rw [e1.1];decide),OL hg ha hz ⟨by omega,hw.2⟩ h,e3,if_pos (by rw [e2];decide)];exact⟨rfl,e2⟩
theorem J3 {g:Geo} (hg:Bm g=true) {lba:Int} (hlba:0<=lba/\lba<g.z*g.d):(0<=lba.tdiv g.d/\lba.tdiv g.d<g.z)/\0<=lba.tmod g.d/\lba.tmod g.d<g.d:=by
 obtain⟨g1,g2,g3,g4,g5⟩:=Ar.1 hg;rw [AX hlba.1];exact⟨⟨CT hlba.1 (by omega),CB (by omega) hlba.2⟩,Bx _ hlba.1,Bb _ (by omega)⟩
structure Clv (g:Geo) (K:Int) (d:Dk) (M:Md):Prop where
 un:Un g d
 fg:Fg g (Fu d) M.F
 gd:∃ d0,Gd (Aq g) d0 M.F
 vo:Vo g K M
 rd:aD g M
theorem Clv.on {g:Geo} (hg:Bm g=true) {d:Dk} (hd:Gd (Aq g) d (Gn g).F):Clv g 2 d (Gn g):=by
 obtain⟨g1,g2,g3,g4,g5⟩:=Ar.1 hg;obtain⟨-, -, -, -, -,hvo⟩:=PV hg;exact⟨⟨hd.ok,hd.left,hd.len,hd.cache⟩,fun q h0 h1=>hd.gs.2 q (by omega) h1,⟨d,hd⟩,hvo,WF hg⟩
def Y8 (g:Geo) (M:Md) (lba:Int) (b:List UInt8):Md:=⟨M.a,M.l ++ [GD g M.a M.l M.F lba b],M.F,M.m.set lba.toNat b⟩
theorem Clv.add {g:Geo} (hg:Bm g=true) {K:Int} {d d':Dk} {M:Md} (h:Clv g K d M) (hK:K<=4294967294) {lba:Int} {b:List UInt8} (hlba:0<=lba/\lba<g.z*g.d) (hb:b.length=8) (hroom:4<=g.sl - C6 M.l) (hu:Un g d') (hf:∀ q,g.an+2*g.sl<=q->q<Aq g->Fu d' q=Fu d q):Clv g (K+1) d' (Y8 g M lba b):=by
 obtain⟨d0,h0⟩:=h.gd;have hz:=(J3 hg hlba).1;have ht:(EW g (AJ M.a M.l) M.F (lba.tdiv g.d)).isSome=true:=by
  obtain⟨-,V,hV, -⟩:=h.rd;obtain⟨t,hz⟩:=hV _ hz.1 hz.2;rw [hz.tab];try rfl
 have hvol:=h.vo.vol h0;obtain⟨r,v⟩:=Xu hg hK hlba hb hvol h.rd (M':=Y8 g M lba b) (.inl ⟨by omega,ht, [],(fun w hw=>by cases hw),rfl⟩);exact⟨hu,fun q q1 q2=>(hf q q1 q2).trans (h.fg q q1 q2),⟨d0,h0⟩,Vo.of v h.vo.fb (by show ((M.m.set lba.toNat b).length:Int)=_;rw [AO];exact h.vo.m),r⟩
theorem aw {g:Geo} {K:Int} {d:Dk} {M:Md} {lba:Int} {b:List UInt8} (hg:Bm g=true) (h:Clv g K d M) (hK:K<=4294967294) (hlba:0<=lba/\lba<g.z*g.d) (hb:b.length=8) (hroom:4<=g.sl - C6 M.l) (P:Int) (hP:P=(M.a.pos+C6 M.l).tmod g.sl) :
  Fn Tryz.prog 16 [.ag (AU g), .ag (EP d), .ag (Fe (AJ M.a M.l)),iA [lba],ER [b]] fun r=>((∀ j:Nat,j<4->Lb g d P j=false)/\∃ d',Clv g (K+1) d' (Y8 g M lba b)/\(∀ q,stuck d' q=true->stuck d q=true)/\r = .tp [.ag (Fe (AJ (Y8 g M lba b).a (Y8 g M lba b).l)), .ag (EP d'),iv 0])\/((∃ j:Nat,j<4/\Lb g d P j=true)/\∃ d',(DkOk d'/\(d'.cells.length:Int)=Aq g)/\r = .tp [.ag (Fe { AJ M.a M.l with only:=true }), .ag (EP d'),iv 14]):=by
 obtain⟨d0,h0⟩:=h.gd;have hz:=(J3 hg hlba).1;obtain⟨-,V,hV, -⟩:=h.rd;obtain⟨t,ht⟩:=hV _ hz.1 hz.2;have hvol:=h.vo.vol h0;have htab:G0 g (AJ M.a M.l) (Fu d) (lba.tdiv g.d)=some t:=by rw [Ow hg hz h.fg];exact ht.tab
 have hc:=av hg hvol hK h.un hlba hb hroom htab P hP;refine hc.mono fun r hr=>?_
 rcases hr with ⟨h1,d',h2,h3,h4,rfl⟩ | h1
 ·refine .inl ⟨h1,d',h.add hg hK hlba hb hroom h2 h3,h4,?_⟩;have e:au g M.a M.l (Fu d) lba b=GD g M.a M.l M.F lba b:=by
   unfold au GD;rw [Us hg h.vo.an hz h.fg]
  rw [e];try rfl
 ·exact .inr h1
theorem Wn {g:Geo} {K:Int} {d:Dk} {M:Md} (hg:Bm g=true) (h:Clv g K d M) (k:Nat) (hk:(k:Int)<g.z*g.d):(M.m.getD k []).length=8/\
  Fn Tryz.prog 12 [.ag (AU g), .ag (EP d), .ag (Fe (AJ M.a M.l)),iv (k:Nat)] fun r=>∃ d',r = .tp [bA (M.m.getD k []), .ag (EP d'),iv 0]:=by
 obtain⟨d0,h0⟩:=h.gd;have hb:(0:Int)<=(k:Nat)/\((k:Nat):Int)<g.z*g.d:=by omega
 obtain⟨hz,hA⟩:=J3 hg hb;obtain⟨hm,V,hV,hE⟩:=h.rd;have hc:=Xy hg (h.vo.vol h0) h.un hb;obtain⟨e1,e2⟩:=Vb hg h.vo.an hV h.fg hz hA;have e:=hE _ _ hz.1 hz.2 hA.1 hA.2;rw [Int.mul_comm,Int.mul_tdiv_add_tmod,Ab] at e;rw [e1,<-e] at hc;rw [<-e] at e2;exact⟨e2,hc.mono fun r ⟨d',_,hr⟩=>⟨d',hr⟩⟩
theorem ZY {m:Nat} (h:Nat.ble 8 m=true):∀ z∈ [4,5,6,7],z<m:=fun z hz=>by
 have:=Ag h;simp at hz;omega
theorem PD (g:Geo) (d:Dk) (hg:Bm g=true) (h:DkOk d) (hn:(d.cells.length:Int)=Aq g) (hin0:aF g d):Fn Tryz.prog 56 [.ag (AU g), .ag (EP d)] fun r=>r = .tp [.ag (Fe (D_ g d).2.2), .ag (EP (D_ g d).1), .v (.int .i64 (D_ g d).2.1)]:=by
 have hb:=TW g d st0 h st0_sm;have hm:=Rj g st0 d hg h hn hin0;have herr:=RB (g:=g) (d:=d);generalize D_ g d=M at hm herr |-
 obtain⟨D,e,S⟩:=M;simp only at herr hm;refine zR Tryz.func56 rfl ?_;conv=>whnf
 refine zX [.ag (AU g), .ag (EP d), .ag (Fe st0)] ⟨ri,ri,Bk st0_sub,tv⟩ ?_;refine zV hb rfl ?_;rintro _ _ ⟨rfl,rfl⟩;conv=>whnf
 refine ze9 [4,5,6,7] hm ?_;rintro _ _ ⟨⟨S',rfl,hS⟩,rfl⟩;by_cases he:e=0
 ·subst he;have:=hS rfl;subst this;conv=>whnf
  apply aDraw.dag (144) tys_ok mixed [([],11,(.o [0,1,2,3] (.alt 4 (.o [5,6] (.alt 7 (.o [8,9,10] .fin) (.alt 8 (.o [7,9,10] .fin) .non))) (.alt 8 (.o [4,5,6,7,9,10] .fin) .non))))] [6,32,33,34,35,36,37,38,39] [] (by kernel_rfl)
  ·refine Ae ?_ ?_
   ·refine Ae ?_ (Ae ?_ (trivial))
    ·refine Ae ?_ (Ae ?_ (trivial))
     ·conv=>whnf
      try (refine tS ?_;conv=>whnf)
      try (refine tS ?_;conv=>whnf)
      exact tA
     ·conv=>whnf
      try (refine tS ?_;conv=>whnf)
      try (refine tS ?_;conv=>whnf)
      exact tA
    ·conv=>whnf
     try (refine tS ?_;conv=>whnf)
     try (refine tS ?_;conv=>whnf)
     exact tA
   conv=>whnf
   exact trivial
  refine Ae (Ac _).symm ?_;refine Ae (Ac _).symm ?_;exact⟨.tp [.ag (Fe S'), .ag (EP D),iv 0],Cf ⟨ri,Bk ⟨Bc (f:=B7) D.cells rfl rfl,Bc (f:=EE) D.cache rfl rfl,ri,ri,tv⟩,ri,tv⟩,rfl⟩
 ·have hbe:(e != 0)=true:=bne_iff_ne.2 he;have:=herr he;subst this;conv=>whnf
  rw [hbe];conv=>whnf
  apply aDraw.dag (2192) tys_ok mixed [([],15,(.o [0,1,2,3,8,9,10] (.alt 4 (.o [5,6] (.alt 7 (.alt 11 (.jump 2) (.alt 12 (.jump 3) .non)) (.alt 11 (.alt 7 (.jump 2) (.alt 12 (.jump 4) .non)) (.alt 12 (.alt 7 (.jump 3) (.alt 11 (.jump 4) .non)) .non)))) (.alt 11 (.alt 4 (.o [5,6] (.alt 7 (.jump 2) (.alt 12 (.jump 4) .non))) (.alt 12 (.jump 1) .non)) (.alt 12 (.alt 4 (.o [5,6] (.alt 7 (.jump 3) (.alt 11 (.jump 4) .non))) (.alt 11 (.jump 1) .non)) .non))))),([0,1,2,3,8,9,10,11,12],6,(.o [4,5,6,7,13,14] .fin)),([0,1,2,3,4,5,6,7,8,9,10,11],3,(.o [12,13,14] .fin)),([0,1,2,3,4,5,6,7,8,9,10,12],3,(.alt 11 (.o [13,14] .fin) (.alt 13 (.o [11,14] .fin) .non))),([0,1,2,3,4,5,6,8,9,10,11,12],3,(.o [7,13,14] .fin))] [6,20,21,22,23,24,25,26,27,28,29,30,31] [(_,_),(_,_),(_,_),(_,_)] (by kernel_rfl)
  ·refine Ae ?_ ?_
   ·refine Ae ?_ (Ae ?_ (Ae ?_ (trivial)))
    ·refine Ae ?_ (Ae ?_ (Ae ?_ (trivial)))
     ·refine Ae ?_ (Ae ?_ (trivial))
      ·exact tA
      ·conv=>whnf
       try (refine tS ?_;conv=>whnf)
       exact tA
     ·refine Ae ?_ (Ae ?_ (trivial))
      ·exact tA
      ·conv=>whnf
       try (refine tS ?_;conv=>whnf)
       exact tA
     ·conv=>whnf
      try (refine tS ?_;conv=>whnf)
      refine Ae ?_ (Ae ?_ (trivial))
      ·exact tA
      ·exact tA
    ·refine Ae ?_ (Ae ?_ (trivial))
     ·refine Ae ?_ (Ae ?_ (trivial))
      ·exact tA
      ·conv=>whnf
       try (refine tS ?_;conv=>whnf)
       exact tA
     ·conv=>whnf
      try (refine tS ?_;conv=>whnf)
      exact tA
    ·conv=>whnf
     try (refine tS ?_;conv=>whnf)
     refine Ae ?_ (Ae ?_ (trivial))
     ·refine Ae ?_ (Ae ?_ (trivial))
      ·exact tA
      ·exact tA
     ·exact tA
   refine Ae ?_ ?_
   ·conv=>whnf
    try (refine tS ?_;conv=>whnf)
    exact tA
   refine Ae ?_ ?_
   ·conv=>whnf
    try (refine tS ?_;conv=>whnf)
    try (refine tS ?_;conv=>whnf)
    exact tA
   refine Ae ?_ ?_
   ·refine Ae ?_ (Ae ?_ (trivial))
    ·conv=>whnf
     try (refine tS ?_;conv=>whnf)
     exact tA
    ·conv=>whnf
     try (refine tS ?_;conv=>whnf)
     exact tA
   refine Ae ?_ ?_
   ·conv=>whnf
    try (refine tS ?_;conv=>whnf)
    exact tA
   conv=>whnf
   exact trivial
  refine Ae (Ac _).symm ?_;refine Ae (Ac _).symm ?_;exact⟨.tp [.ag (Fe st0), .ag (EP D),iv e],Cf ⟨Bk st0_sub,Bk ⟨Bc (f:=B7) D.cells rfl rfl,Bc (f:=EE) D.cache rfl rfl,ri,ri,tv⟩,ri,tv⟩,rfl⟩
theorem VW (g:Geo) (hg:Bm g=true):Fn Tryz.prog 20 [.ag (AU g)] fun r=>∃ D,r = .tp [.ag (Fe (AJ (Gn g).a (Gn g).l)), .ag (EP D)]/\Gd (Aq g) D (Gn g).F:=by
 obtain⟨D,h1,h2,h3,h4,h5⟩:=PV hg;have hfm:=Rm g ⟨#[]⟩ hg (by exact lab_nil);have hmn:=PD g (G9 g ⟨#[]⟩) hg h2 h3 (ZW hg);rw [h1] at hmn;refine zR Tryz.func20 rfl ?_;conv=>whnf
 apply zW (0) tys_ok mixed (.o [0,1] (.three 2 (.three 3 (.o [4,5,6,7] (.two 8 (.o [9,10,11,12] .fin) 9 (.o [8,10,11,12] .fin))) 8 (.two 3 (.o [4,5,6,7,9,10,11,12] .fin) 9 (.o [3,4,5,6,7,10,11,12] .fin)) 9 (.two 3 (.o [4,5,6,7,8,10,11,12] .fin) 8 (.o [3,4,5,6,7,10,11,12] .fin))) 8 (.two 2 (.two 3 (.o [4,5,6,7,9,10,11,12] .fin) 9 (.o [3,4,5,6,7,10,11,12] .fin)) 9 (.o [2,3,4,5,6,7,10,11,12] .fin)) 9 (.two 2 (.two 3 (.o [4,5,6,7,8,10,11,12] .fin) 8 (.o [3,4,5,6,7,10,11,12] .fin)) 8 (.o [2,3,4,5,6,7,10,11,12] .fin)))) (by kernel_rfl);refine Ae ?_ (Ae ?_ ?_);conv=>whnf
 refine zZ hfm ?_;refine Ae ?_ (Ae ?_ ?_);conv=>whnf
 refine zZ hmn ?_;refine Ae ?_ ?_;conv=>whnf
 try (refine tS ?_;conv=>whnf)
 try (refine tS ?_;conv=>whnf)
 rotate_left 1;conv=>whnf
 try (refine tS ?_;conv=>whnf)
 try (refine tS ?_;conv=>whnf)
 rotate_left 1;refine Ae ?_ ?_;conv=>whnf
 refine zZ hmn ?_;conv=>whnf
 try (refine tS ?_;conv=>whnf)
 try (refine tS ?_;conv=>whnf)
 rotate_left 1;conv=>whnf
 refine zZ hmn ?_;conv=>whnf
 try (refine tS ?_;conv=>whnf)
 try (refine tS ?_;conv=>whnf)
 rotate_left 1;refine Ae ?_ ?_;conv=>whnf
 refine zZ hmn ?_;conv=>whnf
 try (refine tS ?_;conv=>whnf)
 try (refine tS ?_;conv=>whnf)
 rotate_left 1;conv=>whnf
 refine zZ hmn ?_;conv=>whnf
 try (refine tS ?_;conv=>whnf)
 try (refine tS ?_;conv=>whnf)
 rotate_left 1;refine Ae ?_ ?_;conv=>whnf
 refine zZ hfm ?_;refine Ae ?_ ?_;conv=>whnf
 refine zZ hmn ?_;conv=>whnf
 try (refine tS ?_;conv=>whnf)
 try (refine tS ?_;conv=>whnf)
 rotate_left 1;conv=>whnf
 refine zZ hmn ?_;conv=>whnf
 try (refine tS ?_;conv=>whnf)
 try (refine tS ?_;conv=>whnf)
 rotate_left 1;conv=>whnf
 refine zZ hfm ?_;conv=>whnf
 refine zZ hmn ?_;conv=>whnf
 try (refine tS ?_;conv=>whnf)
 try (refine tS ?_;conv=>whnf)
 rotate_left 1;refine Ae ?_ ?_;conv=>whnf
 refine zZ hfm ?_;refine Ae ?_ ?_;conv=>whnf
 refine zZ hmn ?_;conv=>whnf
 try (refine tS ?_;conv=>whnf)
 try (refine tS ?_;conv=>whnf)
 rotate_left 1;conv=>whnf
 refine zZ hmn ?_;conv=>whnf
 try (refine tS ?_;conv=>whnf)
 try (refine tS ?_;conv=>whnf)
 rotate_left 1;conv=>whnf
 refine zZ hfm ?_;conv=>whnf
 refine zZ hmn ?_;conv=>whnf
 try (refine tS ?_;conv=>whnf)
 try (refine tS ?_;conv=>whnf)
 rotate_left 1;all_goals
  apply zW (2) tys_ok mixed (.one 0 (.two 1 (.o [2,3] .fin) 2 (.o [1,3] .fin))) (by kernel_rfl);refine Ae ?_ ?_;conv=>whnf
  try (refine tS ?_;conv=>whnf)
  try (refine tS ?_;conv=>whnf)
  rotate_left 1;conv=>whnf
  try (refine tS ?_;conv=>whnf)
  try (refine tS ?_;conv=>whnf)
  rotate_left 1;all_goals
   exact⟨_,ri,D,rfl,h4⟩
theorem aDraw.conv {P:Program} {T:Tys} {n d0 id:Nat} {ops:Array Oper} {K:Fr->List AB->Prop} {fr:Fr} {H:List AB} (h:aDraw P T n d0 id ops (fun fr H=>∃ fr2 H2,ConvF fr H fr2 H2/\K fr2 H2) fr H):aDraw P T n d0 id ops K fr H:=
 ⟨fun w0 M0 ce c a hs hf he hd Q hq=>h.wp w0 M0 ce c a hs hf he hd Q fun c' fr' H' a' ⟨fr2,H2,hc,hk⟩ hs' hf' he'=>by
  obtain⟨c2,e,s2,f2,x2⟩:=hc _ _ _ _ _ hs' hf';have:=hq c2 fr2 H2 a' hk s2 f2 (he'.trans x2);rwa [e] at this⟩

theorem RdL.seal1 {c c1:Ctx} (x1:Ext c c1) {x y:AV} (r1:∀ v,Rd x c v->Rd y c1 v):∀ {l:List AV} {us:List Value} {i:Nat},RdL l c us->l[i]? = some x->RdL (l.set i y) c1 us
 | [],us,i,h,hi=>by simp at hi
 | a::l,us,0,h,hi=>by
  simp only [Dn,Option.some.injEq] at hi;subst hi;simp only [List.set_cons_zero,RdL] at h |-
  obtain⟨u,vs,rfl,h1,h2⟩:=h;exact⟨u,vs,rfl,r1 u h1,RdL.ext _ x1 h2⟩
 | a::l,us,i+1,h,hi=>by
  simp only [List.getElem?_cons_succ] at hi;simp only [List.set_cons_succ,RdL] at h |-
  obtain⟨u,vs,rfl,h1,h2⟩:=h;exact⟨u,vs,rfl,Rd.ext _ x1 h1,RdL.seal1 x1 r1 h2 hi⟩
theorem ACalls.sealArg {P:Program} {q:Bool} {f:FuncId} {args:List AV} {H:List AB} {K:AV->List AB->Prop} (i k:Nat) {t:TypeId} {sz:Nat} {es:List (List AV)} (hx:args[i]? = some (.ow k es.length)) (hk:H[k]? = some (.row t sz es))
  (hc:ACalls P q f (args.set i (.sl sz es.length fun j=>es.getD j [])) (H.set k .dead) K):ACalls P q f args H K:=by
 refine⟨hc.go,fun w0 M0 c us hs hr=>?_⟩;obtain⟨c1,e1,s1,x1,r1⟩:=hs.freeze hk;have:=hc.calls w0 M0 c1 us s1 (RdL.seal1 x1 r1 hr hx);rw [e1] at this;refine this.mono ?_;rintro e w' ⟨v,c',r,H2,rfl,rfl,q1,q2,q3,q4,q5⟩;exact⟨v,c',r,H2,rfl,rfl,q1,q2,x1.trans q3,q4,q5⟩
theorem Zq {H:List AB} {s:Stt} {t tH tT:TypeId} (j a b:Nat) (hj:H[j]? = some (.box t (stX s (.ow a s.a.homes.length) (.ow b s.txns.length)))) (ha:H[a]? = some (.row tH 3 (s.a.homes.map ES))) (hb:H[b]? = some (.row tT 4 (s.txns.map CV))) (hab:a≠b) (hjb:j≠b) (hja:j≠a) :
  ConvH H (((((H.set a .dead).set j (.box t (stX s (.sl 3 (s.a.homes.map ES).length fun i=>(s.a.homes.map ES).getD i []) (.ow b s.txns.length)))).set b .dead).set j (.box t (stX s (.sl 3 (s.a.homes.map ES).length fun i=>(s.a.homes.map ES).getD i []) (.sl 4 (s.txns.map CV).length fun i=>(s.txns.map CV).getD i [])))).set j (.box t (Fe s))):=by
 have hlt:=(As.1 hj).1;obtain⟨T,hT⟩:∃ T:AV,T = .sl 4 (s.txns.map CV).length fun i=>(s.txns.map CV).getD i []:=⟨_,rfl⟩
 obtain⟨M,hM⟩:∃ M:AV,M = .sl 3 (s.a.homes.map ES).length fun i=>(s.a.homes.map ES).getD i []:=⟨_,rfl⟩
 have t1:∀ (c:Ctx) (v:Value),Rd T c v->Rd (DH s.txns) c v:=by rw [hT];exact Bc (f:=CV) s.txns (Ac _) rfl
 have m1:∀ (c:Ctx) (v:Value),Rd M c v->Rd (Jr s.a.homes) c v:=by rw [hM];exact Bc (f:=ES) s.a.homes (Ac _) rfl
 rw [<-hT,<-hM];refine zu (zy j a (cs2:=stX s M (.ow b s.txns.length)) hj ha ?_) (zu (zy j b (cs2:=stX s M T) (t:=t) (cs:=stX s M (.ow b s.txns.length)) ?_ (es':=s.txns.map CV) (t':=tT) (sz':=4) ?_ ?_) (zr j (t:=t) (cs:=stX s M T) ?_ ⟨ri,ri,ri,ri,ri,ri,m1,t1,ri,ri,ri,ri,ri,ri,tv⟩))
 ·rw [<-hM];simp only [stX,A4,Bz,Gl (Ac _).symm,Sw (show (b == a)=false by simpa using Ne.symm hab)];rfl
 ·rw [AD (by simpa using hlt)]
 ·rw [AA hjb,AA hab,hb]
 ·rw [<-hT];subst hM;simp only [stX,A4,Bz,Gl (Ac _).symm];rfl
 ·rw [AD (by simpa using hlt)]
theorem Xt {H:List AB} {d:Dk} {t tC tW:TypeId} (j a b:Nat) (hj:H[j]? = some (.box t (GX (.ow a d.cells.length) (.ow b d.cache.length) d.reqs d.left))) (ha:H[a]? = some (.row tC 3 (d.cells.map B7))) (hb:H[b]? = some (.row tW 2 (d.cache.map EE))) (hab:a≠b) (hjb:j≠b) (hja:j≠a) :
  ConvH H (((((H.set a .dead).set j (.box t (GX (.sl 3 (d.cells.map B7).length fun i=>(d.cells.map B7).getD i []) (.ow b d.cache.length) d.reqs d.left))).set b .dead).set j (.box t (GX (.sl 3 (d.cells.map B7).length fun i=>(d.cells.map B7).getD i []) (.sl 2 (d.cache.map EE).length fun i=>(d.cache.map EE).getD i []) d.reqs d.left))).set j (.box t (EP d))):=by
 have hlt:=(As.1 hj).1;obtain⟨T,hT⟩:∃ T:AV,T = .sl 2 (d.cache.map EE).length fun i=>(d.cache.map EE).getD i []:=⟨_,rfl⟩
 obtain⟨M,hM⟩:∃ M:AV,M = .sl 3 (d.cells.map B7).length fun i=>(d.cells.map B7).getD i []:=⟨_,rfl⟩
 have t1:∀ (c:Ctx) (v:Value),Rd T c v->Rd (LA d.cache) c v:=by rw [hT];exact Bc (f:=EE) d.cache (Ac _) rfl
 have m1:∀ (c:Ctx) (v:Value),Rd M c v->Rd (Oc d.cells) c v:=by rw [hM];exact Bc (f:=B7) d.cells (Ac _) rfl
 rw [<-hT,<-hM];refine zu (zy j a (cs2:=GX M (.ow b d.cache.length) d.reqs d.left) hj ha ?_) (zu (zy j b (cs2:=GX M T d.reqs d.left) (t:=t) (cs:=GX M (.ow b d.cache.length) d.reqs d.left) ?_ (es':=d.cache.map EE) (t':=tW) (sz':=2) ?_ ?_) (zr j (t:=t) (cs:=GX M T d.reqs d.left) ?_ ⟨m1,t1,ri,ri,tv⟩))
 ·rw [<-hM];simp only [GX,A4,Bz,Gl (Ac _).symm,Sw (show (b == a)=false by simpa using Ne.symm hab)];rfl
 ·rw [AD (by simpa using hlt)]
 ·rw [AA hjb,AA hab,hb]
 ·rw [<-hT];subst hM;simp only [GX,A4,Bz,Gl (Ac _).symm];rfl
 ·rw [AD (by simpa using hlt)]
theorem Yj {es:List (List AV)} {k:Nat} {e e':List AV} (h:SubL e e') (i:Nat):SubL ((es.set k e).getD i []) ((es.set k e').getD i []):=by
 rw [Aa,Aa,DX,DX];split
 ·split
  ·exact h
  ·exact SubL.refl _
 ·exact SubL.refl _
def Jd (n k:Nat):List (List UInt8):=List.replicate k zero8 ++ List.replicate (n - k) []
theorem VU {n k:Nat} (h:k<=n):(Jd n k).length=n:=by simp [Jd];omega
theorem VT {n k:Nat} (h:k<n):(Jd n k).set k zero8=Jd n (k+1):=by
 obtain⟨m,rfl⟩:∃ m,n=k+1+m:=⟨n - (k+1),by omega⟩;unfold Jd;rw [show k+1+m - k=m+1 by omega,show k+1+m - (k+1)=m by omega,Du,DG _ _ (by simp)];simp only [Bw,CE,List.set_cons_zero];rw [List.replicate_succ' (n:=k),AE];try rfl
theorem VS (n i:Nat):SubL ((List.replicate ((n:Int).toNat) (List.map AV.v [Value.slice none 0 0])).getD i []) (((Jd n 0).map F9).getD i []):=by
 rw [Ab,Jd,List.replicate_zero,B9,Nat.sub_zero,DD];by_cases h:i<n
 ·rw [show (List.replicate n (List.map AV.v [Value.slice none 0 0])).getD i []=List.map AV.v [Value.slice none 0 0] by simp [h],show (List.replicate n (F9 [])).getD i []=F9 [] by simp [h]];exact⟨Bo 1 _,tv⟩
 ·rw [show (List.replicate n (List.map AV.v [Value.slice none 0 0])).getD i []=[] by simp [h],show (List.replicate n (F9 [])).getD i []=[] by simp [h]];trivial
theorem zero8_sub:SubL [.sl 1 (Int.toNat 8) fun i=>(List.replicate (Int.toNat 8) (List.map AV.v [Value.int IntKind.u8 0])).getD i []] (F9 zero8):=⟨Fb rfl rfl,tv⟩
theorem Sr (x:Int) : [AV.v (Value.int .u8 (IntKind.u8.wrap x))]=E6 (UInt8.ofNat (IntKind.u8.wrap x).toNat):=by
 rw [E6,IntKind.wrap_u8];have h1:0<=x % 256/\x % 256<256:=by omega
 have h2:(UInt8.ofNat (x % 256).toNat).toNat=(x % 256).toNat:=BA (by show (x % 256).toNat<256;omega);rw [h2,C5 h1.1]
theorem Z3 (x0 x1 x2 x7:Int):∃ b:List UInt8,b.length=8/\ [[AV.v (Value.int .u8 (IntKind.u8.wrap x0))], [AV.v (Value.int .u8 (IntKind.u8.wrap x1))], [AV.v (Value.int .u8 (IntKind.u8.wrap x2))], [AV.v (Value.int .u8 1)], [AV.v (Value.int .u8 1)], [AV.v (Value.int .u8 1)], [AV.v (Value.int .u8 1)], [AV.v (Value.int .u8 (IntKind.u8.wrap x7))]]=b.map E6:=
 ⟨[UInt8.ofNat (IntKind.u8.wrap x0).toNat,UInt8.ofNat (IntKind.u8.wrap x1).toNat,UInt8.ofNat (IntKind.u8.wrap x2).toNat,1,1,1,1,UInt8.ofNat (IntKind.u8.wrap x7).toNat],rfl,by rw [Sr,Sr,Sr,Sr];try rfl⟩
theorem bC {m:Nat} (h:Nat.ble 13 m=true):∀ z∈ [7,8,9,10,11,12],z<m:=fun z hz=>by
 have:=Ag h;simp at hz;omega
theorem Vo.mono {g:Geo} {K K':Int} {M:Md} (h:Vo g K M) (hk:K<=K'):Vo g K' M:=⟨h.an,h.ring,Int.le_trans h.gen hk,Int.le_trans h.seq hk,h.one,h.fb,h.m⟩
theorem aT {m:Nat} (h:Nat.ble 12 m=true):∀ z∈ [6,7,8,9,10,11],z<m:=fun z hz=>by
 have:=Ag h;simp at hz;omega
theorem Zf {g:Geo} (hg:Bm g=true):1<=g.z*g.d/\g.z*g.d<=16:=by
 obtain⟨g1,g2,g3,g4,g5⟩:=Ar.1 hg;rcases(show g.z=1\/g.z=2\/g.z=3\/g.z=4 by omega) with h | h | h | h <;> rw [h] <;> omega
@[reducible] def stZ:List AV:= [iv 0,iv 0,iv 0,iv 0,iv 0, .v (.string ⟨#[]⟩), .v (.slice none 0 0), .v (.slice none 0 0), .v (.bool false),iv 0,iv 0,iv 0,iv 0, .v (.slice none 0 0)]
@[reducible] def dkZ:List AV:= [.v (.slice none 0 0), .v (.slice none 0 0),iv 0,iv 0]
@[reducible] def plH (g:Geo) (M:Md) (d:Dk):List AB:= [.box 23 (AU g), .box 39 stZ, .box 43 dkZ, .box 39 (Fe (AJ M.a M.l)), .box 43 (EP d), .row 47 1 (M.m.map F9)]
theorem R3 (g:Geo) (L:List Q2) (sn:Nat) (sg:Nat->List AV) (f:Dk->Dk) (hsp:∀ d,DkOk d->Fn Tryz.prog 41 [.ag (AU g), .ag (EP d), .sl 4 sn sg] fun r=>r = .ag (EP (f d))) (hg:Bm g=true) (hl:L.length<=1000000):ACalls Tryz.prog false 11 [.ag (AU g),OF L, .sl 4 sn sg] [] fun r H=>∃ M d,aE g L (min L.length 6) M/\Gd (Aq g) d M.F/\Vo g 14 M/\r = .tp [.ag (Fe (AJ M.a M.l)), .ag (EP (f d)), .ow 0 M.m.length]/\H=[.row 47 1 (M.m.map F9)]:=by
 obtain⟨g1,g2,g3,g4,g5⟩:=Ar.1 hg;obtain⟨n1,n2⟩:=Zf hg;obtain⟨n,hn⟩:∃ n:Nat,(n:Int)=g.z*g.d:=⟨(g.z*g.d).toNat,by omega⟩;have hon:=VW g hg;obtain⟨-, -, -, -, -,hvo⟩:=PV hg;refine zT tys_ok Tryz.func11 rfl rfl (Ag rfl) ?_;conv=>whnf
 refine zI hon rfl ?_;rintro _ ⟨D,rfl,hD⟩;conv=>whnf
 rw [wi (show -9223372036854775808<=g.z*g.d/\g.z*g.d<=9223372036854775807 by omega),<-hn];refine⟨⟨rfl,by omega,by omega⟩,?_⟩;conv=>whnf
 refine zU Nat (fun k=>([(1,OF L),(2, .sl 4 sn sg),(3, .bp 0 0),(6, .bp 1 0),(7, .bp 2 0),(9, .bp 3 0),(10, .bp 4 0),(11,iv (n:Nat)),(12, .ow 5 n),(13,iv (k:Nat))], [.box 23 (AU g), .box 39 stZ, .box 43 dkZ, .box 39 (Fe (AJ (Gn g).a (Gn g).l)), .box 43 (EP D), .row 47 1 ((Jd n k).map F9)])) (fun k=>k<=n) (fun k=>n - k) 0 (Aj _)
  (zG (zJ (zA (k:=5) (es':=(Jd n 0).map F9) rfl (by simp [Jd]) fun i=>VS n i)) (s:= [0,1,2,3,4,5]) tA) ?_
 intro k hk;conv=>whnf
 refine A7 (fun h6=>?_) (fun h6=>?_) <;> (repeat rw [Ab] at h6) <;> conv=>whnf
 ·have hk2:k<n:=by omega
  have hkl:=VU hk;repeat' (refine z_ ?_;conv=>whnf)
  refine⟨⟨by omega,by omega⟩,?_⟩;refine⟨⟨by omega,by omega⟩,?_⟩;refine⟨rfl,?_⟩;conv=>whnf
  refine Ae ⟨rfl,by rw [Ac,hkl],by show k<n;omega⟩ ?_;conv=>whnf
  rw [Ab,show ((Jd n k).map F9).getD k []=F9 ((Jd n k).getD k []) from Bd (by omega)];exact⟨k+1,by omega,by omega,zG (zJ (zA (k:=5) (es':=((Jd n k).map F9).set k (F9 zero8)) rfl (by simp) fun j=>Yj zero8_sub j)) (s:= [0,1,2,3,4,5]) ⟨⟨rfl,rfl,rfl,rfl,rfl,rfl,rfl,rfl,rfl,AI (by omega),tv⟩,⟨rfl,rfl,rfl,rfl,rfl,congrArg (fun es=>some (AB.row 47 1 es)) (by rw [<-VT hk2,BM]),tv⟩,rfl,rfl,rfl,rfl,rfl⟩⟩
 have ek:k=n:=by omega
 subst ek;have hm0:Jd k k=(Gn g).m:=by
  show _=List.replicate (g.z*g.d).toNat zero8;unfold Jd;rw [<-hn];simp
 rw [hm0];conv=>whnf
 refine zU (Nat × Md × Dk) (fun x=>([(1,OF L),(2, .sl 4 sn sg),(3, .bp 0 0),(6, .bp 1 0),(7, .bp 2 0),(9, .bp 3 0),(10, .bp 4 0),(11,iv (k:Nat)),(12, .ow 5 k),(14,iv (x.1:Nat))],plH g x.2.1 x.2.2)) (fun x=>x.1<=min L.length 6/\aE g L x.1 x.2.1/\Gd (Aq g) x.2.2 x.2.1.F/\Vo g (2+2*(x.1:Nat)) x.2.1) (fun x=>min L.length 6 - x.1) (0,Gn g,D) ⟨Aj _,rfl,hD,hvo⟩
  (zS (s:= [0,1,2,3,4,5]) tA) ?_
 rintro⟨i,M,d⟩ ⟨hi,hpl,hd,hv⟩;simp only at hi hpl hd hv;by_cases him:i<min L.length 6
 ·have hiL:i<L.length:=by omega
  conv=>whnf
  rw [show decide ((i:Int)<(L.length:Nat))=true from decide_eq_true (by omega)];conv=>whnf
  rw [show decide ((i:Int)<6)=true from decide_eq_true (by omega)];conv=>whnf
  repeat' (refine z_ ?_;conv=>whnf)
  refine⟨⟨by omega,by omega⟩,?_⟩;refine⟨by decide,?_⟩;conv=>whnf
  have ek:IntKind.u64.wrap (k:Int)=k:=by rw [IntKind.wrap_u64];omega
  rw [ek];refine⟨by omega,?_⟩;conv=>whnf
  obtain⟨A,hA⟩:∃ A,A=DO (L.getD (i:Int).toNat ⟨0,0⟩).a (k:Nat):=⟨_,rfl⟩;have hA2:0<=A/\A<(k:Nat):=by rw [hA];exact DN (by omega) (by omega)
  rw [show IntKind.i64.wrap ((IntKind.u64.wrap (L.getD (i:Int).toNat ⟨0,0⟩).a).tmod (k:Int))=A from hA.symm];refine aDraw.conv ?_;apply zW (0) tys_ok mixed (.o [0,1,2,3,4,5,6,7,8,9,10,11,12,13,14,15,16,17,18] .fin) (by kernel_rfl);conv=>whnf
  try (refine tI ?_;conv=>whnf)
  try (refine tI ?_;conv=>whnf)
  try (refine tI ?_;conv=>whnf)
  try (refine tI ?_;conv=>whnf)
  refine⟨by decide,?_⟩;conv=>whnf
  obtain⟨b,hb8,hbe⟩:=Z3 (L.getD (i:Int).toNat ⟨0,0⟩).b ((L.getD (i:Int).toNat ⟨0,0⟩).b.fdiv (2 ^ min (Int.toNat 8) IntKind.i64.bits)) (i:Nat) A;refine⟨_,_,zQ (zP 16 6 rfl rfl) (zL 16 rfl (Fb (L:=b) hb8.symm hbe)),?_⟩;have e3:(3+2*(i:Nat):Int)=2+2*(i:Nat)+1:=by omega
  have hvol:=hv.vol hd;have hbeg:=L_ g d (AJ M.a M.l) hd.ok (hvol.sm hg);have hcm:=Rw g M.a M.l d M.F (2+2*(i:Nat)) A b hg hvol (by omega) hd (fun q=>Br (hv.fb q) (by decide)) (by omega) hb8;conv=>whnf
  refine zV hbeg rfl ?_;rintro _ _ ⟨rfl,rfl⟩;conv=>whnf
  refine zi (Md × Dk) (fun x=>([(1,OF L),(2, .sl 4 sn sg),(3, .bp 0 0),(6, .bp 1 0),(7, .bp 2 0),(9, .bp 3 0),(10, .bp 4 0),(11,iv (k:Nat)),(12, .ow 5 k),(14,iv (i:Nat))],plH g x.1 x.2)) (fun x=>b8 g M A b x.1/\Gd (Aq g) x.2 x.1.F/\Vo g (3+2*(i:Nat)) x.1) ?_ ?_
  ·conv=>whnf
   refine ACalls.sealArg 1 13 rfl rfl ?_;refine ACalls.sealArg 2 14 rfl rfl ?_;refine zX [.bp 7 0,iA [A],ER [b]] ⟨ri,DP (L:= [A]) rfl rfl,DL (L:= [b]) rfl rfl,tv⟩ ?_;refine ze9 [7,8,9,10,11,12] hcm ?_;rintro _ _ (⟨rfl,ok1,ok2,d2,W,hd2,hW,hv2,rfl⟩ | ⟨e,he,rfl,hbad,d2,rfl⟩)
   ·conv=>whnf
    apply zW (1024) tys_ok mixed (.o [0,1,2,3,4,5,6,7,8,9] (.two 10 (.o [11,12] .fin) 11 (.o [10,12] .fin))) (by kernel_rfl);refine Ae ?_ ?_;conv=>whnf
    try (refine tS ?_;conv=>whnf)
    try (refine tS ?_;conv=>whnf)
    rotate_left 1;conv=>whnf
    try (refine tS ?_;conv=>whnf)
    try (refine tS ?_;conv=>whnf)
    rotate_left 1;all_goals
     refine⟨⟨by omega,by omega⟩,?_⟩;conv=>whnf
     refine Ae ⟨rfl,by rw [Ac];show k=M.m.length;have:=hv.m;omega,by omega⟩ ?_;conv=>whnf
     rw [show (M.m.map F9).getD A.toNat []=F9 (M.m.getD A.toNat []) from Bd (by have:=hv.m;omega)];conv=>whnf
     exact⟨(⟨M.a,M.l ++ [GD g M.a M.l M.F A b],FU M.F W,M.m.set A.toNat b⟩,d2),⟨.inl ⟨ok1,ok2,W,hW,rfl⟩,hd2,Vo.of (M:=⟨M.a,M.l ++ [GD g M.a M.l M.F A b],FU M.F W,M.m.set A.toNat b⟩) (by rw [e3];exact hv2) (QO hv.fb fun w hw=>(hW w hw).2) (by show ((M.m.set A.toNat b).length:Int)=_;rw [AO];exact hv.m)⟩,zG (zJ (zu (Zq (s:=AJ M.a (M.l ++ [GD g M.a M.l M.F A b])) 3 11 12 rfl rfl rfl (by decide) (by decide) (by decide)) (Xt (d:=d2) 4 9 15 rfl rfl rfl (by decide) (by decide) (by decide)))) (s:= [0,1,2,3,4,5]) ⟨tA,⟨rfl,rfl,rfl,rfl,rfl,congrArg (fun es=>some (AB.row 47 1 es)) (BM (f:=F9)).symm,tv⟩,rfl,rfl,rfl,rfl,rfl⟩⟩
   ·conv=>whnf
    rw [show (e == 0)=false from beq_eq_false_iff_ne.2 he];exact⟨(M,d),⟨.inr ⟨hbad,rfl⟩,hd,hv.mono (by omega)⟩,zS (s:= [0,1,2,3,4,5]) tA⟩
  rintro⟨M2,d2⟩ ⟨hcr,hd2,hv2⟩;simp only at hcr hd2 hv2;have hstep:∀ M3,M3=(if (L.getD i ⟨0,0⟩).b.tmod 3=0 then XV g M2 else M2)->aE g L (i+1) M3:=fun M3 h=>⟨M,M2,hpl,⟨A,b,by omega,hb8,hcr⟩,h⟩
  refine⟨⟨by omega,by omega⟩,?_⟩;refine⟨by decide,?_⟩;conv=>whnf
  rw [Ab];refine⟨by decide,?_⟩;conv=>whnf
  by_cases h3:(L.getD i ⟨0,0⟩).b.tmod 3=0;rotate_left 1
  ·rw [show ((L.getD i ⟨0,0⟩).b.tmod 3 == 0)=false from beq_eq_false_iff_ne.2 h3];conv=>whnf
   exact⟨(i+1,M2,d2),⟨by show i+1<=min L.length 6;omega,hstep M2 (if_neg h3).symm,hd2,hv2.mono (by omega)⟩,by show min L.length 6 - (i+1)<min L.length 6 - i;omega,zS (s:= [0,1,2,3,4,5]) ⟨⟨rfl,rfl,rfl,rfl,rfl,rfl,rfl,rfl,rfl,AI (by omega),tv⟩,tA,rfl,rfl,rfl,rfl,rfl⟩⟩
  rw [show ((L.getD i ⟨0,0⟩).b.tmod 3 == 0)=true from beq_iff_eq.2 h3];have hvol2:=hv2.vol hd2;have hbeg2:=L_ g d2 (AJ M2.a M2.l) hd2.ok (hvol2.sm hg);obtain⟨a2,l2,F2,m2⟩:=M2;conv=>whnf
  refine zV hbeg2 rfl ?_;rintro _ _ ⟨rfl,rfl⟩;conv=>whnf
  cases l2 with
  | nil=>
   have hck:=Rx g a2 d2;refine ze9 [6,7,8,9,10,11] hck ?_;rintro _ _ ⟨rfl,rfl⟩;conv=>whnf
   apply zW (1024) tys_ok mixed (.o [0,1,2,3,4,5,6,7,8,9] (.two 10 (.o [11,12] .fin) 11 (.o [10,12] .fin))) (by kernel_rfl);refine Ae ?_ ?_;conv=>whnf
   try (refine tS ?_;conv=>whnf)
   try (refine tS ?_;conv=>whnf)
   rotate_left 1;conv=>whnf
   try (refine tS ?_;conv=>whnf)
   try (refine tS ?_;conv=>whnf)
   rotate_left 1;all_goals
    exact⟨(i+1,⟨a2, [],F2,m2⟩,d2),⟨by show i+1<=min L.length 6;omega,hstep _ ((show (⟨a2, [],F2,m2⟩:Md)=XV g ⟨a2, [],F2,m2⟩ from rfl).trans (if_pos h3).symm),hd2,hv2.mono (by omega)⟩,by show min L.length 6 - (i+1)<min L.length 6 - i;omega,zG (zJ (zu (Zq (s:=AJ a2 []) 3 10 11 rfl rfl rfl (by decide) (by decide) (by decide)) (Xt (d:=d2) 4 8 9 rfl rfl rfl (by decide) (by decide) (by decide)))) (s:= [0,1,2,3,4,5]) ⟨⟨rfl,rfl,rfl,rfl,rfl,rfl,rfl,rfl,rfl,AI (by omega),tv⟩,tA,rfl,rfl,rfl,rfl,rfl⟩⟩
  | cons x r=>
   have hck:=TT g a2 x r d2 F2 (3+2*(i:Nat)) hg hvol2 (by omega) hd2;refine ze9 [6,7,8,9,10,11] hck ?_;rintro _ _ ⟨rfl,d3,hd3,rfl⟩;conv=>whnf
   have hvc:=Vo.ck hg hv2 (by omega) hd2 (d':=d3) hd3;apply zW (1024) tys_ok mixed (.o [0,1,2,3,4,5,6,7,8,9] (.two 10 (.o [11,12] .fin) 11 (.o [10,12] .fin))) (by kernel_rfl);refine Ae ?_ ?_;conv=>whnf
   try (refine tS ?_;conv=>whnf)
   try (refine tS ?_;conv=>whnf)
   rotate_left 1;conv=>whnf
   try (refine tS ?_;conv=>whnf)
   try (refine tS ?_;conv=>whnf)
   rotate_left 1;all_goals
    exact⟨(i+1,⟨Eb g a2 x,r,DJ g a2 x F2,m2⟩,d3),⟨by show i+1<=min L.length 6;omega,hstep _ ((show (⟨Eb g a2 x,r,DJ g a2 x F2,m2⟩:Md)=XV g ⟨a2,x::r,F2,m2⟩ from rfl).trans (if_pos h3).symm),hd3,hvc.mono (by omega)⟩,by show min L.length 6 - (i+1)<min L.length 6 - i;omega,zG (zJ (Xt (d:=d3) 4 8 12 rfl rfl rfl (by decide) (by decide) (by decide))) (s:= [0,1,2,3,4,5]) ⟨⟨rfl,rfl,rfl,rfl,rfl,rfl,rfl,rfl,rfl,AI (by omega),tv⟩,tA,rfl,rfl,rfl,rfl,rfl⟩⟩
 ·have ei:i=min L.length 6:=by omega
  have hsp:=hsp d hd.ok;have ekm:k=M.m.length:=by have:=hv.m;omega
  conv=>whnf
  by_cases hiL:i<L.length;rw [show decide ((i:Int)<(L.length:Nat))=true from decide_eq_true (by omega)];conv=>whnf
  rw [show decide ((i:Int)<6)=false from decide_eq_false (by omega)];conv=>whnf
  rotate_left 1;rw [show decide ((i:Int)<(L.length:Nat))=false from decide_eq_false (by omega)];conv=>whnf
  all_goals
   apply zW (0) tys_ok mixed (.o [0,1,2,3,5,4,6,7,8] .fin) (by kernel_rfl);conv=>whnf
   refine zZ hsp ?_;conv=>whnf
   try (refine tS ?_;conv=>whnf)
   try (refine tS ?_;conv=>whnf)
  all_goals
   exact⟨.tp [.ag (Fe (AJ M.a M.l)), .ag (EP (f d)), .ow 5 k], .tp [.ag (Fe (AJ M.a M.l)), .ag (EP (f d)), .ow 0 k], [.row 47 1 (M.m.map F9)],fun _ _ h=>h,zS (s:= [5]) tA,M,d,ei ▸ hpl,hd,hv.mono (by omega),by rw [ekm],rfl⟩
theorem Ub (g:Geo) (L:List Q2) (sn:Nat) (sg:Nat->List AV) (f:Dk->Dk) (hsp:∀ d,DkOk d->Fn Tryz.prog 41 [.ag (AU g), .ag (EP d), .sl 4 sn sg] fun r=>r = .ag (EP (f d))) (hg:Bm g=true) (hl:L.length<=1000000):Fn Tryz.prog 11 [.ag (AU g),OF L, .sl 4 sn sg] fun r=>∃ M d,aE g L (min L.length 6) M/\Gd (Aq g) d M.F/\Vo g 14 M/\r = .tp [.ag (Fe (AJ M.a M.l)), .ag (EP (f d)),ER M.m]:=by
 refine ACalls.fn (R3 g L sn sg f hsp hg hl) ?_;rintro _ _ ⟨M,d,h1,h2,h3,rfl,rfl⟩;refine⟨_,z6 _,?_⟩;refine Ae (Ac _).symm ?_;exact⟨.tp [.ag (Fe (AJ M.a M.l)), .ag (EP (f d)),ER M.m],Cf (m:= [.ag (Fe (AJ M.a M.l)), .ag (EP (f d)),ER M.m]) ⟨ri,ri,DL rfl rfl,tv⟩,M,d,h1,h2,h3,rfl⟩
def bl8:List UInt8:= [1,2,3,4,5,6,7,8]
theorem Gd.free {n:Int} {d:Dk} {F:Int->List UInt8} (h:Gd n d F) (q:Int):stuck d q=false:=by
 unfold stuck;refine decide_eq_false fun e=>?_
 by_cases hi:q.toNat<d.cells.length
 ·have:=(h.cell (q.toNat:Nat) (by omega) (by rw [<-h.len];omega)).1;rw [Ab,e] at this;cases this
 ·rw [Aa,AG (by omega)] at e;cases e
theorem U1 {g:Geo} {d:Dk} (h:∀ q,stuck d q=false) {P:Int}:¬∃ j:Nat,j<4/\Lb g d P j=true:=by
 rintro⟨j, -,hj⟩;unfold Lb at hj;rw [h] at hj;cases hj
theorem wakes23_fn:Fn Tryz.prog 13 [] fun r=>r = .v (.bool true):=by
 have h1:=Yf 0 1 0 0 1;have hg:=VB 0 1 0 0 1;have hzd:(KF 0 1 0 0 1).z*(KF 0 1 0 0 1).d=2:=by decide
 have hsl:(KF 0 1 0 0 1).sl=14:=by decide
 generalize KF 0 1 0 0 1=g at h1 hg hzd hsl;have hon:=VW g hg;refine zR Tryz.func13 rfl ?_;conv=>whnf
 refine zZ h1 ?_;conv=>whnf
 refine zI hon rfl ?_;rintro _ ⟨d0,rfl,hd0⟩;have hc0:=Clv.on hg hd0;have hc:=aw (lba:=1) (b:=bl8) hg hc0 (by decide) ⟨by decide,by omega⟩ rfl (by show 4<=g.sl - 0;omega) 0 (by show (0:Int)=((0:Int)+0).tmod g.sl;simp);conv=>whnf
 refine zi Unit (fun _=>([(1, .bp 0 0),(2, .bp 1 0),(3, .bp 2 0),(4,bA bl8)], [.box 23 (AU g), .box 39 (Fe (AJ (Gn g).a (Gn g).l)), .box 43 (EP d0)])) (fun _=>True) ?_ ?_
 ·exact⟨(),tv,zG (zQ (zP 4 3 rfl rfl) (zL 4 rfl (Fb (L:=bl8) rfl rfl))) (s:= [0,1,2]) tA⟩
 intro _ _;conv=>whnf
 refine zN hc.go ?_;refine⟨rfl,?_⟩;refine⟨rfl,?_⟩;conv=>whnf
 refine zX [.ag (AU g), .ag (EP d0), .ag (Fe (AJ (Gn g).a (Gn g).l)),iA [1],ER [bl8]] ⟨ri,ri,ri,DP (L:= [1]) rfl rfl,DL (L:= [bl8]) rfl rfl,tv⟩ ?_;refine zI hc rfl ?_;rintro _ (⟨-,d1,hc1, -,rfl⟩ | ⟨hx, -⟩);rotate_left 1
 ·exact absurd hx (U1 hd0.free)
 have hm0:(Y8 g (Gn g) 1 bl8).m=[zero8,bl8]:=by show (List.replicate (g.z*g.d).toNat zero8).set (1:Int).toNat bl8=_;rw [hzd];try rfl
 have hx1:((Y8 g (Gn g) 1 bl8).l.getD (Int.toNat 0) ⟨0,0,0, []⟩).n=4:=rfl;have hl1:(((Y8 g (Gn g) 1 bl8).l.length:Nat):Int)=1:=rfl;have r1:=(Wn hg hc1 1 (by omega)).2;have r0:=(Wn hg hc1 0 (by omega)).2;rw [hm0] at r1 r0;obtain⟨M,hM⟩:∃ M,M=Y8 g (Gn g) 1 bl8:=⟨_,rfl⟩;rw [<-hM] at r1 r0 hx1 hl1 |-
 clear hc hc1 hm0 hM;have hb1:=Jz bl8 (by decide);have hb0:=Jz zero8 (by decide);conv=>whnf
 refine zI r1 rfl ?_;rintro _ ⟨d2,rfl⟩;conv=>whnf
 refine zI r0 rfl ?_;rintro _ ⟨d3,rfl⟩;conv=>whnf
 rw [show (((AJ M.a M.l).txns.length:Int) == 1)=true from beq_iff_eq.2 hl1];conv=>whnf
 refine Ae ⟨by decide,by show (0:Int)<(M.l.length:Nat);omega⟩ ?_;conv=>whnf
 rw [show (((AJ M.a M.l).txns.getD (Int.toNat 0) ⟨0,0,0, []⟩).n == 4)=true from beq_iff_eq.2 hx1];conv=>whnf
 refine zZ hb1 ?_;refine⟨by decide,?_⟩;conv=>whnf
 refine zN hb0.go ?_;refine⟨by decide,?_⟩;conv=>whnf
 refine zX [bA zero8,bA zero8] ⟨ri,Fb rfl rfl,tv⟩ ?_;refine zZ hb0 ?_;exact⟨_,ri,rfl⟩
theorem xorB_comm:∀ a b:List UInt8,Do a b=Do b a
 | [], []=>rfl
 | [],_::_=>rfl
 | _::_, []=>rfl
 | x::a,y::b=>by
  show (x ^^^ y)::Do a b=(y ^^^ x)::Do b a;rw [xorB_comm a b,UInt8.xor_comm]
theorem xorB_assoc:∀ a b c:List UInt8,Do (Do a b) c=Do a (Do b c)
 | [],_,_=>rfl
 | _::_, [],_=>rfl
 | _::_,_::_, []=>rfl
 | x::a,y::b,z::c=>by
  show (x ^^^ y ^^^ z)::Do (Do a b) c=(x ^^^ (y ^^^ z))::Do a (Do b c);rw [xorB_assoc a b c,UInt8.xor_assoc]
theorem xorB_self:∀ a:List UInt8,Do a a=List.replicate a.length 0
 | []=>rfl
 | x::a=>by
  show (x ^^^ x)::Do a a=0::List.replicate a.length 0;rw [xorB_self a,UInt8.xor_self]
theorem xorB_zero:∀ a:List UInt8,Do a (List.replicate a.length 0)=a
 | []=>rfl
 | x::a=>by
  show (x ^^^ 0)::Do a (List.replicate a.length 0)=x::a;rw [xorB_zero a,UInt8.xor_zero]
theorem Ti {a b:List UInt8} (ha:a.length=8) (hb:b.length=8):Do (Do a b) b=a:=by
 rw [xorB_assoc,xorB_self,hb,<-ha];exact xorB_zero a
theorem Zy {a b:List UInt8} (ha:a.length=8) (hb:b.length=8):(Do a b).length=8:=by
 unfold Do;rw [List.length_zipWith,ha,hb];try rfl
theorem OY {v:Int->List UInt8}:∀ k:Nat,(∀ i:Nat,i<k->(v (i:Nat)).length=8)->(Iw v k).length=8
 | 0,_=>rfl
 | k+1,h=>Zy (OY k fun i hi=>h i (by omega)) (h k (by omega))
def HV (u:Nat->List UInt8) (at_:Nat):Nat->List UInt8
 | 0=>zero8
 | k+1=>if k=at_ then HV u at_ k else Do (HV u at_ k) (u k)
theorem ST {v:Int->List UInt8} {at_ n:Nat} (h:∀ i:Nat,i<n->(v (i:Nat)).length=8):∀ k:Nat,k<=n->HV (fun i=>v (i:Nat)) at_ k=if k<=at_ then Iw v k else Do (Iw v k) (v (at_:Nat))
 | 0,_=>by rw [if_pos (Aj _)];rfl
 | k+1,hk=>by
  have ih:=ST (at_:=at_) h k (by omega);have h8:=OY (v:=v) k fun i hi=>h i (by omega)
  have hk8:=h k (by omega);rw [HV,Iw];by_cases e:k=at_
  ·subst e;rw [if_pos (Ah _)] at ih;rw [if_pos rfl,if_neg (by omega),ih,Ti h8 hk8]
  ·rw [if_neg e,ih];by_cases l:k<at_
   ·rw [if_pos (by omega),if_pos (by omega)]
   ·rw [if_neg (by omega),if_neg (by omega),xorB_assoc,xorB_assoc,xorB_comm (v (at_:Nat))]
theorem U2 {v:Int->List UInt8} {at_ d:Nat} (h:∀ i:Nat,i<d->(v (i:Nat)).length=8) (ha:at_<d) (hp:v (-1)=Iw v d):HV (fun i=>if i<d then v (i:Nat) else v (-1)) at_ (d+1)=v (at_:Nat):=by
 have e:∀ k,k<=d->HV (fun i=>if i<d then v (i:Nat) else v (-1)) at_ k=HV (fun i=>v (i:Nat)) at_ k:=by
  intro k;induction k with
  | zero=>intro _;rfl
  | succ k ih=>
   intro hk;rw [HV,HV,ih (by omega),if_pos (show k<d by omega)]
 have h8:=OY (v:=v) d h;rw [HV,if_neg (by omega),e d (Ah _),ST h d (Ah _),if_neg (by omega),if_neg (by omega),hp,xorB_comm,<-xorB_assoc,xorB_self,h8,xorB_comm];have:=xorB_zero (v (at_:Nat));rwa [h at_ ha] at this
theorem KQ {t:List Ent} {had:List (List UInt8)} {u:Nat->List UInt8} {at_ n:Nat} (hl:∀ i,i<n->(t.getD i ez).lost=false) (hh:∀ i,i<n->had.getD i []=[]\/had.getD i []=u i):∀ k,k<=n->∀ b,Dl t had at_ k=some b->b=HV u at_ k
 | 0,_,b,h=>(Option.some.inj h).symm
 | k+1,hk,b,h=>by
  have ih:=KQ (at_:=at_) hl hh k (by omega);rw [Dl] at h;rw [HV];cases ho:Dl t had at_ k with
  | none=>rw [ho] at h;cases h
  | some c=>
   rw [ho] at h;simp only at h;have ec:=ih c ho;rw [hl k (by omega)] at h;by_cases e:k=at_
   ·rw [if_pos (.inl e)] at h;rw [if_pos e,<-ec];exact(Option.some.inj h).symm
   ·rw [if_neg (fun q=>q.elim e fun q=>by cases q)] at h;rw [if_neg e];rcases hh k (by omega) with q | q
    ·rw [q,if_pos (show ([]:List UInt8).length=0 from rfl)] at h;cases h
    ·split at h
     ·cases h
     ·rw [<-q,<-ec];exact(Option.some.inj h).symm
def bo (g:Geo) (F:Int->List UInt8) (G:Gr):Prop:=∀ q,g.an+2*g.sl<=q->q<Aq g->(G q).err=0->Cn (G q).bytes=0->(G q).bytes=F q\/BZ (G q).bytes≠q\/Bi (G q).bytes≠Bi (F q)
def aC (g:Geo) (F:Int->List UInt8):Prop:=∀ z,0<=z->z<g.z->Bi (F (A6 g z 0))=Bi (F (A6 g z 1))/\Cc (F (A6 g z 0))=Cc (F (A6 g z 1))
theorem QY {g:Geo} {F:Int->List UInt8} {G:Gr} (h:bo g F G) {q:Int} (h0:g.an+2*g.sl<=q) (h1:q<Aq g) {s:Sec} (hs:BF (G q) q=some s) (e:s.stamp=Bi (F q)):s.pay=Cc (F q):=by
 unfold BF at hs;split at hs
 ·rename_i c;have:=Option.some.inj hs;subst this;rcases h q h0 h1 c.1 c.2.1 with e2 | e2 | e2
  ·show Cc (G q).bytes=_;rw [e2]
  ·exact absurd c.2.2 e2
  ·exact absurd e e2
 ·cases hs
theorem GI {g:Geo} {x:Gt} {q root:Int} {t:List Ent} (h:BH g x q root=some t):∃ s,BF x q=some s/\s.stamp=root/\BW g s.pay=some t:=by
 unfold BH at h;split at h
 ·rename_i s hs;split at h
  ·rename_i e;exact⟨s,hs,e,h⟩
  ·cases h
 ·cases h
theorem Ld {x:Gt} {q:Int} {e:Ent} {p:List UInt8} (h:CY x q e=some p):∃ s,BF x q=some s/\s.stamp=e.stamp/\s.pay=p:=by
 unfold CY at h;split at h
 ·rename_i s hs;split at h
  ·rename_i c;exact⟨s,hs,c.1,Option.some.inj h⟩
  ·cases h
 ·cases h
theorem VF {b:List UInt8} {q:Int} {s:Sec} (h:BF ⟨0,b⟩ q=some s):s.stamp=Bi b/\s.pay=Cc b:=by
 unfold BF at h;split at h
 ·rw [<-Option.some.inj h];exact tA
 ·cases h
theorem ZA {g:Geo} (hg:Bm g=true) {s:Stt} {F:Int->List UInt8} {G:Gr} (h:bo g F G) (h2:aC g F) {z:Int} (hz:0<=z/\z<g.z) {t t':List Ent} (ht:EW g s F z=some t) (ht':G0 g s G z=some t'):t'=t:=by
 have i0:=D5 hg hz (k:=0) (by omega);have i1:=D5 hg hz (k:=1) (by omega);unfold EW at ht;unfold G0 at ht';cases hf:Cr s.txns z 255 with
 | some p=>
  rw [hf] at ht ht';simp only at ht ht';rw [ht] at ht';exact(Option.some.inj ht').symm
 | none=>
  rw [hf] at ht ht';simp only at ht ht';obtain⟨e1,e2⟩:=h2 z hz.1 hz.2;have key:Bi (F (A6 g z 0))=Cm s.a s.txns z/\BW g (Cc (F (A6 g z 0)))=some t:=by
   split at ht
   ·rename_i t0 h0;obtain⟨x,x1,x2,x3⟩:=GI h0;obtain⟨y1,y2⟩:=VF x1;rw [<-y1,<-y2,x3];exact⟨x2,ht⟩
   ·obtain⟨x,x1,x2,x3⟩:=GI ht;obtain⟨y1,y2⟩:=VF x1;rw [e1,e2,<-y1,<-y2];exact⟨x2,x3⟩
  split at ht'
  ·rename_i t0 h0;obtain⟨x,x1,x2,x3⟩:=GI h0;rw [QY h i0.1 i0.2.2 x1 (x2.trans key.1.symm),key.2] at x3;rw [<-Option.some.inj ht'];exact(Option.some.inj x3).symm
  ·obtain⟨x,x1,x2,x3⟩:=GI ht';rw [QY h i1.1 i1.2.2 x1 (by rw [x2,<-e1];exact key.1.symm),<-e2,key.2] at x3;exact(Option.some.inj x3).symm
theorem ZB {g:Geo} (hg:Bm g=true) {a:An} (ha:Bn g a=true) {l:List Tx} {F:Int->List UInt8} {G:Gr} (h:bo g F G) {z:Int} (hz:0<=z/\z<g.z) {t:List Ent} {v:Int->List UInt8} (hv:ZoneV g a l F z t v) {w:Int} (hw : -1<=w/\w<g.d):Fi g (AJ a l) G t z w=[]\/Fi g (AJ a l) G t z w=v w:=by
 obtain⟨g1,g2,g3,g4,g5⟩:=Ar.1 hg;have hval:=hv.val w hw.1 hw.2;unfold Fi;show (match Cr l z w with | some p=>p.1.bytes | none=>_)=[]\/(match Cr l z w with | some p=>p.1.bytes | none=>_)=v w;cases hf:Cr l z w with
 | some p=>
  rw [hf] at hval;exact .inr hval.1
 | none=>
  rw [hf] at hval;simp only at hval |-
  obtain⟨i,e1,e2⟩:=Em hg ha hz hw;have hsl:=E0 hg hz e2;rw [<-e1] at hsl;obtain⟨x,x1,x2,x3⟩:=Ld hval;obtain⟨y1,y2⟩:=VF x1;cases hb:CY (G (B4 g a z w)) (B4 g a z w) (t.getD (Ev g w).toNat ez) with
  | none=>exact .inl (by show (CY (G (B4 g a z w)) (B4 g a z w) (t.getD (Ev g w).toNat ez)).getD []=[];rw [hb];rfl)
  | some p=>
   obtain⟨u,u1,u2,u3⟩:=Ld hb;have:=QY h (by omega) (by omega) u1 (by rw [u2,<-x2];exact y1);refine .inr ?_;show (CY (G (B4 g a z w)) (B4 g a z w) (t.getD (Ev g w).toNat ez)).getD []=v w;rw [hb];show p=v w;rw [<-u3,this,<-y2,x3]
theorem Ye {g:Geo} (hg:Bm g=true) {a:An} (ha:Bn g a=true) {l:List Tx} {F:Int->List UInt8} {G:Gr} {V:Int->Int->List UInt8} (hV:VolV g a l F V) (h:bo g F G) (h2:aC g F) {z w:Int} (hz:0<=z/\z<g.z) (hw:0<=w/\w<g.d) {b:List UInt8} (hb:MR g (AJ a l) G z w=some b):b=V z w:=by
 obtain⟨g1,g2,g3,g4,g5⟩:=Ar.1 hg;obtain⟨t,ht⟩:=hV z hz.1 hz.2;unfold MR at hb;cases hts:G0 g (AJ a l) G z with
 | none=>rw [hts] at hb;cases hb
 | some t'=>
  obtain rfl:=ZA hg h h2 hz ht.tab hts;rw [hts] at hb;simp only at hb;have hone:=fun w hw=>ZB hg ha h hz ht (w:=w) hw
  have hw0:=hone w ⟨by omega,hw.2⟩;have hlo:∀ i,i<g.d.toNat+1->(t'.getD i ez).lost=false:=fun i hi=>by
   by_cases e:i=g.d.toNat
   ·have:=(ht.ent (-1) (by omega) (by omega)).1;rwa [show (Ev g (-1)).toNat=i by unfold Ev;rw [if_pos rfl,e]] at this
   ·have:=(ht.ent (i:Nat) (by omega) (by omega)).1;rwa [show (Ev g (i:Nat)).toNat=i by unfold Ev;rw [if_neg (by omega)];omega] at this
  have hhad:∀ i,i<g.d.toNat+1->(EI g (AJ a l) G t' z).getD i []=[]\/(EI g (AJ a l) G t' z).getD i []=if i<g.d.toNat then V z (i:Nat) else V z (-1):=fun i hi=>by
   have e:(EI g (AJ a l) G t' z).getD i []=Fi g (AJ a l) G t' z (QJ g i):=by
    unfold EI;rw [Aa,AS,Bl hi];try rfl
   rw [e];by_cases q:i<g.d.toNat
   ·rw [if_pos q,show QJ g i=(i:Int) by unfold QJ;rw [if_neg (by omega)]];exact hone _ ⟨by omega,by omega⟩
   ·rw [if_neg q,show QJ g i = -1 by unfold QJ;rw [if_pos (by omega)]];exact hone _ ⟨by omega,by omega⟩
  have hkn:BK g t' (EI g (AJ a l) G t' z) w.toNat=[]\/BK g t' (EI g (AJ a l) G t' z) w.toNat=V z w:=by
   have hwn:w.toNat<g.d.toNat:=by omega
   have hh:=hhad w.toNat (by omega);rw [if_pos hwn,C5 hw.1] at hh;unfold BK;rw [hlo _ (by omega),if_neg (by decide)];split
   ·exact hh
   ·split
    ·exact .inl rfl
    ·rename_i c hc;split
     ·have e1:=KQ (u:=fun i=>if i<g.d.toNat then V z (i:Nat) else V z (-1)) hlo hhad _ (Ah _) c hc;have e2:=U2 (v:=V z) (at_:=w.toNat) (d:=g.d.toNat) (fun i hi=>ht.len _ (by omega) (by omega)) hwn ht.par;rw [C5 hw.1] at e2;exact .inr (e1.trans e2)
     ·exact .inl rfl
  split at hb
  ·cases hb
  ·split at hb
   ·rename_i hl;rw [<-Option.some.inj hb];rcases hw0 with q | q
    ·rw [q] at hl;exact absurd hl (by decide)
    ·exact q
   ·split at hb
    ·rename_i hl;rw [<-Option.some.inj hb];rcases hkn with q | q
     ·rw [q] at hl;exact absurd hl (by decide)
     ·exact q
    ·cases hb
theorem Ib {F:Int->List UInt8} {q:Int} (h0:0<=q):∀ (n:Nat) (l:List Wr),l.length=n->(∀ w∈l,w.addr≠q)->FU F l (-1 - q)=F (-1 - q)
 | 0,l,hn,_=>by
  obtain rfl:=AN.1 hn;rfl
 | n+1,l,hn,h=>by
  rcases BX l with rfl | ⟨m,w,rfl⟩
  ·rfl
  ·have ih:=Ib (F:=F) h0 n m (by simpa using hn) (fun x hx=>h x (by simp [hx]));rw [BY,GZ];unfold Sq;rw [if_neg (show ¬(0:Int)<= -1 - q by omega),show -1 - (-1 - q)=q by omega,if_neg (h w (by simp))];exact ih
def OnceW (l:List Wr):Prop:=l.Pairwise fun x y=>x.addr≠y.addr
theorem OnceW.eq:∀ {l:List Wr},OnceW l->∀ x∈l,∀ y∈l,x.addr=y.addr->x=y
 | [],_,x,hx,_,_,_=>by cases hx
 | w::l,h,x,hx,y,hy,e=>by
  obtain⟨h1,h2⟩:=CZ.1 h;rcases AK.1 hx with q | q
  ·rcases AK.1 hy with r | r
   ·rw [q,r]
   ·exact absurd (q ▸ e) (h1 y r)
  ·rcases AK.1 hy with r | r
   ·exact absurd (r ▸ e.symm) (h1 x q)
   ·exact OnceW.eq h2 x q y r e
theorem Vw {F:Int->List UInt8} {l:List Wr} (h:OnceW l) {w:Wr} (hw:w∈l) (h0:0<=w.addr):FU F l w.addr=w.bytes:=On h0 _ _ rfl ⟨w,hw,rfl⟩ fun x hx e=>by rw [h.eq x hx w hw e]
theorem Pw {F:Int->List UInt8} {q:Int} (h0:0<=q):∀ (n:Nat) (l:List Wr),l.length=n->OnceW l->(∃ w∈l,w.addr=q)->FU F l (-1 - q)=F q
 | 0,l,hn,_,⟨w,hw,_⟩=>by
  obtain rfl:=AN.1 hn;cases hw
 | n+1,l,hn,h,hex=>by
  rcases BX l with rfl | ⟨m,w,rfl⟩
  ·cases hn
  ·rw [BY] at h hex |-
   obtain⟨h1, -,h3⟩:=List.pairwise_append.1 h;rw [GZ];unfold Sq;rw [if_neg (show ¬(0:Int)<= -1 - q by omega),show -1 - (-1 - q)=q by omega];by_cases e:w.addr=q
   ·rw [if_pos e,e];exact EU h0 _ _ rfl fun x hx e2=>h3 x hx w (Ay.2 rfl) (e2.trans e.symm)
   ·rw [if_neg e];obtain⟨x,hx,hxe⟩:=hex;rcases A2.1 hx with hx | hx
    ·exact Pw h0 n m (by simpa using hn) h1 ⟨x,hx,hxe⟩
    ·rw [Ay] at hx;exact absurd (hx ▸ hxe) e
def OwnF (n:Int) (F:Int->List UInt8):Prop:=∀ p,0<=p->p<n->(Cn (F p)=0->BZ (F p)=p)/\(Cn (F (-1 - p))=0->BZ (F (-1 - p))=p)
theorem OwnF.up {n:Int}:∀ (W:List Wr) {F:Int->List UInt8},OwnF n F->(∀ w∈W,BZ w.bytes=w.addr)->OwnF n (FU F W)
 | [],_,h,_=>h
 | w::W,F,h,hW=>OwnF.up W (F:=Sq F w) (fun p h0 h1=>by
   obtain⟨q1,q2⟩:=h p h0 h1;unfold Sq;rw [if_pos h0,if_neg (show ¬0<= -1 - p by omega),show -1 - (-1 - p)=p by omega];refine⟨?_,?_⟩
   ·split
    ·rename_i e;exact fun _=>e ▸ hW w DC
    ·exact q1
   ·split
    ·rename_i e;rw [e];exact q1
    ·exact q2) fun x hx=>hW x (AM _ hx)
structure Zs (g:Geo) (F:Int->List UInt8) (S:Int):Prop where
 op:∀ q,g.an+2*g.sl<=q->q<Aq g->Cn (F q)=0
 st:∀ q,g.an+2*g.sl<=q->q<Aq g->Bi (F q)<S
 od:∀ q,g.an+2*g.sl<=q->q<Aq g->Cn (F (-1 - q))=0->Bi (F (-1 - q))≠Bi (F q)
def Tf (l:List Img):Prop:=l.Pairwise fun x y=>¬(x.zone=y.zone/\x.what=y.what)
structure Sx (g:Geo) (M:Md):Prop where
 own:OwnF (Aq g) M.F
 zs:Zs g M.F M.a.seq
 two:aC g M.F
 one:∀ t∈M.l,Tf t.images
theorem KU {g:Geo} (hg:Bm g=true) {a:An} (ha:Bn g a=true) {seq:Int}:∀ {l:List Img},(∀ x∈l,B3 g x=true)->Tf l->OnceW (CR g a seq l)
 | [],_,_=>List.Pairwise.nil
 | x::r,hl,h=>by
  obtain⟨h1,h2⟩:=CZ.1 h;have hx:=hl x DC;obtain⟨hxz,hxb⟩:=D0 hx;refine List.pairwise_append.2 ⟨?_,KU hg ha (fun y hy=>hl y (AM _ hy)) h2,fun w hw v hv e=>?_⟩
  ·unfold EM;split
   ·refine CZ.2 ⟨fun y hy e=>?_,List.pairwise_singleton _ _⟩;rw [Ay] at hy;rw [hy] at e;have e:A6 g x.zone 0=A6 g x.zone 1:=e;unfold A6 at e;omega
   ·exact List.pairwise_singleton _ _
  ·obtain⟨y,hy,hv⟩:=G7.1 hv;have hyo:=hl y (AM _ hy);obtain⟨hyz,hyb⟩:=D0 hyo;apply h1 y hy;rcases Is hg ha hx hw with ⟨w1,j,hj,rfl⟩ | ⟨w1,⟨s,w2,w3⟩,w4⟩
   ·rcases Is hg ha hyo hv with ⟨v1,k,hk,rfl⟩ | ⟨v1,⟨s',v2,v3⟩,v4⟩
    ·have e:A6 g x.zone j=A6 g y.zone k:=e;unfold A6 at e;exact⟨by omega,by rw [w1,v1]⟩
    ·have e:A6 g x.zone j=v.addr:=e;have i1:=D5 hg hxz (k:=j) (by omega);have i2:=E0 hg hyz v3;omega
   ·rcases Is hg ha hyo hv with ⟨v1,k,hk,rfl⟩ | ⟨v1,⟨s',v2,v3⟩,v4⟩
    ·have e:w.addr=A6 g y.zone k:=e;have i1:=D5 hg hyz (k:=k) (by omega);have i2:=E0 hg hxz w3;omega
    ·have e1:w.addr=B4 g a x.zone x.what:=by rw [w4]
     have e2:v.addr=B4 g a y.zone y.what:=by rw [v4]
     have b1:=hxb w1;have b2:=hyb v1;exact Oi hg ha hxz hyz ⟨by omega,by omega⟩ ⟨by omega,by omega⟩ (by rw [<-e1,<-e2];exact e)
theorem Qf {g:Geo} (hg:Bm g=true) {a:An} (ha:Bn g a=true) {seq:Int} (hs:0<=seq/\seq<=4294967295) {l:List Img} (hl:∀ x∈l,B3 g x=true):∀ w∈CR g a seq l,Cn w.bytes=0/\BZ w.bytes=w.addr/\Bi w.bytes=seq:=fun w hw=>by
 have hb:=NJ hg ha hl w hw;obtain⟨g1,g2,g3,g4,g5⟩:=Ar.1 hg;have hcb:=D9 hg;obtain⟨y,hy,hv⟩:=G7.1 hw;have hlen:=Eg hg (hl y hy);rcases Is hg ha (hl y hy) hv with ⟨-,k, -,rfl⟩ | ⟨-, -,rfl⟩
 ·have q:g.an+2*g.sl<=A6 g y.zone k/\A6 g y.zone k<Aq g:=hb;have o:=C8 (a:=A6 g y.zone k) (s:=seq) (p:=y.bytes) ⟨by omega,by omega,hs.1,hs.2,by omega⟩;exact⟨o.1,o.2.1,o.2.2.1⟩
 ·have q:g.an+2*g.sl<=B4 g a y.zone y.what/\B4 g a y.zone y.what<Aq g:=hb;have o:=C8 (a:=B4 g a y.zone y.what) (s:=seq) (p:=y.bytes) ⟨by omega,by omega,hs.1,hs.2,by omega⟩;exact⟨o.1,o.2.1,o.2.2.1⟩
theorem JY {g:Geo} (hg:Bm g=true) {a:An} (ha:Bn g a=true):∀ w∈Ba g a,BZ w.bytes=w.addr:=fun w hw=>by
 obtain⟨g1,g2,g3,g4,g5⟩:=Ar.1 hg;have hcb:=D9 hg;have hcg:=Ey hg;obtain⟨i,hi,rfl⟩:=DR hw;exact(C8 (II hg ha (i:=(i:Nat)) ⟨by omega,by omega⟩)).2.1
theorem Sx.ck {g:Geo} (hg:Bm g=true) {K:Int} {D:Dk} {M:Md} (hK:K<=4294967294) (hv:Vol g K D (AJ M.a M.l)) (h:Sx g M):Sx g (XV g M):=by
 obtain⟨g1,g2,g3,g4,g5⟩:=Ar.1 hg;obtain⟨a,l,F,m⟩:=M;cases l with
 | nil=>exact h
 | cons x r=>
  have ha:Bn g a=true:=hv.an;obtain⟨a1,a2,a3,a4⟩:=Ej ha;have hv2:=hv.home hg (x:=x) (r:=r) rfl hK (d':=D) hv.gd;have ha2:Bn g (Eb g a x)=true:=hv2.an;have hr:Cw g (x::r) a.seq a.pos g.sl=true:=hv.ring;have hx:=(Dp hr x DC).1;have hxi:∀ y∈x.images,B3 g y=true:=Av.1 hx;have hseq:x.seq=a.seq:=by
   simp only [Cw,Ad,decide_eq_true_eq] at hr;exact hr.1.1
  have hsl:=Qf hg ha (seq:=x.seq) (by omega) hxi;have hon:=KU hg ha (seq:=x.seq) hxi (h.one x DC);have hin:=NJ hg ha (seq:=x.seq) hxi;have anw:∀ {q:Int},g.an+2*g.sl<=q->∀ w∈Ba g (Eb g a x),w.addr≠q:=fun hq w hw e=>by
   obtain⟨j,hj,rfl⟩:=DR hw;have e':(j:Int)=_:=e;omega
  have eF:∀ q,g.an+2*g.sl<=q->DJ g a x F q=FU F (CR g a x.seq x.images) q:=fun q hq=>EU (by omega) _ _ rfl (anw hq)
  have eO:∀ q,g.an+2*g.sl<=q->DJ g a x F (-1 - q)=FU F (CR g a x.seq x.images) (-1 - q):=fun q hq=>Ib (by omega) _ _ rfl (anw hq)
  have own1:OwnF (Aq g) F:=h.own;have zop:=h.zs.op;have zst:=h.zs.st;have zod:=h.zs.od;simp only at zop zst zod;have cs:∀ q,g.an+2*g.sl<=q->(∃ w∈CR g a x.seq x.images,w.addr=q/\DJ g a x F q=w.bytes/\DJ g a x F (-1 - q)=F q)\/(DJ g a x F q=F q/\DJ g a x F (-1 - q)=F (-1 - q)):=fun q hq=>by
   rw [eF q hq,eO q hq];by_cases hx:∃ w∈CR g a x.seq x.images,w.addr=q
   ·obtain⟨w,hw,e⟩:=hx;refine .inl ⟨w,hw,e,?_,Pw (by omega) _ _ rfl hon ⟨w,hw,e⟩⟩;rw [<-e];exact Vw hon hw (by omega)
   ·exact .inr ⟨EU (by omega) _ _ rfl fun w hw e=>hx ⟨w,hw,e⟩,Ib (by omega) _ _ rfl fun w hw e=>hx ⟨w,hw,e⟩⟩
  refine⟨OwnF.up _ (OwnF.up _ own1 fun w hw=>(hsl w hw).2.1) (JY hg ha2),⟨fun q h0 h1=>?_,fun q h0 h1=>?_,fun q h0 h1=>?_⟩,fun z h0 h1=>?_,fun t ht=>h.one t (AM _ ht)⟩
  ·show Cn (DJ g a x F q)=0;rcases cs q h0 with ⟨w,hw,e,e1,e2⟩ | ⟨e1,e2⟩
   ·rw [e1];exact(hsl w hw).1
   ·rw [e1];exact zop q h0 h1
  ·show Bi (DJ g a x F q)<a.seq+1;rcases cs q h0 with ⟨w,hw,e,e1,e2⟩ | ⟨e1,e2⟩
   ·rw [e1,(hsl w hw).2.2];omega
   ·rw [e1];have:=zst q h0 h1;omega
  ·show Cn (DJ g a x F (-1 - q))=0->Bi (DJ g a x F (-1 - q))≠Bi (DJ g a x F q);rcases cs q h0 with ⟨w,hw,e,e1,e2⟩ | ⟨e1,e2⟩
   ·intro _;rw [e1,e2,(hsl w hw).2.2];have:=zst q h0 h1;omega
   ·rw [e1,e2];exact zod q h0 h1
  ·have t0:=D5 hg (z:=z) (k:=0) ⟨h0,h1⟩ (by omega);have t1:=D5 hg (z:=z) (k:=1) ⟨h0,h1⟩ (by omega);have q0:=Om hg ha hxi (seq:=x.seq) (F:=F) ⟨h0,h1⟩ (c:=0) (by omega) _ (Ah _);have q1:=Om hg ha hxi (seq:=x.seq) (F:=F) ⟨h0,h1⟩ (c:=1) (by omega) _ (Ah _);rw [Aw] at q0 q1;show Bi (DJ g a x F (A6 g z 0))=Bi (DJ g a x F (A6 g z 1))/\Cc (DJ g a x F (A6 g z 0))=Cc (DJ g a x F (A6 g z 1));rw [eF _ t0.1,eF _ t1.1,q0,q1];have hcb:=D9 hg;cases hf:Cv x.images z 255 x.images.length with
   | none=>exact h.two z h0 h1
   | some i=>
    have hb:i.bytes.length<=96:=by
     have hm:i∈x.images:=by
      have:=Hp (Ah _) hf;exact this.1
     have:=Eg hg (hxi i hm);omega
    have o0:=C8 (a:=A6 g z 0) (s:=x.seq) (p:=i.bytes) ⟨by omega,by omega,by omega,by omega,hb⟩;have o1:=C8 (a:=A6 g z 1) (s:=x.seq) (p:=i.bytes) ⟨by omega,by omega,by omega,by omega,hb⟩;simp only;rw [o0.2.2.1,o1.2.2.1,o0.2.2.2,o1.2.2.2];exact tA
theorem YX {g:Geo} (hg:Bm g=true) {a:An} {l:List Tx} {F:Int->List UInt8} {lba:Int} {b:List UInt8} (hlba:0<=lba/\lba<g.z*g.d):Tf (GD g a l F lba b).images:=by
 obtain⟨g1,g2,g3,g4,g5⟩:=Ar.1 hg;have hm:=(J3 hg hlba).2;show Tf (GM g (AJ a l) F _ lba b);unfold GM;split
 ·refine CZ.2 ⟨fun y hy e=>?_,CZ.2 ⟨fun y hy e=>?_,List.pairwise_singleton _ _⟩⟩
  ·have e2:lba.tmod g.d=y.what:=e.2;rcases AK.1 hy with rfl | hy
   ·have e2:lba.tmod g.d = -1:=e2;omega
   ·rw [Ay] at hy;rw [hy] at e2;have e2:lba.tmod g.d=255:=e2;omega
  ·rw [Ay] at hy;rw [hy] at e;exact absurd (show (-1:Int)=255 from e.2) (by decide)
 ·exact List.Pairwise.nil
theorem Sx.cm {g:Geo} (hg:Bm g=true) {M M':Md} {lba:Int} {b:List UInt8} (hlba:0<=lba/\lba<g.z*g.d) (h:Sx g M) (hc:b8 g M lba b M'):Sx g M':=by
 obtain⟨g1,g2,g3,g4,g5⟩:=Ar.1 hg;rcases hc with ⟨-, -,W,hW,rfl⟩ | ⟨-,rfl⟩
 rotate_left 1
 ·exact h
 have far:∀ {q:Int},g.an+2*g.sl<=q->∀ w∈W,w.addr≠q:=fun hq w hw e=>by have:=(hW w hw).1.2.1;omega
 have eF:∀ q,g.an+2*g.sl<=q->FU M.F W q=M.F q:=fun q hq=>EU (by omega) _ _ rfl (far hq)
 have eO:∀ q,g.an+2*g.sl<=q->FU M.F W (-1 - q)=M.F (-1 - q):=fun q hq=>Ib (by omega) _ _ rfl (far hq)
 refine⟨OwnF.up W h.own fun w hw=>(hW w hw).1.2.2,⟨fun q h0 h1=>?_,fun q h0 h1=>?_,fun q h0 h1=>?_⟩,fun z h0 h1=>?_,fun t ht=>?_⟩
 ·show Cn (FU M.F W q)=0;rw [eF q h0];exact h.zs.op q h0 h1
 ·show Bi (FU M.F W q)<M.a.seq;rw [eF q h0];exact h.zs.st q h0 h1
 ·show Cn (FU M.F W (-1 - q))=0->Bi (FU M.F W (-1 - q))≠Bi (FU M.F W q);rw [eF q h0,eO q h0];exact h.zs.od q h0 h1
 ·have t0:=D5 hg (z:=z) (k:=0) ⟨h0,h1⟩ (by omega);have t1:=D5 hg (z:=z) (k:=1) ⟨h0,h1⟩ (by omega);show Bi (FU M.F W (A6 g z 0))=Bi (FU M.F W (A6 g z 1))/\Cc (FU M.F W (A6 g z 0))=Cc (FU M.F W (A6 g z 1));rw [eF _ t0.1,eF _ t1.1];exact h.two z h0 h1
 ·rcases A2.1 ht with q | q
  ·exact h.one t q
  ·rw [Ay] at q;rw [q];exact YX hg hlba
theorem Hj {g:Geo} (hg:Bm g=true) {q:Int} (h0:g.an+2*g.sl<=q) (h1:q<Aq g):∃ p,Vl q 0 p/\Ga g ⟨#[]⟩ q=Ce q 0 p/\(q<g.an+2*g.sl+2*g.z->p=Da (Fd g)):=by
 obtain⟨g1,g2,g3,g4,g5⟩:=Ar.1 hg;have hcb:=D9 hg;unfold Ga;rw [if_neg (by omega),if_neg (by omega),if_neg (by omega)];by_cases h:q<g.an+2*g.sl+2*g.z
 ·rw [if_pos h];exact⟨_,⟨by omega,by omega,by omega,by omega,by rw [EV];unfold Fd;rw [Bw];omega⟩,rfl,fun _=>rfl⟩
 ·rw [if_neg h];exact⟨zero8,⟨by omega,by omega,by omega,by omega,by decide⟩,rfl,fun q=>absurd q h⟩
def Zu (g:Geo) (q:Int):List UInt8:=if q<0 then [] else Ga g ⟨#[]⟩ q
theorem Ze {g:Geo} (hg:Bm g=true):OwnF (Aq g) (Zu g):=fun p h0 h1=>by
 obtain⟨g1,g2,g3,g4,g5⟩:=Ar.1 hg;have hb:=IG (g:=g) (s:=⟨#[]⟩) hg lab_nil;have hcb:=D9 hg;unfold Zu;rw [if_neg (by omega),if_pos (by omega)];refine⟨fun _=>?_,fun h=>absurd h (by decide)⟩;by_cases c:g.an+2*g.sl<=p
 ·obtain⟨b,hb,e, -⟩:=Hj hg c h1;rw [e];exact(C8 hb).2.1
 ·unfold Ga;by_cases c1:p<g.an
  ·rw [if_pos c1];exact(C8 (II hg hb (i:=p) ⟨by omega,by omega⟩)).2.1
  ·rw [if_neg c1];by_cases c2:p<g.an+g.sl
   ·rw [if_pos c2,JX hg (EG hg) (.inl rfl) ⟨by omega,by omega⟩];unfold Bh;omega
   ·rw [if_neg c2,if_pos (by omega),JX hg (EG hg) (.inr rfl) ⟨by omega,by omega⟩];unfold Bh;omega
theorem Zm {g:Geo} (hg:Bm g=true) {p:Int} (h0:0<=p) (h1:p<Aq g):(Gn g).F p=FU (Zu g) (Ba g (De (BO g ⟨#[]⟩) 0)) p/\(Gn g).F (-1 - p)=FU (Zu g) (Ba g (De (BO g ⟨#[]⟩) 0)) (-1 - p):=by
 obtain⟨g1,g2,g3,g4,g5⟩:=Ar.1 hg;generalize hc:De (BO g ⟨#[]⟩) 0=c;refine⟨?_,?_⟩
 ·show Iy (Aq g) (Mg g (De (BO g ⟨#[]⟩) 0)) p=_;rw [hc,SY h0 h1];unfold Mg;rw [if_neg (by omega)];unfold bW;by_cases q:p<g.an
  ·rw [if_pos q];refine(On h0 _ _ rfl ⟨⟨p,Dq c p⟩,?_,rfl⟩ fun w hw e=>?_).symm
   ·simp only [Ba,AQ,AR];exact⟨p.toNat,by omega,by rw [C5 h0]⟩
   ·obtain⟨j,_,rfl⟩:=DR hw;exact congrArg (Dq c) e
  ·rw [if_neg q,EU h0 _ _ rfl fun w hw e=>?_]
   ·unfold Zu;rw [if_neg (by omega)]
   ·obtain⟨j,hj,rfl⟩:=DR hw;have e':(j:Int)=p:=e;omega
 ·show Iy (Aq g) (Mg g (De (BO g ⟨#[]⟩) 0)) (-1 - p)=_;rw [hc];unfold Iy Mg;rw [if_pos ⟨by omega,by omega⟩,if_pos (by omega),show -1 - (-1 - p)=p by omega];have hf:=M6 (s:=⟨#[]⟩) hg h0 h1;have hl:=(ID (g:=g) (s:=⟨#[]⟩) hg).len;refine Pe h0 (by omega) ?_ ?_ _ _ rfl fun w hw=>?_
  ·rw [hf];unfold Zu;rw [if_neg (by omega)];exact tA
  ·rw [hf];unfold Zu;rw [if_pos (by omega)]
  ·obtain⟨j,hj,rfl⟩:=DR hw;show (0:Int)<=(j:Nat);omega
theorem ZX {g:Geo} (hg:Bm g=true):Sx g (Gn g):=by
 obtain⟨g1,g2,g3,g4,g5⟩:=Ar.1 hg;obtain⟨-, -, -, -, -,hvo⟩:=PV hg;have ha:Bn g (Gn g).a=true:=hvo.an;obtain⟨a1,a2,a3,a4⟩:=Ej ha;have hup:=OwnF.up _ (Ze hg) (JY hg (show Bn g (De (BO g ⟨#[]⟩) 0)=true from ha));have eF:∀ q,g.an+2*g.sl<=q->q<Aq g->(Gn g).F q=Ga g ⟨#[]⟩ q/\(Gn g).F (-1 - q)=[]:=fun q h0 h1=>by
  obtain⟨e1,e2⟩:=Zm hg (p:=q) (by omega) h1;have far:∀ w∈Ba g (De (BO g ⟨#[]⟩) 0),w.addr≠q:=fun w hw e=>by
   obtain⟨j,hj,rfl⟩:=DR hw;have e':(j:Int)=q:=e;omega
  rw [e1,e2,EU (by omega) _ _ rfl far,Ib (by omega) _ _ rfl far];unfold Zu;rw [if_neg (by omega),if_pos (by omega)];exact tA
 refine⟨fun p h0 h1=>?_,⟨fun q h0 h1=>?_,fun q h0 h1=>?_,fun q h0 h1=>?_⟩,fun z h0 h1=>?_,fun t ht=>absurd ht D3⟩
 ·obtain⟨e1,e2⟩:=Zm hg h0 h1;rw [e1,e2];exact hup p h0 h1
 ·rw [(eF q h0 h1).1];obtain⟨p,hp,e, -⟩:=Hj hg h0 h1;rw [e];exact(C8 hp).1
 ·rw [(eF q h0 h1).1];obtain⟨p,hp,e, -⟩:=Hj hg h0 h1;rw [e,(C8 hp).2.2.1];omega
 ·rw [(eF q h0 h1).2];exact fun h=>absurd h (by decide)
 ·have t0:=D5 hg (z:=z) (k:=0) ⟨h0,h1⟩ (by omega);have t1:=D5 hg (z:=z) (k:=1) ⟨h0,h1⟩ (by omega);rw [(eF _ t0.1 t0.2.2).1,(eF _ t1.1 t1.2.2).1];obtain⟨p,hp,e,ep⟩:=Hj hg t0.1 t0.2.2;obtain⟨p',hp',e',ep'⟩:=Hj hg t1.1 t1.2.2;rw [e,e',(C8 hp).2.2.1,(C8 hp').2.2.1,(C8 hp).2.2.2,(C8 hp').2.2.2,ep (by omega),ep' (by omega)];exact tA
theorem ZQ {g:Geo} (hg:Bm g=true) (L:List Q2):∀ (i:Nat) (M:Md),i<=1000->aE g L i M->Sx g M:=by
 obtain⟨D,hD⟩:=Wq hg L;intro i;induction i with
 | zero=>
  intro M _ h;have h:M=Gn g:=h;rw [h];exact ZX hg
 | succ i ih=>
  rintro M hi ⟨M1,M2,h1,⟨lba,b,hl,hb,hc⟩,rfl⟩;obtain⟨r1,v1⟩:=hD i M1 (by omega) h1;have s2:=(ih M1 (by omega) h1).cm hg hl hc;obtain⟨-,v2⟩:=Xu hg (by omega) hl hb v1 r1 hc;split
  ·exact s2.ck hg (by omega) v2
  ·exact s2
def Cls (g:Geo) (F:Int->List UInt8) (b:List UInt8):Prop:=(∃ p,(0<=p/\p<Aq g)/\b=F p)\/(∃ p,(0<=p/\p<Aq g)/\b=F (-1 - p))\/∃ q bit bits,(g.an+2*g.sl<=q/\q<Aq g)/\b=GO (F q) bit bits
structure Spo (g:Geo) (F:Int->List UInt8) (A:Int->Prop) (d:Dk):Prop where
 len:(d.cells.length:Int)=Aq g
 cache:d.cache=[]
 cls:∀ p,0<=p->p<Aq g->Cls g F (d.cells.getD p.toNat cz).bytes
 old:∀ p,0<=p->p<Aq g->(d.cells.getD p.toNat cz).old=F (-1 - p)
 un:∀ p,0<=p->p<Aq g->¬A p->(d.cells.getD p.toNat cz).bytes=F p
theorem Spo.of {g:Geo} {F:Int->List UInt8} {d:Dk} (h:Gd (Aq g) d F):Spo g F (fun _=>False) d:=⟨h.len,h.cache,fun p h0 h1=> .inl ⟨p,⟨h0,h1⟩,(h.cell p h0 h1).2⟩,h.old,fun p h0 h1 _=>(h.cell p h0 h1).2⟩
theorem Spo.set {g:Geo} {F:Int->List UInt8} {A:Int->Prop} {d:Dk} (hg:Bm g=true) (h:Spo g F A d) {q:Int} (h0:g.an+2*g.sl<=q) (h1:q<Aq g) {c:Cel} (hc:Cls g F c.bytes) (ho:c.old=F (-1 - q)):Spo g F (fun p=>A p\/p=q) (F5 d q c):=by
 obtain⟨g1,g2,g3,g4,g5⟩:=Ar.1 hg;have hl:=h.len;have hget:∀ p,0<=p->p<Aq g->(F5 d q c).cells.getD p.toNat cz=if p=q then c else d.cells.getD p.toNat cz:=fun p p0 p1=>Xz ⟨p0,by omega⟩ (by omega)
 refine⟨by show ((d.cells.set q.toNat c).length:Int)=_;rw [AO];exact hl,h.cache,fun p p0 p1=>?_,fun p p0 p1=>?_,fun p p0 p1 hA=>?_⟩
 ·rw [hget p p0 p1];split
  ·exact hc
  ·exact h.cls p p0 p1
 ·rw [hget p p0 p1];split
  ·rename_i e;rw [e];exact ho
  ·exact h.old p p0 p1
 ·rw [hget p p0 p1,if_neg fun e=>hA (.inr e)];exact h.un p p0 p1 fun q=>hA (.inl q)
theorem Spo.step {g:Geo} {F:Int->List UInt8} {A:Int->Prop} {d:Dk} (hg:Bm g=true) (h:Spo g F A d) {x:Q4} (h0:g.an+2*g.sl<=x.b) (h1:x.b<Aq g) (hA:¬A x.b):Spo g F (fun p=>A p\/p=x.b) (EQ (Aq g) d x):=by
 obtain⟨g1,g2,g3,g4,g5⟩:=Ar.1 hg;have hcb:=D9 hg;have hl:=h.len;have eb:DO x.b (Aq g)=x.b:=by
  unfold DO;rw [show IntKind.u64.wrap x.b=x.b by rw [IntKind.wrap_u64];omega,Bq (by omega),Int.emod_eq_of_lt (by omega) h1];exact wi (by omega)
 have k5:0<=DO x.a 5/\DO x.a 5<5:=DN (by decide) (by decide);have kn:0<=DO x.c (Aq g)/\DO x.c (Aq g)<Aq g:=DN (by omega) (by omega);have kb:0<=DO x.c 1000/\DO x.c 1000<1000:=DN (by decide) (by decide);have kc:0<=DO x.d 1000/\DO x.d 1000<1000:=DN (by decide) (by decide);unfold EQ;rw [eb];have hq0:0<=x.b:=by omega
 have hcls:=h.cls x.b hq0 h1;have hold:=h.old x.b hq0 h1;have hun:=h.un x.b hq0 h1 hA;unfold Dk.fault;rw [if_neg (by rw [AF.2 (by omega)];decide),if_neg (by rw [h.cache];decide)];simp only;split
 ·exact h.set hg h0 h1 hcls hold
 ·split
  ·exact h.set hg h0 h1 hcls hold
  ·split
   ·rw [if_neg (by omega)];exact h.set hg h0 h1 (.inr (.inr ⟨x.b,_,_,⟨h0,h1⟩,by rw [<-hun]⟩)) hold
   ·split
    ·exact h.set hg h0 h1 (.inr (.inl ⟨x.b,⟨hq0,h1⟩,hold⟩)) hold
    ·split
     ·rw [if_neg (by rw [AF.2 (by omega)];decide)];exact h.set hg h0 h1 (h.cls _ kn.1 kn.2) hold
     ·omega
structure One1 (g:Geo) (l:List Q4):Prop where
 n:l.length<=20
 i:∀ i,i<l.length->g.an+2*g.sl<=(l.getD i q4z).b/\(l.getD i q4z).b<Aq g
 d:∀ i j,i<j->j<l.length->(l.getD i q4z).b≠(l.getD j q4z).b
theorem Spo.all {g:Geo} {F:Int->List UInt8} {d:Dk} (hg:Bm g=true) (h:Gd (Aq g) d F) {l:List Q4} (hl:One1 g l):∀ k,k<=l.length->Spo g F (fun p=>∃ i,i<k/\(l.getD i q4z).b=p) ((l.take k).foldl (EQ (Aq g)) d)
 | 0,_=>by
  have:=Spo.of h;exact⟨this.len,this.cache,this.cls,this.old,fun p h0 h1 _=>this.un p h0 h1 id⟩
 | k+1,hk=>by
  have ih:=Spo.all hg h hl k (by omega);rw [KE _ _ (by omega)];have hi:=hl.i k (by omega);have st:=ih.step hg (x:=l.getD k q4z) hi.1 hi.2 fun⟨i,h1,h2⟩=>hl.d i k h1 (by omega) h2
  exact⟨st.len,st.cache,st.cls,st.old,fun p h0 h1 hA=>st.un p h0 h1 fun q=>q.elim (fun⟨i,a,b⟩=>hA ⟨i,by omega,b⟩) fun e=>hA ⟨k,by omega,e.symm⟩⟩
theorem Cls.sp {g:Geo} {F:Int->List UInt8} {S:Int} (hg:Bm g=true) (ho:OwnF (Aq g) F) (hz:Zs g F S) {b:List UInt8} (h:Cls g F b) {q:Int} (h0:g.an+2*g.sl<=q) (h1:q<Aq g) (hb:Cn b=0):b=F q\/BZ b≠q\/Bi b≠Bi (F q):=by
 obtain⟨g1,g2,g3,g4,g5⟩:=Ar.1 hg;rcases h with ⟨p,hp,rfl⟩ | ⟨p,hp,rfl⟩ | ⟨p,bit,bits,hp,rfl⟩
 ·by_cases e:p=q
  ·exact .inl (by rw [e])
  ·exact .inr (.inl fun e2=>e (((ho p hp.1 hp.2).1 hb).symm.trans e2))
 ·by_cases e:p=q
  ·subst e;exact .inr (.inr (hz.od p h0 h1 hb))
  ·exact .inr (.inl fun e2=>e (((ho p hp.1 hp.2).2 hb).symm.trans e2))
 ·rw [R7 (hz.op p hp.1 hp.2) bit bits] at hb;cases hb
theorem T0 {g:Geo} (hg:Bm g=true) {M:Md} {d:Dk} (h:Gd (Aq g) d M.F) (hx:Sx g M) {l:List Q4} (hl:One1 g l):Un g (Ff d l)/\bo g M.F (Fu (Ff d l)):=by
 have e:Ff d l=(l.take l.length).foldl (EQ (Aq g)) d:=by
  unfold Ff;rw [h.len,Az hl.n,Aw]
 have hs:=Spo.all hg h hl l.length (Ah _);rw [<-e] at hs;obtain⟨k1,k2,k3,k4, -⟩:=Kj (n:=d.cells.length) (l.take 20) h.ok;have k1:DkOk (Ff d l):=k1;have k4:(Ff d l).left=d.left:=k4;refine⟨⟨k1,k4.trans h.left,hs.len,hs.cache⟩,fun q h0 h1 he hb=>?_⟩;obtain⟨g1,g2,g3,g4,g5⟩:=Ar.1 hg;have eg:Fu (Ff d l) q=OW (Ff d l) q:=rfl;rw [eg,RI hs.cache] at he hb |-
 split at he
 ·rename_i c;rw [if_pos c] at hb |-
  exact(hs.cls q (by omega) h1).sp hg hx.own hx.zs h0 h1 hb
 ·cases he
def cf (l:List Q4):AB:= .row 30 4 (l.map aI)
def ci (m:List Bool):AB:= .row 4 1 (m.map fun b=> [.v (.bool b)])
structure Met (g:Geo) (m:List Bool) (o:List Q4):Prop where
 n:(m.length:Int)=Aq g
 i:∀ i,i<o.length->g.an+2*g.sl<=(o.getD i q4z).b/\(o.getD i q4z).b<Aq g
 d:∀ i j,i<j->j<o.length->(o.getD i q4z).b≠(o.getD j q4z).b
 m:∀ i,i<o.length->m.getD (o.getD i q4z).b.toNat false=true
theorem Met.add {g:Geo} {m:List Bool} {o:List Q4} (hg:Bm g=true) (h:Met g m o) {x:Q4} (h0:g.an+2*g.sl<=x.b) (h1:x.b<Aq g) (hx:m.getD x.b.toNat false=false):Met g (m.set x.b.toNat true) (o ++ [x]):=by
 obtain⟨g1,g2,g3,g4,g5⟩:=Ar.1 hg;have hn:=h.n;have e:∀ i,i<(o ++ [x]).length->(i<o.length/\(o ++ [x]).getD i q4z=o.getD i q4z)\/(i=o.length/\(o ++ [x]).getD i q4z=x):=fun i hi=>by
  rw [Ai,C9] at hi;by_cases q:i<o.length
  ·exact .inl ⟨q,by rw [Aa,AC q,Aa]⟩
  ·obtain rfl:i=o.length:=by omega
   exact .inr ⟨rfl,by rw [Aa,A9 (Ah _),CE];try rfl⟩
 refine⟨by rw [AO];exact hn,fun i hi=>?_,fun i j hij hj=>?_,fun i hi=>?_⟩
 ·rcases e i hi with ⟨q,e1⟩ | ⟨q,e1⟩
  ·rw [e1];exact h.i i q
  ·rw [e1];exact⟨h0,h1⟩
 ·rcases e j hj with ⟨q,e1⟩ | ⟨q,e1⟩
  ·rcases e i (by omega) with ⟨r,e2⟩ | ⟨r,e2⟩
   ·rw [e1,e2];exact h.d i j hij q
   ·omega
  ·rcases e i (by omega) with ⟨r,e2⟩ | ⟨r,e2⟩
   ·rw [e1,e2];intro eb;have:=h.m i r;rw [eb,hx] at this;cases this
   ·omega
 ·rw [Aa,DX];rcases e i hi with ⟨q,e1⟩ | ⟨q,e1⟩
  ·rw [e1];have hb:=h.i i q;split
   ·rw [if_pos (by omega)];try rfl
   ·rw [<-Aa];exact h.m i q
  ·rw [e1,if_pos rfl,if_pos (by omega)];try rfl
theorem UV (g:Geo) (L:List Q2) (S:List Q4) (lba0:Int):Fn Tryz.prog 3 [.ag (AU g),OF L,TZ S,iv lba0] fun r=>r = .v (.bool true):=by
 have h1:=Wg g;have hw:=wakes23_fn;cases hg:Bm g with
 | false=>
  rw [hg] at h1;refine zR Tryz.func3 rfl ?_;conv=>whnf
  refine zZ h1 ?_;exact⟨_,ri,rfl⟩
 | true=>
  rw [hg] at h1;obtain⟨g1,g2,g3,g4,g5⟩:=Ar.1 hg;have hzd:=Zf hg;have hcb:=D9 hg;have hcg:=Ey hg;by_cases hL:L.length<=10;rotate_left 1
  ·refine zR Tryz.func3 rfl ?_;conv=>whnf
   refine zZ h1 ?_;conv=>whnf
   rw [show decide ((L.length:Int) > 10)=true from decide_eq_true (by omega)];exact⟨_,ri,rfl⟩
  by_cases hS:S.length<=20;rotate_left 1
  ·refine zR Tryz.func3 rfl ?_;conv=>whnf
   refine zZ h1 ?_;conv=>whnf
   rw [show decide ((L.length:Int) > 10)=false from decide_eq_false (by omega)];conv=>whnf
   rw [show decide ((S.length:Int) > 20)=true from decide_eq_true (by omega)];exact⟨_,ri,rfl⟩
  obtain⟨fr,hfr⟩:∃ fr,fr=g.an+2*g.sl:=⟨_,rfl⟩;obtain⟨n,hn⟩:∃ n:Nat,(n:Int)=Aq g:=⟨(Aq g).toNat,by omega⟩;have hce:=LZ g hg;rw [<-hn] at hce;refine zR Tryz.func3 rfl ?_;conv=>whnf
  refine zZ h1 ?_;conv=>whnf
  rw [show decide ((L.length:Int) > 10)=false from decide_eq_false (by omega)];conv=>whnf
  rw [show decide ((S.length:Int) > 20)=false from decide_eq_false (by omega)];conv=>whnf
  rw [wi (show -9223372036854775808<=2*g.sl/\2*g.sl<=9223372036854775807 by omega),wi (show -9223372036854775808<=g.an+2*g.sl/\g.an+2*g.sl<=9223372036854775807 by omega),<-hfr];refine zZ hce ?_;refine⟨⟨rfl,by omega,by omega⟩,?_⟩;conv=>whnf
  refine zU (Nat × List Bool × List Q4) (fun x=>([(1,OF L),(2,TZ S),(3,iv lba0),(4, .bp 0 0),(9,iv fr),(10,iv (n:Nat)),(11, .ow 1 n),(12, .ow 2 x.2.2.length),(13,iv (x.1:Nat))], [.box 23 (AU g),ci x.2.1,cf x.2.2])) (fun x=>x.1<=S.length/\x.2.2.length<=x.1/\Met g x.2.1 x.2.2) (fun x=>S.length - x.1) (0,List.replicate n false, []) ⟨Aj _,Ah _,by rw [Bw];exact hn,fun i hi=>absurd hi (Ap _),fun i j _ hj=>absurd hj (Ap _),fun i hi=>absurd hi (Ap _)⟩
   ⟨_,_,zF _ _, [(12,30,4)],tA, [0,1,2],tA,⟨rfl,congrArg (fun es=>some (AB.row 4 1 es)) (by rw [Ab,DD];try rfl),rfl,tv⟩,rfl,rfl,rfl,rfl,rfl⟩ ?_
  rintro⟨i,m,o⟩ ⟨hi,ho,hm⟩;simp only at hi ho hm;by_cases hin:i<S.length
  ·have ixA:(0:Int)<=(i:Nat)/\((i:Nat):Int)<(S.length:Nat):=by omega
   have hwz:IntKind.u64.wrap (IntKind.i64.wrap ((n:Int) - fr))=(n:Int) - fr:=by rw [wi (by omega),IntKind.wrap_u64];omega
   conv=>whnf
   rw [show decide ((i:Int)<(S.length:Nat))=true from decide_eq_true (by omega)];conv=>whnf
   repeat' (refine z_ ?_;conv=>whnf)
   refine⟨ixA,?_⟩;refine⟨⟨by decide,by decide⟩,?_⟩;conv=>whnf
   rw [hwz];refine⟨by omega,?_⟩;conv=>whnf
   repeat' (refine z_ ?_;conv=>whnf)
   obtain⟨x,hx⟩:∃ x,x=S.getD ((i:Nat):Int).toNat ⟨0,0,0,0⟩:=⟨_,rfl⟩;rw [<-hx];obtain⟨r,hr⟩:∃ r,r=DO x.b ((n:Int) - fr):=⟨_,rfl⟩;have hr2:0<=r/\r<(n:Int) - fr:=by rw [hr];exact DN (by omega) (by omega)
   rw [show IntKind.i64.wrap ((IntKind.u64.wrap x.b).tmod ((n:Int) - fr))=r from hr.symm,wi (show -9223372036854775808<=fr+r/\fr+r<=9223372036854775807 by omega)];have hmn:=hm.n;refine⟨⟨by omega,by omega⟩,?_⟩;conv=>whnf
   refine Ae ⟨rfl,by rw [Ac];show n=m.length;omega,by omega⟩ ?_;rw [show (m.map fun b=> [AV.v (Value.bool b)]).getD (fr+r).toNat []=[.v (.bool (m.getD (fr+r).toNat false))] from Bd (f:=fun b=> [AV.v (Value.bool b)]) (by omega)];conv=>whnf
   cases hq:m.getD (fr+r).toNat false with
   | true=>
    conv=>whnf
    repeat' (refine z_ ?_;conv=>whnf)
    exact⟨(i+1,m,o),⟨by show i+1<=S.length;omega,by show o.length<=i+1;omega,hm⟩,by show S.length - (i+1)<S.length - i;omega,zS (s:= [0,1,2]) ⟨⟨rfl,rfl,rfl,rfl,rfl,rfl,rfl,rfl,AI (by omega),tv⟩,tA,rfl,rfl,rfl,rfl,rfl⟩⟩
   | false=>
    have hm2:=hm.add hg (x:=⟨x.a,fr+r,x.c,x.d⟩) (by show g.an+2*g.sl<=fr+r;omega) (by show fr+r<Aq g;omega) hq;conv=>whnf
    repeat' (refine z_ ?_;conv=>whnf)
    refine⟨⟨by omega,by omega⟩,?_⟩;conv=>whnf
    rw [show (m.map fun b=> [AV.v (Value.bool b)]).getD (fr+r).toNat []=[.v (.bool (m.getD (fr+r).toNat false))] from Bd (f:=fun b=> [AV.v (Value.bool b)]) (by omega)];conv=>whnf
    refine Ae ⟨rfl,by rw [Ac];show n=m.length;omega,by omega⟩ ?_;conv=>whnf
    repeat' (refine z_ ?_;conv=>whnf)
    apply zW (0) tys_ok mixed (.o [0,1,2,3,4,5,6,7,8,9,10,11,12,13,14,15,16,17,18,19,20] .fin) (by kernel_rfl);conv=>whnf
    try (refine tI ?_;conv=>whnf)
    try (refine tI ?_;conv=>whnf)
    try (refine tI ?_;conv=>whnf)
    try (refine tI ?_;conv=>whnf)
    try (refine tI ?_;conv=>whnf)
    try (refine tI ?_;conv=>whnf)
    try (refine tJ ?_;conv=>whnf)
    try (refine tK ?_;conv=>whnf)
    refine Ae ⟨(Ac _).symm,by show o.length+1<=1000000000;omega⟩ ?_;conv=>whnf
    have hol:o.length+1=(o ++ [(⟨x.a,fr+r,x.c,x.d⟩:Q4)]).length:=by rw [Ai,C9]
    exact⟨(i+1,m.set (fr+r).toNat true,o ++ [⟨x.a,fr+r,x.c,x.d⟩]),⟨by show i+1<=S.length;omega,by rw [<-hol];omega,hm2⟩,by show S.length - (i+1)<S.length - i;omega,zS (s:= [0,1,2]) ⟨⟨rfl,rfl,rfl,rfl,rfl,rfl,rfl,congrArg (AV.ow 2) hol,AI (by omega),tv⟩,⟨rfl,congrArg (fun es=>some (AB.row 4 1 es)) (by rw [BM]),congrArg (fun es=>some (AB.row 30 4 es)) (by rw [A8,hx];try rfl),tv⟩,rfl,rfl,rfl,rfl,rfl⟩⟩
  ·conv=>whnf
   rw [show decide ((i:Int)<(S.length:Nat))=false from decide_eq_false (by omega)];conv=>whnf
   repeat' (refine z_ ?_;conv=>whnf)
   have hone:One1 g o:=⟨by omega,hm.i,hm.d⟩;have hp:=Ub g L o.length (fun i=>aI (o.getD i ⟨0,0,0,0⟩)) (fun d=>Ff d o) (fun d h=>T1 g d o h (by omega)) hg (by omega);refine zN hp.go ?_;refine Ae (Ac _).symm ?_;conv=>whnf
   refine zX [.ag (AU g),OF L,TZ o] ⟨ri,ri,Bc (f:=aI) o rfl rfl,tv⟩ ?_;refine zI hp rfl ?_;rintro _ ⟨M,d,hpl,hd,hv,rfl⟩;obtain⟨D,hD⟩:=Wq hg L;obtain⟨⟨-,V,hV,hE⟩, -⟩:=hD _ _ (by omega) hpl;have hsx:=ZQ hg L _ _ (by omega) hpl;obtain⟨hun,hsp⟩:=T0 hg hd hsx hone;have hml:((M.m.length:Nat):Int)=g.z*g.d:=hv.m;have hwm:IntKind.u64.wrap ((M.m.length:Nat):Int)=(M.m.length:Nat):=by rw [IntKind.wrap_u64];omega
   obtain⟨A,hA⟩:∃ A,A=DO lba0 ((M.m.length:Nat):Int):=⟨_,rfl⟩;have hA2:0<=A/\A<(M.m.length:Nat):=by rw [hA];exact DN (by omega) (by omega)
   obtain⟨hz,hw2⟩:=J3 hg (lba:=A) (by omega);have cb:=Xy (lba:=A) hg (hv.vol hd) hun (by omega);have e:=hE _ _ hz.1 hz.2 hw2.1 hw2.2;rw [Int.mul_comm,Int.mul_tdiv_add_tmod] at e;have hrd:=fun(b:List UInt8) hb=>Ye hg hv.an hV hsp hsx.two hz hw2 (b:=b) hb
   conv=>whnf
   rw [hwm];refine⟨by omega,?_⟩;conv=>whnf
   rw [show IntKind.i64.wrap ((IntKind.u64.wrap lba0).tmod ((M.m.length:Nat):Int))=A from hA.symm];cases hO:MR g (AJ M.a M.l) (Fu (Ff d o)) (A.tdiv g.d) (A.tmod g.d) with
   | none=>
    rw [hO] at cb;refine zI cb rfl ?_;rintro _ ⟨d2,hd2,rfl⟩;have hl2:=hd2.len;conv=>whnf
    rw [show ((d2.cells.length:Int) != (n:Nat))=false from bne_eq_false_iff_eq.2 (by omega)];conv=>whnf
    refine zZ hw ?_;exact⟨_,ri,rfl⟩
   | some b=>
    rw [hO] at cb;obtain rfl:=(hrd b hO).trans e.symm;obtain⟨t,ht⟩:=hV _ hz.1 hz.2;have hbs:=Jz (M.m.getD A.toNat []) (by rw [e,ht.len _ (by omega) hw2.2];decide);refine zI cb rfl ?_;rintro _ ⟨d2,hd2,rfl⟩;have hl2:=hd2.len;conv=>whnf
    rw [show ((d2.cells.length:Int) != (n:Nat))=false from bne_eq_false_iff_eq.2 (by omega)];refine⟨⟨by omega,by omega⟩,?_⟩;conv=>whnf
    refine zZ hbs ?_;conv=>whnf
    refine zZ hw ?_;exact⟨_,ri,rfl⟩
end
end Go.Proofs.YtepdhdfoipephaaGreatDoor.A
namespace Go.Proofs.YtepdhdfoipephaaGreatDoor
section
open Go.ChangeShapes Go.WideShapes Go.ChangeAt Go.RowKit
theorem own_none:ownKnob Tryz.prog.godebug=none:=by kernel_rfl
theorem laidOut:laidOutB Tryz.prog=true:=by kernel_rfl

section
variable {H:Type} {enc:TypeId × Value->H}
theorem WH {f:Func} {s:ChangeSpec} {apart fresh handsOn again:Bool} {W W':World} {args:Array Value} {ds:List (DataW H)} {before:List MemPlace}
  (hW:DataW.Whole enc Tryz.prog f.params.toList s.vars apart W args.toList ds [] before) (hv:s.vars=[]) (hvs:(s.fn H (ds ++ [])).vars=[])
  (hr:f.resultTypes = #[4]) (hfr:(s.fn H (ds ++ [])).results=[.lit (.bool true)]) (hfa:(s.fn H (ds ++ [])).args=ds)
  (hrow:∀ t∈f.params.toList,Tryz.prog.readableRec t=true/\t<Tryz.prog.types.size) (hb:Below W.heap.size W W') :
  s.post enc Tryz.prog f apart fresh handsOn again W args (.bool true) W':=by
 have hlt:∀ p∈before,p.block<W.heap.size:=fun p hp=>hW.lt p hp
 obtain⟨p,q,hA,hV,hpq,hz,hn⟩:=id hW;rw [hv] at hV;obtain⟨-,rfl⟩:=trodVars_none hV;rw [AT] at hpq;subst hpq;have stay:∀ sp:Nat->Bool,(∀ x∈before,sp x.block=true)->DataW.TrodAll enc Tryz.prog W' 0 sp true f.params.toList args.toList ds before:=by
  intro sp hsp;have go:∀ (ts:List TypeId) (vs:List Value) (es:List (DataW H)) (ps:List MemPlace),(∀ t∈ts,Tryz.prog.readableRec t=true/\t<Tryz.prog.types.size)->(∀ x∈ps,x∈before)->
    DataW.TrodAll enc Tryz.prog W 0 (fun _=>true) true ts vs es ps->DataW.TrodAll enc Tryz.prog W' 0 sp true ts vs es ps:=by
   intro ts;induction ts with
   | nil=>
    intro vs es ps _ _ h;cases vs <;> cases es <;> exact h
   | cons t ts ih=>
    intro vs es ps ht hin h;cases vs with
    | nil=>cases es <;> exact h.elim
    | cons v vs=>
     cases es with
     | nil=>exact h.elim
     | cons e es=>
      obtain⟨p1,p2,h1,h2,rfl⟩:=h;exact⟨p1,p2,WideElems.Trod_stays laidOut (ht t (by simp)).1 (ht t (by simp)).2 h1 (fun x hx=>hb.same (hlt x (hin x (by simp [hx])))) (fun x hx=>hsp x (hin x (by simp [hx]))),
       ih vs es p2 (fun t' ht'=>ht t' (by simp [ht'])) (fun x hx=>hin x (by simp [hx])) h2,rfl⟩
  exact go _ _ _ _ hrow (fun x hx=>hx) hA
 have hres:∀ (b:Nat) (sp:Nat->Bool) (hd:Bool),DataW.TrodAll enc Tryz.prog W' b sp hd f.resultTypes.toList ((Value.bool true).resultList f.resultTypes.size) (s.fn H (ds ++ [])).results []:=by
  intro b sp hd;rw [hr,hfr];exact trodAll_mk1 ⟨1,by simp [DataW.trod,Value.cells,Tryz.underlying4]⟩
 have hold:∀ p∈before,(fun b=>decide (b<W.heap.size)) p.block=true:=fun p hp=>by simpa using hlt p hp
 have hvars:∀ sp:Nat->Bool,DataW.TrodVars enc Tryz.prog W' sp s.vars (s.fn H (ds ++ [])).vars []:=by
  intro sp;rw [hv,hvs];exact rfl
 refine⟨ds, [],before, [],before, [],hW,hres _ _ _,by rw [hfa];exact stay _ hold,hvars _,World.keptBut_mono (fun p hp=>⟨hp,?_⟩) (hb.frame (·∈before)),fun _=>?_⟩
 ·exact Or.inr (by simpa using hp)
 ·refine⟨ok_one hr rfl (by simp [Value.okWide,Tryz.underlying4,Cell.okWide,Cell.ok]),_,_,([] ++ before) ++ [],⟨[] ++ before, [],trodAll_append (stay _ (fun _ _=>rfl)) (hres _ _ _),hvars _,rfl,?_,?_⟩,?_⟩
  ·intro b off hp;have hin:MemPlace.cell b off∈before:=by simpa using hp
   rw [hb.frozen (hlt _ hin)];exact hz b off hin
  ·intro ha;have:=hn ha;simpa using this
  ·intro p hp _;simpa using hp
end
abbrev WK : List (String × DataW Unit) := [("unicode/utf8.acceptRanges", Rows.laid_unicode_utf8_acceptRanges), ("unicode/utf8.first", Rows.laid_unicode_utf8_first)]
noncomputable def Kv (os:Os):World:=
 let w0:=World.holding Tryz.prog os ⟨#[], #[], []⟩;let put (h:Array Obj) (g:Nat) (cs:Array Value):Array Obj:=h.modify g fun
  | .cells _ t frozen=> .cells cs t frozen
  | o=>o
 let h1:=put w0.heap 0 (Lib.firstTab.map fun z=>Value.int .u8 z).toArray;let h2:=put h1 1 ((List.range 16).flatMap fun i=> [Value.int .u8 (Lib.accLo i),Value.int .u8 (Lib.accHi i)]).toArray
 { w0 with heap:=h2 }
theorem WJ (os:Os) (args:Array Value):laidMetH Tryz.prog WK ((Kv os).forCall (fun _ _=>0) ⟨#[],args, []⟩).memory:=by
 rw [MakeChecks.laidMetH_plain _ _ _ (by kernel_rfl)];exact(LaidIn.of_run (l:=WK) [1,0] 8 (by kernel_rfl) (by kernel_rfl) (by kernel_rfl) (by kernel_rfl)).met
theorem first_data:Rows.laid_unicode_utf8_first=Lib.firstData:=by kernel_rfl
theorem accept_data:(Rows.laid_unicode_utf8_acceptRanges:DataW Unit)=Lib.acceptData:=by kernel_rfl
theorem Uk {W:World} (h:laidMetH Tryz.prog WK W):A.globOk W:=by
 rw [MakeChecks.laidMetH_plain _ _ _ (by kernel_rfl)] at h;have h1:=Lib.laidMet.reads h (.head _);have h2:=Lib.laidMet.reads h (.tail _ (.head _));rw [accept_data] at h1;rw [first_data] at h2;exact utf8Tabs_of_readsT (U8Types.of196 Tryz.laysValid) ⟨by kernel_rfl,by kernel_rfl,by kernel_rfl,by kernel_rfl,by kernel_rfl,by kernel_rfl,by kernel_rfl⟩ h2 h1
end
end Go.Proofs.YtepdhdfoipephaaGreatDoor
