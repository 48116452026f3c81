/-
Several texts in one.
-/
import Derived.WalkKit
import Derived.WalkSpells
import Derived.WalkLawsBesides
import Derived.Lib.Hide
import Derived.Maps.AppendAt
import Derived.Deep.RegionHeld3
import Derived.Deep.AppendLies
import Derived.Deep.DrawnRows
import Derived.BigQuiet
import Derived.Deep.QuietTactic
import Derived.Deep.DeepFit
import Derived.Shelf.Unicode.DecodeSlow
import Derived.Laws.BytesString
import Derived.Laws.OwnMore
import Derived.Laws.RangeString
import Derived.Deep.LoopGhost
import Derived.LoopN
import Derived.RangeFuncNested
import Derived.RangeFuncLeaves
import Derived.RangeFuncRecord
set_option linter.defProp false
namespace Go.Proofs.YtpjkcgacjjbikaaGreatDoor
def tv:True:=trivial
theorem tA {p:Prop} (h:p:=by repeat' first | exact rfl | exact tv | constructor | refine⟨?_,?_⟩):p:=h
def Aa := @List.length_map
def Ab := @List.getD_eq_getElem?_getD
def Ac := @Int.toNat_natCast
def Ad := @Bool.and_eq_true
def Ae := @Nat.le_of_ble_eq_true
def Af := @List.getElem?_eq_getElem
def Ag := @Nat.le_refl
def Ah := @List.length_append
def Ai := @And.intro
def Aj := @Nat.zero_le
def Al := @List.length_drop
def Am := @Nat.eq_of_beq_eq_true
def Ao := @List.length_cons
def Ap := @Nat.not_lt_zero
def Aq := @List.length_take
def Ar := @List.getElem?_eq_some_iff
def As := @Nat.lt_of_lt_of_le
def At := @List.take_of_length_le
def Au := @Nat.zero_add
def Av := @List.all_eq_true
def Aw := @Array.getElem?_eq_some_iff
def Ay := @List.mem_singleton
def Az := @List.mem_append
def A0 := @List.map_append
def A3 := @List.getElem?_set_self
def A4 := @List.getElem?_set_ne
def A5 := @List.map_cons
def A6 := @List.take_length
def A8 := @List.flatten_cons
def A9 := @List.drop_eq_nil_of_le
def AA := @List.append_assoc
def AD := @List.getElem?_append_left
def AE := @List.append_nil
def AF := @List.getElem?_eq_none
def AG := @List.length_eq_zero_iff
def AH := @Array.getD_eq_getD_getElem?
def AI := @List.mem_map
def AJ := @List.mem_range
def AL := @List.getElem?_append_right
def AM := @List.take_succ_eq_append_getElem
def AN := @List.length_nil
def AQ := @List.mem_cons
def AR := @List.all_cons
def AW := @Nat.le_trans
def AX := @List.flatten_append
def AY := @List.eq_of_mem_replicate
def AZ := @List.drop_drop
def Bb := @Nat.add_mul
def Bc := @List.mem_cons_of_mem
def Bd := @List.getElem?_map
def Be := @List.length_replicate
def Bh := @List.take_add_one
def Bj := @List.cons_append
def Bk := @List.nil_append
def Bl := @List.length_set
def Bo := @List.mem_of_mem_take
def Bp := @List.map_nil
def Br := @Nat.lt_succ_self
def Bt := @List.eq_nil_of_length_eq_zero
def Bu := @Int.tdiv_eq_ediv_of_nonneg
def Bw := @List.size_toArray
def Bx := @List.all_eq_not_any_not
def By := @List.range_succ
def Bz := @Int.tmod_lt_of_pos
def B4 := @Array.getElem?_eq_none
def B6 := @Bool.and_true
def B9 := @Nat.sub_self
def BA := @List.all_nil
def BB := @Bool.true_and
def BC := @Array.length_toList
def BE := @List.drop_eq_getElem_cons
def BF := @Int.tmod_nonneg
def BG := @List.mem_of_mem_drop
def BL := @List.getElem?_range
def BO := @Option.getD_some
def BP := @List.mem_flatten
def BQ := @Int.mul_le_mul_of_nonneg_right
def BR := @Nat.mul_le_mul_right
def BT := @Nat.lt_or_ge
def BU := @Bool.false_eq_true
def BZ := @List.drop_append
def Ca := @Nat.add_zero
def Cb := @List.foldl_append
def Cd := @List.mem_or_eq_of_mem_set
def Ce := @Array.getElem?_eq_getElem
def Cf := @Bool.not_eq_true'
def Cg := @List.take_append_drop
def Ch := @List.getElem?_toArray
def Cm := @List.getElem?_take_of_lt
def Cn := @Nat.min_eq_left
def Cp := @Nat.add_sub_cancel
def Cq := @List.getElem?_drop
def Cu := @List.getElem_mem
def C0 := @Nat.mod_two_eq_zero_or_one
def C2 := @List.take_succ_cons
def C5 := @List.set_append_right
def C6 := @List.length_singleton
def C7 := @Array.getElem?_setIfInBounds_self_of_lt
def C8 := @UInt8.toNat_ofNat_of_lt'
def C9 := @Option.isSome_iff_exists
def CA := @Nat.add_comm
def CB := @List.getElem?_replicate_of_lt
def CC := @Int.le_refl
def CD := @Array.replicate_zero
def CE := @Array.replicate_succ
def CH := @List.length_range
def CI := @List.getElem?_replicate
def CM := @List.replicate_succ
def CN := @List.append_toArray
def CT := @List.any_eq_true
def CU := @Bool.not_eq_true
def C_ := @Nat.mul_le_mul
def Da := @Nat.eq_zero_or_pos
def Db := @Int.tmod_eq_emod_of_nonneg
def Dc := @Int.mul_nonneg
def Dd := @Bool.false_and
def Df := @List.eq_nil_or_concat
def Dg := @List.concat_eq_append
def Dh := @Int.ediv_lt_of_lt_mul
def Dl := @Int.ediv_nonneg
def Dp := @List.push_toArray
def Du := @Nat.blt_eq
def Dx := @List.map_congr_left
def D1 := @List.not_mem_nil
def D4 := @Nat.mul_one
end Go.Proofs.YtpjkcgacjjbikaaGreatDoor
set_option maxRecDepth 100000
set_option maxHeartbeats 8000000
set_option linter.unusedSimpArgs false
set_option linter.unusedVariables false
set_option linter.deprecated false
namespace Go.Proofs.YtpjkcgacjjbikaaGreatDoor
section
open Go.RowKit
abbrev Ms:=Nat->Prop
def noM:Ms:=fun _=>False

def Keep (w:World) (M:Ms) (w':World) (M':Ms):Prop:=∀ b,b<w.heap.size->¬M b->¬M' b/\w'.heap[b]? = w.heap[b]?

theorem Keep.refl (w:World) (M:Ms):Keep w M w M:=fun _ _ h=>⟨h,rfl⟩
theorem Keep.below {w w':World} {M:Ms} (h:Below w.heap.size w w'):Keep w M w' M:=fun b hb hm=>⟨hm,h.block b hb⟩
def zk:=@Keep.below
theorem Keep.trans {w w' w'':World} {M M' M'':Ms} (h:Keep w M w' M') (k:Keep w' M' w'' M''):Keep w M w'' M'':=fun b hb hm=>by
 obtain⟨h1,h2⟩:=h b hb hm;have hb':b<w'.heap.size:=by
  rcases BT b w'.heap.size with h3 | h3
  ·exact h3
  ·rw [B4 h3,Ce hb] at h2;cases h2
 obtain⟨h3,h4⟩:=k b hb' h1;exact⟨h3,h4.trans h2⟩
theorem Keep.cell {w w':World} {M M':Ms} (h:Keep w M w' M') {a:Addr} {u:Value} (hm:¬M a.block) (hc:w.cell? a=some u):w'.cell? a=some u:=
 (World.cell?_of_block (h a.block (World.block_lt_of_cell? w a hc) hm).2).trans hc

abbrev El (α:Type):=World->Ms->List Value->α->Prop

def Elems {α:Type} (sz:Nat) (E:List Value->α->Prop):List Value->List α->Prop
 | xs, []=>xs=[]
 | xs,x::l=>∃ cs ys,xs=cs ++ ys/\cs.length=sz/\E cs x/\Elems sz E ys l

section
variable {α:Type} {sz:Nat} {E E':List Value->α->Prop}
theorem Elems.length:∀ {l:List α} {xs:List Value},Elems sz E xs l->xs.length=l.length*sz
 | [],_,h=>by simp only [Elems] at h;simp [h]
 | x::l,_,h=>by
  obtain⟨cs,ys,rfl,hc,_,hy⟩:=h;rw [Ah,hc,Elems.length hy,Ao,Bb];omega
theorem Elems.mono:∀ {l:List α} {xs:List Value},(∀ cs x,x∈l->E cs x->E' cs x)->Elems sz E xs l->Elems sz E' xs l
 | [],_,_,h=>h
 | x::l,_,hE,h=>by
  obtain⟨cs,ys,rfl,hc,he,hy⟩:=h;exact⟨cs,ys,rfl,hc,hE _ _ (by simp) he,Elems.mono (fun cs x hx=>hE cs x (by simp [hx])) hy⟩
theorem Elems.get:∀ {l:List α} {xs:List Value} {i:Nat} {x:α},Elems sz E xs l->l[i]? = some x->∃ cs,cs.length=sz/\E cs x/\∀ j,j<sz->xs[i*sz+j]? = cs[j]?
 | [],_,_,_,_,hx=>by simp at hx
 | y::l,_,0,x,h,hx=>by
  obtain⟨cs,ys,rfl,hc,he,hy⟩:=h;simp only [List.getElem?_cons_zero,Option.some.injEq] at hx;subst hx;exact⟨cs,hc,he,fun j hj=>by rw [Nat.zero_mul,Au,AD (by omega)]⟩
 | y::l,_,i+1,x,h,hx=>by
  obtain⟨cs,ys,rfl,hc,he,hy⟩:=h;obtain⟨cs',h1,h2,h3⟩:=Elems.get (i:=i) hy (by simpa using hx);refine⟨cs',h1,h2,fun j hj=>?_⟩;rw [<-h3 j hj,AL (by rw [hc,Bb];omega)];congr 1;rw [hc,Bb];omega
theorem Elems.append:∀ {l m:List α} {xs ys:List Value},Elems sz E xs l->Elems sz E ys m->Elems sz E (xs ++ ys) (l ++ m)
 | [],_,_,_,h,k=>by simp only [Elems] at h;subst h;simpa using k
 | x::l,m,_,_,h,k=>by
  obtain⟨cs,zs,rfl,hc,he,hy⟩:=h;exact⟨cs,zs ++ _,by rw [AA],hc,he,Elems.append hy k⟩
theorem Elems.one {cs:List Value} {x:α} (hc:cs.length=sz) (he:E cs x):Elems sz E cs [x]:=⟨cs, [],by simp,hc,he,rfl⟩
theorem Elems.set:∀ {l:List α} {xs:List Value} {i:Nat} {x:α} {cs:List Value},Elems sz E xs l->i<l.length->cs.length=sz->E cs x->
  Elems sz E (xs.take (i*sz) ++ cs ++ xs.drop (i*sz+sz)) (l.set i x)
 | [],_,_,_,_,_,hi,_,_=>by simp at hi
 | y::l,_,0,x,cs,h,_,hc,he=>by
  obtain⟨ds,ys,rfl,hd,_,hy⟩:=h;refine⟨cs,ys,?_,hc,he,hy⟩;simp [hd ▸ List.drop_left (l₁:=ds) (l₂:=ys)]
 | y::l,_,i+1,x,cs,h,hi,hc,he=>by
  obtain⟨ds,ys,rfl,hd,hy',hy⟩:=h;refine⟨ds,ys.take (i*sz) ++ cs ++ ys.drop (i*sz+sz),?_,hd,hy',Elems.set hy (by simpa using hi) hc he⟩;have e1:(i+1)*sz=ds.length+i*sz:=by rw [hd,Bb];omega
  rw [e1,List.take_append,BZ];rw [show ds.length+i*sz - ds.length=i*sz by omega,show ds.length+i*sz+sz - ds.length=i*sz+sz by omega];rw [At (by omega),A9 (by omega)];simp
theorem Elems.nil_iff {xs:List Value}:Elems sz E xs ([]:List α)↔xs=[]:=Iff.rfl
theorem Elems.of_get:∀ {l:List α} {xs:List Value},xs.length=l.length*sz->
  (∀ i x,l[i]? = some x->∃ cs,cs.length=sz/\E cs x/\∀ j,j<sz->xs[i*sz+j]? = cs[j]?)->Elems sz E xs l
 | [],xs,hl,_=>by simp at hl;exact hl
 | x::l,xs,hl,h=>by
  obtain⟨cs,hc,he,hj⟩:=h 0 x rfl;have hlen:sz<=xs.length:=by rw [hl,Ao,Bb];omega
  refine⟨cs,xs.drop sz,?_,hc,he,Elems.of_get (by rw [Al,hl,Ao,Bb];omega) fun i y hy=>?_⟩
  ·rw [<-Cg sz xs];congr 1
   ·apply List.ext_getElem?;intro j;rcases BT j sz with h1 | h1
    ·rw [Cm h1,<-hj j h1];simp
    ·rw [AF (by rw [Aq];omega),AF (by omega)]
   ·rw [Cg]
  ·obtain⟨ds,hd,hed,hjd⟩:=h (i+1) y (by simpa using hy);refine⟨ds,hd,hed,fun j h1=>?_⟩;rw [<-hjd j h1,Cq];congr 1;rw [Bb];omega
theorem Elems.put {l:List α} {xs xs':List Value} {k:Nat} {y:α} {cs:List Value} (h:Elems sz E xs l) (hk:k<l.length) (hlen:xs'.length=xs.length)
  (hsame:∀ i,i<k*sz\/k*sz+sz<=i->xs'[i]? = xs[i]?) (hc:cs.length=sz) (he:E cs y) (hnew:∀ j,j<sz->xs'[k*sz+j]? = cs[j]?):Elems sz E xs' (l.set k y):=by
 refine Elems.of_get (by rw [hlen,h.length,Bl]) fun i x hx=>?_
 by_cases hik:i=k
 ·subst hik;rw [A3 hk] at hx;cases hx;exact⟨cs,hc,he,hnew⟩
 ·rw [A4 (Ne.symm hik)] at hx;obtain⟨ds,hd,hed,hj⟩:=h.get hx;refine⟨ds,hd,hed,fun j hjs=>?_⟩;rw [hsame]
  ·exact hj j hjs
  ·rcases BT i k with h1 | h1
   ·left;have:(i+1)*sz<=k*sz:=BR _ h1;rw [Bb] at this;omega
   ·right;have:(k+1)*sz<=i*sz:=BR _ (by omega);rw [Bb] at this;omega
theorem Elems.mem:∀ {l:List α} {xs:List Value} {u:Value},Elems sz E xs l->u∈xs->∃ cs x,x∈l/\E cs x/\u∈cs
 | [],_,_,h,hu=>by simp only [Elems] at h;subst h;cases hu
 | x::l,_,u,h,hu=>by
  obtain⟨cs,ys,rfl,hc,he,hy⟩:=h;rcases Az.1 hu with h1 | h1
  ·exact⟨cs,x,by simp,he,h1⟩
  ·obtain⟨ds,y,h2,h3,h4⟩:=Elems.mem hy h1;exact⟨ds,y,by simp [h2],h3,h4⟩
end


class Rp (α:Type) where
 sz:Nat
 agg:Bool
 pos:0<sz
 E:El α
 len:∀ {w M cs x},E w M cs x->cs.length=sz
 one:∀ {w M cs x},E w M cs x->∀ u∈cs,u.oneCell'=true
 mono:∀ {w M w' M' cs x},Keep w M w' M'->E w M cs x->E w' M' cs x

def Rv {α:Type} [Rp α] (w:World) (M:Ms) (v:Value) (x:α):Prop:=∃ cs,v=(if Rp.agg α then .agg cs.toArray else cs.headD undef)/\Rp.E w M cs x

theorem Rv.mono {α:Type} [Rp α] {w w':World} {M M':Ms} {v:Value} {x:α} (h:Rv w M v x) (k:Keep w M w' M'):Rv w' M' v x:=
 let ⟨cs,e,r⟩:=h;⟨cs,e,Rp.mono k r⟩
theorem Rv.below {α:Type} [Rp α] {w w':World} {M:Ms} {v:Value} {x:α} (h:Rv w M v x) (k:Below w.heap.size w w'):Rv w' M v x:=h.mono (zk k)

def SlR {α:Type} [Rp α] (w:World) (M:Ms) (v:Value) (l:List α):Prop:=
 ∃ a c xs,v = .slice a l.length c/\l.length<=c/\c<=maxLen/\Elems (Rp.sz α) (Rp.E w M) xs l/\
  (l≠ []->∃ b off,a=some ⟨b,off,none⟩/\¬M b/\∀ j u,xs[j]? = some u->w.cell? ⟨b,off+j,none⟩=some u)

theorem SlR.mono {α:Type} [Rp α] {w w':World} {M M':Ms} {v:Value} {l:List α} (h:SlR w M v l) (k:Keep w M w' M'):SlR w' M' v l:=by
 obtain⟨a,c,xs,rfl,h1,h2,h3,h4⟩:=h;refine⟨a,c,xs,rfl,h1,h2,h3.mono fun cs x _=>Rp.mono k,fun hne=>?_⟩;obtain⟨b,off,rfl,hm,hc⟩:=h4 hne;have hl:0<xs.length:=by rw [h3.length];exact Nat.mul_pos (List.length_pos_iff.2 hne) Rp.pos
 refine⟨b,off,rfl,?_,fun j u hu=>k.cell (by exact hm) (hc j u hu)⟩;have:=hc 0 xs[0] (Af hl);exact(k b (World.block_lt_of_cell? w _ this) hm).1

theorem SlR.at_ {α:Type} [Rp α] {w:World} {M:Ms} {a:Option Addr} {n c k:Nat} {l:List α} (h:SlR w M (.slice a n c) l) (hk:k<l.length) :
  ∃ b off cs,a=some ⟨b,off,none⟩/\¬M b/\Rp.E w M cs l[k]/\∀ j u,cs[j]? = some u->w.cell? ⟨b,off+k*Rp.sz α+j,none⟩=some u:=by
 obtain⟨a',c',xs,e,h1,h2,h3,h4⟩:=h;cases e;obtain⟨b,off,rfl,hm,hc⟩:=h4 (by intro e;rw [e] at hk;simp at hk);obtain⟨cs,hcl,he,hj⟩:=h3.get (Af hk);refine⟨b,off,cs,rfl,hm,he,fun j u hu=>?_⟩;have hlt:j<Rp.sz α:=by rw [<-hcl];exact(Ar.1 hu).1
 rw [Nat.add_assoc];exact hc _ u ((hj j hlt).trans hu)
theorem SlR.len_ {α:Type} [Rp α] {w:World} {M:Ms} {a:Option Addr} {n c:Nat} {l:List α} (h:SlR w M (.slice a n c) l):n=l.length:=by
 obtain⟨a',c',xs,e,h1,h2,h3,h4⟩:=h;cases e;rfl
theorem SlR.form {α:Type} [Rp α] {w:World} {M:Ms} {v:Value} {l:List α} (h:SlR w M v l):∃ a c,v = .slice a l.length c:=by
 obtain⟨a',c',xs,e,_⟩:=h;exact⟨_,_,e⟩

theorem Elems.oneCell {α:Type} [Rp α] {w:World} {M:Ms} {xs:List Value} {l:List α} (h:Elems (Rp.sz α) (Rp.E w M) xs l):∀ u∈xs,u.oneCell'=true:=fun u hu=>by
 obtain⟨cs,x,_,he,hc⟩:=h.mem hu;exact Rp.one he u hc

instance:Rp UInt8 where
 sz:=1
 agg:=false
 pos:=by omega
 E:=fun _ _ cs x=>cs=[.int .u8 x.toNat]
 len:=fun h=>by simp [h]
 one:=fun h u hu=>by rw [h] at hu;simp at hu;subst hu;rfl
 mono:=fun _ h=>h
instance:Rp Int where
 sz:=1
 agg:=false
 pos:=by omega
 E:=fun _ _ cs x=>cs=[.int .i64 x]
 len:=fun h=>by simp [h]
 one:=fun h u hu=>by rw [h] at hu;simp at hu;subst hu;rfl
 mono:=fun _ h=>h
instance:Rp Bool where
 sz:=1
 agg:=false
 pos:=by omega
 E:=fun _ _ cs x=>cs=[.bool x]
 len:=fun h=>by simp [h]
 one:=fun h u hu=>by rw [h] at hu;simp at hu;subst hu;rfl
 mono:=fun _ h=>h
instance {α:Type} [Rp α]:Rp (List α) where
 sz:=1
 agg:=false
 pos:=by omega
 E:=fun w M cs x=>∃ v,cs=[v]/\SlR w M v x
 len:=fun h=>by obtain⟨v,rfl,_⟩:=h;rfl
 one:=fun h u hu=>by obtain⟨v,rfl,a,c,xs,rfl,_⟩:=h;simp at hu;subst hu;rfl
 mono:=fun k h=>by obtain⟨v,rfl,h⟩:=h;exact⟨v,rfl,h.mono k⟩

theorem WO {α:Type} [Rp α] {w:World} {M:Ms} {v:Value} {x:List α}:Rv w M v x↔SlR w M v x:=by
 constructor
 ·rintro⟨cs,rfl,u,rfl,h⟩;exact h
 ·intro h;exact⟨[v],rfl,v,rfl,h⟩
def OwR {α:Type} [Rp α] (w:World) (M:Ms) (base:Nat) (e:TypeId) (v:Value) (l:List α):Prop:=
 ∃ xs,w.ownsRow base e (Rp.sz α) v l.length xs/\Elems (Rp.sz α) (Rp.E w fun b=>M b\/v.ownBlock=some b) xs l

section
variable {α:Type} [Rp α] {w w':World} {M:Ms} {base:Nat} {e:TypeId} {v:Value} {l:List α}
theorem OwR.nil (w:World) (M:Ms) (base:Nat) (e:TypeId):OwR w M base e (.slice none 0 0) ([]:List α):=⟨[],World.ownsRow_nil _ _ _ _,rfl⟩
theorem OwR.made (w:World) (M:Ms) (e:TypeId):OwR (w.alloc (.cells #[] e)) M w.heap.size e (.slice (some ⟨w.heap.size,0,none⟩) 0 0) ([]:List α):=
 ⟨[],World.ownsRow_made w #[] 0 (Ag _) (by simp [maxLen]) (by simp),rfl⟩
theorem OwR.form (h:OwR w M base e v l):∃ A c,v = .slice A l.length c:=by
 obtain⟨xs,ho,he⟩:=h;rcases ho.2 with ⟨rfl,hn⟩ | ⟨g,cap,cur,rfl,_⟩
 ·exact⟨none,0,by rw [hn]⟩
 ·exact⟨_,_,rfl⟩
theorem OwR.sl (h:OwR w M base e v l) (hM:∀ b,base<=b->¬M b):SlR w M v l:=by
 obtain⟨xs,ho,he⟩:=h;have he':Elems (Rp.sz α) (Rp.E w M) xs l:=he.mono fun cs x _=>Rp.mono fun b _ hb=>⟨fun hm=>hb (.inl hm),rfl⟩
 rcases ho.2 with ⟨rfl,hn⟩ | ⟨g,cap,cur,rfl,hb,hg,hnc,hcm,hcs,ht⟩
 ·have:l=[]:=Bt hn;subst this;exact⟨none,0,xs,rfl,by simp,by simp [maxLen],he',fun h=>absurd rfl h⟩
 ·refine⟨_,cap,xs,rfl,hnc,hcm,he',fun _=>⟨g,0,rfl,hM g hb,fun j u hu=>?_⟩⟩;have:=ho.cells (g:=g) rfl j u hu;rwa [Addr.add_lit] at this
theorem OwR.rv (h:OwR w M base e v l) (hM:∀ b,base<=b->¬M b):Rv w M v l:=WO.2 (h.sl hM)
theorem OwR.kept {row:Option Nat} (h:OwR w M base e v l) (hg:w.grownBy w' row) (hne:v.ownBlock=none\/v.ownBlock≠row) (hr:∀ b,row=some b->M b):OwR w' M base e v l:=by
 obtain⟨xs,ho,he⟩:=h;refine⟨xs,ho.kept hg hne,he.mono fun cs x _=>Rp.mono fun b hb hm=>⟨hm,hg.block b hb fun e=>hm (.inl (hr b e.symm))⟩⟩
theorem OwR.below (h:OwR w M base e v l) (hb:Below w.heap.size w w'):OwR w' M base e v l:=
 h.kept (row:=none) ⟨hb.os,hb.tape,hb.output,hb.size,fun k hk _=>hb.block k hk⟩ (by cases v.ownBlock <;> simp) (by simp)
theorem OwR.alloc (h:OwR w M base e v l) (o:Obj):OwR (w.alloc o) M base e v l:=h.below ((Below.refl _ _).alloc (Ag _) _)
end

structure SlT (P:Program) (t e:TypeId) (α:Type) [Rp α]:Prop where
 und:P.underlying t=some (.slice e)
 inf:∃ z n b,(P.info? e).map (fun i=>(i.zero,i.size,i.bytes))=some (some z,n,b)/\n=Rp.sz α/\b<=1000/\z.cells.size=Rp.sz α

theorem NL {α:Type} [Rp α] {P:Program} {w:World} {M:Ms} {base:Nat} {t ty e:TypeId} (T:SlT P t e α)
  {v:Value} {l m:List α} (hown:OwR w M base e v l) {s:Value} (hs:SlR w (fun b=>M b\/v.ownBlock=some b) s m)
  (hn:l.length+m.length<=1000000000) (hbase:base<=w.heap.size) :
  ∃ v' w',(Builtin.append_ #[t,t] ty #[v,s]).run P w = .ok v' w'/\OwR w' M base e v' (l ++ m)/\w.grownBy w' v.ownBlock/\
   (v'.ownBlock=v.ownBlock\/v'.ownBlock=some w.heap.size):=by
 obtain⟨ht,z,sz,bytes,hinf,hsz0,Yi,hzs⟩:=T;obtain⟨i,hi,hz,hsize,hby⟩:=info_parts hinf;rw [hsz0] at hsize;obtain⟨a,c,ys,rfl,h1,h2,h3,h4⟩:=hs;obtain⟨xs,ho,he⟩:=hown;have key:∀ v' w',w.grownBy w' v.ownBlock->(v'.ownBlock=v.ownBlock\/v'.ownBlock=some w.heap.size)->w'.ownsRow base e (Rp.sz α) v' (l.length+m.length) (xs ++ ys)->OwR w' M base e v' (l ++ m):=by
  intro v' w' hg hat hr;have hk:Keep w (fun b=>M b\/v.ownBlock=some b) w' (fun b=>M b\/v'.ownBlock=some b):=fun b hb hm=>by
   refine⟨fun h=>?_,hg.block b hb fun h=>hm (.inr h.symm)⟩;rcases h with h | h
   ·exact hm (.inl h)
   ·rcases hat with h5 | h5
    ·exact hm (.inr (h5 ▸ h))
    ·rw [h5] at h;injection h with h;omega
  exact⟨xs ++ ys,by rw [Ah];exact hr,(he.mono fun cs x _=>Rp.mono hk).append (h3.mono fun cs x _=>Rp.mono hk)⟩
 cases m with
 | nil=>
  have hy:ys=[]:=h3;subst hy;have hrun:(Builtin.append_ #[t,t] ty #[v, .slice a ([]:List α).length c]).run P w = .ok v w:=by
   rcases ho.2 with ⟨rfl,h0⟩ | ⟨g,cap,cur,rfl,_,hg,hnc,_⟩
   ·cases a <;> simp [Builtin.append_,run_underlying ht,sizeOf,typeInfo,hi,Builtin.lenOf,Builtin.firstCells,loadCells,loadCellsFrom]
   ·cases a <;> simp [Builtin.append_,run_underlying ht,sizeOf,typeInfo,hi,Builtin.lenOf,Builtin.firstCells,hnc,storeCells,loadCells,loadCellsFrom]
  exact⟨v,w,hrun,key v w (World.grownBy.refl w _) (.inl rfl) (by simpa using ho),World.grownBy.refl w _, .inl rfl⟩
 | cons y m=>
  obtain⟨b,off,rfl,hm,hc⟩:=h4 (by simp);have hbd:(l.length+(y::m).length)*bytes<=1000000000*1000:=C_ hn Yi;obtain⟨v',w',hrun,hr,hg,_,hat⟩:=run_append_own_at (P:=P) w base t ty e i z (Rp.sz α) bytes ht hi hz hsize hby hzs Rp.pos v l.length xs ho ⟨b,off,none⟩ (y::m).length c ys h3.length
   (fun j u hu=>by rw [Addr.add_lit];exact hc j u hu) h3.oneCell (by unfold maxLen;omega) (by omega) hbase
  exact⟨v',w',hrun,key v' w' hg hat hr,hg,hat⟩

theorem OD {α:Type} [Rp α] {P:Program} {w:World} {M:Ms} {base:Nat} {t e:TypeId} {o:Oper} {a:Act} {K:Act->World->Prop} {Q:Exit->Act->World->Prop} {s x:Operand}
  (ho:o.op = .call { callee:= .builtin .append,args:= #[s,x],argTypes:= #[t,t] }) (T:SlT P t e α)
  {v:Value} {l m:List α} (hv:a.eval s=v) (hown:OwR w M base e v l) {u:Value} (hu:a.eval x=u) (hs:SlR w (fun b=>M b\/v.ownBlock=some b) u m)
  (hn:l.length+m.length<=1000000000) (hbase:base<=w.heap.size)
  (h:∀ v' w',OwR w' M base e v' (l ++ m)->w.grownBy w' v.ownBlock->(v'.ownBlock=v.ownBlock\/v'.ownBlock=some w.heap.size)->K (a.put o.dst v') w'):o.wp P a w K Q:=by
 obtain⟨v',w',hrun,h2,h3,h4⟩:=NL (P:=P) (ty:=o.type) T hown hs hn hbase;unfold Oper.wp execOp;simp only [ho,resolve,invoke,builtin,Sem.run_bind,Sem.run_pure,Result.andThen_ok,List.map_toArray,A5,Bp,hv,hu,hrun];exact h v' w' h2 h3 h4

theorem GM {α:Type} [Rp α] {P:Program} {w:World} {M:Ms} {base:Nat} {t e:TypeId} {o:Oper} {a:Act} {ops:Array Oper} {rest:List Oper} {Q:Exit->Act->World->Prop} {s x:Operand}
  (hgd:o.guard=none) (ho:o.op = .call { callee:= .builtin .append,args:= #[s,x],argTypes:= #[t,t] }) (T:SlT P t e α)
  {v:Value} {l m:List α} (hv:a.eval s=v) (hown:OwR w M base e v l) {u:Value} (hu:a.eval x=u) (hs:SlR w (fun b=>M b\/v.ownBlock=some b) u m)
  (hn:l.length+m.length<=1000000000) (hbase:base<=w.heap.size)
  (h:∀ v' w',OwR w' M base e v' (l ++ m)->w.grownBy w' v.ownBlock->(v'.ownBlock=v.ownBlock\/v'.ownBlock=some w.heap.size)->wpList P ops Q rest (a.put o.dst v') w'):wpList P ops Q (o::rest) a w:=
 wpList_plain hgd fun _ hK=>OD ho T hv hown hu hs hn hbase fun v' w' h2 h3 h4=>hK _ _ (h v' w' h2 h3 h4)

theorem Keep.ownNil (w:World) (M:Ms) (c:Nat):Keep w M w (fun b=>M b\/(Value.slice none 0 c).ownBlock=some b):=fun _ _ h=>⟨fun h'=>h'.elim h (by simp [Value.ownBlock]),rfl⟩
theorem IX {w w':World} (h:Below w.heap.size w w') {a:Addr} {u:Value} (hc:w.cell? a=some u):w'.cell? a=some u:=(h.cell (World.block_lt_of_cell? w a hc)).trans hc
def Blk (w:World) (g:Nat) (t:TypeId) (cs:Array Value):Prop:=w.heap[g]? = some (.cells cs t (0,0))
section
variable {w w':World} {g:Nat} {t:TypeId} {cs:Array Value}
theorem Blk.lt (h:Blk w g t cs):g<w.heap.size:=(Aw.1 h).1
theorem Blk.cell (h:Blk w g t cs) (i:Nat):w.cell? ⟨g,i,none⟩=cs[i]? :=cell_of_row w g i cs t (0,0) h
theorem Blk.frozen (h:Blk w g t cs) (i:Nat):w.frozen? ⟨g,i,none⟩=false:=frozen_of_row w g i cs t h
theorem Blk.new (w:World) (t:TypeId) (cs:Array Value):Blk (w.alloc (.cells cs t)) w.heap.size t cs:=heap_alloc_new w _
theorem Blk.drew (h:Blk w g t cs):Blk w.drew g t cs:=h
theorem Blk.alloc (h:Blk w g t cs) (o:Obj):Blk (w.alloc o) g t cs:=(Below.heap_alloc w o g h.lt).trans h
theorem Blk.set_ (h:Blk w g t cs) (i:Nat) (u:Value):Blk (w.setCell ⟨g,i,none⟩ u) g t (cs.setIfInBounds i u):=by
 unfold Blk at h |-
 simp [World.setCell,Array.getElem?_modify,h]
theorem Blk.far (h:Blk w g t cs) {p:Addr} (hp:g≠p.block) (u:Value):Blk (w.setCell p u) g t cs:=(Below.heap_setCell w p u g hp).trans h
theorem Blk.below (h:Blk w g t cs) (hb:Below w.heap.size w w'):Blk w' g t cs:=(hb.block g h.lt).trans h
theorem Blk.keep {M M':Ms} (h:Blk w g t cs) (hk:Keep w M w' M') (hm:¬M g):Blk w' g t cs:=(hk g h.lt hm).2.trans h
theorem Blk.grown {row:Option Nat} (h:Blk w g t cs) (hb:w.grownBy w' row) (hg:some g≠row):Blk w' g t cs:=(hb.block g h.lt hg).trans h
theorem Blk.ne_ {g':Nat} {t':TypeId} {cs':Array Value} (h:Blk w g t cs) (h':Blk w g' t' cs') (hne:t≠t'):g≠g':=by
 rintro rfl;unfold Blk at h h';rw [h] at h';injection h' with h'
 injection h' with _ ht
 exact hne ht
theorem Blk.all (h:Blk w g t cs):(∀ i,w.cell? ⟨g,i,none⟩=cs[i]?)/\(∀ i,w.frozen? ⟨g,i,none⟩=false)/\g<w.heap.size:=⟨h.cell,h.frozen,h.lt⟩
end
theorem OwR.ne_ {α:Type} [Rp α] {w:World} {M:Ms} {base:Nat} {e t:TypeId} {v:Value} {l:List α} {g:Nat} {cs:Array Value} (h:OwR w M base e v l) (hg:Blk w g t cs) (hne:e≠t):v.ownBlock≠some g:=by
 obtain⟨xs,ho,_⟩:=h;rcases ho.2 with ⟨rfl,_⟩ | ⟨g',cap,cur,rfl,_,hh,_⟩
 ·simp [Value.ownBlock]
 ·intro he;have:g'=g:=by simpa [Value.ownBlock] using he
  subst this;exact Blk.ne_ (t:=e) hh hg hne rfl
theorem OwR.own_ge {α:Type} [Rp α] {w:World} {M:Ms} {base:Nat} {e:TypeId} {v:Value} {l:List α} {g:Nat} (h:OwR w M base e v l) (hg:v.ownBlock=some g):base<=g:=by
 obtain⟨xs,ho,_⟩:=h;exact(ho.lt g hg).1
theorem OwR.own_lt {α:Type} [Rp α] {w:World} {M:Ms} {base:Nat} {e:TypeId} {v:Value} {l:List α} {g:Nat} (h:OwR w M base e v l) (hg:v.ownBlock=some g):g<w.heap.size:=by
 obtain⟨xs,ho,_⟩:=h;exact(ho.lt g hg).2
theorem OwR.mono_base {α:Type} [Rp α] {w:World} {M:Ms} {base base':Nat} {e:TypeId} {v:Value} {l:List α} (h:OwR w M base e v l) (hb:base'<=base):OwR w M base' e v l:=by
 obtain⟨xs,⟨h1,h2⟩,he⟩:=h;refine⟨xs,⟨h1,h2.imp id ?_⟩,he⟩;rintro⟨g,cap,cur,hv,hg,r⟩;exact⟨g,cap,cur,hv,by omega,r⟩
theorem OwR.drew {α:Type} [Rp α] {w:World} {M:Ms} {base:Nat} {e:TypeId} {v:Value} {l:List α} (h:OwR w M base e v l):OwR w.drew M base e v l:=h.below ⟨rfl,rfl,rfl,Ag _,fun _ _=>rfl⟩
theorem OwR.setCell {α:Type} [Rp α] {w:World} {M:Ms} {base:Nat} {e:TypeId} {v:Value} {l:List α} (h:OwR w M base e v l) {p:Addr} (hp:v.ownBlock≠some p.block) (hM:M p.block) (u:Value):OwR (w.setCell p u) M base e v l:=
 h.kept (row:=some p.block) ⟨rfl,rfl,rfl,by simp,fun k hk hne=>Below.heap_setCell _ _ _ _ (fun e=>hne (by rw [e]))⟩ (.inr hp) (fun b e=>by cases e;exact hM)
def Ms.and (M:Ms) (g:Nat):Ms:=fun b=>M b\/b=g
theorem Keep.boxed {w w':World} {M:Ms} (h:Below w.heap.size w w') {g:Nat} (hg:w.heap.size<=g):Keep w M w' (Ms.and M g):=fun b hb hm=>⟨fun h'=>h'.elim hm (by omega),h.block b hb⟩
theorem Keep.less {w:World} {M M':Ms} (h:∀ b,M' b->M b):Keep w M w M':=fun b _ hm=>⟨fun h'=>hm (h b h'),rfl⟩
theorem OwR.less {α:Type} [Rp α] {w:World} {M M':Ms} {base:Nat} {e:TypeId} {v:Value} {l:List α} (h:OwR w M base e v l) (hm:∀ b,M' b->M b):OwR w M' base e v l:=by
 obtain⟨xs,ho,he⟩:=h;exact⟨xs,ho,he.mono fun cs x _=>Rp.mono (Keep.less fun b hb=>hb.imp (hm b) id)⟩
def Ms.new (M:Ms) (n:Nat):Ms:=fun b=>M b\/n<=b
theorem Keep.fresh {w w':World} {M:Ms} (h:Below w.heap.size w w'):Keep w M w' (Ms.new M w.heap.size):=fun b hb hm=>⟨fun h'=>h'.elim hm (by omega),h.block b hb⟩
theorem SlR.one {α:Type} [Rp α] {w:World} {M:Ms} {g:Nat} {t:TypeId} {cs:List Value} {x:α} (hb:Blk w g t cs.toArray) (he:Rp.E w M cs x) (hm:¬M g):SlR w M (.slice (some ⟨g,0,none⟩) 1 1) [x]:=
 ⟨_,1,cs,rfl,Ag _,by simp [maxLen],Elems.one (Rp.len he) he,fun _=>⟨g,0,rfl,hm,fun j u hu=>by rw [Au,hb.cell];simpa using hu⟩⟩
theorem OwR.at_ {α:Type} [Rp α] {w:World} {M:Ms} {base:Nat} {e:TypeId} {v:Value} {l:List α} {k:Nat} (h:OwR w M base e v l) (hk:k<l.length) :
  ∃ g c cs,v = .slice (some ⟨g,0,none⟩) l.length c/\base<=g/\l.length<=c/\(∀ i,w.frozen? ⟨g,i,none⟩=false)/\Rp.E w (fun b=>M b\/v.ownBlock=some b) cs l[k]/\∀ j u,cs[j]? = some u->w.cell? ⟨g,k*Rp.sz α+j,none⟩=some u:=by
 obtain⟨xs,ho,he⟩:=h;rcases ho.2 with ⟨rfl,hn⟩ | ⟨g,cap,cur,rfl,hb,hg,hnc,hcm,hcs,ht⟩
 ·omega
 ·obtain⟨cs,hcl,hce,hj⟩:=he.get (Af hk);refine⟨g,cap,cs,rfl,hb,hnc,fun i=>frozen_of_row w g i cur e hg,hce,fun j u hu=>?_⟩;have hlt:j<Rp.sz α:=by rw [<-hcl];exact(Ar.1 hu).1
  have:=ho.cells (g:=g) rfl _ u ((hj j hlt).trans hu);rwa [Addr.add_lit,Au] at this
theorem GK (w:World):Below w.heap.size w w.drew:=(Below.refl _ _).drew
theorem Keep.ownNew {w:World} {M:Ms} {o:Obj} {n c:Nat}:Keep w M (w.alloc o) (fun b=>M b\/(Value.slice (some ⟨w.heap.size,0,none⟩) n c).ownBlock=some b):=fun b hb h=>
 ⟨fun h'=>h'.elim h (by simp [Value.ownBlock];omega),Below.heap_alloc w o b hb⟩
end
end Go.Proofs.YtpjkcgacjjbikaaGreatDoor
namespace Go.Proofs.YtpjkcgacjjbikaaGreatDoor.A
section
open Go.RowKit
inductive AV where
 | top
 | v (x:Value)
 | sl (sz n:Nat) (get:Nat->List AV)
 | rp (cs:List AV)
 | bp (k off:Nat)
 | ow (k n:Nat)
 | ep (k n i sz off:Nat)
 | ag (cs:List AV)
 | tp (vs:List AV)
 | fn (f:FuncId) (cs:List AV)
 | ic (t:TypeId) (cs:List AV)
@[reducible] def iv (n:Int):AV:=.v (.int .i64 n)

structure Ctx where
 w:World
 base:Nat
 M:Ms
 rho:Nat->Value
 len:Nat->Nat
 dom:Nat

mutual
def AV.lt:AV->Nat->Bool
 | .bp k _,n=>Nat.blt k n
 | .ow k _,n=>Nat.blt k n
 | .ep k _ _ _ _,n=>Nat.blt k n
 | .ag cs,n=>AV.ltL cs n
 | .tp cs,n=>AV.ltL cs n
 | .fn _ cs,n=>AV.ltL cs n
 | .ic _ cs,n=>AV.ltL cs n
 | _,_=>true
def AV.ltL:List AV->Nat->Bool
 | [],_=>true
 | x::l,n=>x.lt n&&AV.ltL l n
end

def Ctx.closed (c:Ctx):Ctx:={ c with dom:=0 }

mutual
def Rd:AV->Ctx->Value->Prop
 | .top,_,_=>True
 | .v x,_,u=>u=x
 | .sl sz n get,c,u=>∃ a k,u = .slice a n k/\n<=k/\k<=maxLen/\
   (n=0\/∃ b off,a=some ⟨b,off,none⟩/\¬c.M b/\b<c.w.heap.size/\∀ i,i<n->(get i).length=sz/\RdAt (get i) c.closed b (off+i*sz))
 | .rp cs,c,u=>∃ b off,u = .pointer (some ⟨b,off,none⟩)/\¬c.M b/\b<c.w.heap.size/\RdAt cs c.closed b off
 | .bp k off,c,u=>k<c.dom/\∃ g,c.rho k = .pointer (some ⟨g,0,none⟩)/\u = .pointer (some ⟨g,off,none⟩)
 | .ow k n,c,u=>k<c.dom/\n<=c.len k/\(∃ a p,u = .slice a n p/\(n≠0->∃ g,a=some ⟨g,0,none⟩))/\(n=c.len k->u=c.rho k)
 | .ep k n i sz off,c,u=>k<c.dom/\n<=c.len k/\∃ b o,u = .pointer (some ⟨b,o,none⟩)/\(n=c.len k->∃ p,c.rho k = .slice (some ⟨b,0,none⟩) n p/\o=i*sz+off)
 | .ag cs,c,u=>∃ xs,u = .agg xs.toArray/\RdL cs c xs
 | .tp cs,c,u=>∃ xs,u = .tuple xs.toArray/\RdL cs c xs
 | .fn f cs,c,u=>∃ xs,u = .func (.func f) #[] xs.toArray/\RdL cs c xs
 | .ic t cs,c,u=>∃ xs,u = .iface t (xs.headD undef)/\RdL cs c xs
def RdL:List AV->Ctx->List Value->Prop
 | [],_,xs=>xs=[]
 | x::l,c,xs=>∃ y ys,xs=y::ys/\Rd x c y/\RdL l c ys
def RdAt:List AV->Ctx->Nat->Nat->Prop
 | [],_,_,_=>True
 | x::l,c,b,off=>(∃ u,c.w.cell? ⟨b,off,none⟩=some u/\u.oneCell'=true/\Rd x c u)/\RdAt l c b (off+1)
end

structure Ext (c c':Ctx):Prop where
 os:c'.w.os=c.w.os
 tape:c'.w.tape=c.w.tape
 output:c'.w.output=c.w.output
 size:c.w.heap.size<=c'.w.heap.size
 keep:∀ b,b<c.w.heap.size->¬c.M b->¬c'.M b/\c'.w.heap[b]? = c.w.heap[b]?
 dom:c.dom<=c'.dom
 len:∀ k,k<c.dom->c.len k<=c'.len k
 rho:∀ k,k<c.dom->c.len k=c'.len k->c'.rho k=c.rho k
 box:∀ k g,k<c.dom->c.rho k = .pointer g->c'.rho k = .pointer g

theorem Ext.refl (c:Ctx):Ext c c:=⟨rfl,rfl,rfl,Ag _,fun _ _ h=>⟨h,rfl⟩,Ag _,fun _ _=>Ag _,fun _ _ _=>rfl,fun _ _ _ h=>h⟩
def zM:=@Ext.refl
theorem Ext.trans {a b c:Ctx} (h:Ext a b) (k:Ext b c):Ext a c where
 os:=k.os.trans h.os
 tape:=k.tape.trans h.tape
 output:=k.output.trans h.output
 size:=AW h.size k.size
 keep:=fun i hi hm=>by
  obtain⟨h1,h2⟩:=h.keep i hi hm;obtain⟨h3,h4⟩:=k.keep i (As hi h.size) h1;exact⟨h3,h4.trans h2⟩
 dom:=AW h.dom k.dom
 len:=fun i hi=>AW (h.len i hi) (k.len i (As hi h.dom))
 rho:=fun i hi he=>by
  have h1:=h.len i hi;have h2:=k.len i (As hi h.dom);rw [k.rho i (As hi h.dom) (by omega),h.rho i hi (by omega)]
 box:=fun i g hi hg=>k.box i g (As hi h.dom) (h.box i g hi hg)
theorem Ext.closed {c c':Ctx} (h:Ext c c'):Ext c.closed c'.closed where
 os:=h.os
 tape:=h.tape
 output:=h.output
 size:=h.size
 keep:=h.keep
 dom:=Ag _
 len:=fun k hk=>absurd hk (Ap k)
 rho:=fun k hk=>absurd hk (Ap k)
 box:=fun k _ hk=>absurd hk (Ap k)
theorem Ext.cell {c c':Ctx} (h:Ext c c') {b off:Nat} {u:Value} (hb:b<c.w.heap.size) (hm:¬c.M b) (hc:c.w.cell? ⟨b,off,none⟩=some u):c'.w.cell? ⟨b,off,none⟩=some u:=
 (World.cell?_of_block (h.keep b hb hm).2).trans hc

mutual
theorem Rd.ext:∀ (x:AV) {c c':Ctx} {u:Value},Ext c c'->Rd x c u->Rd x c' u
 | .top,_,_,_,_,_=>by simp [Rd]
 | .v _,_,_,_,_,hr=>by simpa [Rd] using hr
 | .sl sz n get,c,c',u,h,hr=>by
  simp only [Rd] at hr |-
  obtain⟨a,k,rfl,h1,h2,h3⟩:=hr;refine⟨a,k,rfl,h1,h2,h3.imp id ?_⟩;rintro⟨b,off,rfl,hm,hb,hc⟩;exact⟨b,off,rfl,(h.keep b hb hm).1,As hb h.size,fun i hi=>⟨(hc i hi).1,RdAt.ext (get i) h.closed hb hm (hc i hi).2⟩⟩
 | .rp cs,c,c',u,h,hr=>by
  simp only [Rd] at hr |-
  obtain⟨b,off,rfl,hm,hb,hc⟩:=hr;exact⟨b,off,rfl,(h.keep b hb hm).1,As hb h.size,RdAt.ext cs h.closed hb hm hc⟩
 | .bp k off,c,c',u,h,hr=>by
  simp only [Rd] at hr |-
  obtain⟨hk,g,hg,rfl⟩:=hr;exact⟨As hk h.dom,g,h.box k _ hk hg,rfl⟩
 | .ow k n,c,c',u,h,hr=>by
  simp only [Rd] at hr |-
  obtain⟨hk,hn,ha,he⟩:=hr;have:=h.len k hk;refine⟨As hk h.dom,by omega,ha,fun e=>?_⟩;rw [h.rho k hk (by omega)];exact he (by omega)
 | .ep k n i sz off,c,c',u,h,hr=>by
  simp only [Rd] at hr |-
  obtain⟨hk,hn,b,o,hu,he⟩:=hr;have:=h.len k hk;refine⟨As hk h.dom,by omega,b,o,hu,fun e=>?_⟩;rw [h.rho k hk (by omega)];exact he (by omega)
 | .ag cs,c,c',u,h,hr=>by
  simp only [Rd] at hr |-
  obtain⟨xs,rfl,hx⟩:=hr;exact⟨xs,rfl,RdL.ext cs h hx⟩
 | .tp cs,c,c',u,h,hr=>by
  simp only [Rd] at hr |-
  obtain⟨xs,rfl,hx⟩:=hr;exact⟨xs,rfl,RdL.ext cs h hx⟩
 | .fn f cs,c,c',u,h,hr=>by
  simp only [Rd] at hr |-
  obtain⟨xs,rfl,hx⟩:=hr;exact⟨xs,rfl,RdL.ext cs h hx⟩
 | .ic f cs,c,c',u,h,hr=>by
  simp only [Rd] at hr |-
  obtain⟨xs,rfl,hx⟩:=hr;exact⟨xs,rfl,RdL.ext cs h hx⟩
theorem RdL.ext:∀ (l:List AV) {c c':Ctx} {xs:List Value},Ext c c'->RdL l c xs->RdL l c' xs
 | [],_,_,_,_,hr=>by simpa [RdL] using hr
 | x::l,c,c',xs,h,hr=>by
  simp only [RdL] at hr |-
  obtain⟨y,ys,rfl,h1,h2⟩:=hr;exact⟨y,ys,rfl,Rd.ext x h h1,RdL.ext l h h2⟩
theorem RdAt.ext:∀ (l:List AV) {c c':Ctx} {b off:Nat},Ext c c'->b<c.w.heap.size->¬c.M b->RdAt l c b off->RdAt l c' b off
 | [],_,_,_,_,_,_,_,_=>by simp [RdAt]
 | x::l,c,c',b,off,h,hb,hm,hr=>by
  simp only [RdAt] at hr |-
  obtain⟨⟨u,h1,h2,h3⟩,h4⟩:=hr;exact⟨⟨u,h.cell hb hm h1,h2,Rd.ext x h h3⟩,RdAt.ext l h hb hm h4⟩
end

structure Cut (c c':Ctx):Prop where
 ext:Ext c.closed c'.closed
 rho:∀ k,k<c'.dom->c'.rho k=c.rho k/\c'.len k=c.len k
mutual
theorem Rd.cut:∀ (x:AV) {c c':Ctx} {u:Value},Cut c c'->(x.lt c'.dom=true)->Rd x c u->Rd x c' u
 | .top,_,_,_,_,_,_=>by simp [Rd]
 | .v _,_,_,_,_,_,hr=>by simpa [Rd] using hr
 | .sl sz n get,c,c',u,h,hx,hr=>by
  simp only [Rd] at hr |-
  obtain⟨a,k,rfl,h1,h2,h3⟩:=hr;refine⟨a,k,rfl,h1,h2,h3.imp id ?_⟩;rintro⟨b,off,rfl,hm,hb,hc⟩;exact⟨b,off,rfl,(h.ext.keep b hb hm).1,As hb h.ext.size,fun i hi=>⟨(hc i hi).1,RdAt.ext (get i) h.ext hb hm (hc i hi).2⟩⟩
 | .rp cs,c,c',u,h,hx,hr=>by
  simp only [Rd] at hr |-
  obtain⟨b,off,rfl,hm,hb,hc⟩:=hr;exact⟨b,off,rfl,(h.ext.keep b hb hm).1,As hb h.ext.size,RdAt.ext cs h.ext hb hm hc⟩
 | .bp k off,c,c',u,h,hx,hr=>by
  simp only [Rd] at hr |-
  obtain⟨_,g,hg,rfl⟩:=hr;have hx:k<c'.dom:=by simpa [AV.lt] using hx
  exact⟨hx,g,by rw [(h.rho k hx).1];exact hg,rfl⟩
 | .ow k n,c,c',u,h,hx,hr=>by
  simp only [Rd] at hr |-
  obtain⟨_,hn,ha,he⟩:=hr;have hx:k<c'.dom:=by simpa [AV.lt] using hx
  rw [(h.rho k hx).1,(h.rho k hx).2];exact⟨hx,hn,ha,he⟩
 | .ep k n i sz off,c,c',u,h,hx,hr=>by
  simp only [Rd] at hr |-
  obtain⟨_,hn,he⟩:=hr;have hx:k<c'.dom:=by simpa [AV.lt] using hx
  rw [(h.rho k hx).1,(h.rho k hx).2];exact⟨hx,hn,he⟩
 | .ag cs,c,c',u,h,hx,hr=>by
  simp only [Rd] at hr |-
  obtain⟨xs,rfl,hc⟩:=hr;exact⟨xs,rfl,RdL.cut cs h (by simpa [AV.lt] using hx) hc⟩
 | .tp cs,c,c',u,h,hx,hr=>by
  simp only [Rd] at hr |-
  obtain⟨xs,rfl,hc⟩:=hr;exact⟨xs,rfl,RdL.cut cs h (by simpa [AV.lt] using hx) hc⟩
 | .fn f cs,c,c',u,h,hx,hr=>by
  simp only [Rd] at hr |-
  obtain⟨xs,rfl,hc⟩:=hr;exact⟨xs,rfl,RdL.cut cs h (by simpa [AV.lt] using hx) hc⟩
 | .ic f cs,c,c',u,h,hx,hr=>by
  simp only [Rd] at hr |-
  obtain⟨xs,rfl,hc⟩:=hr;exact⟨xs,rfl,RdL.cut cs h (by simpa [AV.lt] using hx) hc⟩
theorem RdL.cut:∀ (l:List AV) {c c':Ctx} {xs:List Value},Cut c c'->(AV.ltL l c'.dom=true)->RdL l c xs->RdL l c' xs
 | [],_,_,_,_,_,hr=>by simpa [RdL] using hr
 | x::l,c,c',xs,h,hx,hr=>by
  simp only [RdL] at hr |-
  obtain⟨y,ys,rfl,h1,h2⟩:=hr;simp only [AV.ltL,Ad] at hx;exact⟨y,ys,rfl,Rd.cut x h hx.1 h1,RdL.cut l h hx.2 h2⟩
end
def globOk (w:World):Prop:=Lib.Utf8Tabs 0 1 w
theorem globOk.keep {w w':World} (h:globOk w) (_:w.heap.size<=w'.heap.size) (hb:∀ b,b<w.heap.size->w'.heap[b]? = w.heap[b]?):globOk w':=by
 have e:∀ {a:Addr} {u:Value},w.cell? a=some u->w'.cell? a=some u:=fun hc=>(World.cell?_of_block (hb _ (World.block_lt_of_cell? w _ hc))).trans hc
 exact⟨fun c hc=>e (h.1 c hc),fun i hi=>⟨e (h.2 i hi).1,e (h.2 i hi).2⟩⟩
inductive TD where
 | int (k:IntKind)
 | bool
 | str
 | slice (e:TypeId) (esz:Nat)
 | struct (fs:List (Nat × Nat)) (ag:List Nat)
 | arr (n:Nat) (e:TypeId) (esz:Nat)
 | ifc (any:Bool)
 | ptr
 | other
structure Ty where
 sz:Nat
 agg:Bool
 zero:List Value
 d:TD
def aggD:TypeDesc->Bool
 | .struct _ | .array _ _=>true
 | _=>false
def codeA:Option TypeDesc->Nat
 | none=>0
 | some d=>bif aggD d then 1 else 2
def Dw (P:Program):TypeDesc->TD
 | .int k=> .int k
 | .bool=> .bool
 | .string=> .str
 | .slice e=> .slice e (((P.info? e).map (·.size)).getD 0)
 | .struct fs=> .struct (fs.toList.map fun f=>(f.offset,((P.info? f.type).map (·.size)).getD 0)) (fs.toList.map fun f=>codeA (P.underlying f.type))
 | .array n e=> .arr n e (((P.info? e).map (·.size)).getD 0)
 | .interface ms=> .ifc ms.isEmpty
 | .pointer _=> .ptr
 | _=> .other
def isAggV:Value->Bool
 | .agg _=>true
 | _=>false
def Uv (P:Program) (t:TypeId):Option (Nat × Bool × List Value × Bool × TD):=
 match P.info? t,P.underlying t with
 | some i,some d=>match i.zero with
  | some z=>some (i.size,decide (i.bytes<=1000)&&(isAggV z == aggD d),z.cells.toList,aggD d,Dw P d)
  | none=>none
 | _,_=>none
def TyOk (P:Program) (t:TypeId) (ty:Ty):Prop:=Uv P t=some (ty.sz,true,ty.zero,ty.agg,ty.d)
abbrev Tys:=List (Nat × Ty)
def tget:Tys->Nat->Option Ty
 | [],_=>none
 | (i,x)::r,t=>bif Nat.beq i t then some x else tget r t
def TOk (P:Program):Tys->Prop
 | []=>True
 | (i,x)::r=>TyOk P i x/\TOk P r
theorem TOk.get {P:Program} {t:TypeId} {ty:Ty}:∀ {T:Tys},TOk P T->tget T t=some ty->TyOk P t ty
 | [],_,h=>by simp [tget] at h
 | (i,x)::r,hT,h=>by
  unfold tget at h;cases hb:Nat.beq i t with
  | true=>rw [hb] at h;simp at h;subst h;rw [<-Am hb];exact hT.1
  | false=>rw [hb] at h;exact TOk.get hT.2 h
structure TyP (P:Program) (t:TypeId) (ty:Ty) (i:TypeInfo) (d:TypeDesc) (z:Value):Prop where
 info:P.info? t=some i
 und:P.underlying t=some d
 zero:i.zero=some z
 zc:z.cells.toList=ty.zero
 size:i.size=ty.sz
 bytes:i.bytes<=1000
 za:isAggV z=aggD d
 agg:aggD d=ty.agg
 td:Dw P d=ty.d
theorem TyOk.parts {P:Program} {t:TypeId} {ty:Ty} (h:TyOk P t ty):∃ i d z,TyP P t ty i d z:=by
 unfold TyOk Uv at h;split at h
 ·rename_i i d hi hd;split at h
  ·rename_i z hz;simp only [Option.some.injEq,Prod.mk.injEq,Ad,decide_eq_true_eq,beq_iff_eq] at h;exact⟨i,d,z,hi,hd,hz,h.2.2.1,h.1,h.2.1.1,h.2.1.2,h.2.2.2.1,h.2.2.2.2⟩
  ·cases h
 ·cases h
theorem TyP.isAgg {P:Program} {t:TypeId} {ty:Ty} {i d z} (h:TyP P t ty i d z) (w:World):(Go.isAgg t).run P w = .ok ty.agg w:=by
 have h2:=h.agg;unfold Go.isAgg;simp only [Sem.run_bind,run_underlying h.und,Result.andThen_ok];cases d <;> simp [aggD] at h2 |- <;> exact h2
theorem TyP.sizeOf {P:Program} {t:TypeId} {ty:Ty} {i d z} (h:TyP P t ty i d z) (w:World):(Go.sizeOf t).run P w = .ok ty.sz w:=by
 simp [Go.sizeOf,typeInfo,h.info,h.size]

def Old (w w':World):Prop:=∀ b,b<w.heap.size->w'.heap[b]? = w.heap[b]?
theorem Old.refl (w:World):Old w w:=fun _ _=>rfl
def zy:=@Old.refl
theorem Old.trans {a b c:World} (h:Old a b) (k:Old b c):Old a c:=fun i hi=>by
 have h1:=h i hi;have hi':i<b.heap.size:=by
  rcases BT i b.heap.size with h3 | h3
  ·exact h3
  ·rw [B4 h3,Ce hi] at h1;cases h1
 exact(k i hi').trans h1
theorem Old.cell {w w':World} (h:Old w w') {a:Addr} {u:Value} (hc:w.cell? a=some u):w'.cell? a=some u:=(World.cell?_of_block (h a.block (World.block_lt_of_cell? w a hc))).trans hc
theorem _root_.Go.RowKit.Below.old {w w':World} (h:Below w.heap.size w w'):Old w w':=h.block
abbrev Fr:=List (Nat × AV)
def fget:Fr->Nat->AV
 | [],_=> .top
 | (i,x)::r,t=>bif Nat.beq i t then x else fget r t
def ev (fr:Fr):Operand->AV
 | .tmp t=>fget fr t
 | .const v=> .v v
 | .global g=> .v (.pointer (some ⟨g,0,none⟩))
 | .func f=> .v (.func (.func f) #[] #[])
structure Like (c c':Ctx):Prop where
 M:c'.M=c.M
 size:c.w.heap.size<=c'.w.heap.size
 cell:∀ a u,c.w.cell? a=some u->c'.w.cell? a=some u
 dom:c'.dom=c.dom
 len:c'.len=c.len
 rho:c'.rho=c.rho
theorem Like.closed {c c':Ctx} (h:Like c c'):Like c.closed c'.closed:=⟨h.M,h.size,h.cell,rfl,h.len,h.rho⟩
mutual
theorem Rd.like:∀ (x:AV) {c c':Ctx} {u:Value},Like c c'->Rd x c u->Rd x c' u
 | .top,_,_,_,_,_=>by simp [Rd]
 | .v _,_,_,_,_,hr=>by simpa [Rd] using hr
 | .sl sz n get,c,c',u,h,hr=>by
  simp only [Rd] at hr |-
  obtain⟨a,k,rfl,h1,h2,h3⟩:=hr;refine⟨a,k,rfl,h1,h2,h3.imp id ?_⟩;rintro⟨b,off,rfl,hm,hb,hc⟩;exact⟨b,off,rfl,by rw [h.M];exact hm,As hb h.size,fun i hi=>⟨(hc i hi).1,RdAt.like (get i) h.closed (hc i hi).2⟩⟩
 | .rp cs,c,c',u,h,hr=>by
  simp only [Rd] at hr |-
  obtain⟨b,off,rfl,hm,hb,hc⟩:=hr;exact⟨b,off,rfl,by rw [h.M];exact hm,As hb h.size,RdAt.like cs h.closed hc⟩
 | .bp k off,c,c',u,h,hr=>by
  simp only [Rd] at hr |-
  rw [h.dom,h.rho];exact hr
 | .ow k n,c,c',u,h,hr=>by
  simp only [Rd] at hr |-
  rw [h.dom,h.rho,h.len];exact hr
 | .ep k n i sz off,c,c',u,h,hr=>by
  simp only [Rd] at hr |-
  rw [h.dom,h.rho,h.len];exact hr
 | .ag cs,c,c',u,h,hr=>by
  simp only [Rd] at hr |-
  obtain⟨xs,rfl,hx⟩:=hr;exact⟨xs,rfl,RdL.like cs h hx⟩
 | .tp cs,c,c',u,h,hr=>by
  simp only [Rd] at hr |-
  obtain⟨xs,rfl,hx⟩:=hr;exact⟨xs,rfl,RdL.like cs h hx⟩
 | .fn f cs,c,c',u,h,hr=>by
  simp only [Rd] at hr |-
  obtain⟨xs,rfl,hx⟩:=hr;exact⟨xs,rfl,RdL.like cs h hx⟩
 | .ic f cs,c,c',u,h,hr=>by
  simp only [Rd] at hr |-
  obtain⟨xs,rfl,hx⟩:=hr;exact⟨xs,rfl,RdL.like cs h hx⟩
theorem RdL.like:∀ (l:List AV) {c c':Ctx} {xs:List Value},Like c c'->RdL l c xs->RdL l c' xs
 | [],_,_,_,_,hr=>by simpa [RdL] using hr
 | x::l,c,c',xs,h,hr=>by
  simp only [RdL] at hr |-
  obtain⟨y,ys,rfl,h1,h2⟩:=hr;exact⟨y,ys,rfl,Rd.like x h h1,RdL.like l h h2⟩
theorem RdAt.like:∀ (l:List AV) {c c':Ctx} {b off:Nat},Like c c'->RdAt l c b off->RdAt l c' b off
 | [],_,_,_,_,_,_=>by simp [RdAt]
 | x::l,c,c',b,off,h,hr=>by
  simp only [RdAt] at hr |-
  obtain⟨⟨u,h1,h2,h3⟩,h4⟩:=hr;exact⟨⟨u,h.cell _ _ h1,h2,Rd.like x h h3⟩,RdAt.like l h h4⟩
end
theorem Ext.ofClosed (c:Ctx):Ext c.closed c:=⟨rfl,rfl,rfl,Ag _,fun _ _ h=>⟨h,rfl⟩,Aj _,fun k hk=>absurd hk (Ap k),fun k hk=>absurd hk (Ap k),fun k _ hk=>absurd hk (Ap k)⟩

def zA:=@Ext.ofClosed
inductive AB where
 | box (t:TypeId) (cs:List AV)
 | row (t:TypeId) (sz:Nat) (es:List (List AV))
 | iter (s:ByteArray) (pos:Nat)
 | dead
 | rowo (t:TypeId) (sz:Nat) (es:List (List AV)) (m:Nat)
def AB.live:AB->Bool
 | .dead=>false
 | _=>true
def hget:List AB->Nat->Option AB
 | [],_=>none
 | x::_,0=>some x
 | _::r,n+1=>hget r n
theorem hget_eq:∀ (H:List AB) (k:Nat),hget H k=H[k]?
 | [],_=>by simp [hget]
 | x::r,0=>by simp [hget]
 | x::r,n+1=>by simp [hget,hget_eq r n]
def oB:Value->Option Nat
 | .pointer (some a)=>some a.block
 | .slice (some a) _ _=>some a.block
 | _=>none
def BlkOk (c:Ctx) (k:Nat):AB->Prop
 | .box t cs=>∃ g xs,c.rho k = .pointer (some ⟨g,0,none⟩)/\c.w.heap[g]? = some (.cells xs.toArray t (0,0))/\RdL cs c xs/\∀ u∈xs,u.oneCell'=true
 | .row t sz es=>c.len k=es.length/\0<sz/\(∀ e∈es,e.length=sz)/\∃ xs,c.w.ownsRow c.base t sz (c.rho k) es.length xs/\RdL es.flatten c.closed xs/\∀ u∈xs,u.oneCell'=true
 | .iter s pos=>∃ g,c.rho k = .pointer (some ⟨g,0,none⟩)/\c.w.heap[g]? = some (.stringIter s pos)
 | .dead=>True
 | .rowo t sz es m=>c.len k=es.length/\0<sz/\(∀ e∈es,e.length=sz)/\AV.ltL es.flatten m=true/\∃ xs,c.w.ownsRow c.base t sz (c.rho k) es.length xs/\RdL es.flatten c xs/\∀ u∈xs,u.oneCell'=true
structure Fl where
 w:World
 old:Nat->Prop
 lt:∀ b,old b->b<w.heap.size
 gl:∀ w':World,w.heap.size<=w'.heap.size->(∀ b,old b->w'.heap[b]? = w.heap[b]?)->globOk w'
 chk:Prop
structure LowF (w0:Fl) (w:World):Prop where
 os:w.os=w0.w.os
 tape:w.tape=w0.w.tape
 output:w.output=w0.w.output
 size:w0.w.heap.size<=w.heap.size
 block:∀ b,w0.old b->w.heap[b]? = w0.w.heap[b]?
theorem LowF.trans {w0:Fl} {w w':World} (h:LowF w0 w) (k:Below w.heap.size w w'):LowF w0 w':=
 ⟨k.os.trans h.os,k.tape.trans h.tape,k.output.trans h.output,AW h.size k.size,fun b hb=>(k.block b (As (w0.lt b hb) h.size)).trans (h.block b hb)⟩
def Fl.all (w:World) (h:globOk w):Fl:=⟨w,fun b=>b<w.heap.size,fun _ h=>h,fun _ hs hb=>h.keep hs hb,True⟩
theorem LowF.refl (w:World) (h:globOk w):LowF (Fl.all w h) w:=⟨rfl,rfl,rfl,Ag _,fun _ _=>rfl⟩
def yZ:=@LowF.refl
theorem LowF.below {w w':World} {hg:globOk w} (h:LowF (Fl.all w hg) w'):Below w.heap.size w w':=⟨h.os,h.tape,h.output,h.size,fun b hb=>h.block b hb⟩
theorem LowF.of {w w':World} (hg:globOk w) (h:Below w.heap.size w w'):LowF (Fl.all w hg) w':=⟨h.os,h.tape,h.output,h.size,fun b hb=>h.block b hb⟩
def DfOk (w0:Fl) (c:Ctx):List Deferred->Prop
 | []=>True
 | d::r=>(w0.chk->∃ b,d={ target:= .collected b,args:= #[] }/\w0.w.heap.size<=b/\¬c.M b/\c.w.heap[b]? = some (.deferred (some []))/\∀ e∈r,e.target≠ .collected b)/\DfOk w0 c r
theorem DfOk.ext {w0:Fl} {c c':Ctx} (e:Ext c c'):∀ {l:List Deferred},DfOk w0 c l->DfOk w0 c' l
 | [],_=>trivial
 | _::_,h=>by
  refine⟨fun hc=>?_,DfOk.ext e h.2⟩;obtain⟨b,h1,h2,h3,h4,h5⟩:=h.1 hc;have hb:b<c.w.heap.size:=(Aw.1 h4).1;exact⟨b,h1,h2,(e.keep b hb h3).1,(e.keep b hb h3).2.trans h4,h5⟩
theorem DfOk.free {w0:Fl} {c:Ctx} (hc:¬w0.chk):∀ {l:List Deferred},DfOk w0 c l
 | []=>trivial
 | _::_=>⟨fun h=>absurd h hc,DfOk.free hc⟩
structure FR (w0:Fl) (c:Ctx) (n:Nat) (fr:Fr) (a:Act):Prop where
 size:a.tmps.size=n
 defers:DfOk w0 c a.defers
 get:∀ i,Rd (fget fr i) c (a.tmps.getD i undef)
theorem FR.ev {w0:Fl} {c:Ctx} {n:Nat} {fr:Fr} {a:Act} (h:FR w0 c n fr a) (o:Operand):Rd (ev fr o) c (a.eval o):=by
 cases o with
 | tmp t=>exact h.get t
 | const v=>simp [A.ev,Rd,Act.eval]
 | global g=>simp [A.ev,Rd,Act.eval]
 | func f=>simp [A.ev,Rd,Act.eval]
theorem FR.ext {w0:Fl} {c c':Ctx} {n:Nat} {fr:Fr} {a:Act} (h:FR w0 c n fr a) (e:Ext c c'):FR w0 c' n fr a:=⟨h.size,h.defers.ext e,fun i=>Rd.ext _ e (h.get i)⟩
theorem FR.put {w0:Fl} {c:Ctx} {n d:Nat} {fr:Fr} {a:Act} {x:AV} {v:Value} (h:FR w0 c n fr a) (hd:d<n) (hx:Rd x c v):FR w0 c n ((d,x)::fr) (a.put (some d) v):=by
 refine⟨by simpa [Act.put] using h.size,h.defers,fun i=>?_⟩;unfold fget;simp only [Act.put];cases hb:Nat.beq d i with
 | true=>
  have:=Am hb;subst this;have hsz:=h.size;simp only [cond_true,AH];rw [C7 (by omega)];exact hx
 | false=>
  have hne:d≠i:=fun e=>by subst e;rw [Nat.beq_refl] at hb;cases hb
  simp only [cond_false,AH];rw [Array.getElem?_setIfInBounds_ne hne,<-AH];exact h.get i
theorem FR.none {w0:Fl} {c:Ctx} {n:Nat} {fr:Fr} {a:Act} {v:Value} (h:FR w0 c n fr a):FR w0 c n fr (a.put none v):=h

structure HS (w0:Fl) (M0:Ms) (c:Ctx) (H:List AB):Prop where
 low:LowF w0 c.w
 base:c.base=0
 dom:c.dom=H.length
 foreign:∀ b,w0.old b->(c.M b↔M0 b)
 lt:∀ b,c.M b->b<c.w.heap.size
 blk:∀ k x,H[k]? = some x->BlkOk c k x
 own:∀ k x g,H[k]? = some x->x.live=true->oB (c.rho k)=some g->c.M g/\¬w0.old g
 dis:∀ j k x y g,H[j]? = some x->H[k]? = some y->x.live=true->y.live=true->oB (c.rho j)=some g->oB (c.rho k)=some g->j=k

theorem HS.glob {w0:Fl} {M0:Ms} {c:Ctx} {H:List AB} (h:HS w0 M0 c H):globOk c.w:=w0.gl c.w h.low.size h.low.block

theorem RdL.append:∀ {l m:List AV} {c:Ctx} {xs ys:List Value},RdL l c xs->RdL m c ys->RdL (l ++ m) c (xs ++ ys)
 | [],_,_,_,_,h,k=>by simp only [RdL] at h;subst h;simpa using k
 | x::l,m,c,_,ys,h,k=>by
  simp only [RdL] at h;obtain⟨y,zs,rfl,h1,h2⟩:=h;simp only [Bj,RdL];exact⟨y,zs ++ ys,rfl,h1,RdL.append h2 k⟩
theorem RdL.length:∀ {l:List AV} {c:Ctx} {xs:List Value},RdL l c xs->xs.length=l.length
 | [],_,_,h=>by simp only [RdL] at h;simp [h]
 | x::l,c,_,h=>by
  simp only [RdL] at h;obtain⟨y,zs,rfl,h1,h2⟩:=h;simp [RdL.length h2]
theorem RdL.get:∀ {l:List AV} {c:Ctx} {xs:List Value} {i:Nat} {x:AV},RdL l c xs->l[i]? = some x->∃ v,xs[i]? = some v/\Rd x c v
 | [],_,_,_,_,_,hx=>by simp at hx
 | y::l,c,_,0,x,h,hx=>by
  simp only [RdL] at h;obtain⟨v,zs,rfl,h1,h2⟩:=h;simp at hx;subst hx;exact⟨v,by simp,h1⟩
 | y::l,c,_,i+1,x,h,hx=>by
  simp only [RdL] at h;obtain⟨v,zs,rfl,h1,h2⟩:=h;obtain⟨u,h3,h4⟩:=RdL.get (i:=i) h2 (by simpa using hx);exact⟨u,by simpa using h3,h4⟩
theorem RdL.set:∀ {l:List AV} {c:Ctx} {xs:List Value} {i:Nat} {x:AV} {v:Value},RdL l c xs->Rd x c v->RdL (l.set i x) c (xs.set i v)
 | [],_,_,_,_,_,h,_=>by simp only [RdL] at h;subst h;simp [RdL]
 | y::l,c,_,0,x,v,h,hx=>by
  simp only [RdL] at h;obtain⟨u,zs,rfl,h1,h2⟩:=h;simp only [List.set_cons_zero,RdL];exact⟨v,zs,rfl,hx,h2⟩
 | y::l,c,_,i+1,x,v,h,hx=>by
  simp only [RdL] at h;obtain⟨u,zs,rfl,h1,h2⟩:=h;simp only [List.set_cons_succ,RdL];exact⟨u,zs.set i v,rfl,h1,RdL.set h2 hx⟩
theorem RdAt.of:∀ {l:List AV} {c:Ctx} {xs:List Value} {b off:Nat},RdL l c xs->(∀ u∈xs,u.oneCell'=true)->(∀ j u,xs[j]? = some u->c.w.cell? ⟨b,off+j,none⟩=some u)->RdAt l c b off
 | [],_,_,_,_,_,_,_=>by simp [RdAt]
 | x::l,c,_,b,off,h,h1,hc=>by
  simp only [RdL] at h;obtain⟨u,zs,rfl,h2,h3⟩:=h;simp only [RdAt];refine⟨⟨u,by simpa using hc 0 u (by simp),h1 u (by simp),h2⟩,RdAt.of h3 (fun v hv=>h1 v (by simp [hv])) fun j v hv=>?_⟩;have:=hc (j+1) v (by simpa using hv);rw [show off+1+j=off+(j+1) by omega];exact this
theorem RdAt.list:∀ {l:List AV} {c:Ctx} {b off:Nat},RdAt l c b off->∃ xs,RdL l c xs/\(∀ u∈xs,u.oneCell'=true)/\∀ j u,xs[j]? = some u->c.w.cell? ⟨b,off+j,none⟩=some u
 | [],_,_,_,_=>⟨[],by simp [RdL],by simp,by simp⟩
 | x::l,c,b,off,h=>by
  simp only [RdAt] at h;obtain⟨⟨u,h1,h2,h3⟩,h4⟩:=h;obtain⟨xs,h5,h6,h7⟩:=RdAt.list h4;refine⟨u::xs,by simp only [RdL];exact⟨u,xs,rfl,h3,h5⟩,fun v hv=>?_,fun j v hv=>?_⟩
  ·rcases AQ.1 hv with rfl | hv
   ·exact h2
   ·exact h6 v hv
  ·cases j with
   | zero=>simp at hv;subst hv;simpa using h1
   | succ j=>
    have:=h7 j v (by simpa using hv);rw [show off+1+j=off+(j+1) by omega] at this;exact this
theorem RdAt.drop:∀ {l:List AV} {c:Ctx} {b off n:Nat},RdAt l c b off->RdAt (l.drop n) c b (off+n)
 | l,_,_,_,0,h=>by simpa using h
 | [],_,_,_,_+1,_=>by simp [RdAt]
 | x::l,c,b,off,n+1,h=>by
  simp only [RdAt] at h;have:=RdAt.drop (n:=n) h.2;rw [show off+1+n=off+(n+1) by omega] at this;simpa using this
theorem RdAt.append:∀ {l m:List AV} {c:Ctx} {b off:Nat},RdAt (l ++ m) c b off↔RdAt l c b off/\RdAt m c b (off+l.length)
 | [],_,_,_,_=>by simp [RdAt]
 | x::l,m,c,b,off=>by
  simp only [Bj,RdAt,RdAt.append (l:=l),Ao,and_assoc];rw [show off+(l.length+1)=off+1+l.length by omega]
def dropK:Nat->List AV->(List AV->Prop)->Prop
 | 0,cs,k=>k cs
 | n+1,_::cs,k=>dropK n cs k
 | _+1, [],_=>False
def takeK:Nat->List AV->(List AV->Prop)->Prop
 | 0,_,k=>k []
 | n+1,x::cs,k=>takeK n cs fun l=>k (x::l)
 | _+1, [],_=>False
theorem dropK_iff:∀ {n:Nat} {cs:List AV} {k:List AV->Prop},dropK n cs k->n<=cs.length/\k (cs.drop n)
 | 0,_,_,h=>⟨Aj _,h⟩
 | n+1,_::cs,_,h=>by have:=dropK_iff (n:=n) (cs:=cs) h;exact⟨by simp;omega,by simpa using this.2⟩
 | _+1, [],_,h=>h.elim
theorem takeK_iff:∀ {n:Nat} {cs:List AV} {k:List AV->Prop},takeK n cs k->n<=cs.length/\k (cs.take n)
 | 0,_,_,h=>⟨Aj _,h⟩
 | n+1,x::cs,k,h=>by have:=takeK_iff (n:=n) (cs:=cs) (k:=fun l=>k (x::l)) h;exact⟨by simp;omega,by simpa using this.2⟩
 | _+1, [],_,h=>h.elim

theorem RdL.take:∀ {l:List AV} {c:Ctx} {xs:List Value} (n:Nat),RdL l c xs->RdL (l.take n) c (xs.take n)
 | _,_,_,0,_=>by simp [RdL]
 | [],_,_,_+1,h=>by simp only [RdL] at h;subst h;simp [RdL]
 | x::l,c,_,n+1,h=>by
  simp only [RdL] at h;obtain⟨y,ys,rfl,h2,h3⟩:=h;simp only [C2,RdL];exact⟨y,_,rfl,h2,RdL.take n h3⟩
theorem yv {P:Program} {k:AV->Prop} {s:Sem Value} {c:Ctx} (q:Value) (h:k (.v q)) (hr:∀ w,s.run P w = .ok q w):∃ r q,k r/\(∀ w,s.run P w = .ok q w)/\Rd r c q:=⟨.v q,q,h,hr,by simp [Rd]⟩

def ZN (ty:Ty) (cs:List AV) (k:AV->Prop):Prop:=
 match ty.agg with
 | true=>takeK ty.sz cs fun l=>k (.ag l)
 | false=>match cs with | x::_=>k x | []=>False

theorem E9 {P:Program} {w:World} (a:Addr):∀ (xs:List Value) (i:Nat) (acc:Array Value),(∀ j u,xs[j]? = some u->w.cell? (a.add (i+j))=some u)->
  (loadCellsFrom a i xs.length acc).run P w = .ok (acc ++ xs.toArray) w
 | [],_,_,_=>by simp [loadCellsFrom]
 | x::xs,i,acc,h=>by
  have h0:w.cell? (a.add i)=some x:=by simpa using h 0 x (by simp)
  simp only [Ao,loadCellsFrom,Sem.run_bind,run_load,h0,Result.andThen_ok];rw [E9 a xs (i+1) _ fun j u hu=>by rw [show i+1+j=i+(j+1) by omega];exact h (j+1) u (by simpa using hu)];congr 1;apply Array.ext';simp

theorem PK {P:Program} {c:Ctx} {t:TypeId} {ty:Ty} (hty:TyOk P t ty) {cs:List AV} {b off:Nat} (hr:RdAt cs c b off) {k:AV->Prop} (h:ZN ty cs k) :
  ∃ r v,k r/\(∀ w',Old c.w w'->(loadVar t ⟨b,off,none⟩).run P w' = .ok v w')/\Rd r c v:=by
 obtain⟨i,d,z,hp⟩:=hty.parts;unfold loadVar;simp only [Sem.run_bind,hp.isAgg,Result.andThen_ok];unfold ZN at h;cases ha:ty.agg with
 | true=>
  rw [ha] at h;obtain⟨hn,hk⟩:=takeK_iff h;obtain⟨xs,h1,h2,h3⟩:=hr.list;have hl:=h1.length;refine⟨_, .agg (xs.take ty.sz).toArray,hk,fun w' hw=>?_,?_⟩
  ·simp only [if_true,Sem.run_bind,hp.sizeOf,Result.andThen_ok];have:=E9 (P:=P) (w:=w') ⟨b,off,none⟩ (xs.take ty.sz) 0 #[] fun j u hu=>by
    rw [Addr.add_lit,Au];refine hw.cell (h3 j u ?_);rw [List.getElem?_take] at hu;split at hu
    ·exact hu
    ·cases hu
   rw [Aq,Cn (by omega)] at this;simp [loadCells,this]
  ·simp only [Rd];refine⟨_,rfl,?_⟩;exact h1.take _
 | false=>
  rw [ha] at h;cases cs with
  | nil=>exact h.elim
  | cons x cs=>
   simp only [RdAt] at hr;obtain⟨⟨u,h1,h2,h3⟩,_⟩:=hr;exact⟨x,u,h,fun w' hw=>by simp [hw.cell h1],h3⟩

def Zv (H:List AB) (p:AV) (k:List AV->Prop):Prop:=
 match p with
 | .bp j off=>match hget H j with | some (.box _ cs)=>dropK off cs k | _=>False
 | .rp cs=>k cs
 | .ep j n i sz off=>match hget H j with
  | some (.row _ sz' es)=>(sz'=sz/\n=es.length/\i<n)/\dropK off (es.getD i []) k
  | some (.rowo _ sz' es _)=>(sz'=sz/\n=es.length/\i<n)/\dropK off (es.getD i []) k
  | _=>False
 | _=>False

theorem Il {sz:Nat}:∀ {es:List (List AV)} (i:Nat),(∀ e∈es,e.length=sz)->i<es.length->∃ r,es.flatten.drop (i*sz)=es.getD i [] ++ r
 | [],_,_,h=>by simp at h
 | e::es,0,_,_=>⟨es.flatten,by simp⟩
 | e::es,i+1,hl,hi=>by
  obtain⟨r,hr⟩:=Il (es:=es) i (fun x hx=>hl x (by simp [hx])) (by simpa using hi);refine⟨r,?_⟩;have he:=hl e (by simp);rw [A8,BZ,A9 (by rw [he,Bb];omega),Bk,he,Bb,Nat.one_mul,Cp,hr];simp

theorem G1 {w:World} {base:Nat} {t:TypeId} {sz n:Nat} {v:Value} {xs:List Value} {g p:Nat} (ho:w.ownsRow base t sz v n xs) (hv:v = .slice (some ⟨g,0,none⟩) n p) {j:Nat} {u:Value} (hu:xs[j]? = some u):w.cell? ⟨g,j,none⟩=some u:=by
 have:=ho.cells (g:=g) (by rw [hv];try rfl) j u hu;rwa [Addr.add_lit,Au] at this

theorem Pz {w0:Fl} {M0:Ms} {c:Ctx} {H:List AB} (hs:HS w0 M0 c H) {p:AV} {u:Value} (hr:Rd p c u) {k:List AV->Prop} (h:Zv H p k) :
  ∃ b off cs,u = .pointer (some ⟨b,off,none⟩)/\RdAt cs c b off/\k cs:=by
 cases p with
 | bp j off=>
  simp only [Zv] at h;rw [hget_eq] at h;split at h
  ·rename_i t cs hj;obtain⟨g,xs,h1,h2,h3,h4⟩:=hs.blk _ _ hj;simp only [Rd] at hr;obtain⟨_,g',hg',rfl⟩:=hr;rw [h1] at hg';cases hg';obtain⟨_,hk⟩:=dropK_iff h;have:=RdAt.of (b:=g) (off:=0) h3 h4 fun j u hu=>by rw [Au,cell_of_row _ g _ _ t (0,0) h2];simpa using hu
   refine⟨g,off,_,rfl,?_,hk⟩;have h5:=this.drop (n:=off);rwa [Au] at h5
  ·exact h.elim
 | rp cs=>
  simp only [Rd] at hr;obtain⟨b,off,rfl,hm,hb,hc⟩:=hr;exact⟨b,off,cs,rfl,RdAt.ext cs (zA c) hb hm hc,h⟩
 | ep j n i sz off=>
  simp only [Zv] at h;rw [hget_eq] at h;split at h
  ·rename_i t sz' es hj;obtain⟨⟨rfl,hn,hi⟩,h⟩:=h;obtain⟨h1,_,h2,xs,h3,h4,h5⟩:=hs.blk _ _ hj;simp only [Rd] at hr;obtain⟨_,_,g,o,rfl,hr⟩:=hr;obtain⟨p,hg,rfl⟩:=hr (by omega);obtain⟨_,hk⟩:=dropK_iff h;obtain⟨r,hfd⟩:=Il i h2 (by omega);have ha:=RdAt.of (b:=g) (off:=0) h4 h5 fun j u hu=>by rw [Au];exact G1 (hn ▸ h3) hg hu
   have hb:=ha.drop (n:=i*sz');rw [hfd,RdAt.append,Au] at hb;have hc:=hb.1.drop (n:=off);have hgl:g<c.w.heap.size:=by
    rcases h3.2 with ⟨e,_⟩ | ⟨g',cap,cur,e,_,hh,_⟩
    ·rw [hg] at e;cases e
    ·rw [hg] at e;cases e;exact(Aw.1 hh).1
   -- closed cells read openly
   have hopen:∀ (l:List AV) (b o:Nat),RdAt l c.closed b o->RdAt l c b o:=by
    intro l;induction l with
    | nil=>intro b o _;simp [RdAt]
    | cons x l ih=>
     intro b o h;simp only [RdAt] at h |-
     obtain⟨⟨u,q1,q2,q3⟩,q4⟩:=h;exact⟨⟨u,q1,q2,Rd.ext x (zA c) q3⟩,ih _ _ q4⟩
   exact⟨g,i*sz'+off,_,rfl,hopen _ _ _ hc,hk⟩
  ·rename_i t sz' es m hj;obtain⟨⟨rfl,hn,hi⟩,h⟩:=h;obtain⟨h1,_,h2,_,xs,h3,h4,h5⟩:=hs.blk _ _ hj;simp only [Rd] at hr;obtain⟨_,_,g,o,rfl,hr⟩:=hr;obtain⟨p,hg,rfl⟩:=hr (by omega);obtain⟨_,hk⟩:=dropK_iff h;obtain⟨r,hfd⟩:=Il i h2 (by omega);have ha:=RdAt.of (b:=g) (off:=0) h4 h5 fun j u hu=>by rw [Au];exact G1 (hn ▸ h3) hg hu
   have hb:=ha.drop (n:=i*sz');rw [hfd,RdAt.append,Au] at hb;have hc:=hb.1.drop (n:=off);exact⟨g,i*sz'+off,_,rfl,hc,hk⟩
  ·exact h.elim
 | _=>exact h.elim

def Xm (T:Tys) (op:BinOp) (t:TypeId) (n:Nat) (y:AV) (k:AV->Prop):Prop:=
 match y with
 | .v (.slice none 0 0)=>match tget T t with
  | some ⟨_,_,_, .slice _ _⟩=>match op with
   | .eql=>(n=0->k (.v (.bool true)))/\k (.v (.bool false))
   | .neq=>(n=0->k (.v (.bool false)))/\k (.v (.bool true))
   | _=>False
  | _=>False
 | _=>False
def Xn (T:Tys) (op:BinOp) (t:TypeId) (b:Bool) (y:AV) (k:AV->Prop):Prop:=
 match y with
 | .v .nilIface=>match tget T t with
  | some ⟨_,_,_, .ifc true⟩=>match op with
   | .eql=>k (.v (.bool b))
   | .neq=>k (.v (.bool !b))
   | _=>False
  | _=>False
 | _=>False
def UU (T:Tys) (op:BinOp) (t:TypeId) (b:Bool) (y:AV) (k:AV->Prop):Prop:=
 match y with
 | .v (.pointer none)=>match tget T t with
  | some ⟨_,_,_, .ptr⟩=>match op with
   | .eql=>k (.v (.bool b))
   | .neq=>k (.v (.bool !b))
   | _=>False
  | _=>False
 | _=>False
def Zd (T:Tys) (op:BinOp) (t:TypeId) (x y:AV) (k:AV->Prop):Prop:=
 match x with
 | .v (.int j a)=>match y with
  | .v (.int j' b)=>match op with
   | .shl=>0<=b/\k (.v (.int j (j.wrap (a*2 ^ min b.toNat j.bits))))
   | .shr=>0<=b/\k (.v (.int j (a.fdiv (2 ^ min b.toNat j.bits))))
   | op=>if j=j' then match op with
    | .add=>k (.v (.int j (j.wrap (a+b))))
    | .sub=>k (.v (.int j (j.wrap (a - b))))
    | .mul=>k (.v (.int j (j.wrap (a*b))))
    | .quo=>b≠0/\k (.v (.int j (j.wrap (a.tdiv b))))
    | .rem=>b≠0/\k (.v (.int j (a.tmod b)))
    | .and=>k (.v (.int j (j.wrap (BitVec.ofInt j.bits a&&&BitVec.ofInt j.bits b).toNat)))
    | .or=>k (.v (.int j (j.wrap (BitVec.ofInt j.bits a ||| BitVec.ofInt j.bits b).toNat)))
    | .xor=>k (.v (.int j (j.wrap (BitVec.ofInt j.bits a ^^^ BitVec.ofInt j.bits b).toNat)))
    | .andNot=>k (.v (.int j (j.wrap (BitVec.ofInt j.bits a&&&~~~ BitVec.ofInt j.bits b).toNat)))
    | .eql=>k (.v (.bool (a == b)))
    | .neq=>k (.v (.bool (a != b)))
    | .lss=>k (.v (.bool (a<b)))
    | .leq=>k (.v (.bool (a<=b)))
    | .gtr=>k (.v (.bool (a > b)))
    | .geq=>k (.v (.bool (a>=b)))
    | _=>False
    else False
  | _=>False
 | .v (.bool a)=>match y with
  | .v (.bool b)=>match tget T t with
   | some ⟨_,_,_, .bool⟩=>match op with
    | .eql=>k (.v (.bool (a == b)))
    | .neq=>k (.v (.bool (!(a == b))))
    | _=>False
   | _=>False
  | _=>False
 | .v (.string a)=>match y with
  | .v (.string b)=>match op with
   | .eql=>k (.v (.bool (a.toList == b.toList)))
   | .neq=>k (.v (.bool !(a.toList == b.toList)))
   | .add=>a.size+b.size<=9223372036854775807/\k (.v (.string (a ++ b)))
   | _=>False
  | _=>False
 | .sl _ n _=>Xm T op t n y k
 | .ow _ n=>Xm T op t n y k
 | .ic _ _=>Xn T op t false y k
 | .v .nilIface=>Xn T op t true y k
 | .bp _ _=>UU T op t false y k
 | .rp _=>UU T op t false y k
 | .v (.pointer none)=>UU T op t true y k
 | _=>False
theorem Hk {P:Program} {w:World} {t:TypeId} (hu:P.underlying t=some .bool) (a b:Bool):(Op.equal t (.bool a) (.bool b)).run P w = .ok (a == b) w:=by
 rw [show Op.equal t (.bool a) (.bool b)=Op.equalIn (9999+1) t (.bool a) (.bool b) from rfl,Op.equalIn];simp only [Sem.run_bind,run_underlying hu,Result.andThen_ok,Sem.run_pure]
theorem EV {P:Program} {w:World} {t e:TypeId} (hu:P.underlying t=some (.slice e)) (a:Option Addr) (n k:Nat):(Op.equal t (.slice a n k) (.slice none 0 0)).run P w = .ok a.isNone w:=by
 rw [show Op.equal t (.slice a n k) (.slice none 0 0)=Op.equalIn (9999+1) t (.slice a n k) (.slice none 0 0) from rfl,Op.equalIn];simp only [Sem.run_bind,run_underlying hu,Result.andThen_ok];cases a <;> simp
theorem Nc {P:Program} {T:Tys} (hT:TOk P T) {c:Ctx} {op:BinOp} {t:TypeId} {n:Nat} {y:AV} {ox oy:Operand} {a:Option Addr} {p:Nat} {v:Value} (ha:a=none->n=0) (hy:Rd y c v) {k:AV->Prop} (h:Xm T op t n y k) :
  ∃ r q,k r/\(∀ w,(do eqGuard op t ox oy (.slice a n p) v;binOp op t (.slice a n p) v:Sem Value).run P w = .ok q w)/\Rd r c q:=by
 unfold Xm at h;split at h
 ·simp only [Rd] at hy;subst hy;split at h
  ·rename_i s g z e f ht;obtain⟨i,d,z',hp⟩:=(hT.get ht).parts;obtain⟨e',hd⟩:∃ e',d = .slice e':=by have:=hp.td;cases d <;> simp [Dw] at this;exact⟨_,rfl⟩
   have hu:=hp.und;rw [hd] at hu;split at h
   ·cases a with
    | none=>exact yv _ (h.1 (ha rfl)) (fun w=>by simp [eqGuard,binOp,EV hu])
    | some a=>exact yv _ h.2 (fun w=>by simp [eqGuard,binOp,EV hu])
   ·cases a with
    | none=>exact yv _ (h.1 (ha rfl)) (fun w=>by simp [eqGuard,binOp,EV hu])
    | some a=>exact yv _ h.2 (fun w=>by simp [eqGuard,binOp,EV hu])
   ·exact h.elim
  ·exact h.elim
 ·exact h.elim
theorem EW {P:Program} {w:World} {t:TypeId} {ms} (hu:P.underlying t=some (.interface ms)) (s:TypeId) (v:Value):(Op.equal t (.iface s v) .nilIface).run P w = .ok false w/\(Op.equal t .nilIface .nilIface).run P w = .ok true w:=by
 refine⟨?_,?_⟩
 ·rw [show Op.equal t (.iface s v) .nilIface=Op.equalIn (9999+1) t (.iface s v) .nilIface from rfl,Op.equalIn];simp only [Sem.run_bind,run_underlying hu,Result.andThen_ok,Sem.run_pure]
 ·rw [show Op.equal t .nilIface .nilIface=Op.equalIn (9999+1) t .nilIface .nilIface from rfl,Op.equalIn];simp only [Sem.run_bind,run_underlying hu,Result.andThen_ok,Sem.run_pure]
theorem Iw {P:Program} {w:World} {t:TypeId} {ms:Array (String × TypeId)} (hu:P.underlying t=some (.interface ms)) (hm:ms.isEmpty=true) (op:BinOp) (ox oy:Operand):(eqGuard op t ox oy .nilIface .nilIface).run P w = .ok () w:=by
 have h:(Op.eqGuardIn Op.maxDepth t .nilIface .nilIface).run P w = .ok false w:=by
  rw [show Op.eqGuardIn Op.maxDepth t .nilIface .nilIface=Op.eqGuardIn (9999+1) t .nilIface .nilIface from rfl,Op.eqGuardIn];simp only [Sem.run_bind,run_underlying hu,Result.andThen_ok,hm,Sem.run_pure,Bool.not_true]
 unfold eqGuard;cases op <;> cases ox <;> cases oy <;> simp [h]
theorem LB {P:Program} {T:Tys} (hT:TOk P T) {c:Ctx} {op:BinOp} {t:TypeId} {b:Bool} {y:AV} {ox oy:Operand} {u v:Value} (hu:(b=true/\u = .nilIface)\/(b=false/\∃ s x,u = .iface s x)) (hy:Rd y c v) {k:AV->Prop} (h:Xn T op t b y k) :
  ∃ r q,k r/\(∀ w,(do eqGuard op t ox oy u v;binOp op t u v:Sem Value).run P w = .ok q w)/\Rd r c q:=by
 unfold Xn at h;split at h
 ·simp only [Rd] at hy;subst hy;split at h
  ·rename_i s g z ht;obtain⟨i,d,z',hp⟩:=(hT.get ht).parts;obtain⟨ms,hd,hm⟩:∃ ms,d = .interface ms/\ms.isEmpty=true:=by
    have:=hp.td;cases d <;> simp [Dw] at this;exact⟨_,rfl,by simp [this]⟩
   have hun:=hp.und;rw [hd] at hun;rcases hu with ⟨rfl,rfl⟩ | ⟨rfl,s,x,rfl⟩
   ·split at h
    ·exact yv _ h (fun w=>by simp [Iw hun hm,binOp,(EW (w:=w) hun 0 .nilIface).2])
    ·exact yv _ h (fun w=>by simp [Iw hun hm,binOp,(EW (w:=w) hun 0 .nilIface).2])
    ·exact h.elim
   ·split at h
    ·exact yv _ h (fun w=>by simp [eqGuard,binOp,(EW (w:=w) hun s x).1])
    ·exact yv _ h (fun w=>by simp [eqGuard,binOp,(EW (w:=w) hun s x).1])
    ·exact h.elim
  ·exact h.elim
 ·exact h.elim
theorem Iy {P:Program} {w:World} {t e:TypeId} (hu:P.underlying t=some (.pointer e)) (a:Option Addr):(Op.equal t (.pointer a) (.pointer none)).run P w = .ok a.isNone w:=by
 rw [show Op.equal t (.pointer a) (.pointer none)=Op.equalIn (9999+1) t (.pointer a) (.pointer none) from rfl,Op.equalIn];simp only [Sem.run_bind,run_underlying hu,Result.andThen_ok];cases a <;> simp
theorem IH {P:Program} {T:Tys} (hT:TOk P T) {c:Ctx} {op:BinOp} {t:TypeId} {b:Bool} {y:AV} {ox oy:Operand} {a:Option Addr} {v:Value} (hb:a.isNone=b) (hy:Rd y c v) {k:AV->Prop} (h:UU T op t b y k) :
  ∃ r q,k r/\(∀ w,(do eqGuard op t ox oy (.pointer a) v;binOp op t (.pointer a) v:Sem Value).run P w = .ok q w)/\Rd r c q:=by
 subst hb;unfold UU at h;split at h
 ·simp only [Rd] at hy;subst hy;split at h
  ·rename_i s g z ht;obtain⟨i,d,z',hp⟩:=(hT.get ht).parts;obtain⟨e',hd⟩:∃ e',d = .pointer e':=by have:=hp.td;cases d <;> simp [Dw] at this;exact⟨_,rfl⟩
   have hu:=hp.und;rw [hd] at hu;split at h
   ·exact yv _ h (fun w=>by simp [eqGuard,binOp,Iy hu])
   ·exact yv _ h (fun w=>by simp [eqGuard,binOp,Iy hu])
   ·exact h.elim
  ·exact h.elim
 ·exact h.elim
theorem Ue {P:Program} {T:Tys} (hT:TOk P T) {c:Ctx} {op:BinOp} {t:TypeId} {x y:AV} {ox oy:Operand} {u v:Value} (hx:Rd x c u) (hy:Rd y c v) {k:AV->Prop} (h:Zd T op t x y k) :
  ∃ r q,k r/\(∀ w,(do eqGuard op t ox oy u v;binOp op t u v:Sem Value).run P w = .ok q w)/\Rd r c q:=by
 unfold Zd at h;split at h
 ·rename_i j a;split at h
  ·rename_i j' b;simp only [Rd] at hx hy;subst hx hy;split at h
   ·obtain⟨hb,h⟩:=h;exact yv _ h (fun w=>by simp [eqGuard,binOp,Op.shift,show ¬b<0 by omega])
   ·obtain⟨hb,h⟩:=h;exact yv _ h (fun w=>by simp [eqGuard,binOp,Op.shift,show ¬b<0 by omega])
   ·rename_i hn1 hn2;split at h
    ·rename_i hj;subst hj;split at h <;> first
      | exact h.elim
      | exact yv _ h (fun w=>by simp [eqGuard,binOp,Op.intArith,Op.intBits,Op.intCmp])
      | (obtain⟨hb,h⟩:=h;exact yv _ h (fun w=>by simp [eqGuard,binOp,Op.intDiv,hb]))
    ·exact h.elim
  ·exact h.elim
 ·split at h
  ·rename_i a b;simp only [Rd] at hx hy;subst hx hy;split at h
   ·rename_i s g z ht;obtain⟨i,d,z',hp⟩:=(hT.get ht).parts;have hd:d = .bool:=by have:=hp.td;cases d <;> simp [Dw] at this;rfl
    have hu:=hp.und;rw [hd] at hu;split at h
    ·exact yv _ h (fun w=>by simp [eqGuard,binOp,Hk hu])
    ·exact yv _ h (fun w=>by simp [eqGuard,binOp,Hk hu])
    ·exact h.elim
   ·exact h.elim
  ·exact h.elim
 ·split at h
  ·rename_i a b;simp only [Rd] at hx hy;subst hx hy;split at h
   ·exact yv _ h (fun w=>by simp [eqGuard,binOp,Op.stringOp])
   ·exact yv _ h (fun w=>by simp [eqGuard,binOp,Op.stringOp])
   ·exact yv _ h.2 (fun w=>by simp [eqGuard,binOp,run_string_add_sum _ _ _ h.1])
   ·exact h.elim
  ·exact h.elim
 ·simp only [Rd] at hx;obtain⟨a,p,rfl,_,_,h3⟩:=hx;exact Nc hT (fun e=>by rcases h3 with h3 | ⟨b,off,h3,_⟩;exact h3;rw [e] at h3;cases h3) hy h
 ·simp only [Rd] at hx;obtain⟨_,_,⟨a,p,rfl,h3⟩,_⟩:=hx;exact Nc hT (fun e=>by
   refine Classical.byContradiction fun hn=>?_
   obtain⟨g,hg⟩:=h3 hn;rw [e] at hg;cases hg) hy h
 ·simp only [Rd] at hx;obtain⟨xs,rfl,_⟩:=hx;exact LB hT (.inr ⟨rfl,_,_,rfl⟩) hy h
 ·simp only [Rd] at hx;exact LB hT (.inl ⟨rfl,hx⟩) hy h
 ·simp only [Rd] at hx;obtain⟨_,g,_,rfl⟩:=hx;exact IH hT rfl hy h
 ·simp only [Rd] at hx;obtain⟨b,off,rfl,_⟩:=hx;exact IH hT rfl hy h
 ·simp only [Rd] at hx;subst hx;exact IH hT rfl hy h
 ·exact h.elim
def KF (t:Bool) (A B:Prop):Prop:=match t with | true=>A | false=>B
theorem Ak {t:Bool} {A B:Prop} (h1:t=true->A) (h2:t=false->B):KF t A B:=by cases t;exact h2 rfl;exact h1 rfl
theorem E0 {t:Bool} {A B:Prop} (h:KF t A B):(t=true->A)/\(t=false->B):=by cases t;exact⟨fun h=>(by cases h),fun _=>h⟩;exact⟨fun _=>h,fun h=>(by cases h)⟩

def CZ (x:AV) (k:AV->Prop):Prop:=
 match x with
 | .top=>k .top
 | .v u=>k (.v u)
 | .sl a b c=>k (.sl a b c)
 | .rp a=>k (.rp a)
 | .bp a b=>k (.bp a b)
 | .ow a b=>k (.ow a b)
 | .ep a b c d e=>k (.ep a b c d e)
 | .ag a=>k (.ag a)
 | .tp a=>k (.tp a)
 | .fn a b=>k (.fn a b)
 | .ic a b=>k (.ic a b)
theorem BD {x:AV} {k:AV->Prop} (h:CZ x k):k x:=by cases x <;> exact h
def IJ {α:Type}:List α->Nat->Option α
 | [],_=>none
 | x::_,0=>some x
 | _::r,n+1=>IJ r n
theorem DN {α:Type}:∀ (l:List α) (k:Nat),IJ l k=l[k]?
 | [],_=>by simp [IJ]
 | x::r,0=>by simp [IJ]
 | x::r,n+1=>by simp [IJ,DN r n]
def Uj (fo:Nat) (p:AV) (k:AV->Prop):Prop:=
 match p with
 | .bp j off=>k (.bp j (off+fo))
 | .rp cs=>dropK fo cs fun cs=>k (.rp cs)
 | .ep j n i sz off=>k (.ep j n i sz (off+fo))
 | _=>False
def au (op:UnOp) (x:AV) (k:AV->Prop):Prop:=
 match x with
 | .v (.bool b)=>match op with | .not=>k (.v (.bool !b)) | _=>False
 | .v (.int j n)=>match op with
  | .neg=>k (.v (.int j (j.wrap (0 - n))))
  | .xor=>k (.v (.int j (j.wrap (BitVec.ofInt j.bits (if j.signed then -1 else j.max) ^^^ BitVec.ofInt j.bits n).toNat)))
  | _=>False
 | _=>False
def NH (sz n:Nat) (get:Nat->List AV) (l h m:Int) (k:AV->Prop):Prop:=
 (0<=l/\l<=h/\h<=m/\m<=n)/\k (.sl sz (h.toNat - l.toNat) fun i=>get (i+l.toNat))
def LM (x:AV) (k:Int->Prop):Prop:=match x with | .v (.int _ n)=>k n | _=>False
def LA (e:Operand->AV) (d:Int) (x:Option Operand) (k:Int->Prop):Prop:=match x with | none=>k d | some x=>LM (e x) k
def cells1:AV->List AV
 | .ag cs=>cs
 | x=> [x]
def cell1:AV->Bool
 | .top | .tp _ | .ag _ | .fn _ _ | .ic _ _=>false
 | .v x=>x.oneCell'
 | _=>true
def cellsOk:AV->Bool
 | .ag cs=>cs.all cell1
 | x=>cell1 x
def spliceK:Nat->List AV->List AV->(List AV->Prop)->Prop
 | 0, [],cs,k=>k cs
 | 0,x::xs,_::cs,k=>spliceK 0 xs cs fun l=>k (x::l)
 | 0,_::_, [],_=>False
 | n+1,xs,c::cs,k=>spliceK n xs cs fun l=>k (c::l)
 | _+1,_, [],_=>False
def Kj (e:Operand->AV) (fs:List (Nat × Nat)):List (Nat × Operand)->List AV->(AV->Prop)->Prop
 | [],cs,k=>k (.ag cs)
 | (i,x)::r,cs,k=>match IJ fs i with
  | some (off,sz)=>CZ (e x) fun x=>match cellsOk x&&Nat.beq (cells1 x).length sz with
   | true=>spliceK off (cells1 x) cs fun cs=>Kj e fs r cs k
   | false=>False
  | none=>False
def YO (T:Tys) (t:TypeId) (x:AV) (k:AV->Prop):Prop:=
 match tget T t with
 | some ⟨_,_,_, .slice _ _⟩=>match x with
  | .sl _ n _=>k (iv n)
  | .ow _ n=>k (iv n)
  | .v (.slice _ n _)=>k (iv n)
  | _=>False
 | some ⟨_,_,_, .str⟩=>match x with
  | .v (.string s)=>k (iv s.size)
  | _=>False
 | _=>False
def UY (mx:Bool):List AV->IntKind->Int->(AV->Prop)->Prop
 | [],j,x,k=>k (.v (.int j x))
 | y::r,j,x,k=>match y with
  | .v (.int _ y)=>UY mx r j (match mx with | true=>(if x<y then y else x) | false=>(if y<x then y else x)) k
  | _=>False

def TD.plain:TD->Bool
 | .ifc _ | .other | .ptr=>false
 | _=>true
theorem rdl_vals:∀ (l:List Value) (c:Ctx),RdL (l.map .v) c l
 | [],c=>by simp [RdL]
 | x::l,c=>by simp only [A5,RdL];exact⟨x,l,rfl,by simp [Rd],rdl_vals l c⟩
def zeroA (ty:Ty):AV:=match ty.agg with
 | true=> .ag (ty.zero.map .v)
 | false=>match ty.zero with
  | [x]=> .v x
  | _=> .top
theorem TyP.zeroA {P:Program} {t:TypeId} {ty:Ty} {i d z} (h:TyP P t ty i d z) (c:Ctx):Rd (zeroA ty) c z:=by
 have h1:=h.zc;have h2:=h.za.trans h.agg;unfold A.zeroA;split
 ·rename_i e;rw [e] at h2;cases z <;> simp only [isAggV] at h2 <;> try (cases h2;done)
  simp only [Value.cells] at h1;rw [<-h1];simp only [Rd];exact⟨_,rfl,rdl_vals _ c⟩
 ·rename_i e;rw [e] at h2;split
  ·rename_i x ez;rw [ez] at h1;simp only [Rd];cases z <;> simp only [isAggV] at h2 <;> first | (cases h2;done) | (simp [Value.cells] at h1;exact h1)
  ·simp [Rd]
theorem TyP.concrete {P:Program} {t:TypeId} {ty:Ty} {i d z} (h:TyP P t ty i d z) (hp:ty.d.plain=true):∀ ms,d≠ .interface ms:=fun ms e=>by
 have:=h.td;rw [e] at this;rw [<-this] at hp;cases hp
def Zp (T:Tys) (sd:TD) (x:AV) (k:AV->Prop):Prop:=
 match sd with
 | .slice et _=>match tget T et with
  | some ⟨_,_,_, .int .u8⟩=>match x with
   | .sl sz n get=>∃ l:List UInt8,(sz=1/\n=l.length/\∀ i,i<n->get i=[.v (.int .u8 (l.getD i 0).toNat)])/\k (.v (.string ⟨l.toArray⟩))
   | _=>False
  | _=>False
 | _=>False
def YT (m sz:Nat) (cs:List AV) (k:AV->Prop):Prop:=
 match m with
 | 0=>match Nat.blt 0 sz with | true=>takeK sz cs fun l=>k (.ag l) | false=>False
 | _+1=>match cs with | x::_=>CZ x k | []=>False
def ab (T:Tys) (o:Op) (e:Operand->AV) (H:List AB) (k:AV->Prop):Prop:=
 match o with
 | .move x | .assign x=>CZ (e x) k
 | .pick c a b=>match e c with | .v (.bool t)=>KF t (CZ (e a) k) (CZ (e b) k) | _=>False
 | .load t a=>match tget T t with | some ty=>Zv H (e a) fun cs=>ZN ty cs k | none=>False
 | .binOp op t x y _=>Zd T op t (e x) (e y) k
 | .unOp op _ x=>au op (e x) k
 | .convert s d x=>match tget T s with
  | some ⟨_,_,_,sd⟩=>match tget T d with
   | some ⟨_,_,_, .int j⟩=>match e x with | .v (.int _ n)=>k (.v (.int j (j.wrap n))) | _=>False
   | some ⟨_,_,_, .str⟩=>Zp T sd (e x) k
   | _=>False
  | none=>False
 | .fieldAddr s x f=>match tget T s with
  | some ⟨_,_,_, .struct fs _⟩=>match IJ fs f with
   | some (fo,fsz)=>match Nat.blt 0 fsz with | true=>Uj fo (e x) k | false=>False
   | none=>False
  | _=>False
 | .indexAddr t x i=>match tget T t with
  | some ⟨_,_,_, .slice _ esz⟩=>match Nat.blt 0 esz with
   | true=>match e x with
    | .sl sz n get=>match Nat.beq sz esz with
     | true=>LM (e i) fun j=>(0<=j/\j<n)/\k (.rp (get j.toNat))
     | false=>False
    | .ow m n=>LM (e i) fun j=>(0<=j/\j<n)/\k (.ep m n j.toNat esz 0)
    | _=>False
   | false=>False
  | some ⟨_,_,_, .arr n _ esz⟩=>match Nat.blt 0 esz with
   | true=>LM (e i) fun j=>(0<=j/\j<n)/\Uj (j.toNat*esz) (e x) k
   | false=>False
  | _=>False
 | .extract t i=>match e t with | .tp vs=>(match IJ vs i with | some x=>CZ x k | none=>False) | _=>False
 | .slice t x lo hi mx=>match tget T t with
  | some ⟨_,_,_, .slice _ esz⟩=>match e x with
   | .sl sz n get=>match Nat.beq sz esz with
    | true=>match Nat.blt 0 esz with
     | true=>LA e 0 lo fun l=>(match hi with
      | none=>(match mx with | none=>NH sz n get l n n k | some _=>False)
      | some hi=>LM (e hi) fun h=>(match mx with | none=>NH sz n get l h n k | some m=>LM (e m) fun m=>NH sz n get l h m k))
     | false=>False
    | false=>False
   | .v (.slice none 0 0)=>match mx with
    | none=>(match Nat.blt 0 esz with | true=>LA e 0 lo fun l=>LA e 0 hi fun h=>(l=0/\h=0)/\k (.v (.slice none 0 0)) | false=>False)
    | some _=>False
   | _=>False
  | some ⟨_,_,_, .str⟩=>match e x with
   | .v (.string s)=>match mx with
    | none=>LA e 0 lo fun l=>LA e (s.size:Nat) hi fun h=>(0<=l/\l<=h/\h<=(s.size:Nat))/\k (.v (.string (s.extract l.toNat h.toNat)))
    | some _=>False
   | _=>False
  | _=>False
 | .index t x i=>match tget T t with
  | some ⟨_,_,_, .str⟩=>match e x with
   | .v (.string s)=>LM (e i) fun j=>(0<=j/\j<(s.size:Nat))/\k (.v (.int .u8 (s.data.toList.getD j.toNat 0).toNat))
   | _=>False
  | _=>False
 | .nilCheck x=>match e x with | .bp j off=>k (.bp j off) | .rp cs=>k (.rp cs) | .ep j n i sz off=>k (.ep j n i sz off) | _=>False
 | .build t ps=>match tget T t with
  | some ⟨_,_,z, .struct fs _⟩=>match fs.all fun p=>Nat.blt 0 p.2 with | true=>Kj e fs ps.toList (z.map .v) k | false=>False
  | some ⟨_,_,z, .arr n _ esz⟩=>match Nat.blt 0 esz with | true=>Kj e ((List.range n).map fun i=>(i*esz,esz)) ps.toList (z.map .v) k | false=>False
  | _=>False
 | .makeFunc fn f c=>match f.toList with | []=>(match c.toList with | []=>k (.v (.func fn #[] #[])) | _=>False) | _=>False
 | .call ⟨.builtin .len,args,ts⟩=>match args.toList with
  | [x]=>match ts.toList with | [t]=>YO T t (e x) k | _=>False
  | _=>False
 | .call ⟨.builtin .min,args,_⟩=>match args.toList.map e with
  | .v (.int j x)::r=>UY false r j x k
  | _=>False
 | .call ⟨.builtin .max,args,_⟩=>match args.toList.map e with
  | .v (.int j x)::r=>UY true r j x k
  | _=>False
 | .makeInterface t x=>match tget T t with
  | some ⟨_,_,_,d⟩=>match d.plain with | true=>CZ (e x) fun y=>k (.ic t [y]) | false=>False
  | none=>False
 | .typeAssert x _ t c=>match tget T t with
  | some ⟨s0,g0,z0,d⟩=>match d.plain with
   | true=>match e x with
    | .ic s l=>(match Nat.beq s t with
     | true=>(match l with | [y]=>(match c with | true=>k (.tp [y, .v (.bool true)]) | false=>CZ y k) | _=>False)
     | false=>(match c with | true=>CZ (zeroA ⟨s0,g0,z0,d⟩) fun z=>k (.tp [z, .v (.bool false)]) | false=>False))
    | .v .nilIface=>(match c with | true=>CZ (zeroA ⟨s0,g0,z0,d⟩) fun z=>k (.tp [z, .v (.bool false)]) | false=>False)
    | _=>False
   | false=>False
  | none=>False
 | .field s x f=>match tget T s with
  | some ⟨_,_,_, .struct fs ag⟩=>match IJ fs f with
   | some (fo,fsz)=>match IJ ag f with
    | some (m+1)=>match e x with
     | .ag cs=>dropK fo cs fun cs=>YT m fsz cs k
     | _=>False
    | _=>False
   | none=>False
  | _=>False
 | _=>False

def pureOp:Op->Bool
 | .move _ | .assign _ | .extract _ _ | .pick _ _ _ | .binOp _ _ _ _ _ | .unOp _ _ _ | .fieldAddr _ _ _ | .indexAddr _ _ _ | .nilCheck _=>true
 | _=>false
structure Y (P:Program) (c:Ctx) (ρ:Operand->Value) (o:Oper) (k:AV->Prop):Prop where
 y:∃ r v,k r/\(∀ w,(pureOp o.op=true\/Old c.w w)->(execOp ρ o).run P w = .ok (.value v) w)/\Rd r c v
theorem Y.mk' {P:Program} {c:Ctx} {ρ:Operand->Value} {o:Oper} {k:AV->Prop} {r:AV} {v:Value} (hn:pureOp o.op=false) (h:k r) (hr:∀ w,Old c.w w->(execOp ρ o).run P w = .ok (.value v) w) (hd:Rd r c v):Y P c ρ o k:=⟨r,v,h,fun w hw=>hr w (hw.resolve_left (by rw [hn];exact Bool.false_ne_true)),hd⟩
theorem Y.val {P:Program} {c:Ctx} {ρ:Operand->Value} {o:Oper} {k:AV->Prop} {v:Value} (hn:pureOp o.op=false) (h:k (.v v)) (hr:∀ w,Old c.w w->(execOp ρ o).run P w = .ok (.value v) w):Y P c ρ o k:= .mk' hn h hr (by simp [Rd])
theorem Y.mkA {P:Program} {c:Ctx} {ρ:Operand->Value} {o:Oper} {k:AV->Prop} {r:AV} {v:Value} (h:k r) (hr:∀ w,True->(execOp ρ o).run P w = .ok (.value v) w) (hd:Rd r c v):Y P c ρ o k:=⟨r,v,h,fun w _=>hr w trivial,hd⟩
theorem Y.valA {P:Program} {c:Ctx} {ρ:Operand->Value} {o:Oper} {k:AV->Prop} {v:Value} (h:k (.v v)) (hr:∀ w,True->(execOp ρ o).run P w = .ok (.value v) w):Y P c ρ o k:= .mkA h hr (by simp [Rd])
theorem DA {c:Ctx} {x:AV} {u:Value} {k:Int->Prop} (hr:Rd x c u) (h:LM x k):∃ j n,u = .int j n/\k n:=by
 unfold LM at h;split at h
 ·simp only [Rd] at hr;exact⟨_,_,hr,h⟩
 ·exact h.elim
theorem DV {w0:Fl} {c:Ctx} {fr:Fr} {n:Nat} {a:Act} (hf:FR w0 c n fr a) {d:Int} {x:Option Operand} {k:Int->Prop} (h:LA (ev fr) d x k):(x=none/\k d)\/∃ o j m,x=some o/\a.eval o = .int j m/\k m:=by
 unfold LA at h;split at h
 ·exact .inl ⟨rfl,h⟩
 ·rename_i o;obtain⟨j,m,h1,h2⟩:=DA (hf.ev o) h;exact .inr ⟨o,j,m,rfl,h1,h2⟩
theorem BM {P:Program} {w:World} {j:IntKind} {i:Int} {y:Nat} {cd:BoundsCode} (h:0<=i/\i<=y):(Instr.sliceBound (.int j i) y cd).run P w = .ok i.toNat w:=by
 simp [Instr.sliceBound,asIntOf,h]
theorem Ui {P:Program} {c:Ctx} {s:TypeId} {f fo fsz:Nat} {ty:Ty} {fs:List (Nat × Nat)} {ag:List Nat} (hty:TyOk P s ty) (hd:ty.d = .struct fs ag) (hf:fs[f]? = some (fo,fsz)) (hz:0<fsz) {x:AV} {u:Value} (hx:Rd x c u) {k:AV->Prop} (h:Uj fo x k) :
  ∃ r q,k r/\(∀ w,(Instr.fieldAt s u f).run P w = .ok q w)/\Rd r c q:=by
 obtain⟨i,d,z,hp⟩:=hty.parts;have htd:=hp.td;rw [hd] at htd;have hd':∃ fields,d = .struct fields:=by cases d <;> simp [Dw] at htd;exact⟨_,rfl⟩
 obtain⟨fields,rfl⟩:=hd';simp only [Dw,TD.struct.injEq] at htd;obtain⟨htd, -⟩:=htd;subst htd;obtain⟨fl,hfl,hfe⟩:∃ fl,fields[f]? = some fl/\(fl.offset,((P.info? fl.type).map (·.size)).getD 0)=(fo,fsz):=by
  rw [Bd] at hf;cases hq:fields.toList[f]? with
  | none=>rw [hq] at hf;simp at hf
  | some fl=>rw [hq] at hf;simp at hf;exact⟨fl,by simpa using hq,by simp [hf.1,hf.2]⟩
 simp only [Prod.mk.injEq] at hfe;obtain⟨h1,h2⟩:=hfe;have hsz:∀ w,(Go.sizeOf fl.type).run P w = .ok fsz w:=by
  intro w;cases hi:P.info? fl.type with
  | none=>rw [hi] at h2;simp at h2;omega
  | some q=>rw [hi] at h2;simp at h2;simp [Go.sizeOf,typeInfo,hi,h2]
 have hrun:∀ b off w,(Instr.fieldAt s (.pointer (some ⟨b,off,none⟩)) f).run P w = .ok (.pointer (some ⟨b,off+fo,none⟩)) w:=by
  intro b off w;have hne:¬fsz=0:=by omega
  have hu:=hp.und;unfold Instr.fieldAt;simp only [Sem.run_bind,run_underlying hu,Result.andThen_ok,hfl,Instr.sureAddr,Sem.run_pure,fieldPlace,hsz,hne,if_false,Addr.add_lit,h1]
 unfold Uj at h;split at h
 ·rename_i j off;simp only [Rd] at hx;obtain⟨q1,g,q2,rfl⟩:=hx;exact⟨_,_,h,hrun _ _,by simp only [Rd];exact⟨q1,g,q2,rfl⟩⟩
 ·rename_i cs;simp only [Rd] at hx;obtain⟨b,off,rfl,q1,q2,q3⟩:=hx;obtain⟨_,hk⟩:=dropK_iff h;exact⟨_,_,hk,hrun _ _,by simp only [Rd];exact⟨b,off+fo,rfl,q1,q2,q3.drop⟩⟩
 ·rename_i j n i' sz off;simp only [Rd] at hx;obtain⟨q1,q2,b,o,rfl,q3⟩:=hx;refine⟨_,_,h,hrun _ _,?_⟩;simp only [Rd];exact⟨q1,q2,b,o+fo,rfl,fun e=>let ⟨p,h5,h6⟩:=q3 e;⟨p,h5,by omega⟩⟩
 ·exact h.elim

theorem RN {P:Program} {c:Ctx} {s:Value->Sem Value} {fo:Nat} (hrun:∀ b off w,(s (.pointer (some ⟨b,off,none⟩))).run P w = .ok (.pointer (some ⟨b,off+fo,none⟩)) w) {x:AV} {u:Value} (hx:Rd x c u) {k:AV->Prop} (h:Uj fo x k) :
  ∃ r q,k r/\(∀ w,(s u).run P w = .ok q w)/\Rd r c q:=by
 unfold Uj at h;split at h
 ·rename_i j off;simp only [Rd] at hx;obtain⟨q1,g,q2,rfl⟩:=hx;exact⟨_,_,h,hrun _ _,by simp only [Rd];exact⟨q1,g,q2,rfl⟩⟩
 ·rename_i cs;simp only [Rd] at hx;obtain⟨b,off,rfl,q1,q2,q3⟩:=hx;obtain⟨_,hk⟩:=dropK_iff h;exact⟨_,_,hk,hrun _ _,by simp only [Rd];exact⟨b,off+fo,rfl,q1,q2,q3.drop⟩⟩
 ·rename_i j n i' sz off;simp only [Rd] at hx;obtain⟨q1,q2,b,o,rfl,q3⟩:=hx;refine⟨_,_,h,hrun _ _,?_⟩;simp only [Rd];exact⟨q1,q2,b,o+fo,rfl,fun e=>let ⟨p,h5,h6⟩:=q3 e;⟨p,h5,by omega⟩⟩
 ·exact h.elim

theorem In {c:Ctx} {x:AV} {u:Value} (h:Rd x c u) (hok:cellsOk x=true):RdL (cells1 x) c u.cells.toList/\∀ v∈u.cells.toList,v.oneCell'=true:=by
 have one:∀ (x:AV) (u:Value),cell1 x=true->Rd x c u->u.oneCell'=true:=by
  intro x u h1 h2;cases x <;> simp only [cell1] at h1 <;> simp only [Rd] at h2
  ·simp at h1
  ·subst h2;exact h1
  ·obtain⟨_,_,rfl,_⟩:=h2;rfl
  ·obtain⟨_,_,rfl,_⟩:=h2;rfl
  ·obtain⟨_,_,_,rfl⟩:=h2;rfl
  ·obtain⟨_,_,⟨_,_,rfl,_⟩,_⟩:=h2;rfl
  ·obtain⟨_,_,_,_,rfl,_⟩:=h2;rfl
  ·simp at h1
  ·simp at h1
  ·simp at h1
  ·simp at h1
 have cells_one:∀ u:Value,u.oneCell'=true->u.cells.toList=[u]:=by
  intro u h;cases u <;> first | rfl | simp [Value.oneCell'] at h
 cases x with
 | ag cs=>
  simp only [Rd] at h;obtain⟨xs,rfl,h⟩:=h;simp only [cellsOk] at hok;refine⟨by simpa [cells1,Value.cells] using h,?_⟩;simp only [Value.cells];clear cells_one;revert xs hok;induction cs with
  | nil=>intro hok xs h;simp only [RdL] at h;subst h;simp
  | cons x cs ih=>
   intro hok xs h;simp only [RdL] at h;obtain⟨y,ys,rfl,h1,h2⟩:=h;simp only [AR,Ad] at hok;intro v hv;simp only [AQ] at hv;rcases hv with rfl | hv
   ·exact one _ _ hok.1 h1
   ·exact ih hok.2 ys h2 v (by simpa using hv)
 | _=>
  have h1:=one _ _ (by simpa [cellsOk] using hok) h;rw [cells_one _ h1];refine⟨?_,by simpa using h1⟩;simp only [cells1,RdL];exact⟨_, [],rfl,h,rfl⟩
theorem spliceK_iff:∀ {n:Nat} {xs cs:List AV} {k:List AV->Prop},spliceK n xs cs k->n+xs.length<=cs.length/\k (cs.take n ++ xs ++ cs.drop (n+xs.length))
 | 0, [],cs,k,h=>by simpa [spliceK] using h
 | 0,x::xs,_::cs,k,h=>by
  simp only [spliceK] at h;have:=spliceK_iff h;simp only [List.take_zero,Bk,Au] at this;refine⟨by simp;omega,by simpa using this.2⟩
 | 0,_::_, [],_,h=>by simp [spliceK] at h
 | n+1,xs,c::cs,k,h=>by
  simp only [spliceK] at h;have:=spliceK_iff h;refine⟨by simp;omega,?_⟩;rw [show n+1+xs.length=n+xs.length+1 by omega];simpa using this.2
 | _+1,_, [],_,h=>by simp [spliceK] at h
theorem RdL.drop:∀ {l:List AV} {c:Ctx} {xs:List Value} (n:Nat),RdL l c xs->RdL (l.drop n) c (xs.drop n)
 | _,_,_,0,h=>by simpa using h
 | [],_,_,_+1,h=>by simp only [RdL] at h;subst h;simp [RdL]
 | x::l,c,_,n+1,h=>by
  simp only [RdL] at h;obtain⟨y,ys,rfl,h2,h3⟩:=h;simpa using RdL.drop n h3
theorem S_ (A:List Value) (y x:Value):(A ++ [y]).set A.length x=A ++ [x]:=by simp
theorem foldl_splice:∀ (xs:List Value) (off i:Nat) (cs:Array Value),off+i+xs.length<=cs.size->
  (List.foldl (fun(a:Array Value) (p:Value × Nat)=>a.setIfInBounds (off+p.2) p.1) cs (xs.zipIdx i)).toList=cs.toList.take (off+i) ++ xs ++ cs.toList.drop (off+i+xs.length)
 | [],off,i,cs,h=>by simp
 | x::xs,off,i,cs,h=>by
  simp only [Ao] at h;simp only [List.zipIdx_cons,List.foldl_cons];rw [foldl_splice xs off (i+1) _ (by simp;omega)];have hlt:off+i<cs.toList.length:=by simp;omega
  simp only [Array.toList_setIfInBounds,Ao];rw [show off+(i+1)=off+i+1 by omega,List.take_set,List.drop_set_of_lt (by omega),show off+i+1+xs.length=off+i+(xs.length+1) by omega];rw [Bh,Af hlt];simp only [Option.toList_some];have hA:(cs.toList.take (off+i)).length=off+i:=by rw [Aq];omega
  generalize cs.toList.take (off+i)=A at hA |-
  generalize cs.toList[off+i]=y;generalize cs.toList.drop (off+i+(xs.length+1))=B;rw [<-hA,C5 _ _ (Ag _)];simp

theorem GG {w0:Fl} {c:Ctx} {fr:Fr} {n:Nat} {a:Act} (hf:FR w0 c n fr a) {fs:List (Nat × Nat)} {place:Nat->Option (Nat × Nat)} (hpl:∀ i p,fs[i]? = some p->place i=some p):∀ {ps:List (Nat × Operand)} {cs:List AV} {vs:Array Value} {k:AV->Prop},
  RdL cs c vs.toList->Kj (ev fr) fs ps cs k->∃ cs' vs',Instr.fill place vs (ps.map fun p=>(p.1,a.eval p.2))=some vs'/\RdL cs' c vs'.toList/\k (.ag cs')/\((∀ u∈vs.toList,u.oneCell'=true)->∀ u∈vs'.toList,u.oneCell'=true)
 | [],cs,vs,k,h,hb=>⟨cs,vs,by simp [Instr.fill],h,hb,id⟩
 | (i,x)::ps,cs,vs,k,h,hb=>by
  simp only [Kj,DN] at hb;split at hb
  ·rename_i off sz hi;have hb:=BD hb;split at hb
   ·rename_i hok;simp only [Ad] at hok;have hsz:=Am hok.2;obtain⟨h1,h2⟩:=spliceK_iff hb;obtain⟨h3,h3o⟩:=In (hf.ev x) hok.1;have hl:=h3.length;have hvl:=h.length;simp only [BC] at hl hvl;have hfold:=foldl_splice (a.eval x).cells.toList off 0 vs (by simp;omega);have hfe:((a.eval x).cells.zipIdx.foldl (fun cs (p:Value × Nat)=>cs.setIfInBounds (off+p.2) p.1) vs)=List.foldl (fun cs (p:Value × Nat)=>cs.setIfInBounds (off+p.2) p.1) vs ((a.eval x).cells.toList.zipIdx 0):=by rw [<-Array.foldl_toList];simp [Array.toList_zipIdx]
    have hR:RdL (cs.take off ++ cells1 (ev fr x) ++ cs.drop (off+(cells1 (ev fr x)).length)) c (((a.eval x).cells.zipIdx.foldl (fun cs (p:Value × Nat)=>cs.setIfInBounds (off+p.2) p.1) vs)).toList:=by
     rw [hfe];rw [hfold];simp only [Ca,BC];rw [hl];exact((h.take off).append h3).append (h.drop _)
    obtain⟨cs',vs',e1,e2,e3,e4⟩:=GG hf hpl (ps:=ps) hR h2;refine⟨cs',vs',?_,e2,e3,fun h1=>e4 fun u hu=>?_⟩
    case refine_2=>
     rw [hfe,hfold] at hu;rcases Az.1 hu with hu | hu
     ·rcases Az.1 hu with hu | hu
      ·exact h1 u (Bo hu)
      ·exact h3o u hu
     ·exact h1 u (BG hu)
    simp only [A5,Instr.fill,hpl _ _ hi];rw [if_neg]
    ·exact e1
    ·simp;omega
   ·exact hb.elim
  ·exact hb.elim

theorem Tw {P:Program} {T:Tys} (hT:TOk P T) {c:Ctx} {t ty:TypeId} {x:AV} {u:Value} (hx:Rd x c u) {k:AV->Prop} (h:YO T t x k):∃ q,k (.v q)/\∀ w,(Builtin.len_ #[t] ty #[u]).run P w = .ok q w:=by
 unfold YO at h;split at h
 ·rename_i e n ht;obtain⟨i,d,z,hp⟩:=(hT.get ht).parts;have hd:∃ e,d = .slice e:=by have:=hp.td;cases d <;> simp [Dw] at this;exact⟨_,rfl⟩
  obtain⟨e',rfl⟩:=hd;have hu:=hp.und;split at h
  ·simp only [Rd] at hx;obtain⟨_,_,rfl,_⟩:=hx;exact⟨_,h,fun w=>by simp [Builtin.len_,run_underlying hu,goInt]⟩
  ·simp only [Rd] at hx;obtain⟨_,_,⟨_,_,rfl,_⟩,_⟩:=hx;exact⟨_,h,fun w=>by simp [Builtin.len_,run_underlying hu,goInt]⟩
  ·simp only [Rd] at hx;subst hx;exact⟨_,h,fun w=>by simp [Builtin.len_,run_underlying hu,goInt]⟩
  ·exact h.elim
 ·rename_i ht;obtain⟨i,d,z,hp⟩:=(hT.get ht).parts;have hd:d = .string:=by have:=hp.td;cases d <;> simp [Dw] at this;rfl
  subst hd;have hu:=hp.und;split at h
  ·simp only [Rd] at hx;subst hx;exact⟨_,h,fun w=>by simp [Builtin.len_,run_underlying hu,goInt]⟩
  ·exact h.elim
 ·exact h.elim
theorem JW {P:Program} {w0:Fl} {c:Ctx} {fr:Fr} {n:Nat} {a:Act} (hf:FR w0 c n fr a) (mx:Bool):∀ (l:List Operand) (j:IntKind) (x:Int) {k:AV->Prop},UY mx (l.map (ev fr)) j x k->
  ∃ q,k (.v q)/\∀ w,((l.map a.eval).foldlM (if mx then Builtin.max2 else Builtin.min2) (.int j x)).run P w = .ok q w
 | [],j,x,k,h=>⟨_,h,fun w=>by simp⟩
 | o::l,j,x,k,h=>by
  simp only [A5,UY] at h;split at h
  ·rename_i j' y hy;have hr:=hf.ev o;rw [hy] at hr;simp only [Rd] at hr;obtain⟨q,h1,h2⟩:=JW hf mx l _ _ h;refine⟨q,h1,fun w=>?_⟩;have h2:=h2 w;simp only [A5,List.foldlM_cons,hr,Sem.run_bind];cases mx
   ·simpa [Builtin.min2] using h2
   ·simpa [Builtin.max2] using h2
  ·exact h.elim
theorem Ex {P:Program} {c:Ctx} {t e:TypeId} {ty:Ty} {esz:Nat} (hty:TyOk P t ty) (hd:ty.d = .slice e esz) (hp0:0<esz) {n:Nat} {get:Nat->List AV} {u:Value} (hx:Rd (.sl esz n get) c u) {l h m:Int} {k:AV->Prop}
  (hk:NH esz n get l h m k) {jl jh jm:IntKind} {lo hi mx:Option Value} (hlo:(lo=none/\l=0)\/lo=some (.int jl l)) (hhi:(hi=none/\h=n/\mx=none)\/hi=some (.int jh h)) (hmx:(mx=none/\m=n)\/mx=some (.int jm m)) :
  ∃ r q,k r/\(∀ w,(Instr.sliceAt t u lo hi mx).run P w = .ok q w)/\Rd r c q:=by
 obtain⟨i,d,z,hp⟩:=hty.parts;have htd:=hp.td;rw [hd] at htd;obtain⟨e',rfl⟩:∃ e,d = .slice e:=by cases d <;> simp [Dw] at htd;exact⟨_,rfl⟩
 simp only [Dw,TD.slice.injEq] at htd;obtain⟨rfl,hes⟩:=htd;have hu:=hp.und;have hsz:∀ w,(Go.sizeOf e').run P w = .ok esz w:=by
  intro w;cases hi:P.info? e' with
  | none=>rw [hi] at hes;simp at hes;omega
  | some q=>rw [hi] at hes;simp at hes;simp [Go.sizeOf,typeInfo,hi,hes]
 obtain⟨⟨q1,q2,q3,q4⟩,hk⟩:=hk;simp only [Rd] at hx;obtain⟨a,p,rfl,hn,hpm,hc⟩:=hx;have hb:∃ m',(n:Int)>=h/\h.toNat<=m'/\l.toNat<=m'/\m'<=maxLen/\∀ w,(Instr.sliceBounds true n p lo hi mx).run P w = .ok (l.toNat,h.toNat,m') w:=by
  rcases hmx with ⟨rfl,rfl⟩ | rfl
  ·refine⟨p,q3,by omega,by omega,hpm,fun w=>?_⟩;rcases hlo with ⟨rfl,rfl⟩ | rfl <;> rcases hhi with ⟨rfl,rfl,_⟩ | rfl <;> simp [Instr.sliceBounds]
   ·rw [BM (by omega)];try rfl
   ·rw [BM (by omega)];try rfl
   ·rw [BM (by omega)];simp only [Result.andThen_ok];rw [BM (by omega)];try rfl
  ·refine⟨m.toNat,by omega,by omega,by omega,by omega,fun w=>?_⟩;rcases hhi with ⟨_,_,h⟩ | rfl
   ·cases h
   rcases hlo with ⟨rfl,rfl⟩ | rfl <;> simp [Instr.sliceBounds]
   ·rw [BM (by omega)];simp only [Result.andThen_ok];rw [BM (by omega)];try rfl
   ·rw [BM (by omega)];simp only [Result.andThen_ok];rw [BM (by omega)];simp only [Result.andThen_ok];rw [BM (by omega)];try rfl
 obtain⟨m',w1,w2,w3,w4,hb⟩:=hb;refine⟨_, .slice (if m'=l.toNat then a else a.map (·.add (l.toNat*esz))) (h.toNat - l.toNat) (m' - l.toNat),hk,fun w=>?_,?_⟩
 ·simp [Instr.sliceAt,Instr.slice,run_underlying hu,hb,hsz]
 ·simp only [Rd];refine⟨_,_,rfl,by omega,by omega,?_⟩;by_cases h0:h.toNat - l.toNat=0
  ·exact .inl h0
  ·refine .inr ?_;rcases hc with hc | ⟨b,off,rfl,hm,hb,hc⟩
   ·omega
   ·refine⟨b,off+l.toNat*esz,?_,hm,hb,fun i hi=>?_⟩
    ·rw [if_neg (by omega)];simp [Addr.add_lit]
    ·have:=hc (i+l.toNat) (by omega);rw [Bb,show off+(i*esz+l.toNat*esz)=off+l.toNat*esz+i*esz by omega] at this;exact this
theorem Td {α β:Type} {P:Program} {w:World} (f:α->Sem β) (g:α->β) (l:Array α) (h:∀ x∈l.toList,(f x).run P w = .ok (g x) w):(l.mapM f).run P w = .ok (l.map g) w:=by
 have key:∀ l:List α,(∀ x∈l,(f x).run P w = .ok (g x) w)->(l.mapM f).run P w = .ok (l.map g) w:=by
  intro l;induction l with
  | nil=>intro _;simp
  | cons x l ih=>
   intro h;simp [List.mapM_cons,h x (by simp),ih fun y hy=>h y (by simp [hy])]
 rw [Array.mapM_eq_mapM_toList];simp [key l.toList h];exact Array.ext' (by simp)
theorem Gp {P:Program} {T:Tys} (hT:TOk P T) {w0:Fl} {M0:Ms} {c:Ctx} {H:List AB} (hs:HS w0 M0 c H) {n:Nat} {fr:Fr} {a:Act} (hf:FR w0 c n fr a) {o:Oper} {k:AV->Prop} (h:ab T o.op (ev fr) H k) :
    Y P c a.eval o k:=by
  unfold ab at h;split at h
  · rename_i x ho;exact .mkA (BD h) (fun w hw=>by simp [execOp,ho]) (hf.ev x)
  · rename_i x ho;exact .mkA (BD h) (fun w hw=>by simp [execOp,ho]) (hf.ev x)
  · rename_i x y z ho;split at h
    · rename_i t hc;have hr:=hf.ev x;rw [hc] at hr;simp only [Rd] at hr;obtain⟨h1,h2⟩:=E0 h;cases t with
      | true=>exact .mkA (BD (h1 rfl)) (fun w hw=>by simp [execOp,ho,hr,asBool]) (hf.ev y)
      | false=>exact .mkA (BD (h2 rfl)) (fun w hw=>by simp [execOp,ho,hr,asBool]) (hf.ev z)
    · exact h.elim
  · rename_i t x ho;split at h
    · rename_i ty ht;obtain⟨b,off,cs,hu,hc,hk⟩:=Pz hs (hf.ev x) h;obtain⟨r,v,h1,h2,h3⟩:=PK (hT.get ht) hc hk;exact .mk' (hn:=by rw [ho];try rfl) h1 (fun w hw=>by simp [execOp,ho,Instr.loadAt,hu,Instr.sureAddr,h2 w hw]) h3
    · exact h.elim
  · rename_i op t x y yt ho;obtain⟨r,q,h1,h2,h3⟩:=Ue hT (ox:=x) (oy:=y) (hf.ev x) (hf.ev y) h;refine .mkA h1 (fun w hw=>?_) h3;simp only [execOp,ho];rw [Sem.run_bind,h2];simp
  · rename_i op t x ho;have hr:=hf.ev x;unfold au at h;split at h
    · rename_i b hx;rw [hx] at hr;simp only [Rd] at hr;split at h
      · exact .valA h (fun w hw=>by simp [execOp,ho,hr,Op.unary])
      · exact h.elim
    · rename_i j m hx;rw [hx] at hr;simp only [Rd] at hr;split at h
      · exact .valA h (fun w hw=>by simp [execOp,ho,hr,Op.unary,Op.intArith])
      · exact .valA h (fun w hw=>by simp [execOp,ho,hr,Op.unary,Op.intBits])
      · exact h.elim
    · exact h.elim
  · rename_i s d x ho;split at h
    · rename_i s0 g0 z0 sd hts;split at h
      · rename_i s1 g1 z1 j htd;split at h
        · rename_i j' m hx;have hr:=hf.ev x;rw [hx] at hr;simp only [Rd] at hr;obtain⟨i,ds,z,hp⟩:=(hT.get hts).parts;obtain⟨i',dd,z',hp'⟩:=(hT.get htd).parts;have hd:dd = .int j:=by have:=hp'.td;cases dd <;> simp [Dw] at this;rw [this]
          subst hd;exact .val (hn:=by rw [ho];try rfl) h (fun w hw=>by simp [execOp,ho,hr,convert,run_underlying hp.und,run_underlying hp'.und,Conv.intToInt])
        · exact h.elim
      · rename_i s1 g1 z1 htd;unfold Zp at h;split at h
        · rename_i et esz;split at h
          · rename_i s2 g2 z2 hte;split at h
            · rename_i sz m get hx;obtain⟨l,⟨rfl,rfl,hget⟩,h⟩:=h;have hr:=hf.ev x;rw [hx] at hr;simp only [Rd] at hr;obtain⟨ad,p,hu,_,_,hc⟩:=hr;obtain⟨i1,ds,z1',hp⟩:=(hT.get hts).parts;obtain⟨i2,dd,z2',hp'⟩:=(hT.get htd).parts;obtain⟨i3,de,z3',hpe⟩:=(hT.get hte).parts;have htd1:=hp.td;obtain⟨e',rfl⟩:∃ e,ds = .slice e:=by cases ds <;> simp [Dw] at htd1;exact⟨_,rfl⟩
              simp only [Dw,TD.slice.injEq] at htd1;obtain⟨rfl,_⟩:=htd1;have hd:dd = .string:=by have:=hp'.td;cases dd <;> simp [Dw] at this;rfl
              have he:de = .int .u8:=by have:=hpe.td;cases de <;> simp [Dw] at this;rw [this]
              subst hd he;refine .val (hn:=by rw [ho];try rfl) h (fun w hw=>?_);have hrun:(Conv.bytesToString (.slice ad l.length p)).run P w = .ok (.string ⟨l.toArray⟩) w:=by
                cases hl:l with
                | nil=>cases ad <;> simp [Conv.bytesToString,loadCells,loadCellsFrom] <;> rfl
                | cons x0 l0=>
                  rw [<-hl];have hne:l.length≠0:=by rw [hl];simp
                  obtain⟨b,off,rfl,hm,hlt,hc⟩:=hc.resolve_left hne;have hcells:=E9 (P:=P) (w:=w) ⟨b,off,none⟩ (l.map fun x=>Value.int .u8 (x.toNat:Int)) 0 #[] fun j u hu=>by
                    rw [Addr.add_lit,Au];rw [Bd] at hu;cases hq:l[j]? with
                    | none=>rw [hq] at hu;simp at hu
                    | some x=>
                      rw [hq] at hu;simp at hu;subst hu;have hj:=(Ar.1 hq).1;have:=(hc j hj).2;rw [hget j hj] at this;simp only [RdAt,Rd] at this;obtain⟨⟨u,q1,_,rfl⟩,_⟩:=this;rw [D4] at q1;have e0:l.getD j 0=x:=by rw [Ab,hq];try rfl
                      rw [e0] at q1;exact hw.cell q1
                  rw [Aa] at hcells;have h9:=run_bytesToString (P:=P) w ⟨b,off,none⟩ l.length p (l.map fun x=>(x.toNat:Int)) (by
                    rw [List.map_map];rw [Array.empty_append] at hcells;exact hcells)
                  rw [h9];congr 2;have key:∀ (m:List UInt8) (s:ByteArray),(m.map fun x=>(x.toNat:Int)).foldl (fun r n=>r.push (UInt8.ofNat n.toNat)) s=⟨s.data ++ m.toArray⟩:=by
                    intro m;induction m with
                    | nil=>intro s;simp
                    | cons y m ih=>
                      intro s;simp only [A5,List.foldl_cons,ih];simp [ByteArray.push]
                  have he0:ByteArray.empty.data = #[]:=rfl;rw [key,he0];simp
              simp only [execOp,ho,hu];rw [Sem.run_bind,run_convert_bytes_string w s d e' ad l.length p hp.und hpe.und hp'.und,hrun];simp
            · exact h.elim
          · exact h.elim
        · exact h.elim
      · exact h.elim
    · exact h.elim
  · rename_i s x f ho;split at h
    · rename_i s1 g1 z1 fs ag ht;split at h
      · rename_i fo fsz hfi;split at h
        · rename_i hb;rw [DN] at hfi;obtain⟨r,q,h1,h2,h3⟩:=Ui (hT.get ht) rfl hfi (by simpa using hb) (hf.ev x) h;exact .mkA h1 (fun w hw=>by simp [execOp,ho,h2]) h3
        · exact h.elim
      · exact h.elim
    · exact h.elim
  · rename_i t x i ho;split at h
    · rename_i s1 g1 z1 e esz ht;split at h
      · rename_i hb;have hb':0<esz:=by simpa using hb
        obtain⟨i1,d,z,hp⟩:=(hT.get ht).parts;have htd:=hp.td;obtain⟨e',rfl⟩:∃ e,d = .slice e:=by cases d <;> simp [Dw] at htd;exact⟨_,rfl⟩
        simp only [Dw,TD.slice.injEq] at htd;obtain⟨rfl,hes⟩:=htd;have hu:=hp.und;have hsz:∀ w,(Go.sizeOf e').run P w = .ok esz w:=by
          intro w;cases hi:P.info? e' with
          | none=>rw [hi] at hes;simp at hes;omega
          | some q=>rw [hi] at hes;simp at hes;simp [Go.sizeOf,typeInfo,hi,hes]
        have hrun:∀ (b:Addr) (n p:Nat) (jk:IntKind) (j:Int),0<=j->j<n->∀ w,(Instr.indexAt t (.slice (some b) n p) (.int jk j)).run P w = .ok (.pointer (some (b.add (j.toNat*esz)))) w:=by
          intro b n p jk j h1 h2 w;simp [Instr.indexAt,asIntOf,run_underlying hu,h1,h2,hsz]
        have hx:=hf.ev x;split at h
        · rename_i sz m get hxe;rw [hxe] at hx;split at h
          · rename_i hsz';have:=Am hsz';subst this;obtain⟨jk,j,hi,⟨hj1,hj2⟩,hk⟩:=DA (hf.ev i) h;simp only [Rd] at hx;obtain⟨ad,p,hxv,_,_,hc⟩:=hx;rcases hc with hc | ⟨b,off,rfl,hm,hlt,hc⟩
            · omega
            refine .mkA hk (v:= .pointer (some ⟨b,off+j.toNat*sz,none⟩)) ?_ ?_
            · intro w hw;have:=hrun ⟨b,off,none⟩ m p jk j hj1 hj2 w;rw [Addr.add_lit] at this;simp [execOp,ho,hi,hxv,this]
            · simp only [Rd];exact⟨b,_,rfl,hm,hlt,(hc j.toNat (by omega)).2⟩
          · exact h.elim
        · rename_i q m hxe;rw [hxe] at hx;obtain⟨jk,j,hi,⟨hj1,hj2⟩,hk⟩:=DA (hf.ev i) h;simp only [Rd] at hx;obtain⟨q1,q2,⟨ad,p,hxv,q3⟩,q4⟩:=hx;obtain⟨g,rfl⟩:=q3 (by omega);have hj:=hrun ⟨g,0,none⟩ m p jk j hj1 hj2;simp only [Addr.add_lit,Au] at hj;refine .mkA hk (v:= .pointer (some ⟨g,j.toNat*esz,none⟩)) ?_ ?_
          · intro w hw;simp [execOp,ho,hi,hxv,hj w]
          · simp only [Rd];exact⟨q1,q2,g,_,rfl,fun e=>⟨p,by rw [<-q4 e,hxv],by omega⟩⟩
        · exact h.elim
      · exact h.elim
    · rename_i s1 g1 z1 len e esz ht;split at h
      · rename_i hb;have hb':0<esz:=by simpa using hb
        obtain⟨i1,d,z,hp⟩:=(hT.get ht).parts;have htd:=hp.td;obtain⟨n',e',rfl⟩:∃ n e,d = .array n e:=by cases d <;> simp [Dw] at htd;exact⟨_,_,rfl⟩
        simp only [Dw,TD.arr.injEq] at htd;obtain⟨rfl,rfl,hes⟩:=htd;have hu:=hp.und;have hsz:∀ w,(Go.sizeOf e').run P w = .ok esz w:=by
          intro w;cases hi:P.info? e' with
          | none=>rw [hi] at hes;simp at hes;omega
          | some q=>rw [hi] at hes;simp at hes;simp [Go.sizeOf,typeInfo,hi,hes]
        obtain⟨jk,j,hi,⟨hj1,hj2⟩,hk⟩:=DA (hf.ev i) h;obtain⟨r,q,h1,h2,h3⟩:=RN (P:=P) (s:=fun u=>Instr.indexAt t u (.int jk j)) (fo:=j.toNat*esz) (fun b off w=>by
          simp [Instr.indexAt,asIntOf,run_underlying hu,Instr.sureAddr,hj1,hj2,hsz,Addr.add_lit]) (hf.ev x) hk
        exact .mkA h1 (fun w hw=>by simp [execOp,ho,hi,h2]) h3
      · exact h.elim
    · exact h.elim
  · rename_i t i ho;split at h
    · rename_i vs hx;split at h
      · rename_i x hi;have hr:=hf.ev t;rw [hx] at hr;simp only [Rd] at hr;obtain⟨xs,hu,hl⟩:=hr;rw [DN] at hi;obtain⟨v,h1,h2⟩:=hl.get hi;exact .mkA (BD h) (fun w hw=>by simp [execOp,ho,hu,Instr.extract,h1]) h2
      · exact h.elim
    · exact h.elim
  · rename_i t x lo hi mx ho;split at h
    · rename_i s1 g1 z1 e esz ht;have hr:=hf.ev x;split at h
      · rename_i sz m get hx;rw [hx] at hr;split at h
        · rename_i hsz';have:=Am hsz';subst this;split at h
          · rename_i hb;have hb':0<sz:=by simpa using hb
            have hd:=hT.get ht;rcases DV hf h with ⟨rfl,hk⟩ | ⟨ol,jl,l,rfl,hl,hk⟩
            all_goals
              cases hi with
              | none=>
                cases mx with
                | none=>
                  simp only at hk;first
                    | (obtain⟨r,q,h1,h2,h3⟩:=Ex (jl:= .i64) (jh:= .i64) (jm:= .i64) (lo:=none) (hi:=none) (mx:=none) hd rfl hb' hr hk (.inl ⟨rfl,rfl⟩) (.inl ⟨rfl,rfl,rfl⟩) (.inl ⟨rfl,rfl⟩)
                       exact .mk' (hn:=by rw [ho];try rfl) h1 (fun w hw=>by simp [execOp,ho,h2]) h3)
                    | (obtain⟨r,q,h1,h2,h3⟩:=Ex (jl:=jl) (jh:= .i64) (jm:= .i64) (lo:=some (.int jl l)) (hi:=none) (mx:=none) hd rfl hb' hr hk (.inr rfl) (.inl ⟨rfl,rfl,rfl⟩) (.inl ⟨rfl,rfl⟩)
                       exact .mk' (hn:=by rw [ho];try rfl) h1 (fun w hw=>by simp [execOp,ho,hl,h2]) h3)
                | some m=>exact hk.elim
              | some hi=>
                simp only at hk;obtain⟨jh,hh,hhe,hk⟩:=DA (hf.ev hi) hk;cases mx with
                | none=>
                  simp only at hk;first
                    | (obtain⟨r,q,h1,h2,h3⟩:=Ex (jl:= .i64) (jh:=jh) (jm:= .i64) (lo:=none) (hi:=some (.int jh hh)) (mx:=none) hd rfl hb' hr hk (.inl ⟨rfl,rfl⟩) (.inr rfl) (.inl ⟨rfl,rfl⟩)
                       exact .mk' (hn:=by rw [ho];try rfl) h1 (fun w hw=>by simp [execOp,ho,hhe,h2]) h3)
                    | (obtain⟨r,q,h1,h2,h3⟩:=Ex (jl:=jl) (jh:=jh) (jm:= .i64) (lo:=some (.int jl l)) (hi:=some (.int jh hh)) (mx:=none) hd rfl hb' hr hk (.inr rfl) (.inr rfl) (.inl ⟨rfl,rfl⟩)
                       exact .mk' (hn:=by rw [ho];try rfl) h1 (fun w hw=>by simp [execOp,ho,hl,hhe,h2]) h3)
                | some mx=>
                  simp only at hk;obtain⟨jm,mm,hme,hk⟩:=DA (hf.ev mx) hk;first
                    | (obtain⟨r,q,h1,h2,h3⟩:=Ex (jl:= .i64) (jh:=jh) (jm:=jm) (lo:=none) (hi:=some (.int jh hh)) (mx:=some (.int jm mm)) hd rfl hb' hr hk (.inl ⟨rfl,rfl⟩) (.inr rfl) (.inr rfl)
                       exact .mk' (hn:=by rw [ho];try rfl) h1 (fun w hw=>by simp [execOp,ho,hhe,hme,h2]) h3)
                    | (obtain⟨r,q,h1,h2,h3⟩:=Ex (jl:=jl) (jh:=jh) (jm:=jm) (lo:=some (.int jl l)) (hi:=some (.int jh hh)) (mx:=some (.int jm mm)) hd rfl hb' hr hk (.inr rfl) (.inr rfl) (.inr rfl)
                       exact .mk' (hn:=by rw [ho];try rfl) h1 (fun w hw=>by simp [execOp,ho,hl,hhe,hme,h2]) h3)
          · exact h.elim
        · exact h.elim
      · rename_i hx;rw [hx] at hr;simp only [Rd] at hr;obtain⟨i1,d,z,hp⟩:=(hT.get ht).parts;have htd:=hp.td;obtain⟨e',rfl⟩:∃ e,d = .slice e:=by cases d <;> simp [Dw] at htd;exact⟨_,rfl⟩
        have hu:=hp.und;have hb:∀ {j:IntKind} {i:Int},i=0->∀ cd w,(Instr.sliceBound (.int j i) 0 cd).run P w = .ok 0 w:=fun h cd w=>by subst h;simp [Instr.sliceBound,asIntOf]
        simp only [Dw,TD.slice.injEq] at htd;obtain⟨rfl,hes⟩:=htd;split at h
        · split at h
          · rename_i hb0;have hb':0<esz:=by simpa using hb0
            have hsz:∀ w,(Go.sizeOf e').run P w = .ok esz w:=by
              intro w;cases hi:P.info? e' with
              | none=>rw [hi] at hes;simp at hes;omega
              | some q=>rw [hi] at hes;simp at hes;simp [Go.sizeOf,typeInfo,hi,hes]
            rcases DV hf h with ⟨rfl,hk⟩ | ⟨ol,jl,l,rfl,hl,hk⟩
            · rcases DV hf hk with ⟨rfl,⟨e1,e2⟩,hk⟩ | ⟨oh,jh,hh,rfl,hhe,⟨e1,e2⟩,hk⟩
              · exact .val (hn:=by rw [ho];try rfl) hk (fun w hw=>by simp [execOp,ho,hr,Instr.sliceAt,Instr.slice,run_underlying hu,Instr.sliceBounds,hsz])
              · exact .val (hn:=by rw [ho];try rfl) hk (fun w hw=>by simp [execOp,ho,hr,hhe,Instr.sliceAt,Instr.slice,run_underlying hu,Instr.sliceBounds,hsz,hb e2])
            · rcases DV hf hk with ⟨rfl,⟨e1,e2⟩,hk⟩ | ⟨oh,jh,hh,rfl,hhe,⟨e1,e2⟩,hk⟩
              · exact .val (hn:=by rw [ho];try rfl) hk (fun w hw=>by simp [execOp,ho,hr,hl,Instr.sliceAt,Instr.slice,run_underlying hu,Instr.sliceBounds,hsz,hb e1])
              · exact .val (hn:=by rw [ho];try rfl) hk (fun w hw=>by simp [execOp,ho,hr,hl,hhe,Instr.sliceAt,Instr.slice,run_underlying hu,Instr.sliceBounds,hsz,hb e1,hb e2])
          · exact h.elim
        · exact h.elim
      · exact h.elim
    · rename_i ht;obtain⟨i1,d,z,hp⟩:=(hT.get ht).parts;have htd:=hp.td;obtain rfl:d = .string:=by cases d <;> simp [Dw] at htd;rfl
      have hu:=hp.und;have hr:=hf.ev x;split at h
      · rename_i s hx;rw [hx] at hr;simp only [Rd] at hr;split at h
        · rcases DV hf h with ⟨rfl,hk⟩ | ⟨ol,jl,l,rfl,hl,hk⟩
          · rcases DV hf hk with ⟨rfl,⟨e1,e2,e3⟩,hk⟩ | ⟨oh,jh,hh,rfl,hhe,⟨e1,e2,e3⟩,hk⟩
            · exact .val (hn:=by rw [ho];try rfl) hk (fun w hw=>by simp [execOp,ho,hr,Instr.sliceAt,Instr.slice,run_underlying hu,Instr.sliceBounds])
            · exact .val (hn:=by rw [ho];try rfl) hk (fun w hw=>by simp [execOp,ho,hr,hhe,Instr.sliceAt,Instr.slice,run_underlying hu,Instr.sliceBounds,BM ⟨e2,e3⟩])
          · rcases DV hf hk with ⟨rfl,⟨e1,e2,e3⟩,hk⟩ | ⟨oh,jh,hh,rfl,hhe,⟨e1,e2,e3⟩,hk⟩
            · exact .val (hn:=by rw [ho];try rfl) hk (fun w hw=>by simp [execOp,ho,hr,hl,Instr.sliceAt,Instr.slice,run_underlying hu,Instr.sliceBounds,BM ⟨e1,e2⟩])
            · have e2':l<=(hh.toNat:Nat):=by omega
              exact .val (hn:=by rw [ho];try rfl) hk (fun w hw=>by simp [execOp,ho,hr,hl,hhe,Instr.sliceAt,Instr.slice,run_underlying hu,Instr.sliceBounds,BM (i:=hh) ⟨Int.le_trans e1 e2,e3⟩,BM (i:=l) ⟨e1,e2'⟩])
        · exact h.elim
      · exact h.elim
    · exact h.elim
  · rename_i t x i ho;split at h
    · rename_i ht;obtain⟨i1,d,z,hp⟩:=(hT.get ht).parts;have htd:=hp.td;obtain rfl:d = .string:=by cases d <;> simp [Dw] at htd;rfl
      have hu:=hp.und;have hr:=hf.ev x;split at h
      · rename_i s hx;rw [hx] at hr;simp only [Rd] at hr;obtain⟨jk,j,hi,⟨e1,e2⟩,hk⟩:=DA (hf.ev i) h;refine .val (hn:=by rw [ho];try rfl) hk (fun w hw=>?_);have e3:j.toNat<s.size:=by omega
        have e4:s[j.toNat]? = some (s.data.toList.getD j.toNat 0):=by
          rw [getElem?_pos s j.toNat e3,Ab,Af (by simpa using e3)];try rfl
        simp [execOp,ho,hr,hi,Instr.index,asIntOf,run_underlying hu,e1,e4]
      · exact h.elim
    · exact h.elim
  · rename_i x ho;have hr:=hf.ev x;split at h
    · rename_i j off hx;rw [hx] at hr;have hr':=hr;simp only [Rd] at hr;obtain⟨_,g,_,hu⟩:=hr;exact .mkA h (v:=a.eval x) (fun w hw=>by simp [execOp,ho,hu]) hr'
    · rename_i cs hx;rw [hx] at hr;have hr':=hr;simp only [Rd] at hr;obtain⟨b,off,hu,_⟩:=hr;exact .mkA h (v:=a.eval x) (fun w hw=>by simp [execOp,ho,hu]) hr'
    · rename_i j n i sz off hx;rw [hx] at hr;have hr':=hr;simp only [Rd] at hr;obtain⟨_,_,b,o,hu,_⟩:=hr;exact .mkA h (v:=a.eval x) (fun w hw=>by simp [execOp,ho,hu]) hr'
    · exact h.elim
  · rename_i t ps ho;split at h
    · rename_i s1 g1 z1 fs ag ht;split at h
      case h_2=>exact h.elim
      rename_i hall;obtain⟨i1,d,z,hp⟩:=(hT.get ht).parts;have htd:=hp.td;obtain⟨fields,rfl⟩:∃ fields,d = .struct fields:=by cases d <;> simp [Dw] at htd;exact⟨_,rfl⟩
      simp only [Dw,TD.struct.injEq] at htd;obtain⟨htd, -⟩:=htd;have hu:=hp.und;have hzr:RdL (z1.map .v) c z.cells.toList:=by
        rw [hp.zc];clear h ht hp hall;induction z1 with
        | nil=>simp [RdL]
        | cons x l ih=>simp only [A5,RdL];exact⟨x,l,rfl,by simp [Rd],ih⟩
      have hmap:∃ pl:Array (Nat × Nat),(∀ w,(fields.mapM fun f=>Prod.mk f.offset <$> Go.sizeOf f.type).run P w = .ok pl w)/\∀ i:Nat,pl[i]? = fs[i]? :=by
        refine⟨fields.map fun f=>(f.offset,((P.info? f.type).map (·.size)).getD 0),fun w=>Td _ _ fields fun f hfm=>?_,fun i=>by rw [<-htd];simp⟩;rw [<-htd] at hall;have h1:=Av.1 hall (f.offset,((P.info? f.type).map (·.size)).getD 0) (AI.2 ⟨f,hfm,rfl⟩);cases hi:P.info? f.type with
        | none=>rw [hi] at h1;simp at h1
        | some q=>simp [Go.sizeOf,typeInfo,hi]
      obtain⟨pl,hm1,hm2⟩:=hmap;obtain⟨cs',vs',h1,h2,h3, -⟩:=GG hf (place:=fun i=>pl[i]?) (fun i p h=>(hm2 i).trans h) hzr h;refine .mk' (hn:=by rw [ho];try rfl) h3 (v:= .agg vs') ?_ ?_
      · intro w hw;simp [execOp,ho,Instr.build,zeroValue,typeInfo,hp.info,hp.zero,run_underlying hu,hm1,h1]
      · simp only [Rd];exact⟨vs'.toList,by simp,h2⟩
    · rename_i s1 g1 z1 len e esz ht;split at h
      case h_2=>exact h.elim
      rename_i hb;have hb':0<esz:=by simpa using hb
      obtain⟨i1,d,z,hp⟩:=(hT.get ht).parts;have htd:=hp.td;obtain⟨n',e',rfl⟩:∃ n e,d = .array n e:=by cases d <;> simp [Dw] at htd;exact⟨_,_,rfl⟩
      simp only [Dw,TD.arr.injEq] at htd;obtain⟨rfl,rfl,hes⟩:=htd;have hu:=hp.und;have hsz:∀ w,(Go.sizeOf e').run P w = .ok esz w:=by
        intro w;cases hi:P.info? e' with
        | none=>rw [hi] at hes;simp at hes;omega
        | some q=>rw [hi] at hes;simp at hes;simp [Go.sizeOf,typeInfo,hi,hes]
      have hzr:RdL (z1.map .v) c z.cells.toList:=by
        rw [hp.zc];clear h ht hp;induction z1 with
        | nil=>simp [RdL]
        | cons x l ih=>simp only [A5,RdL];exact⟨x,l,rfl,by simp [Rd],ih⟩
      obtain⟨cs',vs',h1,h2,h3, -⟩:=GG hf (place:=fun i=>some (i*esz,esz)) (fun i p hi=>by
        rw [Bd] at hi;cases hq:(List.range n')[i]? with
        | none=>rw [hq] at hi;simp at hi
        | some q=>
          rw [hq] at hi;obtain⟨hlt,rfl⟩:=Ar.1 hq;simpa using hi) hzr h
      refine .mk' (hn:=by rw [ho];try rfl) h3 (v:= .agg vs') ?_ ?_
      · intro w hw;simp [execOp,ho,Instr.build,zeroValue,typeInfo,hp.info,hp.zero,run_underlying hu,hsz,h1]
      · simp only [Rd];exact⟨vs'.toList,by simp,h2⟩
    · exact h.elim
  · rename_i fn f cp ho;split at h
    · rename_i hf0;split at h
      · rename_i hc0;have e1:f = #[]:=Array.ext' (by simpa using hf0);have e2:cp = #[]:=Array.ext' (by simpa using hc0);subst e1 e2;exact .val (hn:=by rw [ho];try rfl) h (fun w hw=>by simp [execOp,ho,Instr.makeFunc])
      · exact h.elim
    · exact h.elim
  · rename_i args ts ho;split at h
    · rename_i x hx;split at h
      · rename_i t ht;have e1:args = #[x]:=Array.ext' (by simpa using hx);have e2:ts = #[t]:=Array.ext' (by simpa using ht);subst e1 e2;obtain⟨q,h1,h2⟩:=Tw hT (ty:=o.type) (hf.ev x) h;exact .val (hn:=by rw [ho];try rfl) h1 (fun w hw=>by simp [execOp,ho,resolve,invoke,builtin,h2])
      · exact h.elim
    · exact h.elim
  · rename_i args ts ho;split at h
    · rename_i j x r hr;cases hl:args.toList with
      | nil=>rw [hl] at hr;simp at hr
      | cons y l=>
        rw [hl] at hr;simp only [A5,List.cons.injEq] at hr;obtain⟨hy,rfl⟩:=hr;have h0:=hf.ev y;rw [hy] at h0;simp only [Rd] at h0;obtain⟨q,h1,h2⟩:=JW (P:=P) hf false l j x h;refine .val (hn:=by rw [ho];try rfl) h1 fun w hw=>?_
        have h2:=h2 w;simp only [BU,if_false] at h2;simp [execOp,ho,resolve,invoke,builtin,Builtin.min_,hl,h0,h2]
    · exact h.elim
  · rename_i args ts ho;split at h
    · rename_i j x r hr;cases hl:args.toList with
      | nil=>rw [hl] at hr;simp at hr
      | cons y l=>
        rw [hl] at hr;simp only [A5,List.cons.injEq] at hr;obtain⟨hy,rfl⟩:=hr;have h0:=hf.ev y;rw [hy] at h0;simp only [Rd] at h0;obtain⟨q,h1,h2⟩:=JW (P:=P) hf true l j x h;refine .val (hn:=by rw [ho];try rfl) h1 fun w hw=>?_
        have h2:=h2 w;simp only [if_true] at h2;simp [execOp,ho,resolve,invoke,builtin,Builtin.max_,hl,h0,h2]
    · exact h.elim
  · rename_i t x ho;split at h
    · rename_i s1 g1 z1 d1 ht;split at h
      · rename_i hpl;obtain⟨i1,d,z,hp⟩:=(hT.get ht).parts;have hc:=hp.concrete hpl;have hu:=hp.und;refine .mk' (hn:=by rw [ho];try rfl) (BD (k:=fun y=>k (.ic t [y])) h) (v:= .iface t (a.eval x)) (fun w hw=>?_) ?_
        · simp only [execOp,ho,Instr.makeInterface,Sem.run_bind,run_underlying hu,Result.andThen_ok];cases d <;> first | exact absurd rfl (hc _) | simp
        · simp only [Rd,RdL];exact⟨[a.eval x],rfl,_,_,rfl,hf.ev x,rfl⟩
      · exact h.elim
    · exact h.elim
  · rename_i x xt t cm ho;split at h
    · rename_i s1 g1 z1 d1 ht;split at h
      · rename_i hpl;obtain⟨i1,d,z,hp⟩:=(hT.get ht).parts;have hc:=hp.concrete hpl;have hu:=hp.und;have hz:∀ w,(zeroValue t).run P w = .ok z w:=fun w=>by simp [zeroValue,typeInfo,hp.info,hp.zero]
        have hr:=hf.ev x;have hno:∀ w,(Instr.typeAssert .nilIface xt t true).run P w = .ok (.tuple #[z, .bool false]) w:=fun w=>by
          simp only [Instr.typeAssert,Sem.run_bind,run_underlying hu,Result.andThen_ok];cases d <;> first | exact absurd rfl (hc _) | simp [hz]
        have hif:∀ s v w,(Instr.typeAssert (.iface s v) xt t true).run P w = .ok (if s=t then .tuple #[v, .bool true] else .tuple #[z, .bool false]) w:=fun s v w=>by
          simp only [Instr.typeAssert,Sem.run_bind,run_underlying hu,Result.andThen_ok];cases d <;> first | exact absurd rfl (hc _) | (by_cases hst:s=t <;> simp [hst,hz])
        have hif':∀ v w,(Instr.typeAssert (.iface t v) xt t false).run P w = .ok v w:=fun v w=>by
          simp only [Instr.typeAssert,Sem.run_bind,run_underlying hu,Result.andThen_ok];cases d <;> first | exact absurd rfl (hc _) | simp
        have htop:Rd (.tp [zeroA ⟨s1,g1,z1,d1⟩, .v (.bool false)]) c (.tuple #[z, .bool false]):=by
          simp only [Rd,RdL];exact⟨_,rfl,_,_,rfl,hp.zeroA c,_,_,rfl,rfl,rfl⟩
        split at h
        · rename_i s l hx;rw [hx] at hr;simp only [Rd] at hr;obtain⟨xs,hv,hl⟩:=hr;split at h
          · rename_i hst;have hst:=Am hst;subst hst;split at h
            · simp only [RdL] at hl;obtain⟨v,_,rfl,h1,rfl⟩:=hl;split at h
              · refine .mk' (hn:=by rw [ho];try rfl) h (v:= .tuple #[v, .bool true]) (fun w hw=>by simp [execOp,ho,hv,hif]) ?_;simp only [Rd,RdL];exact⟨_,rfl,_,_,rfl,h1,_,_,rfl,rfl,rfl⟩
              · exact .mk' (hn:=by rw [ho];try rfl) (BD h) (v:=v) (fun w hw=>by simp [execOp,ho,hv,hif']) h1
            · exact h.elim
          · rename_i hst;have hst:¬s=t:=fun e=>by subst e;simp at hst
            split at h
            · exact .mk' (hn:=by rw [ho];try rfl) (BD (k:=fun z=>k (.tp [z, .v (.bool false)])) h) (v:= .tuple #[z, .bool false]) (fun w hw=>by simp [execOp,ho,hv,hif,hst]) htop
            · exact h.elim
        · rename_i hx;rw [hx] at hr;simp only [Rd] at hr;split at h
          · exact .mk' (hn:=by rw [ho];try rfl) (BD (k:=fun z=>k (.tp [z, .v (.bool false)])) h) (v:= .tuple #[z, .bool false]) (fun w hw=>by simp [execOp,ho,hr,hno]) htop
          · exact h.elim
        · exact h.elim
      · exact h.elim
    · exact h.elim
  · rename_i s x f ho;split at h
    · rename_i s1 g1 z1 fs ag ht;split at h
      · rename_i fo fsz hf0;split at h
        · rename_i m hm;split at h
          · rename_i cs hx;have hr:=hf.ev x;rw [hx] at hr;simp only [Rd] at hr;obtain⟨xs,hv,hl⟩:=hr;rw [DN] at hf0 hm;obtain⟨i1,d,z,hp⟩:=(hT.get ht).parts;have htd:=hp.td;obtain⟨fields,rfl⟩:∃ fields,d = .struct fields:=by cases d <;> simp [Dw] at htd;exact⟨_,rfl⟩
            simp only [Dw,TD.struct.injEq] at htd;obtain⟨h1,h2⟩:=htd;have hu:=hp.und;rw [<-h1,Bd] at hf0;rw [<-h2,Bd] at hm;obtain⟨hn,hk⟩:=dropK_iff h;cases hq:fields.toList[f]? with
            | none=>rw [hq] at hf0;simp at hf0
            | some fl=>
              rw [hq] at hf0 hm;simp only [Option.map_some,Option.some.injEq,Prod.mk.injEq] at hf0 hm;obtain⟨hfo,hfs⟩:=hf0;have hq':fields[f]? = some fl:=by simpa using hq
              cases hud:P.underlying fl.type with
              | none=>rw [hud] at hm;simp [codeA] at hm
              | some d2=>
                rw [hud] at hm;have hag:∀ w,(Go.isAgg fl.type).run P w = .ok (aggD d2) w:=fun w=>by
                  unfold Go.isAgg;simp only [Sem.run_bind,run_underlying hud,Result.andThen_ok];cases d2 <;> simp [aggD]
                have hdr:=hl.drop fo;cases m with
                | zero=>
                  have ha:aggD d2=true:=by cases e:aggD d2 <;> simp [codeA,e] at hm;rfl
                  simp only [YT] at hk;split at hk
                  case h_2=>exact hk.elim
                  rename_i hb;have hb':0<fsz:=by simpa using hb
                  obtain⟨hn2,hk2⟩:=takeK_iff hk;have hsz:∀ w,(Go.sizeOf fl.type).run P w = .ok fsz w:=by
                    intro w;cases hi:P.info? fl.type with
                    | none=>rw [hi] at hfs;simp at hfs;omega
                    | some q=>rw [hi] at hfs;simp at hfs;simp [Go.sizeOf,typeInfo,hi,hfs]
                  refine .mk' (hn:=by rw [ho];try rfl) hk2 (v:= .agg ((xs.drop fo).take fsz).toArray) (fun w hw=>?_) ?_
                  · simp [execOp,ho,Instr.field,run_underlying hu,hq',hv,asAgg,part,hag,ha,hsz,hfo]
                  · simp only [Rd];exact⟨_,rfl,hdr.take _⟩
                | succ m=>
                  have ha:aggD d2=false:=by cases e:aggD d2 <;> simp [codeA,e] at hm;rfl
                  simp only [YT] at hk;split at hk
                  · rename_i y r hy;rw [hy] at hdr;simp only [RdL] at hdr;obtain⟨u,us,hus,hyu, -⟩:=hdr;have hx:xs[fo]? = some u:=by
                      have:=congrArg (fun l:List Value=>l[0]?) hus;simpa using this
                    refine .mk' (hn:=by rw [ho];try rfl) (BD hk) (v:=u) (fun w hw=>?_) hyu;simp [execOp,ho,Instr.field,run_underlying hu,hq',hv,asAgg,part,hag,ha,hfo,hx]
                  · exact hk.elim
          · exact h.elim
        · exact h.elim
      · exact h.elim
    · exact h.elim
  · exact h.elim
section
variable {w0:Fl} {M0:Ms} {c:Ctx} {H:List AB}
theorem HS.klt (h:HS w0 M0 c H) {k:Nat} {x:AB} (hk:H[k]? = some x):k<c.dom:=by rw [h.dom];exact(Ar.1 hk).1
theorem HS.sub (h:HS w0 M0 c H) {k:Nat} {x:AB} {g:Nat} (hk:H[k]? = some x) (hl:x.live=true) (ho:oB (c.rho k)=some g):g<c.w.heap.size:=h.lt g (h.own k x g hk hl ho).1
theorem BlkOk.ext {c c':Ctx} (e:Ext c c') (hb:c'.base=c.base) {k:Nat} (hk:k<c.dom) (hlen:c'.len k=c.len k):∀ {x:AB},(∀ g,x.live=true->oB (c.rho k)=some g->c'.w.heap[g]? = c.w.heap[g]?)->BlkOk c k x->BlkOk c' k x
 | .box t cs,hg,h=>by
  obtain⟨g,xs,h1,h2,h3,h4⟩:=h;exact⟨g,xs,e.box k _ hk h1,by rw [hg g rfl (by rw [h1];try rfl)];exact h2,RdL.ext _ e h3,h4⟩
 | .row t sz es,hg,h=>by
  obtain⟨h1,h2,h3,xs,h4,h5,h6⟩:=h;refine⟨by omega,h2,h3,xs,?_,RdL.ext _ e.closed h5,h6⟩;have hr:=e.rho k hk (by omega);rw [hr];refine⟨h4.1,h4.2.imp id ?_⟩;rintro⟨g,cap,cur,q1,q2,q3,q4⟩;exact⟨g,cap,cur,q1,by rw [hb];exact q2,by rw [hg g rfl (by rw [q1];try rfl)];exact q3,q4⟩
 | .iter s pos,hg,h=>by
  obtain⟨g,h1,h2⟩:=h;exact⟨g,e.box k _ hk h1,by rw [hg g rfl (by rw [h1];try rfl)];exact h2⟩
 | .dead,_,_=>trivial
 | .rowo t sz es m,hg,h=>by
  obtain⟨h1,h2,h3,h3',xs,h4,h5,h6⟩:=h;refine⟨by omega,h2,h3,h3',xs,?_,RdL.ext _ e h5,h6⟩;have hr:=e.rho k hk (by omega);rw [hr];refine⟨h4.1,h4.2.imp id ?_⟩;rintro⟨g,cap,cur,q1,q2,q3,q4⟩;exact⟨g,cap,cur,q1,by rw [hb];exact q2,by rw [hg g rfl (by rw [q1];try rfl)];exact q3,q4⟩
def zu:=@BlkOk.ext
theorem HS.grow (h:HS w0 M0 c H) {w':World} (hb:Below c.w.heap.size c.w w'):HS w0 M0 { c with w:=w' } H/\Ext c { c with w:=w' }:=by
 have e:Ext c { c with w:=w' }:=⟨hb.os,hb.tape,hb.output,hb.size,fun b hb' hm=>⟨hm,hb.block b hb'⟩,Ag _,fun _ _=>Ag _,fun _ _ _=>rfl,fun _ _ _ h=>h⟩;refine⟨⟨h.low.trans hb,h.base,h.dom,h.foreign,fun b hm=>As (h.lt b hm) hb.size,fun k x hk=>?_,h.own,h.dis⟩,e⟩;exact zu e rfl (h.klt hk) rfl (fun g hl ho=>hb.block g (h.sub hk hl ho)) (h.blk k x hk)
def Ctx.new (c:Ctx) (w':World) (v:Value) (n:Nat):Ctx:=
  { w:=w',base:=c.base,M:=fun b=>c.M b\/oB v=some b,rho:=fun k=>if k=c.dom then v else c.rho k,len:=fun k=>if k=c.dom then n else c.len k,dom:=c.dom+1 }
theorem Ext.new {w':World} (hb:Below c.w.heap.size c.w w') {v:Value} {n:Nat} (hv:∀ g,oB v=some g->c.w.heap.size<=g):Ext c (c.new w' v n):=by
 refine⟨hb.os,hb.tape,hb.output,hb.size,fun b hb' hm=>⟨fun hm'=>?_,hb.block b hb'⟩,Nat.le_succ _,fun k hk=>?_,fun k hk _=>?_,fun k g hk hg=>?_⟩
 ·rcases hm' with h1 | h1
  ·exact hm h1
  ·have:=hv b h1;omega
 ·simp only [Ctx.new];rw [if_neg (by omega)];exact Ag _
 ·simp only [Ctx.new];rw [if_neg (by omega)]
 ·simp only [Ctx.new];rw [if_neg (by omega)];exact hg
theorem HS.push (h:HS w0 M0 c H) {w':World} (hb:Below c.w.heap.size c.w w') {v:Value} {n:Nat} {x:AB} (hv:∀ g,oB v=some g->c.w.heap.size<=g/\g<w'.heap.size) (hx:BlkOk (c.new w' v n) c.dom x) :
  HS w0 M0 (c.new w' v n) (H ++ [x])/\Ext c (c.new w' v n):=by
 have hsz:=h.low.size;have e:Ext c (c.new w' v n):=by
  refine⟨hb.os,hb.tape,hb.output,hb.size,fun b hb' hm=>⟨fun hm'=>?_,hb.block b hb'⟩,Nat.le_succ _,fun k hk=>?_,fun k hk _=>?_,fun k g hk hg=>?_⟩
  ·rcases hm' with h1 | h1
   ·exact hm h1
   ·have:=(hv b h1).1;omega
  ·simp only [Ctx.new];rw [if_neg (by omega)];exact Ag _
  ·simp only [Ctx.new];rw [if_neg (by omega)]
  ·simp only [Ctx.new];rw [if_neg (by omega)];exact hg
 have hget:∀ k y,(H ++ [x])[k]? = some y->(k<c.dom/\H[k]? = some y)\/(k=c.dom/\y=x):=by
  intro k y hk;rw [h.dom];rcases Nat.lt_trichotomy k H.length with hlt | rfl | hgt
  ·rw [AD hlt] at hk;exact .inl ⟨hlt,hk⟩
  ·simp at hk;exact .inr ⟨rfl,hk.symm⟩
  ·rw [AF (by simp;omega)] at hk;cases hk
 have hrho:∀ k,k<c.dom->(c.new w' v n).rho k=c.rho k:=fun k hk=>by simp only [Ctx.new];rw [if_neg (by omega)]
 have hrd:(c.new w' v n).rho c.dom=v:=by simp [Ctx.new]
 refine⟨⟨h.low.trans hb,h.base,by simp [Ctx.new,h.dom],fun b hb'=>?_,fun b hm=>?_,fun k y hk=>?_,fun k y g hk hl ho=>?_,fun j k y z g hj hk hly hlz hoj hok=>?_⟩,e⟩
 ·simp only [Ctx.new];refine⟨fun hm=>?_,fun hm=> .inl ((h.foreign b hb').2 hm)⟩;rcases hm with hm | hm
  ·exact(h.foreign b hb').1 hm
  ·have:=(hv b hm).1;have:=As (w0.lt b hb') hsz;omega
 ·rcases hm with hm | hm
  ·exact As (h.lt b hm) hb.size
  ·exact(hv b hm).2
 ·rcases hget k y hk with ⟨hlt,hk'⟩ | ⟨rfl,rfl⟩
  ·refine zu e rfl hlt (by simp only [Ctx.new];rw [if_neg (by omega)]) (fun g hl ho=>hb.block g (h.sub hk' hl ho)) (h.blk k y hk')
  ·exact hx
 ·rcases hget k y hk with ⟨hlt,hk'⟩ | ⟨rfl,rfl⟩
  ·rw [hrho k hlt] at ho;have:=h.own k y g hk' hl ho;exact⟨.inl this.1,this.2⟩
  ·rw [hrd] at ho;have:=(hv g ho).1;exact⟨.inr ho,fun hold=>by have:=As (w0.lt g hold) hsz;omega⟩
 ·rcases hget j y hj with ⟨hlt,hj'⟩ | ⟨rfl,rfl⟩ <;> rcases hget k z hk with ⟨hlt2,hk'⟩ | ⟨rfl,rfl⟩
  ·rw [hrho j hlt] at hoj;rw [hrho k hlt2] at hok;exact h.dis j k y z g hj' hk' hly hlz hoj hok
  ·rw [hrho j hlt] at hoj;rw [hrd] at hok;have h1:=(hv g hok).1;have h2:=h.sub hj' hly hoj;omega
  ·rw [hrho k hlt2] at hok;rw [hrd] at hoj;have h1:=(hv g hoj).1;have h2:=h.sub hk' hlz hok;omega
  ·rfl
theorem HS.box (h:HS w0 M0 c H) (t:TypeId) {cs:List AV} {xs:List Value} (hc:RdL cs c xs) (h1:∀ u∈xs,u.oneCell'=true) :
  ∃ c',c'.w=c.w.alloc (.cells xs.toArray t)/\HS w0 M0 c' (H ++ [.box t cs])/\Ext c c'/\Rd (.bp H.length 0) c' (.pointer (some ⟨c.w.heap.size,0,none⟩)):=by
 have hb:=(Below.refl c.w.heap.size c.w).alloc (Ag _) (.cells xs.toArray t);have e:Ext c (c.new (c.w.alloc (.cells xs.toArray t)) (.pointer (some ⟨c.w.heap.size,0,none⟩)) 0):=by
  refine⟨hb.os,hb.tape,hb.output,hb.size,fun b hb' hm=>⟨fun hm'=>?_,hb.block b hb'⟩,Nat.le_succ _,fun k hk=>?_,fun k hk _=>?_,fun k g hk hg=>?_⟩
  ·rcases hm' with q | q
   ·exact hm q
   ·simp [oB] at q;omega
  ·simp only [Ctx.new];rw [if_neg (by omega)];exact Ag _
  ·simp only [Ctx.new];rw [if_neg (by omega)]
  ·simp only [Ctx.new];rw [if_neg (by omega)];exact hg
 have hp:=h.push (n:=0) (x:= .box t cs) (v:= .pointer (some ⟨c.w.heap.size,0,none⟩)) hb (fun g hg=>by simp [oB] at hg;subst hg;exact⟨Ag _,by simp⟩)
  ⟨c.w.heap.size,xs,by simp [Ctx.new],heap_alloc_new c.w _,RdL.ext _ e hc,h1⟩
 refine⟨_,rfl,hp.1,hp.2,?_⟩;simp only [Rd];exact⟨by simp [Ctx.new,h.dom],c.w.heap.size,by simp [Ctx.new,h.dom],rfl⟩
end
section
variable {w0:Fl} {M0:Ms} {c:Ctx} {H:List AB}
theorem HS.newrow (h:HS w0 M0 c H) {w':World} (hb:Below c.w.heap.size c.w w') {t:TypeId} {sz:Nat} {es:List (List AV)} {v:Value} {xs:List Value} (hz:0<sz) (hl:∀ e∈es,e.length=sz)
  (ho:w'.ownsRow c.w.heap.size t sz v es.length xs) (h1:∀ u∈xs,u.oneCell'=true) (hc:RdL es.flatten (c.new w' v es.length).closed xs) :
  HS w0 M0 (c.new w' v es.length) (H ++ [.row t sz es])/\Ext c (c.new w' v es.length)/\Rd (.ow H.length es.length) (c.new w' v es.length) v:=by
 have hv:∀ g,oB v=some g->c.w.heap.size<=g/\g<w'.heap.size:=by
  intro g hg;rcases ho.2 with ⟨rfl,_⟩ | ⟨g',cap,cur,rfl,hb',hh,_⟩
  ·simp [oB] at hg
  ·simp [oB] at hg;subst hg;exact⟨hb',(Aw.1 hh).1⟩
 have hbase:c.base<=c.w.heap.size:=by rw [h.base];exact Aj _
 have hx:BlkOk (c.new w' v es.length) c.dom (.row t sz es):=by
  refine⟨by simp [Ctx.new],hz,hl,xs,?_,hc,h1⟩;simp only [Ctx.new,if_true];exact⟨ho.1,ho.2.imp id fun⟨g,cap,cur,q1,q2,q3⟩=>⟨g,cap,cur,q1,AW hbase q2,q3⟩⟩
 obtain⟨h2,h3⟩:=h.push hb hv hx;refine⟨h2,h3,?_⟩;simp only [Rd];refine⟨by simp [Ctx.new,h.dom],by simp [Ctx.new,h.dom],?_,fun _=>by simp [Ctx.new,h.dom]⟩;rcases ho.2 with ⟨rfl,hn⟩ | ⟨g',cap,cur,rfl,_⟩
 ·exact⟨none,0,by rw [hn],fun e=>absurd hn e⟩
 ·exact⟨_,_,rfl,fun _=>⟨g',rfl⟩⟩

theorem HS.newrowo (h:HS w0 M0 c H) {w':World} (hb:Below c.w.heap.size c.w w') {t:TypeId} {sz:Nat} {es:List (List AV)} {m:Nat} {v:Value} {xs:List Value} (hz:0<sz) (hl:∀ e∈es,e.length=sz) (hlo:AV.ltL es.flatten m=true)
  (ho:w'.ownsRow c.w.heap.size t sz v es.length xs) (h1:∀ u∈xs,u.oneCell'=true) (hc:RdL es.flatten (c.new w' v es.length) xs) :
  HS w0 M0 (c.new w' v es.length) (H ++ [.rowo t sz es m])/\Ext c (c.new w' v es.length)/\Rd (.ow H.length es.length) (c.new w' v es.length) v:=by
 have hv:∀ g,oB v=some g->c.w.heap.size<=g/\g<w'.heap.size:=by
  intro g hg;rcases ho.2 with ⟨rfl,_⟩ | ⟨g',cap,cur,rfl,hb',hh,_⟩
  ·simp [oB] at hg
  ·simp [oB] at hg;subst hg;exact⟨hb',(Aw.1 hh).1⟩
 have hbase:c.base<=c.w.heap.size:=by rw [h.base];exact Aj _
 have hx:BlkOk (c.new w' v es.length) c.dom (.rowo t sz es m):=by
  refine⟨by simp [Ctx.new],hz,hl,hlo,xs,?_,hc,h1⟩;simp only [Ctx.new,if_true];exact⟨ho.1,ho.2.imp id fun⟨g,cap,cur,q1,q2,q3⟩=>⟨g,cap,cur,q1,AW hbase q2,q3⟩⟩
 obtain⟨h2,h3⟩:=h.push hb hv hx;refine⟨h2,h3,?_⟩;simp only [Rd];refine⟨by simp [Ctx.new,h.dom],by simp [Ctx.new,h.dom],?_,fun _=>by simp [Ctx.new,h.dom]⟩;rcases ho.2 with ⟨rfl,hn⟩ | ⟨g',cap,cur,rfl,_⟩
 ·exact⟨none,0,by rw [hn],fun e=>absurd hn e⟩
 ·exact⟨_,_,rfl,fun _=>⟨g',rfl⟩⟩

theorem I3 {sz:Nat} {es:List (List AV)} {c:Ctx} {b:Nat} (hl:∀ e∈es,e.length=sz) (h:RdAt es.flatten c b 0) {i:Nat} (hi:i<es.length):RdAt (es.getD i []) c b (i*sz):=by
 obtain⟨r,hfd⟩:=Il i hl hi;have hb:=h.drop (n:=i*sz);rw [hfd,RdAt.append,Au] at hb;exact hb.1
theorem Ma {sz:Nat} {es:List (List AV)} (hl:∀ e∈es,e.length=sz) {i:Nat} (hi:i<es.length):(es.getD i []).length=sz:=by
 rw [Ab,Af hi];exact hl _ (Cu hi)
theorem HS.freeze (h:HS w0 M0 c H) {k:Nat} {t:TypeId} {sz:Nat} {es:List (List AV)} (hk:H[k]? = some (.row t sz es)) :
  ∃ c',c'.w=c.w/\HS w0 M0 c' (H.set k .dead)/\Ext c c'/\∀ u,Rd (.ow k es.length) c u->Rd (.sl sz es.length fun i=>es.getD i []) c' u:=by
 let c':Ctx:={ c with M:=fun b=>c.M b/\oB (c.rho k)≠some b };have e:Ext c c':=⟨rfl,rfl,rfl,Ag _,fun b _ hm=>⟨fun h=>hm h.1,rfl⟩,Ag _,fun _ _=>Ag _,fun _ _ _=>rfl,fun _ _ _ h=>h⟩;have hget:∀ j y,(H.set k .dead)[j]? = some y->y.live=true->j≠k/\H[j]? = some y:=by
  intro j y hj hl;by_cases hjk:j=k
  ·subst hjk;rw [A3 (Ar.1 hk).1] at hj;cases hj;cases hl
  ·rw [A4 (Ne.symm hjk)] at hj;exact⟨hjk,hj⟩
 refine⟨c',rfl,⟨h.low,h.base,by simp [c',h.dom],fun b hb=>?_,fun b hm=>h.lt b hm.1,fun j y hj=>?_,fun j y g hj hl ho=>?_,fun i j y z g hi hj hly hlz hoi hoj=>?_⟩,e,fun u hu=>?_⟩
 ·refine⟨fun hm=>(h.foreign b hb).1 hm.1,fun hm=>⟨(h.foreign b hb).2 hm,fun ho=>?_⟩⟩;exact(h.own k _ b hk rfl ho).2 hb
 ·cases hy:y.live with
  | false=>cases y <;> simp [AB.live] at hy;trivial
  | true=>
   obtain⟨_,hj'⟩:=hget j y hj hy;exact zu e rfl (h.klt hj') rfl (fun g _ _=>rfl) (h.blk j y hj')
 ·obtain⟨hjk,hj'⟩:=hget j y hj hl;have:=h.own j y g hj' hl ho;exact⟨⟨this.1,fun hk'=>hjk (h.dis j k y _ g hj' hk hl rfl ho hk')⟩,this.2⟩
 ·obtain⟨_,hi'⟩:=hget i y hi hly;obtain⟨_,hj'⟩:=hget j z hj hlz;exact h.dis i j y z g hi' hj' hly hlz hoi hoj
 ·obtain⟨h1,h2,h3,xs,h4,h5,h6⟩:=h.blk k _ hk;simp only [Rd] at hu |-
  obtain⟨q1,q2,q3,q4⟩:=hu;have hur:=q4 h1.symm;rcases h4.2 with ⟨hn,hz⟩ | ⟨g,cap,cur,hv,hbg,hh,hnc,hcm,hcs,ht⟩
  ·exact⟨none,0,by rw [hur,hn,hz],by omega,by simp [maxLen], .inl hz⟩
  ·refine⟨_,cap,by rw [hur,hv],hnc,hcm,?_⟩;by_cases h0:es.length=0
   ·exact .inl h0
   refine .inr ⟨g,0,rfl,fun hm=>hm.2 (by rw [hv];try rfl),(Aw.1 hh).1,fun i hi=>⟨Ma h3 hi,?_⟩⟩;have ha:=RdAt.of (c:=c'.closed) (b:=g) (off:=0) (RdL.ext _ e.closed h5) h6 fun j u hj=>by rw [Au];exact G1 h4 hv hj
   rw [Au];exact I3 h3 ha hi
theorem DR {P:Program}:∀ (vs:List Value) {w:World} {g off i:Nat} {t:TypeId} {cur:List Value},w.heap[g]? = some (.cells cur.toArray t (0,0))->(∀ u∈vs,u.oneCell'=true)->off+i+vs.length<=cur.length->
  ∃ w',(storeCells ⟨g,off,none⟩ vs i).run P w = .ok () w'/\w'.heap[g]? = some (.cells (cur.take (off+i) ++ vs ++ cur.drop (off+i+vs.length)).toArray t (0,0))/\(∀ b,b≠g->w'.heap[b]? = w.heap[b]?)/\w'.heap.size=w.heap.size/\w'.os=w.os/\w'.tape=w.tape/\w'.output=w.output
 | [],w,g,off,i,t,cur,h,_,_=>⟨w,by simp [storeCells],by simpa using h,fun _ _=>rfl,rfl,rfl,rfl,rfl⟩
 | v::vs,w,g,off,i,t,cur,h,h1,hl=>by
  simp only [Ao] at hl;have hlt:off+i<cur.length:=by omega
  have hc:w.cell? (Addr.add ⟨g,off,none⟩ i)=some cur[off+i]:=by
   rw [Addr.add_lit,cell_of_row w g _ _ t (0,0) h];simp [hlt]
  have hfz:w.frozen? (Addr.add ⟨g,off,none⟩ i)=false:=by rw [Addr.add_lit];exact frozen_of_row w g _ _ t h
  have hw1:(w.setCell ⟨g,off+i,none⟩ v).heap[g]? = some (.cells (cur.set (off+i) v).toArray t (0,0)):=by
   simp [World.setCell,Array.getElem?_modify,h]
  obtain⟨w',e1,e2,e3,e4,e5,e6,e7⟩:=DR (P:=P) vs (i:=i+1) (off:=off) hw1 (fun u hu=>h1 u (by simp [hu])) (by simp;omega);refine⟨w',?_,?_,fun b hb=>?_,?_,e5,e6,e7⟩
  ·simp only [storeCells,Sem.run_bind,run_store P w _ v _ (h1 v (by simp)),hc,hfz,BU,if_false,Result.andThen_ok];rw [Addr.add_lit];exact e1
  ·rw [e2];congr 3;have hA:(cur.take (off+i)).length=off+i:=by rw [Aq];omega
   rw [show off+(i+1)=off+i+1 by omega,List.take_set,List.drop_set_of_lt (by omega),Bh,Af hlt,Ao,show off+i+1+vs.length=off+i+(vs.length+1) by omega];simp only [Option.toList_some];generalize cur[off+i]=y;generalize cur.take (off+i)=A at hA |-
   rw [<-hA,S_];simp
  ·rw [e3 b hb];exact Below.heap_setCell w _ v b hb
  ·rw [e4];simp [World.setCell]
theorem HS.set_ (h:HS w0 M0 c H) {k:Nat} {x y:AB} (hk:H[k]? = some x) (hx:x.live=true) (hy:y.live=true) {g:Nat} (hg:oB (c.rho k)=some g) {w':World} (h2:∀ b,b≠g->w'.heap[b]? = c.w.heap[b]?) (h3:w'.heap.size=c.w.heap.size) (h4:w'.os=c.w.os) (h5:w'.tape=c.w.tape) (h6:w'.output=c.w.output)
  (hb:BlkOk { c with w:=w' } k y):HS w0 M0 { c with w:=w' } (H.set k y)/\Ext c { c with w:=w' }:=by
 have ho:=h.own k x g hk hx hg;have e:Ext c { c with w:=w' }:=⟨h4,h5,h6,by simp [h3],fun b _ hm=>⟨hm,h2 b fun e=>hm (e ▸ ho.1)⟩,Ag _,fun _ _=>Ag _,fun _ _ _=>rfl,fun _ _ _ h=>h⟩;have hget:∀ j z,(H.set k y)[j]? = some z->(j=k/\z=y)\/(j≠k/\H[j]? = some z):=by
  intro j z hj;by_cases hjk:j=k
  ·subst hjk;rw [A3 (Ar.1 hk).1] at hj;cases hj;exact .inl tA
  ·rw [A4 (Ne.symm hjk)] at hj;exact .inr ⟨hjk,hj⟩
 have hlow:LowF w0 w':=⟨h4.trans h.low.os,h5.trans h.low.tape,h6.trans h.low.output,by rw [h3];exact h.low.size,fun b hb'=>(h2 b (fun e=>by subst e;exact(h.own k _ _ hk hx hg).2 hb')).trans (h.low.block b hb')⟩;refine⟨⟨hlow,h.base,by simp [h.dom],h.foreign,fun b hm=>by rw [h3];exact h.lt b hm,fun j z hj=>?_,fun j z g' hj hl ho'=>?_,fun i j a b g' hi hj hla hlb hoi hoj=>?_⟩,e⟩
 ·rcases hget j z hj with ⟨rfl,rfl⟩ | ⟨hjk,hj'⟩
  ·exact hb
  ·refine zu e rfl (h.klt hj') rfl (fun g' hl ho'=>h2 g' fun e=>?_) (h.blk j z hj');subst e;exact hjk (h.dis j k z x g' hj' hk hl hx ho' hg)
 ·rcases hget j z hj with ⟨rfl,rfl⟩ | ⟨_,hj'⟩
  ·exact h.own _ x g' hk hx ho'
  ·exact h.own j z g' hj' hl ho'
 ·rcases hget i a hi with ⟨rfl,rfl⟩ | ⟨hik,hi'⟩ <;> rcases hget j b hj with ⟨rfl,rfl⟩ | ⟨hjk,hj'⟩
  ·rfl
  ·exact h.dis _ j x b g' hk hj' hx hlb hoi hoj
  ·exact h.dis i _ a x g' hi' hk hla hx hoi hoj
  ·exact h.dis i j a b g' hi' hj' hla hlb hoi hoj
end
def snocK:List AB->AB->Nat->(Nat->List AB->Prop)->Prop
 | [],x,n,k=>k n [x]
 | y::r,x,n,k=>snocK r x (n+1) fun m l=>k m (y::l)
theorem snocK_iff:∀ {H:List AB} {x:AB} {n:Nat} {k:Nat->List AB->Prop},snocK H x n k->k (n+H.length) (H ++ [x])
 | [],_,_,_,h=>h
 | y::r,x,n,k,h=>by
  simp only [snocK] at h;have:=snocK_iff h;rw [Ao,show n+(r.length+1)=n+1+r.length by omega];exact this
def setK:Nat->AB->List AB->(List AB->Prop)->Prop
 | 0,x,_::r,k=>k (x::r)
 | n+1,x,y::r,k=>setK n x r fun l=>k (y::l)
 | _,_, [],_=>False
theorem setK_iff:∀ {n:Nat} {x:AB} {H:List AB} {k:List AB->Prop},setK n x H k->k (H.set n x)
 | 0,_,_::_,_,h=>h
 | n+1,x,y::r,k,h=>by simp only [setK] at h;have:=setK_iff h;simpa using this
 | 0,_, [],_,h=>by simp [setK] at h
 | _+1,_, [],_,h=>by simp [setK] at h
mutual
theorem Rd.lt_dom:∀ (x:AV) {c:Ctx} {u:Value},Rd x c u->x.lt c.dom=true
 | .top,_,_,_=>rfl
 | .v _,_,_,_=>rfl
 | .sl _ _ _,_,_,_=>rfl
 | .rp _,_,_,_=>rfl
 | .bp k _,c,u,h=>by simp only [Rd] at h;simpa [AV.lt] using h.1
 | .ow k _,c,u,h=>by simp only [Rd] at h;simpa [AV.lt] using h.1
 | .ep k _ _ _ _,c,u,h=>by simp only [Rd] at h;simpa [AV.lt] using h.1
 | .ag cs,c,u,h=>by simp only [Rd] at h;obtain⟨xs,_,h⟩:=h;simp only [AV.lt];exact RdL.lt_dom cs h
 | .tp cs,c,u,h=>by simp only [Rd] at h;obtain⟨xs,_,h⟩:=h;simp only [AV.lt];exact RdL.lt_dom cs h
 | .fn _ cs,c,u,h=>by simp only [Rd] at h;obtain⟨xs,_,h⟩:=h;simp only [AV.lt];exact RdL.lt_dom cs h
 | .ic _ cs,c,u,h=>by simp only [Rd] at h;obtain⟨xs,_,h⟩:=h;simp only [AV.lt];exact RdL.lt_dom cs h
theorem RdL.lt_dom:∀ (l:List AV) {c:Ctx} {xs:List Value},RdL l c xs->AV.ltL l c.dom=true
 | [],_,_,_=>rfl
 | x::l,c,xs,h=>by
  simp only [RdL] at h;obtain⟨y,ys,_,h1,h2⟩:=h;simp only [AV.ltL,Rd.lt_dom x h1,RdL.lt_dom l h2,Bool.and_self]
end
mutual
theorem AV.lt_mono {m n:Nat}:∀ (x:AV),m<=n->x.lt m=true->x.lt n=true
 | .top,_,_=>rfl
 | .v _,_,_=>rfl
 | .sl _ _ _,_,_=>rfl
 | .rp _,_,_=>rfl
 | .bp k _,hmn,h=>by simp only [AV.lt,Du] at h |-;omega
 | .ow k _,hmn,h=>by simp only [AV.lt,Du] at h |-;omega
 | .ep k _ _ _ _,hmn,h=>by simp only [AV.lt,Du] at h |-;omega
 | .ag cs,hmn,h=>by simp only [AV.lt] at h |-;exact AV.ltL_mono cs hmn h
 | .tp cs,hmn,h=>by simp only [AV.lt] at h |-;exact AV.ltL_mono cs hmn h
 | .fn _ cs,hmn,h=>by simp only [AV.lt] at h |-;exact AV.ltL_mono cs hmn h
 | .ic _ cs,hmn,h=>by simp only [AV.lt] at h |-;exact AV.ltL_mono cs hmn h
theorem AV.ltL_mono {m n:Nat}:∀ (l:List AV),m<=n->AV.ltL l m=true->AV.ltL l n=true
 | [],_,_=>rfl
 | x::l,hmn,h=>by
  simp only [AV.ltL,Ad] at h |-
  exact⟨AV.lt_mono x hmn h.1,AV.ltL_mono l hmn h.2⟩
end
theorem CP {n:Nat}:∀ {l:List AV},AV.ltL l n=true↔∀ x∈l,x.lt n=true
 | []=>by simp [AV.ltL]
 | x::l=>by simp [AV.ltL,CP (l:=l)]
def sealK:List AV->List AB->(List AV->List AB->Prop)->Prop
 | [],H,k=>k [] H
 | x::l,H,k=>match x with
  | .ow j n=>match hget H j with
   | some (.row _ sz es)=>n=es.length/\setK j .dead H fun H=>sealK l H fun l H=>k (.sl sz n (fun i=>es.getD i [])::l) H
   | _=>False
  | .v u=>sealK l H fun l H=>k (.v u::l) H
  | .sl sz n get=>sealK l H fun l H=>k (.sl sz n get::l) H
  | _=>False
theorem sealK_sound:∀ {l:List AV} {w0:Fl} {M0:Ms} {c:Ctx} {H:List AB} {xs:List Value} {k:List AV->List AB->Prop},HS w0 M0 c H->RdL l c xs->sealK l H k->
  ∃ l' H' c',k l' H'/\c'.w=c.w/\HS w0 M0 c' H'/\Ext c c'/\RdL l' c'.closed xs/\H'.length=H.length/\l'.length=l.length/\(∀ j:Nat,(∃ x:AB,H'[j]? = some x/\x.live=true)->H'[j]? = H[j]?)
 | [],_,_,c,H,xs,k,hs,hr,h=>⟨[],H,c,h,rfl,hs,zM c,by simp only [RdL] at hr |-;exact hr,rfl,rfl,fun _ _=>rfl⟩
 | x::l,w0,M0,c,H,xs,k,hs,hr,h=>by
  simp only [RdL] at hr;obtain⟨u,us,rfl,h1,h2⟩:=hr;unfold sealK at h;split at h
  ·rename_i j n;rw [hget_eq] at h;split at h
   ·rename_i t sz es hj;obtain⟨rfl,h⟩:=h;have h:=setK_iff h;obtain⟨c1,e1,e2,e3,e4⟩:=hs.freeze hj;obtain⟨l',H',c',q1,q2,q3,q4,q5,q6,q7,q8⟩:=sealK_sound e2 (RdL.ext _ e3 h2) h;refine⟨_,H',c',q1,q2.trans e1,q3,e3.trans q4,?_,by rw [q6];simp,by simp [q7],fun i hi=>?_⟩
    ·simp only [RdL];refine⟨u,us,rfl,?_,q5⟩;have:=Rd.ext _ q4 (e4 u h1);simp only [Rd] at this |-
     exact this
    ·have h9:=q8 i hi;rw [h9];obtain⟨x,hx,hxl⟩:=hi;by_cases hij:i=j
     ·subst hij;rw [h9,A3 (Ar.1 hj).1] at hx;cases hx;cases hxl
     ·exact A4 (Ne.symm hij)
   ·exact h.elim
  ·obtain⟨l',H',c',q1,q2,q3,q4,q5,q6,q7,q8⟩:=sealK_sound hs h2 h;refine⟨_,H',c',q1,q2,q3,q4,?_,q6,by simp [q7],q8⟩;simp only [RdL];exact⟨u,us,rfl,by simpa [Rd] using h1,q5⟩
  ·obtain⟨l',H',c',q1,q2,q3,q4,q5,q6,q7,q8⟩:=sealK_sound hs h2 h;refine⟨_,H',c',q1,q2,q3,q4,?_,q6,by simp [q7],q8⟩;simp only [RdL];refine⟨u,us,rfl,?_,q5⟩;have:=Rd.ext _ q4 h1;simp only [Rd] at this |-
   exact this
  ·exact h.elim

structure ACalls (P:Program) (q:Bool) (f:FuncId) (args:List AV) (H:List AB) (K:AV->List AB->Prop):Prop where
 go : ∃ fn, P.funcs[f]? = some fn ∧ fn.body.isNone = false ∧ (fn.name == "runtime.NumGoroutine") = false
 calls:∀ (w0:Fl) (M0:Ms) (c:Ctx) (us:List Value),HS w0 M0 c H->RdL args c us->
  Calls P f us.toArray c.w fun e w'=>∃ v c' r H',e = .returned v/\c'.w=w'/\K r H'/\HS w0 M0 c' H'/\Ext c c'/\Rd r c' v/\(q=true->Old c.w w')
theorem ACalls.mono {P:Program} {q:Bool} {f:FuncId} {args:List AV} {H:List AB} {K K':AV->List AB->Prop} (h:ACalls P q f args H K) (hk:∀ r H,K r H->K' r H):ACalls P q f args H K':=
 ⟨h.1,fun w0 M0 c us hs hr=>(h.2 w0 M0 c us hs hr).mono fun _ _ ⟨v,c',r,H',h1,h2,h3,h4⟩=>⟨v,c',r,H',h1,h2,hk _ _ h3,h4⟩⟩

def chunkK:Nat->Nat->List AV->(List (List AV)->Prop)->Prop
 | 0,_, [],k=>k []
 | 0,_,_::_,_=>False
 | n+1,sz,cs,k=>takeK sz cs fun e=>dropK sz cs fun cs=>chunkK n sz cs fun es=>k (e::es)
theorem chunkK_iff:∀ {n sz:Nat} {cs:List AV} {k:List (List AV)->Prop},chunkK n sz cs k->∃ es,es.flatten=cs/\es.length=n/\(∀ e∈es,e.length=sz)/\k es
 | 0,_, [],k,h=>⟨[],rfl,rfl,by simp,h⟩
 | 0,_,_::_,_,h=>by simp [chunkK] at h
 | n+1,sz,cs,k,h=>by
  simp only [chunkK] at h;obtain⟨h1,h2⟩:=takeK_iff h;obtain⟨_,h3⟩:=dropK_iff h2;obtain⟨es,e1,e2,e3,e4⟩:=chunkK_iff h3;refine⟨cs.take sz::es,by rw [A8,e1,Cg],by simp [e2],fun e he=>?_,e4⟩;rcases AQ.1 he with rfl | he
  ·rw [Aq];omega
  ·exact e3 e he
def rng:Nat->Nat->Nat->List (Nat × Nat)
 | 0,_,_=> []
 | n+1,i,sz=>(i*sz,sz)::rng n (i+1) sz
theorem rng_get:∀ (n i sz j:Nat),(rng n i sz)[j]? = if j<n then some ((i+j)*sz,sz) else none
 | 0,_,_,_=>by simp [rng]
 | n+1,i,sz,0=>by simp [rng]
 | n+1,i,sz,j+1=>by
  simp only [rng,List.getElem?_cons_succ,rng_get n (i+1) sz j,Nat.add_lt_add_iff_right];rw [show i+1+j=i+(j+1) by omega]
def zrep:Nat->List Value->List AV
 | 0,_=> []
 | n+1,z=>z.map .v ++ zrep n z
def U3 (H:List AB) (esz:Nat) (x:AV) (k:List (List AV)->Nat->Prop):Prop:=
 match x with
 | .sl sz m get=>match Nat.beq sz esz with | true=>k ((List.range m).map get) m | false=>False
 | .ow j m=>match hget H j with | some (.row _ sz es)=>(match Nat.beq sz esz with | true=>m=es.length/\k es m | false=>False) | _=>False
 | .v (.slice none 0 _)=>k [] 0
 | _=>False
def Zj (e:Operand->AV):List Operand->(List AV->Prop)->Prop
 | [],k=>k []
 | x::l,k=>CZ (e x) fun x=>Zj e l fun r=>k (x::r)
theorem Le {e:Operand->AV}:∀ {l:List Operand} {k:List AV->Prop},Zj e l k->k (l.map e)
 | [],_,h=>h
 | x::l,k,h=>by simp only [Zj] at h;have:=Le (BD h);simpa using this

def capK:List AV->List AB->(List AV->List AB->Prop)->Prop
 | [],H,k=>k [] H
 | x::l,H,k=>match x with
  | .bp j off=>match Nat.beq off 0 with
   | true=>match hget H j with
    | some (.box _ cs)=>sealK cs H fun cs H=>match hget H j with
     | some (.box _ _)=>setK j .dead H fun H=>capK l H fun l H=>k (.rp cs::l) H
     | _=>False
    | _=>False
   | false=>False
  | .v u=>capK l H fun l H=>k (.v u::l) H
  | .rp cs=>capK l H fun l H=>k (.rp cs::l) H
  | _=>False
theorem HS.still {w0:Fl} {M0:Ms} {c:Ctx} {H:List AB} (h:HS w0 M0 c H) {k:Nat} {x:AB} (hk:H[k]? = some x) (hx:x.live=true) :
  HS w0 M0 { c with M:=fun b=>c.M b/\oB (c.rho k)≠some b } (H.set k .dead)/\Ext c { c with M:=fun b=>c.M b/\oB (c.rho k)≠some b }:=by
 have e:Ext c { c with M:=fun b=>c.M b/\oB (c.rho k)≠some b }:=⟨rfl,rfl,rfl,Ag _,fun b _ hm=>⟨fun h=>hm h.1,rfl⟩,Ag _,fun _ _=>Ag _,fun _ _ _=>rfl,fun _ _ _ h=>h⟩;have hget:∀ j y,(H.set k .dead)[j]? = some y->y.live=true->j≠k/\H[j]? = some y:=by
  intro j y hj hl;by_cases hjk:j=k
  ·subst hjk;rw [A3 (Ar.1 hk).1] at hj;cases hj;cases hl
  ·rw [A4 (Ne.symm hjk)] at hj;exact⟨hjk,hj⟩
 refine⟨⟨h.low,h.base,by simp [h.dom],fun b hb=>?_,fun b hm=>h.lt b hm.1,fun j y hj=>?_,fun j y g hj hl ho=>?_,fun i j y z g hi hj hly hlz hoi hoj=>?_⟩,e⟩
 ·exact⟨fun hm=>(h.foreign b hb).1 hm.1,fun hm=>⟨(h.foreign b hb).2 hm,fun ho=>(h.own k _ b hk hx ho).2 hb⟩⟩
 ·cases hy:y.live with
  | false=>cases y <;> simp [AB.live] at hy;trivial
  | true=>
   obtain⟨_,hj'⟩:=hget j y hj hy;exact zu e rfl (h.klt hj') rfl (fun g _ _=>rfl) (h.blk j y hj')
 ·obtain⟨hjk,hj'⟩:=hget j y hj hl;have:=h.own j y g hj' hl ho;exact⟨⟨this.1,fun hk'=>hjk (h.dis j k y _ g hj' hk hl hx ho hk')⟩,this.2⟩
 ·exact h.dis i j y z g (hget i y hi hly).2 (hget j z hj hlz).2 hly hlz hoi hoj
theorem capK_sound:∀ {l:List AV} {w0:Fl} {M0:Ms} {c:Ctx} {H:List AB} {xs:List Value} {k:List AV->List AB->Prop},HS w0 M0 c H->RdL l c xs->capK l H k->
  ∃ l' H' c',k l' H'/\c'.w=c.w/\HS w0 M0 c' H'/\Ext c c'/\RdL l' c' xs
 | [],_,_,c,H,xs,k,hs,hr,h=>⟨[],H,c,h,rfl,hs,zM c,by simp only [RdL] at hr |-;exact hr⟩
 | x::l,w0,M0,c,H,xs,k,hs,hr,h=>by
  simp only [RdL] at hr;obtain⟨u,us,rfl,h1,h2⟩:=hr;unfold capK at h;split at h
  ·rename_i j off;split at h
   ·rename_i hoff;have:=Am hoff;subst this;rw [hget_eq] at h;split at h
    ·rename_i t cs hj;obtain⟨g,ys,q1,q2,q3,q4⟩:=hs.blk j _ hj;obtain⟨cs',H1,c1,p1,p2,p3,p4,p5,_,_,_⟩:=sealK_sound hs q3 h;rw [hget_eq] at p1;split at p1
     ·rename_i t2 cs2 hj1;have p1:=setK_iff p1;obtain⟨s1,s2⟩:=p3.still hj1 rfl;simp only [Rd] at h1;obtain⟨o1,g',o2,rfl⟩:=h1;rw [q1] at o2;simp only [Value.pointer.injEq,Option.some.injEq,Addr.mk.injEq,and_true] at o2;subst o2;have hrho:c1.rho j = .pointer (some ⟨g,0,none⟩):=p4.box j _ o1 q1;obtain⟨l',H2,c2,r1,r2,r3,r4,r5⟩:=capK_sound s1 (RdL.ext _ (p4.trans s2) h2) p1;refine⟨_,H2,c2,r1,r2.trans p2,r3,(p4.trans s2).trans r4,?_⟩;simp only [RdL];refine⟨_,us,rfl,Rd.ext _ r4 ?_,r5⟩;simp only [Rd];have hcell:∀ i u,ys[i]? = some u->c1.w.cell? ⟨g,0+i,none⟩=some u:=by
       intro i u hu;rw [Au,p2];simp [World.cell?,q2,hu]
      refine⟨g,0,rfl,fun hm=>hm.2 (by rw [hrho];try rfl),?_,RdAt.of (c:=Ctx.closed { c1 with M:=fun b=>c1.M b/\oB (c1.rho j)≠some b }) (RdL.ext _ s2.closed p5) q4 hcell⟩;rw [show ({ c1 with M:=fun b=>c1.M b/\oB (c1.rho j)≠some b }:Ctx).w=c.w from p2];exact(Aw.1 q2).1
     ·exact p1.elim
    ·exact h.elim
   ·exact h.elim
  ·obtain⟨l',H2,c2,r1,r2,r3,r4,r5⟩:=capK_sound hs h2 h;refine⟨_,H2,c2,r1,r2,r3,r4,?_⟩;simp only [RdL];exact⟨u,us,rfl,by simpa [Rd] using h1,r5⟩
  ·obtain⟨l',H2,c2,r1,r2,r3,r4,r5⟩:=capK_sound hs h2 h;refine⟨_,H2,c2,r1,r2,r3,r4,?_⟩;simp only [RdL];exact⟨u,us,rfl,Rd.ext _ r4 h1,r5⟩
  ·exact h.elim
def hasO:List AV->List AB->Bool
 | [],_=>false
 | .ow j _::l,H=>match hget H j with
  | some (.rowo _ _ _ _)=>true
  | _=>hasO l H
 | _::l,H=>hasO l H
def aj (x:AV) (H:List AB):Bool:=match x with
 | .ow j _=>match hget H j with
  | some (.rowo _ _ _ _)=>true
  | _=>false
 | _=>false
def Y5 (H:List AB) (esz:Nat) (x:AV) (k:List (List AV)->Nat->Nat->Prop):Prop:=
 match x with
 | .sl sz m get=>match Nat.beq sz esz with | true=>k ((List.range m).map get) m 0 | false=>False
 | .ow j m=>match hget H j with
  | some (.row _ sz es)=>(match Nat.beq sz esz with | true=>m=es.length/\k es m 0 | false=>False)
  | some (.rowo _ sz es mo)=>(match Nat.beq sz esz with | true=>m=es.length/\k es m mo | false=>False)
  | _=>False
 | .v (.slice none 0 _)=>k [] 0 0
 | _=>False
def Z_ (P:Program) (T:Tys) (q:Bool) (o:Op) (e:Operand->AV) (H:List AB) (k:AV->List AB->Prop):Prop:=
  match o with
  | .alloc t=>match tget T t with
    | some ty=>match ty.zero.all (·.oneCell') with
      | true=>snocK H (.box t (ty.zero.map .v)) 0 fun n H=>k (.bp n 0) H
      | false=>False
    | none=>False
  | .box t x=>CZ (e x) fun x=>match cellsOk x with
    | true=>snocK H (.box t (cells1 x)) 0 fun n H=>k (.bp n 0) H
    | false=>False
  | .store t a x=>match tget T t with
    | some ty=>CZ (e x) fun x=>match cellsOk x&&Nat.beq (cells1 x).length ty.sz with
      | true=>match e a with
        | .bp j off=>match q with
          | true=>False
          | false=>match hget H j with
            | some (.box bt cs)=>spliceK off (cells1 x) cs fun cs=>setK j (.box bt cs) H fun H=>k (.v undef) H
            | _=>False
        | .ep j n i sz off=>match q with
          | true=>False
          | false=>match hget H j with
            | some (.rowo rt sz' es m)=>(sz'=sz/\n=es.length/\i<n)/\spliceK off (cells1 x) (es.getD i []) fun e'=>setK j (.rowo rt sz' (es.set i e') (match AV.ltL (cells1 x) m with | true=>m | false=>H.length)) H fun H=>k (.v undef) H
            | _=>sealK (cells1 x) H fun xs H=>match hget H j with
              | some (.row rt sz' es)=>(sz'=sz/\n=es.length/\i<n)/\spliceK off xs (es.getD i []) fun e'=>setK j (.row rt sz' (es.set i e')) H fun H=>k (.v undef) H
              | _=>False
        | _=>False
      | false=>False
    | none=>False
  | .buildSlice t len ps=>match tget T t with
    | some ⟨_,_,_, .slice et esz⟩=>match tget T et with
      | some ⟨sz,_,z,_⟩=>match Nat.beq sz esz&&Nat.blt 0 sz&&Nat.beq z.length sz&&z.all (·.oneCell')&&Nat.ble (len*sz) 10000&&Nat.ble 0 len with
        | true=>Kj e (rng len 0 sz) ps.toList (zrep len z) fun r=>match r with
          | .ag cs=>match hasO cs H with
            | true=>chunkK len sz cs fun es=>snocK H (.rowo et sz es H.length) 0 fun n H=>k (.ow n len) H
            | false=>sealK cs H fun cs H=>chunkK len sz cs fun es=>snocK H (.row et sz es) 0 fun n H=>k (.ow n len) H
          | _=>False
        | false=>False
      | none=>False
    | _=>False
  | .call ⟨.builtin .append,args,ts⟩=>match args.toList with
    | [s,x]=>match ts.toList with
      | [t,t']=>match tget T t with
        | some ⟨_,_,_, .slice et esz⟩=>match tget T et with
          | some ⟨sz,_,z,_⟩=>match Nat.beq t t'&&Nat.beq sz esz&&Nat.blt 0 sz&&Nat.beq z.length sz with
            | true=>match aj (e s) H with
             | true=>Y5 H sz (e x) fun ess m mo=>match e s with
              | .ow j n=>match q with
                | true=>False
                | false=>match hget H j with
                  | some (.rowo rt sz' es mm)=>match Nat.beq rt et&&Nat.beq sz' sz with
                    | true=>(n=es.length/\n+m<=1000000000)/\setK j (.rowo rt sz' (es ++ ess) (Nat.max mm mo)) H fun H=>k (.ow j (n+m)) H
                    | false=>False
                  | _=>False
              | _=>False
             | false=>U3 H sz (e x) fun ess m=>match e s with
              | .ow j n=>match q with
                | true=>False
                | false=>match hget H j with
                  | some (.row rt sz' es)=>match Nat.beq rt et&&Nat.beq sz' sz with
                    | true=>(n=es.length/\n+m<=1000000000)/\setK j (.row rt sz' (es ++ ess)) H fun H=>k (.ow j (n+m)) H
                    | false=>False
                  | _=>False
              | .v (.slice none 0 0)=>m<=1000000000/\snocK H (.row et sz ess) 0 fun n H=>k (.ow n m) H
              | _=>False
            | false=>False
          | none=>False
        | _=>False
      | _=>False
    | _=>False
  | .call ⟨.value f,args,_⟩=>match e f with
    | .v (.func (.func f) ⟨[]⟩ ⟨[]⟩)=>Zj e args.toList fun us=>ACalls P q f us H k
    | .fn f cs=>Zj e args.toList fun us=>ACalls P q f (us ++ cs) H k
    | _=>False
  | .makeFunc fn ⟨[]⟩ c=>match fn with
    | .func f=>Zj e c.toList fun us=>capK us H fun us H=>k (.fn f us) H
    | _=>False
  | .makeSlice t ln cp=>match tget T t with
    | some ⟨_,_,_, .slice et esz⟩=>match tget T et with
      | some ⟨sz,_,z,_⟩=>match Nat.beq sz esz&&Nat.blt 0 sz&&Nat.beq z.length sz&&z.all (·.oneCell') with
        | true=>LM (e ln) fun n=>LM (e cp) fun m=>(n=m/\0<=n/\n<=1000000000)/\snocK H (.row et sz (List.replicate n.toNat (z.map .v))) 0 fun j H=>k (.ow j n.toNat) H
        | false=>False
      | none=>False
    | _=>False
  | .range t x=>match tget T t with
    | some ⟨_,_,_, .str⟩=>match e x with
      | .v (.string s)=>snocK H (.iter s 0) 0 fun n H=>k (.bp n 0) H
      | _=>False
    | _=>False
  | .next x b=>match b with
    | true=>match q with
      | true=>False
      | false=>match e x with
        | .bp j off=>match Nat.beq off 0 with
          | true=>match hget H j with
            | some (.iter s pos)=>KF (decide (pos<s.size)) (setK j (.iter s (pos+(Utf8.decode s pos).2)) H fun H=>k (.tp [.v (.bool true),iv pos, .v (.int .i32 (Utf8.decode s pos).1)]) H) (k (.tp [.v (.bool false)]) H)
            | _=>False
          | false=>False
        | _=>False
    | false=>False
  | _=>False
section
variable {w0:Fl} {M0:Ms} {c:Ctx} {H:List AB}
theorem Mf {get:Nat->List AV} {sz:Nat} {c:Ctx} {b off:Nat}:∀ (m:Nat),(∀ i,i<m->(get i).length=sz/\RdAt (get i) c b (off+i*sz))->
  RdAt ((List.range m).map get).flatten c b off/\((List.range m).map get).flatten.length=m*sz
 | 0,_=>by simp [RdAt]
 | m+1,h=>by
  obtain⟨h1,h2⟩:=Mf m fun i hi=>h i (by omega)
  obtain⟨h3,h4⟩:=h m (by omega);rw [By,A0,AX];simp only [A5,Bp,A8,List.flatten_nil,AE];refine⟨RdAt.append.2 ⟨h1,by rw [h2];exact h4⟩,by rw [Ah,h2,h3,Bb];omega⟩
theorem JK (hs:HS w0 M0 c H) {esz:Nat} {x:AV} {u:Value} (hr:Rd x c u) {k:List (List AV)->Nat->Prop} (h:U3 H esz x k) :
  ∃ ess m,k ess m/\ess.length=m/\(∀ e∈ess,e.length=esz)/\∃ a p,u = .slice a m p/\(m=0\/∃ b off ys,a=some ⟨b,off,none⟩/\RdL ess.flatten c.closed ys/\(∀ u∈ys,u.oneCell'=true)/\∀ j u,ys[j]? = some u->c.w.cell? ⟨b,off+j,none⟩=some u):=by
 unfold U3 at h;split at h
 ·rename_i sz m get;split at h
  ·rename_i hb;have:=Am hb;subst this;simp only [Rd] at hr;obtain⟨a,p,rfl,h1,h2,h3⟩:=hr;refine⟨_,m,h,by simp,fun e he=>?_,a,p,rfl,?_⟩
   ·obtain⟨i,hi,rfl⟩:=AI.1 he;rcases h3 with rfl | ⟨b,off,_,_,_,hc⟩
    ·simp at hi
    ·exact(hc i (by simpa using hi)).1
   ·refine h3.imp id ?_;rintro⟨b,off,rfl,_,_,hc⟩;obtain⟨q1,q2⟩:=Mf m hc;obtain⟨ys,q3,q4,q5⟩:=q1.list;exact⟨b,off,ys,rfl,q3,q4,q5⟩
  ·exact h.elim
 ·rename_i j m;rw [hget_eq] at h;split at h
  ·rename_i t sz es hj;split at h
   ·rename_i hb;have:=Am hb;subst this;obtain⟨rfl,h⟩:=h;obtain⟨h1,h2,h3,xs,h4,h5,h6⟩:=hs.blk j _ hj;simp only [Rd] at hr;obtain⟨q1,q2,q3,q4⟩:=hr;have hur:=q4 h1.symm;subst hur;rcases h4.2 with ⟨hn,hz⟩ | ⟨g,cap,cur,hv,_⟩
    ·exact⟨_,_,h,rfl,h3,none,0,by rw [hn,hz], .inl hz⟩
    ·refine⟨_,_,h,rfl,h3,_,cap,hv, .inr ⟨g,0,xs,rfl,h5,h6,fun i u hu=>?_⟩⟩;rw [Au];exact G1 h4 hv hu
   ·exact h.elim
  ·exact h.elim
 ·rename_i p;simp only [Rd] at hr;exact⟨_,_,h,rfl,by simp,none,p,hr, .inl rfl⟩
 ·exact h.elim

theorem L4 {v:Value} {base:Nat} {t:TypeId} {sz n:Nat} {xs:List Value} {w:World} (h:w.ownsRow base t sz v n xs):oB v=v.ownBlock:=by
 rcases h.2 with ⟨rfl,_⟩ | ⟨g,cap,cur,rfl,_⟩ <;> rfl

theorem HS.recell (h:HS w0 M0 c H) {k:Nat} {x y:AB} (hk:H[k]? = some x) (hx:x.live=true) (hb:BlkOk c k x->BlkOk c k y):HS w0 M0 c (H.set k y):=by
 have hget:∀ (j:Nat) (z:AB),(H.set k y)[j]? = some z->(j=k/\z=y)\/(j≠k/\H[j]? = some z):=by
  intro j z hj;by_cases hjk:j=k
  ·subst hjk;rw [A3 (Ar.1 hk).1] at hj;exact .inl ⟨rfl,(Option.some.inj hj).symm⟩
  ·rw [A4 (Ne.symm hjk)] at hj;exact .inr ⟨hjk,hj⟩
 have hlive:∀ (j:Nat) (z:AB),(H.set k y)[j]? = some z->z.live=true->∃ z':AB,H[j]? = some z'/\z'.live=true:=by
  intro j z hj hz;rcases hget j z hj with ⟨rfl,rfl⟩ | ⟨_,h2⟩
  ·exact⟨_,hk,hx⟩
  ·exact⟨_,h2,hz⟩
 refine⟨h.low,h.base,by simp [h.dom],h.foreign,h.lt,fun j z hj=>?_,fun j z g hj hl ho=>?_,fun i j a b g hi hj ha hb' hoi hoj=>?_⟩
 ·rcases hget j z hj with ⟨rfl,rfl⟩ | ⟨_,h2⟩
  ·exact hb (h.blk _ _ hk)
  ·exact h.blk j z h2
 ·obtain⟨z',h1,h2⟩:=hlive j z hj hl;exact h.own j z' g h1 h2 ho
 ·obtain⟨y',h1,h2⟩:=hlive i a hi ha;obtain⟨z',h3,h4⟩:=hlive j b hj hb';exact h.dis i j y' z' g h1 h3 h2 h4 hoi hoj
theorem QN (hs:HS w0 M0 c H) {esz:Nat} {x:AV} {u:Value} (hr:Rd x c u) {k:List (List AV)->Nat->Nat->Prop} (h:Y5 H esz x k) :
  ∃ ess m mo,k ess m mo/\ess.length=m/\(∀ e∈ess,e.length=esz)/\AV.ltL ess.flatten mo=true/\∃ a p,u = .slice a m p/\(m=0\/∃ b off ys,a=some ⟨b,off,none⟩/\RdL ess.flatten c ys/\(∀ u∈ys,u.oneCell'=true)/\∀ j u,ys[j]? = some u->c.w.cell? ⟨b,off+j,none⟩=some u):=by
 unfold Y5 at h;split at h
 ·rename_i sz m get;split at h
  ·rename_i hb;obtain⟨ess,m',⟨rfl,rfl⟩,q1,q2,a,p,q3,q4⟩:=JK (k:=fun es m'=>es=(List.range m).map get/\m'=m) hs (esz:=esz) hr (by simp only [U3,hb];exact⟨tv,tv⟩);refine⟨_,_,_,h,q1,q2,?_,a,p,q3,q4.imp id ?_⟩
   ·rcases q4 with h0 | ⟨b,off,ys,_,r1,_⟩
    ·rw [h0];try rfl
    ·exact RdL.lt_dom _ r1
   ·rintro⟨b,off,ys,r0,r1,r2,r3⟩;exact⟨b,off,ys,r0,RdL.ext _ (zA c) r1,r2,r3⟩
  ·exact h.elim
 ·rename_i j m;split at h
  ·rename_i t sz es hj;split at h
   ·rename_i hb;obtain⟨rfl,h⟩:=h;obtain⟨ess,m',⟨rfl,rfl⟩,q1,q2,a,p,q3,q4⟩:=JK (k:=fun es' m'=>es'=es/\m'=es.length) hs (esz:=esz) hr (by simp only [U3,hj,hb];exact⟨tv,tv,tv⟩);refine⟨_,_,_,h,q1,q2,?_,a,p,q3,q4.imp id ?_⟩
    ·rcases q4 with h0 | ⟨b,off,ys,_,r1,_⟩
     ·rw [AG.1 h0];try rfl
     ·exact RdL.lt_dom _ r1
    ·rintro⟨b,off,ys,r0,r1,r2,r3⟩;exact⟨b,off,ys,r0,RdL.ext _ (zA c) r1,r2,r3⟩
   ·exact h.elim
  ·rename_i t sz es mo hj;rw [hget_eq] at hj;split at h
   ·rename_i hb;have:=Am hb;subst this;obtain⟨rfl,h⟩:=h;obtain⟨h1,h2,h3,h3',xs,h4,h5,h6⟩:=hs.blk j _ hj;simp only [Rd] at hr;obtain⟨q1,q2,q3,q4⟩:=hr;have hur:=q4 h1.symm;subst hur;rcases h4.2 with ⟨hn,hz⟩ | ⟨g,cap,cur,hv,_⟩
    ·exact⟨_,_,_,h,rfl,h3,h3',none,0,by rw [hn,hz], .inl hz⟩
    ·refine⟨_,_,_,h,rfl,h3,h3',_,cap,hv, .inr ⟨g,0,xs,rfl,h5,h6,fun i u hu=>?_⟩⟩;rw [Au];exact G1 h4 hv hu
   ·exact h.elim
  ·exact h.elim
 ·rename_i p;simp only [Rd] at hr;exact⟨_,_,_,h,rfl,by simp,rfl,none,p,hr, .inl rfl⟩
 ·exact h.elim
theorem O8 {P:Program} (hs:HS w0 M0 c H) {t et ty:TypeId} {esz sz:Nat} {ty1 ty2:Ty} (ht:TyOk P t ty1) (hd:ty1.d = .slice et esz) (he:TyOk P et ty2) (hsz:ty2.sz=sz) (_:0<sz) (hzl:ty2.zero.length=sz)
  {j n m:Nat} {es ess:List (List AV)} (hj:H[j]? = some (.row et sz es)) (hn:n=es.length) (hm:ess.length=m) (hle:∀ e∈ess,e.length=sz) (hbd:n+m<=1000000000)
  {v:Value} (hv:Rd (.ow j n) c v) {a:Option Addr} {p:Nat} (hsrc:m=0\/∃ b off ys,a=some ⟨b,off,none⟩/\RdL ess.flatten c.closed ys/\(∀ u∈ys,u.oneCell'=true)/\∀ i u,ys[i]? = some u->c.w.cell? ⟨b,off+i,none⟩=some u) :
  ∃ v' c',(Builtin.append_ #[t,t] ty #[v, .slice a m p]).run P c.w = .ok v' c'.w/\HS w0 M0 c' (H.set j (.row et sz (es ++ ess)))/\Ext c c'/\Rd (.ow j (n+m)) c' v':=by
 obtain⟨i1,d1,z1,hp1⟩:=ht.parts;obtain⟨i2,d2,z2,hp2⟩:=he.parts;have htd:=hp1.td;rw [hd] at htd;obtain⟨e',rfl⟩:∃ e,d1 = .slice e:=by cases d1 <;> simp [Dw] at htd;exact⟨_,rfl⟩
 simp only [Dw,TD.slice.injEq] at htd;obtain⟨rfl,_⟩:=htd;obtain⟨h1,h2,h3,xs,h4,h5,h6⟩:=hs.blk j _ hj;have hv0:=hv;simp only [Rd] at hv;obtain⟨q1,q2,q3,q4⟩:=hv;have hvr:=q4 (by omega);have hjl:=hs.klt hj;by_cases hm0:m=0
 ·subst hm0;have he0:ess=[]:=Bt hm;subst he0;have hset:H.set j (.row e' sz (es ++ []))=H:=by
   rw [AE];apply List.ext_getElem?;intro k;by_cases hk:k=j
   ·subst hk;rw [A3 (Ar.1 hj).1,hj]
   ·rw [A4 (Ne.symm hk)]
  refine⟨v,c,?_,by rw [hset];exact hs,zM c,by simpa using hv0⟩;have hsi:i2.size=sz:=by rw [hp2.size,hsz]
  rw [hvr];rcases h4.2 with ⟨hn',h0⟩ | ⟨g,cap,cur,hv',_,hg,hnc,_⟩
  ·rw [hn'];cases a <;> simp [Builtin.append_,run_underlying hp1.und,sizeOf,typeInfo,hp2.info,Builtin.lenOf,Builtin.firstCells,loadCells,loadCellsFrom]
  ·rw [hv'];cases a <;> simp [Builtin.append_,run_underlying hp1.und,sizeOf,typeInfo,hp2.info,Builtin.lenOf,Builtin.firstCells,hnc,storeCells,loadCells,loadCellsFrom]
 ·obtain⟨b,off,ys,rfl,r1,r2,r3⟩:=hsrc.resolve_left hm0;have hbase:c.base<=c.w.heap.size:=by rw [hs.base];exact Aj _
  have hfl:∀ (l:List (List AV)),(∀ e∈l,e.length=sz)->l.flatten.length=l.length*sz:=by
   intro l;induction l with
   | nil=>simp
   | cons x l ih=>intro h;rw [A8,Ah,ih fun e he=>h e (by simp [he]),h x (by simp),Ao,Bb];omega
  have hyl:ys.length=m*sz:=by rw [r1.length,hfl ess hle,hm]
  have hbytes:(es.length+m)*i2.bytes<=1000000000*1000:=C_ (by omega) hp2.bytes;obtain⟨v',w',hrun,ho',hgr,_,hat⟩:=run_append_own_at (P:=P) c.w c.base t ty e' i2 z2 sz i2.bytes hp1.und hp2.info hp2.zero (by rw [hp2.size,hsz]) rfl (by rw [<-hzl,<-hp2.zc];simp) h2
   (c.rho j) es.length xs h4 ⟨b,off,none⟩ m p ys hyl (fun i u hu=>by rw [Addr.add_lit];exact r3 i u hu) r2 (by unfold maxLen;omega) (by omega) hbase
  have hob:=L4 h4;have hob':=L4 ho';have hmg:∀ g,oB (c.rho j)=some g->c.M g/\¬w0.old g:=fun g hg=>hs.own j _ g hj rfl hg
  let c':Ctx:={ w:=w',base:=c.base,M:=fun b=>c.M b\/oB v'=some b,rho:=fun k=>if k=j then v' else c.rho k,len:=fun k=>if k=j then es.length+m else c.len k,dom:=c.dom };have hrow:∀ g,c.rho j≠ .pointer g:=fun g hg=>by rcases h4.2 with ⟨e,_⟩ | ⟨_,_,_,e,_⟩ <;> rw [e] at hg <;> cases hg
  have e:Ext c c':=by
   refine⟨hgr.os,hgr.tape,hgr.output,hgr.size,fun b hb hmb=>⟨fun hm'=>?_,hgr.block b hb fun e=>?_⟩,Ag _,fun k hk=>?_,fun k hk hlk=>?_,fun k g hk hg=>?_⟩
   ·rcases hm' with h | h
    ·exact hmb h
    ·rw [hob'] at h;rcases hat with h7 | h7
     ·rw [h7,<-hob] at h;exact hmb (hmg b h).1
     ·rw [h7] at h;cases h;omega
   ·rw [<-hob] at e;exact hmb (hmg b e.symm).1
   ·simp only [c'];split
    ·rename_i hkj;subst hkj;omega
    ·exact Ag _
   ·simp only [c'] at hlk |-
    split
    ·rename_i hkj;subst hkj;rw [if_pos rfl] at hlk;omega
    ·rfl
   ·simp only [c'];split
    ·rename_i hkj;subst hkj;exact absurd hg (hrow g)
    ·exact hg
  have hget:∀ k y,(H.set j (.row e' sz (es ++ ess)))[k]? = some y->(k=j/\y = .row e' sz (es ++ ess))\/(k≠j/\H[k]? = some y):=by
   intro k y hk;by_cases hkj:k=j
   ·subst hkj;rw [A3 (Ar.1 hj).1] at hk;cases hk;exact .inl tA
   ·rw [A4 (Ne.symm hkj)] at hk;exact .inr ⟨hkj,hk⟩
  have hog:∀ g,oB v'=some g->c.base<=g/\g<w'.heap.size:=by
   intro g hg;rcases ho'.2 with ⟨e,_⟩ | ⟨g',cap,cur,e,q,hh,_⟩
   ·rw [e] at hg;simp [oB] at hg
   ·rw [e] at hg;simp [oB] at hg;subst hg;exact⟨q,(Aw.1 hh).1⟩
  have hother:∀ k y g,k≠j->H[k]? = some y->y.live=true->oB (c.rho k)=some g->w'.heap[g]? = c.w.heap[g]? :=by
   intro k y g hkj hk hl hg;refine hgr.block g (hs.sub hk hl hg) fun e=>?_
   rw [<-hob] at e;exact hkj (hs.dis k j y _ g hk hj hl rfl hg e.symm)
  have hlow:LowF w0 w':=⟨hgr.os.trans hs.low.os,hgr.tape.trans hs.low.tape,hgr.output.trans hs.low.output,AW hs.low.size hgr.size,fun b hb=>(hgr.block b (As (w0.lt b hb) hs.low.size) fun e=>by rw [<-hob] at e;exact(hmg b e.symm).2 hb).trans (hs.low.block b hb)⟩;have hold:∀ g,oB v'=some g->¬w0.old g:=by
   intro g hg ho;rw [hob'] at hg;rcases hat with h7 | h7
   ·rw [h7,<-hob] at hg;exact(hmg g hg).2 ho
   ·rw [h7] at hg;cases hg;have:=As (w0.lt _ ho) hs.low.size;omega
  refine⟨v',c',by rw [hvr];exact hrun,⟨hlow,hs.base,by simp [c',hs.dom],fun b hb=>?_,fun b hmb=>?_,fun k y hk=>?_,fun k y g hk hl hg=>?_,fun i k y z g hi hk hly hlz hgi hgk=>?_⟩,e,?_⟩
  ·refine⟨fun hmb=>?_,fun hmb=> .inl ((hs.foreign b hb).2 hmb)⟩;rcases hmb with h | h
   ·exact(hs.foreign b hb).1 h
   ·exact(hold b h hb).elim
  ·rcases hmb with h | h
   ·exact As (hs.lt b h) hgr.size
   ·exact(hog b h).2
  ·rcases hget k y hk with ⟨rfl,rfl⟩ | ⟨hkj,hk'⟩
   ·refine⟨by simp [c',hm],h2,fun e he=>?_,xs ++ ys,by simpa [c',hm] using ho',?_,?_⟩
    ·rcases Az.1 he with h | h
     ·exact h3 e h
     ·exact hle e h
    ·rw [AX];exact(RdL.ext _ e.closed h5).append (RdL.ext _ e.closed r1)
    ·intro u hu;rcases Az.1 hu with h | h
     ·exact h6 u h
     ·exact r2 u h
   ·exact zu e rfl (hs.klt hk') (by simp [c',hkj]) (fun g hl hg=>hother k y g hkj hk' hl hg) (hs.blk k y hk')
  ·rcases hget k y hk with ⟨rfl,rfl⟩ | ⟨hkj,hk'⟩
   ·simp only [c',if_true] at hg;exact⟨.inr hg,hold g hg⟩
   ·simp only [c',if_neg hkj] at hg;have:=hs.own k y g hk' hl hg;exact⟨.inl this.1,this.2⟩
  ·have key:∀ k y g,k≠j->H[k]? = some y->y.live=true->oB (c.rho k)=some g->oB v'=some g->False:=by
    intro k y g hkj hk hl hg hg';rw [hob'] at hg';rcases hat with h7 | h7
    ·rw [h7,<-hob] at hg';exact hkj (hs.dis k j y _ g hk hj hl rfl hg hg')
    ·rw [h7] at hg';cases hg';have:=hs.sub hk hl hg;omega
   rcases hget i y hi with ⟨rfl,rfl⟩ | ⟨hij,hi'⟩ <;> rcases hget k z hk with ⟨rfl,rfl⟩ | ⟨hkj,hk'⟩
   ·rfl
   ·simp only [c',if_true] at hgi;simp only [c',if_neg hkj] at hgk;exact(key k z g hkj hk' hlz hgk hgi).elim
   ·simp only [c',if_true] at hgk;simp only [c',if_neg hij] at hgi;exact(key i y g hij hi' hly hgi hgk).elim
   ·simp only [c',if_neg hij] at hgi;simp only [c',if_neg hkj] at hgk;exact hs.dis i k y z g hi' hk' hly hlz hgi hgk
  ·simp only [Rd];refine⟨q1,by simp [c',hn],?_,fun _=>by simp [c']⟩;rcases ho'.2 with ⟨e,hz⟩ | ⟨g',cap,cur,e,_⟩
   ·omega
   ·exact⟨_,cap,by rw [e,hn],fun _=>⟨g',rfl⟩⟩
theorem MF {P:Program} (hs:HS w0 M0 c H) {t et ty:TypeId} {esz sz:Nat} {ty1 ty2:Ty} (ht:TyOk P t ty1) (hd:ty1.d = .slice et esz) (he:TyOk P et ty2) (hsz:ty2.sz=sz) (_:0<sz) (hzl:ty2.zero.length=sz)
  {j n m mm mo:Nat} {es ess:List (List AV)} (hj:H[j]? = some (.rowo et sz es mm)) (hn:n=es.length) (hm:ess.length=m) (hlo:AV.ltL ess.flatten mo=true) (hle:∀ e∈ess,e.length=sz) (hbd:n+m<=1000000000)
  {v:Value} (hv:Rd (.ow j n) c v) {a:Option Addr} {p:Nat} (hsrc:m=0\/∃ b off ys,a=some ⟨b,off,none⟩/\RdL ess.flatten c ys/\(∀ u∈ys,u.oneCell'=true)/\∀ i u,ys[i]? = some u->c.w.cell? ⟨b,off+i,none⟩=some u) :
  ∃ v' c',(Builtin.append_ #[t,t] ty #[v, .slice a m p]).run P c.w = .ok v' c'.w/\HS w0 M0 c' (H.set j (.rowo et sz (es ++ ess) (Nat.max mm mo)))/\Ext c c'/\Rd (.ow j (n+m)) c' v':=by
 obtain⟨i1,d1,z1,hp1⟩:=ht.parts;obtain⟨i2,d2,z2,hp2⟩:=he.parts;have htd:=hp1.td;rw [hd] at htd;obtain⟨e',rfl⟩:∃ e,d1 = .slice e:=by cases d1 <;> simp [Dw] at htd;exact⟨_,rfl⟩
 simp only [Dw,TD.slice.injEq] at htd;obtain⟨rfl,_⟩:=htd;obtain⟨h1,h2,h3,h3',xs,h4,h5,h6⟩:=hs.blk j _ hj;have hl2:AV.ltL (es ++ ess).flatten (Nat.max mm mo)=true:=by
  rw [AX,CP];intro x hx;rcases Az.1 hx with hx | hx
  ·exact AV.lt_mono x (Nat.le_max_left _ _) (CP.1 h3' x hx)
  ·exact AV.lt_mono x (Nat.le_max_right _ _) (CP.1 hlo x hx)
 have hv0:=hv;simp only [Rd] at hv;obtain⟨q1,q2,q3,q4⟩:=hv;have hvr:=q4 (by omega);have hjl:=hs.klt hj;by_cases hm0:m=0
 ·subst hm0;have he0:ess=[]:=Bt hm;subst he0;have hset:HS w0 M0 c (H.set j (.rowo e' sz (es ++ []) (Nat.max mm mo))):=by
   rw [AE];exact hs.recell hj rfl fun⟨a1,a2,a3,a4,a5⟩=>⟨a1,a2,a3,AV.ltL_mono _ (Nat.le_max_left _ _) a4,a5⟩
  refine⟨v,c,?_,hset,zM c,by simpa using hv0⟩;have hsi:i2.size=sz:=by rw [hp2.size,hsz]
  rw [hvr];rcases h4.2 with ⟨hn',h0⟩ | ⟨g,cap,cur,hv',_,hg,hnc,_⟩
  ·rw [hn'];cases a <;> simp [Builtin.append_,run_underlying hp1.und,sizeOf,typeInfo,hp2.info,Builtin.lenOf,Builtin.firstCells,loadCells,loadCellsFrom]
  ·rw [hv'];cases a <;> simp [Builtin.append_,run_underlying hp1.und,sizeOf,typeInfo,hp2.info,Builtin.lenOf,Builtin.firstCells,hnc,storeCells,loadCells,loadCellsFrom]
 ·obtain⟨b,off,ys,rfl,r1,r2,r3⟩:=hsrc.resolve_left hm0;have hbase:c.base<=c.w.heap.size:=by rw [hs.base];exact Aj _
  have hfl:∀ (l:List (List AV)),(∀ e∈l,e.length=sz)->l.flatten.length=l.length*sz:=by
   intro l;induction l with
   | nil=>simp
   | cons x l ih=>intro h;rw [A8,Ah,ih fun e he=>h e (by simp [he]),h x (by simp),Ao,Bb];omega
  have hyl:ys.length=m*sz:=by rw [r1.length,hfl ess hle,hm]
  have hbytes:(es.length+m)*i2.bytes<=1000000000*1000:=C_ (by omega) hp2.bytes;obtain⟨v',w',hrun,ho',hgr,_,hat⟩:=run_append_own_at (P:=P) c.w c.base t ty e' i2 z2 sz i2.bytes hp1.und hp2.info hp2.zero (by rw [hp2.size,hsz]) rfl (by rw [<-hzl,<-hp2.zc];simp) h2
   (c.rho j) es.length xs h4 ⟨b,off,none⟩ m p ys hyl (fun i u hu=>by rw [Addr.add_lit];exact r3 i u hu) r2 (by unfold maxLen;omega) (by omega) hbase
  have hob:=L4 h4;have hob':=L4 ho';have hmg:∀ g,oB (c.rho j)=some g->c.M g/\¬w0.old g:=fun g hg=>hs.own j _ g hj rfl hg
  let c':Ctx:={ w:=w',base:=c.base,M:=fun b=>c.M b\/oB v'=some b,rho:=fun k=>if k=j then v' else c.rho k,len:=fun k=>if k=j then es.length+m else c.len k,dom:=c.dom };have hrow:∀ g,c.rho j≠ .pointer g:=fun g hg=>by rcases h4.2 with ⟨e,_⟩ | ⟨_,_,_,e,_⟩ <;> rw [e] at hg <;> cases hg
  have e:Ext c c':=by
   refine⟨hgr.os,hgr.tape,hgr.output,hgr.size,fun b hb hmb=>⟨fun hm'=>?_,hgr.block b hb fun e=>?_⟩,Ag _,fun k hk=>?_,fun k hk hlk=>?_,fun k g hk hg=>?_⟩
   ·rcases hm' with h | h
    ·exact hmb h
    ·rw [hob'] at h;rcases hat with h7 | h7
     ·rw [h7,<-hob] at h;exact hmb (hmg b h).1
     ·rw [h7] at h;cases h;omega
   ·rw [<-hob] at e;exact hmb (hmg b e.symm).1
   ·simp only [c'];split
    ·rename_i hkj;subst hkj;omega
    ·exact Ag _
   ·simp only [c'] at hlk |-
    split
    ·rename_i hkj;subst hkj;rw [if_pos rfl] at hlk;omega
    ·rfl
   ·simp only [c'];split
    ·rename_i hkj;subst hkj;exact absurd hg (hrow g)
    ·exact hg
  have hget:∀ k y,(H.set j (.rowo e' sz (es ++ ess) (Nat.max mm mo)))[k]? = some y->(k=j/\y = .rowo e' sz (es ++ ess) (Nat.max mm mo))\/(k≠j/\H[k]? = some y):=by
   intro k y hk;by_cases hkj:k=j
   ·subst hkj;rw [A3 (Ar.1 hj).1] at hk;cases hk;exact .inl tA
   ·rw [A4 (Ne.symm hkj)] at hk;exact .inr ⟨hkj,hk⟩
  have hog:∀ g,oB v'=some g->c.base<=g/\g<w'.heap.size:=by
   intro g hg;rcases ho'.2 with ⟨e,_⟩ | ⟨g',cap,cur,e,q,hh,_⟩
   ·rw [e] at hg;simp [oB] at hg
   ·rw [e] at hg;simp [oB] at hg;subst hg;exact⟨q,(Aw.1 hh).1⟩
  have hother:∀ k y g,k≠j->H[k]? = some y->y.live=true->oB (c.rho k)=some g->w'.heap[g]? = c.w.heap[g]? :=by
   intro k y g hkj hk hl hg;refine hgr.block g (hs.sub hk hl hg) fun e=>?_
   rw [<-hob] at e;exact hkj (hs.dis k j y _ g hk hj hl rfl hg e.symm)
  have hlow:LowF w0 w':=⟨hgr.os.trans hs.low.os,hgr.tape.trans hs.low.tape,hgr.output.trans hs.low.output,AW hs.low.size hgr.size,fun b hb=>(hgr.block b (As (w0.lt b hb) hs.low.size) fun e=>by rw [<-hob] at e;exact(hmg b e.symm).2 hb).trans (hs.low.block b hb)⟩;have hold:∀ g,oB v'=some g->¬w0.old g:=by
   intro g hg ho;rw [hob'] at hg;rcases hat with h7 | h7
   ·rw [h7,<-hob] at hg;exact(hmg g hg).2 ho
   ·rw [h7] at hg;cases hg;have:=As (w0.lt _ ho) hs.low.size;omega
  refine⟨v',c',by rw [hvr];exact hrun,⟨hlow,hs.base,by simp [c',hs.dom],fun b hb=>?_,fun b hmb=>?_,fun k y hk=>?_,fun k y g hk hl hg=>?_,fun i k y z g hi hk hly hlz hgi hgk=>?_⟩,e,?_⟩
  ·refine⟨fun hmb=>?_,fun hmb=> .inl ((hs.foreign b hb).2 hmb)⟩;rcases hmb with h | h
   ·exact(hs.foreign b hb).1 h
   ·exact(hold b h hb).elim
  ·rcases hmb with h | h
   ·exact As (hs.lt b h) hgr.size
   ·exact(hog b h).2
  ·rcases hget k y hk with ⟨rfl,rfl⟩ | ⟨hkj,hk'⟩
   ·refine⟨by simp [c',hm],h2,fun e he=>?_,hl2,xs ++ ys,by simpa [c',hm] using ho',?_,?_⟩
    ·rcases Az.1 he with h | h
     ·exact h3 e h
     ·exact hle e h
    ·rw [AX];exact(RdL.ext _ e h5).append (RdL.ext _ e r1)
    ·intro u hu;rcases Az.1 hu with h | h
     ·exact h6 u h
     ·exact r2 u h
   ·exact zu e rfl (hs.klt hk') (by simp [c',hkj]) (fun g hl hg=>hother k y g hkj hk' hl hg) (hs.blk k y hk')
  ·rcases hget k y hk with ⟨rfl,rfl⟩ | ⟨hkj,hk'⟩
   ·simp only [c',if_true] at hg;exact⟨.inr hg,hold g hg⟩
   ·simp only [c',if_neg hkj] at hg;have:=hs.own k y g hk' hl hg;exact⟨.inl this.1,this.2⟩
  ·have key:∀ k y g,k≠j->H[k]? = some y->y.live=true->oB (c.rho k)=some g->oB v'=some g->False:=by
    intro k y g hkj hk hl hg hg';rw [hob'] at hg';rcases hat with h7 | h7
    ·rw [h7,<-hob] at hg';exact hkj (hs.dis k j y _ g hk hj hl rfl hg hg')
    ·rw [h7] at hg';cases hg';have:=hs.sub hk hl hg;omega
   rcases hget i y hi with ⟨rfl,rfl⟩ | ⟨hij,hi'⟩ <;> rcases hget k z hk with ⟨rfl,rfl⟩ | ⟨hkj,hk'⟩
   ·rfl
   ·simp only [c',if_true] at hgi;simp only [c',if_neg hkj] at hgk;exact(key k z g hkj hk' hlz hgk hgi).elim
   ·simp only [c',if_true] at hgk;simp only [c',if_neg hij] at hgi;exact(key i y g hij hi' hly hgi hgk).elim
   ·simp only [c',if_neg hij] at hgi;simp only [c',if_neg hkj] at hgk;exact hs.dis i k y z g hi' hk' hly hlz hgi hgk
  ·simp only [Rd];refine⟨q1,by simp [c',hn],?_,fun _=>by simp [c']⟩;rcases ho'.2 with ⟨e,hz⟩ | ⟨g',cap,cur,e,_⟩
   ·omega
   ·exact⟨_,cap,by rw [e,hn],fun _=>⟨g',rfl⟩⟩
end
theorem IA {P:Program} {w:World} (t:TypeId) (v:Value):(newVar t v).run P w = .ok ⟨w.heap.size,0,none⟩ (w.alloc (.cells v.cells t)):=rfl
theorem Fs {P:Program} {w w':World} {t:TypeId} {a:Addr} {v:Value} {ty:Ty} (h:TyOk P t ty) (hs:v.cells.size=ty.sz) (hr:(storeCells a v.cells.toList).run P w = .ok () w'):(storeVar t a v).run P w = .ok () w':=by
 obtain⟨i,d,z,hp⟩:=h.parts;unfold storeVar;simp only [Sem.run_bind,hp.sizeOf,Result.andThen_ok,hs,ne_eq,not_true_eq_false,if_false];simpa using hr
theorem I_ {c:Ctx}:∀ (l:List Value),RdL (l.map .v) c l
 | []=>by simp [RdL]
 | x::l=>by simp only [A5,RdL];exact⟨x,l,rfl,by simp [Rd],I_ l⟩
theorem RO {c:Ctx} (z:List Value):∀ n,RdL (zrep n z) c (List.replicate n z).flatten
 | 0=>by simp [zrep,RdL]
 | n+1=>by
  rw [CM,A8];exact(I_ z).append (RO z n)
theorem Yr {z:Array Value} (hz:0<z.size) (n:Nat):((Array.range (n*z.size)).map fun i=>z[i % z.size]!).toList=(List.replicate n z.toList).flatten:=by
 apply List.ext_getElem?;intro i;have hfl:∀ n:Nat,(List.replicate n z.toList).flatten.length=n*z.size:=by intro n;simp
 have hget:∀ (n i:Nat),i<n*z.size->(List.replicate n z.toList).flatten[i]? = z.toList[i % z.size]? :=by
  intro n;induction n with
  | zero=>intro i hi;omega
  | succ n ih=>
   intro i hi;rw [CM,A8];rcases BT i z.size with h | h
   ·rw [AD (by simpa using h),Nat.mod_eq_of_lt h]
   ·rw [AL (by simpa using h),ih _ (by rw [Bb] at hi;simp;omega)];simp only [BC];rw [Nat.mod_eq_sub_mod h]
 rcases BT i (n*z.size) with h | h
 ·rw [hget n i h];have hm:i % z.size<z.size:=Nat.mod_lt _ hz;simp [h,hm]
 ·rw [AF (by simpa using h),AF (by rw [hfl];exact h)]

theorem Me {sz:Nat}:∀ (es:List (List AV)) (i off:Nat) (l:List AV),(∀ e∈es,e.length=sz)->i<es.length->off+l.length<=sz->
  (es.set i ((es.getD i []).take off ++ l ++ (es.getD i []).drop (off+l.length))).flatten=es.flatten.take (i*sz+off) ++ l ++ es.flatten.drop (i*sz+off+l.length)
 | [],_,_,_,_,h,_=>by simp at h
 | e::es,0,off,l,h,_,hl=>by
  have he:=h e (by simp);simp only [List.set_cons_zero,List.getD_cons_zero,A8,Nat.zero_mul,Au];rw [List.take_append_of_le_length (by omega),List.drop_append_of_le_length (by omega)];simp
 | e::es,i+1,off,l,h,hi,hl=>by
  have he:=h e (by simp);have ih:=Me es i off l (fun x hx=>h x (by simp [hx])) (by simpa using hi) hl;simp only [List.set_cons_succ,List.getD_cons_succ,A8];rw [ih,Bb,Nat.one_mul,show i*sz+sz+off=e.length+(i*sz+off) by omega,show e.length+(i*sz+off)+l.length=e.length+(i*sz+off+l.length) by omega,List.take_append,BZ,At (l:=e) (by omega),show List.drop (e.length+(i*sz+off+l.length)) e=[] from A9 (by omega)];simp
theorem Ks {A v:List Value} {p N:Nat} (h:p+v.length<=N) (hN:N<=A.length):(A.take p ++ v ++ A.drop (p+v.length)).take N=(A.take N).take p ++ v ++ (A.take N).drop (p+v.length):=by
 have hp:(A.take p ++ v).length=p+v.length:=by rw [Ah,Aq];omega
 rw [List.take_append,At (by omega),hp,List.take_take,Cn (by omega),List.drop_take]

theorem Kh {p q:Nat->Option (Nat × Nat)}:∀ {l:List (Nat × Value)} {cs r:Array Value},Instr.fill p cs l=some r->(∀ i x,p i=some x->q i=some x)->Instr.fill q cs l=some r
 | [],_,_,h,_=>by simpa [Instr.fill] using h
 | (i,v)::l,cs,r,h,hq=>by
  simp only [Instr.fill] at h |-
  cases hp:p i with
  | none=>rw [hp] at h;simp at h
  | some x=>
   rw [hp] at h;rw [hq i x hp];simp only at h |-
   split at h
   ·cases h
   ·rename_i hn;rw [if_neg hn];exact Kh h hq

theorem TW {P:Program} {T:Tys} (hT:TOk P T) {w0:Fl} {M0:Ms} {c:Ctx} {H:List AB} (hs:HS w0 M0 c H) {n:Nat} {fr:Fr} {a:Act} (hf:FR w0 c n fr a) {o:Oper} {k:AV->List AB->Prop} {q:Bool} (h:Z_ P T q o.op (ev fr) H k)
  {next:Act->World->Prop} {Q:Exit->Act->World->Prop} (hn:∀ r H' c' v,k r H'->HS w0 M0 c' H'->Ext c c'->Rd r c' v->(q=true->Old c.w c'.w)->next (a.put o.dst v) c'.w):o.wp P a c.w next Q:=by
 unfold Z_ at h;unfold Oper.wp;split at h
 ·rename_i t ho;split at h
  ·rename_i ty ht;split at h
   ·rename_i hz;have h:=snocK_iff h;obtain⟨i,d,z,hp⟩:=(hT.get ht).parts;obtain⟨c',e1,e2,e3,e4⟩:=hs.box t (cs:=ty.zero.map .v) (xs:=ty.zero) (I_ _) (fun u hu=>Av.1 hz u hu);rw [Au] at h;have hrun:(execOp a.eval o).run P c.w = .ok (.value (.pointer (some ⟨c.w.heap.size,0,none⟩))) c'.w:=by
     have hzc:z.cells=ty.zero.toArray:=Array.ext' (by simpa using hp.zc);simp [execOp,ho,Instr.alloc,zeroValue,typeInfo,hp.info,hp.zero,IA,e1,hzc]
    rw [hrun];exact hn _ _ _ _ h e2 e3 e4 fun _=>by rw [e1];exact((Below.refl c.w.heap.size c.w).alloc (Ag _) _).old
   ·exact h.elim
  ·exact h.elim
 ·rename_i t x ho;have h:=BD h;split at h
  ·rename_i hok;have h:=snocK_iff h;rw [Au] at h;obtain⟨h1,h2⟩:=In (hf.ev x) hok;obtain⟨c',e1,e2,e3,e4⟩:=hs.box t h1 h2;have hrun:(execOp a.eval o).run P c.w = .ok (.value (.pointer (some ⟨c.w.heap.size,0,none⟩))) c'.w:=by
    simp [execOp,ho,Instr.box,IA,e1]
   rw [hrun];exact hn _ _ _ _ h e2 e3 e4 fun _=>by rw [e1];exact((Below.refl c.w.heap.size c.w).alloc (Ag _) _).old
  ·exact h.elim
 ·rename_i t ad x ho;split at h
  ·rename_i ty ht;have h:=BD h;split at h
   ·rename_i hok;simp only [Ad] at hok;have hsz:=Am hok.2;obtain⟨hc1,hc2⟩:=In (hf.ev x) hok.1;have hcl:=hc1.length;have hcs:(a.eval x).cells.size=ty.sz:=by rw [<-hsz,<-hcl];simp
    have hra:=hf.ev ad;split at h
    ·rename_i j off hx;rw [hx] at hra;split at h
     case h_1=>exact h.elim
     rw [hget_eq] at h;split at h
     ·rename_i bt cs hj;obtain⟨hle,h⟩:=spliceK_iff h;have h:=setK_iff h;obtain⟨g,xs,q1,q2,q3,q4⟩:=hs.blk j _ hj;have hxl:=q3.length;simp only [Rd] at hra;obtain⟨_,g',hg',hu⟩:=hra;rw [q1] at hg';cases hg';obtain⟨w',r1,r2,r3,r4,r5,r6,r7⟩:=DR (P:=P) (a.eval x).cells.toList (i:=0) (off:=off) q2 hc2 (by omega);have hrun:(execOp a.eval o).run P c.w = .ok .skip w':=by
       have:=Fs (a:=⟨g,off,none⟩) (hT.get ht) hcs r1;simp [execOp,ho,Instr.storeAt,hu,Instr.sureAddr,this]
      rw [hrun];have hE:Ext c { c with w:=w' }:=⟨r5,r6,r7,by simp [r4],fun b _ hm=>⟨hm,r3 b fun e=>hm (e ▸ (hs.own j _ g hj rfl (by rw [q1];try rfl)).1)⟩,Ag _,fun _ _=>Ag _,fun _ _ _=>rfl,fun _ _ _ h=>h⟩;have hset:=hs.set_ (y:= .box bt (cs.take off ++ cells1 (ev fr x) ++ cs.drop (off+(cells1 (ev fr x)).length))) hj rfl rfl (g:=g) (by rw [q1];try rfl) r3 r4 r5 r6 r7 (by
       refine⟨g,xs.take off ++ (a.eval x).cells.toList ++ xs.drop (off+(a.eval x).cells.toList.length),q1,by rw [Ca] at r2;exact r2,?_,?_⟩
       ·rw [<-hcl];exact((RdL.ext _ hE (q3.take off)).append (RdL.ext _ hE hc1)).append (RdL.ext _ hE (q3.drop _))
       ·intro u hu;rcases Az.1 hu with hu | hu
        ·rcases Az.1 hu with hu | hu
         ·exact q4 u (Bo hu)
         ·exact hc2 u hu
        ·exact q4 u (BG hu))
      exact hn _ _ _ _ h hset.1 hset.2 (by simp [Rd]) (fun e=>by cases e)
     ·exact h.elim
    ·rename_i j m i sz off hx;rw [hx] at hra;split at h
     case h_1=>exact h.elim
     rw [hget_eq] at h;split at h
     ·rename_i rt sz' es mm hj;obtain⟨⟨rfl,hm,hi⟩,h⟩:=h;obtain⟨hle,h⟩:=spliceK_iff h;have k1:=setK_iff h;obtain⟨h1,h2,h3,h3',xs,h4,h5,h6⟩:=hs.blk j _ hj;simp only [Rd] at hra;obtain⟨p1,p2,g,oo,hu,p3⟩:=hra;obtain⟨pp,p4,rfl⟩:=p3 (by omega);rcases h4.2 with ⟨e,_⟩ | ⟨g',cap,cur,e,hbg,hh,hnc,hcm,hcsz,htk⟩
      ·rw [p4] at e;cases e
      rw [p4] at e;cases e;have hlen:=Ma h3 (show i<es.length by omega);have hxl:xs.length=es.length*sz':=h4.1;have hcur:cur.toList.length=pp*sz':=by simpa using hcsz
      have hcap:es.length*sz'<=pp*sz':=BR _ (by omega);have hi1:(i+1)*sz'<=es.length*sz':=BR _ (by omega);rw [Bb,Nat.one_mul] at hi1;obtain⟨w',r1,r2,r3,r4,r5,r6,r7⟩:=DR (P:=P) (w:=c.w) (cur:=cur.toList) (a.eval x).cells.toList (i:=0) (off:=i*sz'+off) (by simpa using hh) hc2 (by omega);have hrun:(execOp a.eval o).run P c.w = .ok .skip w':=by
       have:=Fs (a:=⟨g,i*sz'+off,none⟩) (hT.get ht) hcs r1;simp [execOp,ho,Instr.storeAt,hu,Instr.sureAddr,this]
      rw [hrun];have hog:oB (c.rho j)=some g:=by rw [p4];try rfl
      have hE:Ext c { c with w:=w' }:=⟨r5,r6,r7,by simp [r4],fun b _ hm=>⟨hm,r3 b fun e=>hm (e ▸ (hs.own j _ g hj rfl hog).1)⟩,Ag _,fun _ _=>Ag _,fun _ _ _=>rfl,fun _ _ _ h=>h⟩;have hflat:(es.set i (List.take off (es.getD i []) ++ cells1 (ev fr x) ++ List.drop (off+(cells1 (ev fr x)).length) (es.getD i []))).flatten=es.flatten.take (i*sz'+off) ++ cells1 (ev fr x) ++ es.flatten.drop (i*sz'+off+(cells1 (ev fr x)).length):=Me es i off (cells1 (ev fr x)) h3 (by omega) (by omega);have hlt2:AV.ltL (es.set i (List.take off (es.getD i []) ++ cells1 (ev fr x) ++ List.drop (off+(cells1 (ev fr x)).length) (es.getD i []))).flatten (match AV.ltL (cells1 (ev fr x)) mm with | true=>mm | false=>H.length)=true:=by
       rw [hflat,CP];intro y hy;have hy':y∈es.flatten\/y∈cells1 (ev fr x):=by
        rcases Az.1 hy with hy | hy
        ·rcases Az.1 hy with hy | hy
         ·exact .inl (Bo hy)
         ·exact .inr hy
        ·exact .inl (BG hy)
       cases hb:AV.ltL (cells1 (ev fr x)) mm with
       | true=>
        rcases hy' with hy | hy
        ·exact CP.1 h3' y hy
        ·exact CP.1 hb y hy
       | false=>
        have e:H.length=c.dom:=hs.dom.symm;show y.lt H.length=true;rw [e];rcases hy' with hy | hy
        ·exact CP.1 (RdL.lt_dom _ h5) y hy
        ·exact CP.1 (RdL.lt_dom _ hc1) y hy
      have hset:=hs.set_ (y:= .rowo rt sz' (es.set i (List.take off (es.getD i []) ++ cells1 (ev fr x) ++ List.drop (off+(cells1 (ev fr x)).length) (es.getD i []))) (match AV.ltL (cells1 (ev fr x)) mm with | true=>mm | false=>H.length)) hj rfl rfl (g:=g) hog r3 r4 r5 r6 r7 (by
       refine⟨by simpa using h1,h2,fun e he=>?_,hlt2,xs.take (i*sz'+off) ++ (a.eval x).cells.toList ++ xs.drop (i*sz'+off+(a.eval x).cells.toList.length),?_,?_,?_⟩
       ·rcases Cd he with he | rfl
        ·exact h3 e he
        ·simp only [Ah,Aq,Al];omega
       ·have hN:i*sz'+off+(a.eval x).cells.toList.length<=es.length*sz':=by omega
        refine⟨?_, .inr ⟨g,pp,(cur.toList.take (i*sz'+off) ++ (a.eval x).cells.toList ++ cur.toList.drop (i*sz'+off+(a.eval x).cells.toList.length)).toArray,by simpa using p4,hbg,by rw [Ca] at r2;exact r2,by simpa using hnc,hcm,?_,?_⟩⟩
        ·simp only [Ah,Aq,Al,Bl];omega
        ·simp only [Bw,Ah,Aq,Al];omega
        ·rw [Bl,<-htk];exact Ks hN (by omega)
       ·rw [hflat,<-hcl];exact((RdL.ext _ hE (h5.take _)).append (RdL.ext _ hE hc1)).append (RdL.ext _ hE (h5.drop _))
       ·intro u hu;rcases Az.1 hu with hu | hu
        ·rcases Az.1 hu with hu | hu
         ·exact h6 u (Bo hu)
         ·exact hc2 u hu
        ·exact h6 u (BG hu))
      exact hn _ _ _ _ k1 hset.1 hset.2 (by simp [Rd]) (fun e=>by cases e)
     rw [<-hget_eq] at *
     obtain⟨l',H',c1,k1,k2,k3,k4,k5,k6,k7,k8⟩:=sealK_sound hs hc1 h;rw [hget_eq] at k1;split at k1
     ·rename_i rt sz' es hj;obtain⟨⟨rfl,hm,hi⟩,k1⟩:=k1;obtain⟨hle,k1⟩:=spliceK_iff k1;have k1:=setK_iff k1;obtain⟨h1,h2,h3,xs,h4,h5,h6⟩:=k3.blk j _ hj;have hra1:=Rd.ext _ k4 hra;simp only [Rd] at hra1;obtain⟨p1,p2,g,oo,hu,p3⟩:=hra1;obtain⟨pp,p4,rfl⟩:=p3 (by omega);rcases h4.2 with ⟨e,_⟩ | ⟨g',cap,cur,e,hbg,hh,hnc,hcm,hcsz,htk⟩
      ·rw [p4] at e;cases e
      rw [p4] at e;cases e;have hlen:=Ma h3 (show i<es.length by omega);have hxl:xs.length=es.length*sz':=h4.1;have hcl':(a.eval x).cells.toList.length=l'.length:=by rw [k7,hcl]
      have hcur:cur.toList.length=pp*sz':=by simpa using hcsz
      have hcap:es.length*sz'<=pp*sz':=BR _ (by omega);have hi1:(i+1)*sz'<=es.length*sz':=BR _ (by omega);rw [Bb,Nat.one_mul] at hi1;have hk2:c1.w=c.w:=k2;rw [<-hk2];obtain⟨w',r1,r2,r3,r4,r5,r6,r7⟩:=DR (P:=P) (w:=c1.w) (cur:=cur.toList) (a.eval x).cells.toList (i:=0) (off:=i*sz'+off) (by simpa using hh) hc2 (by omega);have hrun:(execOp a.eval o).run P c1.w = .ok .skip w':=by
       have:=Fs (a:=⟨g,i*sz'+off,none⟩) (hT.get ht) hcs r1;simp [execOp,ho,Instr.storeAt,hu,Instr.sureAddr,this]
      rw [hrun];have hog:oB (c1.rho j)=some g:=by rw [p4];try rfl
      have hE:Ext c1 { c1 with w:=w' }:=⟨r5,r6,r7,by simp [r4],fun b _ hm=>⟨hm,r3 b fun e=>hm (e ▸ (k3.own j _ g hj rfl hog).1)⟩,Ag _,fun _ _=>Ag _,fun _ _ _=>rfl,fun _ _ _ h=>h⟩;have hflat:(es.set i (List.take off (es.getD i []) ++ l' ++ List.drop (off+l'.length) (es.getD i []))).flatten=es.flatten.take (i*sz'+off) ++ l' ++ es.flatten.drop (i*sz'+off+l'.length):=Me es i off l' h3 (by omega) (by omega);have hset:=k3.set_ (y:= .row rt sz' (es.set i (List.take off (es.getD i []) ++ l' ++ List.drop (off+l'.length) (es.getD i [])))) hj rfl rfl (g:=g) hog r3 r4 r5 r6 r7 (by
       refine⟨by simpa using h1,h2,fun e he=>?_,xs.take (i*sz'+off) ++ (a.eval x).cells.toList ++ xs.drop (i*sz'+off+(a.eval x).cells.toList.length),?_,?_,?_⟩
       ·rcases Cd he with he | rfl
        ·exact h3 e he
        ·simp only [Ah,Aq,Al];omega
       ·have hN:i*sz'+off+(a.eval x).cells.toList.length<=es.length*sz':=by omega
        refine⟨?_, .inr ⟨g,pp,(cur.toList.take (i*sz'+off) ++ (a.eval x).cells.toList ++ cur.toList.drop (i*sz'+off+(a.eval x).cells.toList.length)).toArray,by simpa using p4,hbg,by rw [Ca] at r2;exact r2,by simpa using hnc,hcm,?_,?_⟩⟩
        ·simp only [Ah,Aq,Al,Bl];omega
        ·simp only [Bw,Ah,Aq,Al];omega
        ·rw [Bl,<-htk];exact Ks hN (by omega)
       ·rw [hflat,hcl'];exact((RdL.ext _ hE.closed (h5.take _)).append (RdL.ext _ hE.closed k5)).append (RdL.ext _ hE.closed (h5.drop _))
       ·intro u hu;rcases Az.1 hu with hu | hu
        ·rcases Az.1 hu with hu | hu
         ·exact h6 u (Bo hu)
         ·exact hc2 u hu
        ·exact h6 u (BG hu))
      exact hn _ _ _ _ k1 hset.1 (k4.trans hset.2) (by simp [Rd]) (fun e=>by cases e)
     ·exact k1.elim
    ·exact h.elim
   ·exact h.elim
  ·exact h.elim
 ·rename_i t len ps ho;split at h
  ·rename_i s1 g1 z1 et esz ht;split at h
   ·rename_i sz g2 z d2 het;split at h
    ·rename_i hb;simp only [Ad] at hb;obtain⟨⟨⟨⟨⟨b1,b2⟩,b3⟩,b4⟩,b5⟩,b6⟩:=hb;have b1:=Am b1;have b3:=Am b3;have b2:0<sz:=by simpa using b2
     have b5:len*sz<=10000:=Ae b5;subst b1;obtain⟨i1,d1,z1',hp1⟩:=(hT.get ht).parts;obtain⟨i2,d2',z2,hp2⟩:=(hT.get het).parts;have htd:=hp1.td;obtain⟨e',rfl⟩:∃ e,d1 = .slice e:=by cases d1 <;> simp [Dw] at htd;exact⟨_,rfl⟩
     simp only [Dw,TD.slice.injEq] at htd;obtain⟨rfl,_⟩:=htd;have hzs:z2.cells.size=sz:=by rw [<-b3,show z=_ from hp2.zc.symm];simp
     have hzr:RdL (zrep len z) c ((Array.range (len*sz)).map fun i=>z2.cells[i % z2.cells.size]!).toList:=by
      have hz2:=Yr (z:=z2.cells) (by omega) len;rw [hzs] at hz2 |-
      rw [hz2,hp2.zc];exact RO z len
     obtain⟨cs',vs',h1,h2,h3,h4⟩:=GG hf (place:=fun i=>if i<len then some ((0+i)*sz,sz) else none) (fun i p h=>(rng_get len 0 sz i).symm.trans h) hzr h;have h4':=h4 (by
      have hz2:=Yr (z:=z2.cells) (by omega) len;rw [hzs] at hz2 |-
      rw [hz2,hp2.zc];intro u hu;obtain⟨l,hl,hul⟩:=BP.1 hu;rw [AY hl] at hul;exact Av.1 b4 u hul)
     simp only at h3;split at h3
     ·have k1:=h3;obtain⟨es,e1,e2,e3,k1'⟩:=chunkK_iff k1;clear k1;have k9:=snocK_iff k1';clear k1';rw [Au] at k9;subst e1;have hlo:AV.ltL es.flatten H.length=true:=by rw [<-hs.dom];exact RdL.lt_dom _ h2
      have hfl:∀ (l:List (List AV)),(∀ e∈l,e.length=sz)->l.flatten.length=l.length*sz:=by
       intro l;induction l with
       | nil=>simp
       | cons x l ih=>intro h;rw [A8,Ah,ih fun e he=>h e (by simp [he]),h x (by simp),Ao,Bb];omega
      have hvs:vs'.toList.length=len*sz:=by rw [h2.length,hfl es e3,e2]
      have hlen:len<=10000:=AW (Nat.le_mul_of_pos_right len b2) b5;have hrun:(execOp a.eval o).run P c.w = .ok (.value (.slice (some ⟨c.w.heap.size,0,none⟩) len len)) (c.w.alloc (.cells vs' e')):=by
       have hsi:i2.size=sz:=hp2.size;have hz0:¬len*sz > 2 ^ 24:=by
        have:(2:Nat) ^ 24=16777216:=rfl;omega
       have hfill:Instr.fill (fun i=>some (i*sz,sz)) ((Array.range (len*sz)).map fun i=>z2.cells[i % z2.cells.size]!) (ps.toList.map fun p=>(p.1,a.eval p.2))=some vs':=Kh h1 fun i x hx=>by
        split at hx
        ·rw [Au] at hx;exact hx
        ·cases hx
       by_cases hl0:len*sz=0
       ·have hr0:Array.range 0=(#[]:Array Nat):=rfl;rw [hl0,hr0] at hfill;have hfill':Instr.fill (fun i=>some (i*sz,sz)) #[] (ps.toList.map fun p=>(p.1,a.eval p.2))=some vs':=by simpa using hfill
        simp [hr0,execOp,ho,Instr.buildSlice,run_underlying hp1.und,sizeOf,typeInfo,zeroValue,hp2.info,hp2.zero,hsi,newRow,hl0,hfill']
       ·simp [execOp,ho,Instr.buildSlice,run_underlying hp1.und,sizeOf,typeInfo,zeroValue,hp2.info,hp2.zero,hsi,newRow,hz0,hl0,hfill]
      rw [hrun];have hB:=(Below.refl c.w.heap.size c.w).alloc (Ag _) (.cells vs' e');have hE:Ext c (c.new (c.w.alloc (.cells vs' e')) (.slice (some ⟨c.w.heap.size,0,none⟩) len len) es.length):=Ext.new hB fun g hg=>by simp [oB] at hg;omega
      have hrow:=hs.newrowo hB (t:=e') (es:=es) (v:= .slice (some ⟨c.w.heap.size,0,none⟩) len len) (xs:=vs'.toList) b2 e3 hlo
       ⟨by rw [hvs,e2], .inr ⟨c.w.heap.size,len,vs',by rw [e2],Ag _,heap_alloc_new c.w _,by omega,by unfold maxLen;omega,by simpa using hvs,by rw [e2,<-hvs,A6]⟩⟩ h4' (RdL.ext _ hE h2)
      rw [e2] at hrow;exact hn _ _ _ _ k9 hrow.1 hrow.2.1 hrow.2.2 fun _=>hB.old
     ·obtain⟨l',H',c1,k1,k2,k3,k4,k5,k6,k7,k8⟩:=sealK_sound hs h2 h3;obtain⟨es,e1,e2,e3,k1'⟩:=chunkK_iff k1;clear k1;have k9:=snocK_iff k1';clear k1';rw [Au] at k9;subst e1;have hfl:∀ (l:List (List AV)),(∀ e∈l,e.length=sz)->l.flatten.length=l.length*sz:=by
       intro l;induction l with
       | nil=>simp
       | cons x l ih=>intro h;rw [A8,Ah,ih fun e he=>h e (by simp [he]),h x (by simp),Ao,Bb];omega
      have hvs:vs'.toList.length=len*sz:=by rw [k5.length,hfl es e3,e2]
      have hlen:len<=10000:=AW (Nat.le_mul_of_pos_right len b2) b5;have hrun:(execOp a.eval o).run P c1.w = .ok (.value (.slice (some ⟨c1.w.heap.size,0,none⟩) len len)) (c1.w.alloc (.cells vs' e')):=by
       have hsi:i2.size=sz:=hp2.size;have hz0:¬len*sz > 2 ^ 24:=by
        have:(2:Nat) ^ 24=16777216:=rfl;omega
       have hfill:Instr.fill (fun i=>some (i*sz,sz)) ((Array.range (len*sz)).map fun i=>z2.cells[i % z2.cells.size]!) (ps.toList.map fun p=>(p.1,a.eval p.2))=some vs':=Kh h1 fun i x hx=>by
        split at hx
        ·rw [Au] at hx;exact hx
        ·cases hx
       by_cases hl0:len*sz=0
       ·have hr0:Array.range 0=(#[]:Array Nat):=rfl;rw [hl0,hr0] at hfill;have hfill':Instr.fill (fun i=>some (i*sz,sz)) #[] (ps.toList.map fun p=>(p.1,a.eval p.2))=some vs':=by simpa using hfill
        simp [hr0,execOp,ho,Instr.buildSlice,run_underlying hp1.und,sizeOf,typeInfo,zeroValue,hp2.info,hp2.zero,hsi,newRow,hl0,hfill',k2]
       ·simp [execOp,ho,Instr.buildSlice,run_underlying hp1.und,sizeOf,typeInfo,zeroValue,hp2.info,hp2.zero,hsi,newRow,hz0,hl0,hfill,k2]
      rw [<-k2,hrun];have hB:=(Below.refl c1.w.heap.size c1.w).alloc (Ag _) (.cells vs' e');have hE:Ext c1 (c1.new (c1.w.alloc (.cells vs' e')) (.slice (some ⟨c1.w.heap.size,0,none⟩) len len) es.length):=Ext.new hB fun g hg=>by simp [oB] at hg;omega
      have hrow:=k3.newrow hB (t:=e') (es:=es) (v:= .slice (some ⟨c1.w.heap.size,0,none⟩) len len) (xs:=vs'.toList) b2 e3
       ⟨by rw [hvs,e2], .inr ⟨c1.w.heap.size,len,vs',by rw [e2],Ag _,heap_alloc_new c1.w _,by omega,by unfold maxLen;omega,by simpa using hvs,by rw [e2,<-hvs,A6]⟩⟩ h4' (RdL.ext _ hE.closed k5)
      rw [e2] at hrow;exact hn _ _ _ _ k9 hrow.1 (k4.trans hrow.2.1) hrow.2.2 fun _=>by rw [<-k2];exact hB.old
    ·exact h.elim
   ·exact h.elim
  ·exact h.elim
 ·rename_i args ts ho;split at h
  case h_2=>exact h.elim
  rename_i s x hargs;split at h
  case h_2=>exact h.elim
  rename_i t t' hts;have e1:args = #[s,x]:=Array.ext' (by simpa using hargs);have e2:ts = #[t,t']:=Array.ext' (by simpa using hts);subst e1 e2;split at h
  case h_2=>exact h.elim
  rename_i s1 g1 z1 et esz ht;split at h
  case h_2=>exact h.elim
  rename_i sz g2 z d2 het;split at h
  case h_2=>exact h.elim
  rename_i hb;simp only [Ad] at hb;obtain⟨⟨⟨b0,b1⟩,b2⟩,b3⟩:=hb;have b0:=Am b0;have b1:=Am b1;have b2:0<sz:=by simpa using b2
  have b3:=Am b3;subst b0 b1;split at h
  ·have hss:=QN hs (hf.ev x) h;clear h;obtain⟨ess,m,mo,h,q1,q2,qo,ad,p,q3,q4⟩:=hss;have hrunw:∀ v' w',(Builtin.append_ #[t,t] o.type #[a.eval s, .slice ad m p]).run P c.w = .ok v' w'->(execOp a.eval o).run P c.w = .ok (.value v') w':=by
    intro v' w' hr;simp [execOp,ho,resolve,invoke,builtin,q3,hr]
   split at h
   case h_2=>exact h.elim
   rename_i j n' hxs;split at h
   case h_1=>exact h.elim
   rw [hget_eq] at h;split at h
   case h_2=>exact h.elim
   rename_i rt sz' es mm hj;split at h
   case h_2=>exact h.elim
   rename_i hb;simp only [Ad] at hb;have c1:=Am hb.1;have c2:=Am hb.2;subst c1 c2;obtain⟨⟨hn1,hbd⟩,h⟩:=h;have h:=setK_iff h;have hv:=hf.ev s;rw [hxs] at hv;obtain⟨v',c',r1,r2,r3,r4⟩:=MF (ty:=o.type) hs (hT.get ht) rfl (hT.get het) rfl b2 b3 hj hn1 q1 qo q2 hbd hv q4;rw [hrunw _ _ r1];exact hn _ _ _ _ h r2 r3 r4 (fun e=>by cases e)
  have hss:=JK hs (hf.ev x) h;clear h;obtain⟨ess,m,h,q1,q2,ad,p,q3,q4⟩:=hss;have hrunw:∀ v' w',(Builtin.append_ #[t,t] o.type #[a.eval s, .slice ad m p]).run P c.w = .ok v' w'->(execOp a.eval o).run P c.w = .ok (.value v') w':=by
   intro v' w' hr;simp [execOp,ho,resolve,invoke,builtin,q3,hr]
  split at h
  ·rename_i j n' hxs;split at h
   case h_1=>exact h.elim
   rw [hget_eq] at h;split at h
   case h_2=>exact h.elim
   rename_i rt sz' es hj;split at h
   case h_2=>exact h.elim
   rename_i hb;simp only [Ad] at hb;have c1:=Am hb.1;have c2:=Am hb.2;subst c1 c2;obtain⟨⟨hn1,hbd⟩,h⟩:=h;have h:=setK_iff h;have hv:=hf.ev s;rw [hxs] at hv;obtain⟨v',c',r1,r2,r3,r4⟩:=O8 (ty:=o.type) hs (hT.get ht) rfl (hT.get het) rfl b2 b3 hj hn1 q1 q2 hbd hv q4;rw [hrunw _ _ r1];exact hn _ _ _ _ h r2 r3 r4 (fun e=>by cases e)
  ·rename_i hxs;obtain⟨hbd,h⟩:=h;have h:=snocK_iff h;rw [Au] at h;have hv:=hf.ev s;rw [hxs] at hv;simp only [Rd] at hv;rw [hv] at hrunw;obtain⟨i1,d1,z1',hp1⟩:=(hT.get ht).parts;obtain⟨i2,d2',z2,hp2⟩:=(hT.get het).parts;have htd:=hp1.td;obtain⟨e',rfl⟩:∃ e,d1 = .slice e:=by cases d1 <;> simp [Dw] at htd;exact⟨_,rfl⟩
   simp only [Dw,TD.slice.injEq] at htd;obtain⟨rfl,_⟩:=htd;have hfl:∀ (l:List (List AV)),(∀ e∈l,e.length=sz)->l.flatten.length=l.length*sz:=by
    intro l;induction l with
    | nil=>simp
    | cons x l ih=>intro h;rw [A8,Ah,ih fun e he=>h e (by simp [he]),h x (by simp),Ao,Bb];omega
   by_cases hm0:m=0
   ·subst hm0;have he0:ess=[]:=Bt q1;subst he0;have hrun:(Builtin.append_ #[t,t] o.type #[.slice none 0 0, .slice ad 0 p]).run P c.w = .ok (.slice none 0 0) c.w:=by
     cases ad <;> simp [Builtin.append_,run_underlying hp1.und,sizeOf,typeInfo,hp2.info,Builtin.lenOf,Builtin.firstCells,loadCells,loadCellsFrom]
    rw [hrunw _ _ hrun];have hrow:=hs.newrow (Below.refl _ _) (t:=e') (es:= []) (v:= .slice none 0 0) (xs:= []) b2 (by simp) (World.ownsRow_nil _ _ _ _) (by simp) (by simp [RdL]);exact hn _ _ (c.new c.w (.slice none 0 0) 0) _ h hrow.1 hrow.2.1 hrow.2.2 (fun _=>zy _)
   ·obtain⟨b,off,ys,rfl,r1,r2,r3⟩:=q4.resolve_left hm0;have hyl:ys.length=m*sz:=by rw [r1.length,hfl ess q2,q1]
    have hbytes:(0+m)*i2.bytes<=1000000000*1000:=C_ (by omega) hp2.bytes;have hzs:z2.cells.size=sz:=by rw [<-b3,show z=_ from hp2.zc.symm];simp
    obtain⟨v',w',hrun,ho',hgr,_,hat⟩:=run_append_own_at (P:=P) c.w c.w.heap.size t o.type e' i2 z2 sz i2.bytes hp1.und hp2.info hp2.zero hp2.size rfl hzs b2
     (.slice none 0 0) 0 [] (World.ownsRow_nil _ _ _ _) ⟨b,off,none⟩ m p ys hyl (fun i u hu=>by rw [Addr.add_lit];exact r3 i u hu) r2 (by unfold maxLen;omega) (by omega) (Ag _)
    rw [Au,Bk] at ho';rw [hrunw _ _ hrun];have hB:Below c.w.heap.size c.w w':=⟨hgr.os,hgr.tape,hgr.output,hgr.size,fun k hk=>hgr.block k hk (by simp [Value.ownBlock])⟩;have hE:Ext c (c.new w' v' ess.length):=Ext.new hB fun g hg=>by
     rcases ho'.2 with ⟨e,_⟩ | ⟨g',cap,cur,e,hbg,_⟩
     ·rw [e] at hg;simp [oB] at hg
     ·rw [e] at hg;simp [oB] at hg;omega
    subst q1;have hrow:=hs.newrow hB (t:=e') (es:=ess) (v:=v') (xs:=ys) b2 q2 ho' r2 (RdL.ext _ hE.closed r1);exact hn _ _ _ _ h hrow.1 hrow.2.1 hrow.2.2 (fun _=>hB.old)
  ·exact h.elim
 ·rename_i f args ts ho;split at h
  ·rename_i g hg;have h:=Le h;have hgv:=hf.ev f;rw [hg] at hgv;simp only [Rd] at hgv;obtain⟨⟨fn,f1,f2,f3⟩,h⟩:=h;have hargs:RdL (args.toList.map (ev fr)) c (args.toList.map a.eval):=by
    generalize args.toList=l;induction l with
    | nil=>simp [RdL]
    | cons x l ih=>simp only [A5,RdL];exact⟨_,_,rfl,hf.ev x,ih⟩
   have hc:=h w0 M0 c _ hs hargs;have hrun:(execOp a.eval o).run P c.w = .ok (.enter g (args.toList.map a.eval).toArray) c.w:=by
    have hm:args.map a.eval=(args.toList.map a.eval).toArray:=Array.ext' (by simp);have f3' : ¬ fn.name = "runtime.NumGoroutine" := by simpa using f3
    have f2':¬fn.body=none:=by intro e;rw [e] at f2;simp at f2
    rw [<-hm];simp [execOp,ho,resolve,hgv,Deferred.ofValue,invoke,callFunc,f1,f2',f3']
   rw [hrun,Oper.upon_enter];refine hc.mono ?_;rintro e w' ⟨v,c',r,H',rfl,rfl,h1,h2,h3,h4,h5⟩;exact hn _ _ _ _ h1 h2 h3 h4 h5
  ·rename_i g cs hg;have h:=Le h;have hgv:=hf.ev f;rw [hg] at hgv;simp only [Rd] at hgv;obtain⟨zs,hgv,hzs⟩:=hgv;obtain⟨⟨fn,f1,f2,f3⟩,h⟩:=h;have hargs:RdL (args.toList.map (ev fr)) c (args.toList.map a.eval):=by
    generalize args.toList=l;induction l with
    | nil=>simp [RdL]
    | cons x l ih=>simp only [A5,RdL];exact⟨_,_,rfl,hf.ev x,ih⟩
   have hc:=h w0 M0 c _ hs (hargs.append hzs);have hrun:(execOp a.eval o).run P c.w = .ok (.enter g (args.toList.map a.eval ++ zs).toArray) c.w:=by
    have hm:args.map a.eval ++ zs.toArray=(args.toList.map a.eval ++ zs).toArray:=Array.ext' (by simp);have f3' : ¬ fn.name = "runtime.NumGoroutine" := by simpa using f3
    have f2':¬fn.body=none:=by intro e;rw [e] at f2;simp at f2
    rw [<-hm];simp [execOp,ho,resolve,hgv,Deferred.ofValue,invoke,callFunc,f1,f2',f3']
   rw [hrun,Oper.upon_enter];refine hc.mono ?_;rintro e w' ⟨v,c',r,H',rfl,rfl,h1,h2,h3,h4,h5⟩;exact hn _ _ _ _ h1 h2 h3 h4 h5
  ·exact h.elim
 ·rename_i f0 cl ho;split at h
  ·rename_i g;have h:=Le h;have hargs:RdL (cl.toList.map (ev fr)) c (cl.toList.map a.eval):=by
    generalize cl.toList=l;induction l with
    | nil=>simp [RdL]
    | cons x l ih=>simp only [A5,RdL];exact⟨_,_,rfl,hf.ev x,ih⟩
   obtain⟨l',H2,c2,r1,r2,r3,r4,r5⟩:=capK_sound hs hargs h;have hrun:(execOp a.eval o).run P c.w = .ok (.value (.func (.func g) #[] (cl.toList.map a.eval).toArray)) c2.w:=by
    have hm:cl.map a.eval=(cl.toList.map a.eval).toArray:=Array.ext' (by simp);rw [<-hm,r2];simp [execOp,ho,Instr.makeFunc]
   rw [hrun];exact hn _ _ _ _ r1 r3 r4 (by simp only [Rd];exact⟨_,rfl,r5⟩) (fun _=>by rw [r2];exact zy _)
  ·exact h.elim
 ·rename_i t ln cp ho;split at h
  ·rename_i s1 g1 z1 et esz ht;split at h
   ·rename_i sz g2 z d2 het;split at h
    ·rename_i hb0;simp only [Ad,Nat.beq_eq,Du] at hb0;obtain⟨⟨⟨rfl,b2⟩,b3⟩,b4⟩:=hb0;obtain⟨jl,n,hle,h⟩:=DA (hf.ev ln) h;obtain⟨jc,m,hce,⟨rfl,h0,h1⟩,h⟩:=DA (hf.ev cp) h;obtain⟨N,rfl⟩:∃ N:Nat,n=N:=⟨n.toNat,by omega⟩;rw [Ac] at h;have h:=snocK_iff h;rw [Au] at h;obtain⟨i1,d,z1',hp1⟩:=(hT.get ht).parts;obtain⟨i2,d2',z2,hp2⟩:=(hT.get het).parts;have htd:=hp1.td;obtain⟨e',rfl⟩:∃ e,d = .slice e:=by cases d <;> simp [Dw] at htd;exact⟨_,rfl⟩
     simp only [Dw,TD.slice.injEq] at htd;obtain⟨rfl,_⟩:=htd;have hby:i2.bytes*N<=1000*1000000000:=C_ hp2.bytes (by omega);obtain⟨w',hrun,ho',hgr⟩:=run_make_full (P:=P) c.w c.w.heap.size t e' i2 z2 sz hp1.und hp2.info hp2.zero hp2.size jl jc N (by omega) (by unfold maxLen;omega) (Ag _);have hzc:z2.cells.toList=z:=hp2.zc;have hz2:z2.cells.size=sz:=by rw [<-b3,<-hzc];simp
     have hxs:(madeCells z2.cells (N*sz)).toList=(List.replicate N z).flatten:=by
      have:=Yr (z:=z2.cells) (by omega) N;rw [hz2] at this;rw [<-hzc];simp only [madeCells,hz2];exact this
     rw [hxs] at ho';have hB:Below c.w.heap.size c.w w':=⟨hgr.os,hgr.tape,hgr.output,hgr.size,fun k hk=>hgr.block k hk (by simp)⟩;have hrl:∀ (c:Ctx) (N:Nat),RdL (List.replicate N (z.map AV.v)).flatten c (List.replicate N z).flatten:=by
      intro c N;induction N with
      | zero=>simp [RdL]
      | succ N ih=>rw [CM,CM,A8,A8];exact(I_ z).append ih
     have hlen:(List.replicate N (z.map AV.v)).length=N:=by simp
     have hrow:=hs.newrow hB (t:=e') (es:=List.replicate N (z.map AV.v)) (v:= .slice (some ⟨c.w.heap.size,0,none⟩) N N) (xs:=(List.replicate N z).flatten) b2 (fun e he=>by rw [AY he];simpa using b3) (by rw [hlen];exact ho') (fun u hu=>by
      obtain⟨l,hl,hu⟩:=BP.1 hu;rw [AY hl] at hu;exact Av.1 b4 u hu) (hrl _ N)
     rw [hlen] at hrow;have hrun':(execOp a.eval o).run P c.w = .ok (.value (.slice (some ⟨c.w.heap.size,0,none⟩) N N)) w':=by
      simp [execOp,ho,hle,hce,hrun]
     rw [hrun'];exact hn _ _ _ _ h hrow.1 hrow.2.1 hrow.2.2 (fun _=>hB.old)
    ·exact h.elim
   ·exact h.elim
  ·exact h.elim
 ·rename_i t x ho;split at h
  ·rename_i ht;obtain⟨i1,d,z,hp⟩:=(hT.get ht).parts;have htd:=hp.td;obtain rfl:d = .string:=by cases d <;> simp [Dw] at htd;rfl
   have hr:=hf.ev x;split at h
   ·rename_i s hx;rw [hx] at hr;simp only [Rd] at hr;have h:=snocK_iff h;rw [Au] at h;have hB:Below c.w.heap.size c.w (c.w.iter s 0):=(Below.refl c.w.heap.size c.w).alloc (Ag _) _;have hp2:=hs.push hB (v:= .pointer (some ⟨c.w.heap.size,0,none⟩)) (n:=0) (x:= .iter s 0) (fun g hg=>by
     simp only [oB,Option.some.injEq] at hg;subst hg;exact⟨Ag _,by simp [World.iter]⟩) ⟨c.w.heap.size,by simp [Ctx.new],World.iter_heap c.w s 0⟩
    have hrun:(execOp a.eval o).run P c.w = .ok (.value (.pointer (some ⟨c.w.heap.size,0,none⟩))) (c.w.iter s 0):=by
     simp [execOp,ho,hr,run_range_string c.w t s hp.und]
    rw [hrun];refine hn _ _ _ _ h hp2.1 hp2.2 ?_ (fun _=>hB.old);simp only [Rd];rw [<-hs.dom];exact⟨by simp [Ctx.new],c.w.heap.size,by simp [Ctx.new],rfl⟩
   ·exact h.elim
  ·exact h.elim
 ·rename_i x b ho;split at h
  ·split at h
   ·exact h.elim
   ·have hr:=hf.ev x;split at h
    ·rename_i j off hx;rw [hx] at hr;split at h
     ·rename_i hoff;have:=Am hoff;subst this;rw [hget_eq] at h;split at h
      ·rename_i s pos hj;obtain⟨h1,h2⟩:=E0 h;obtain⟨g,q1,q2⟩:=hs.blk j _ hj;simp only [Rd] at hr;obtain⟨_,g',q3,q4⟩:=hr;rw [q1] at q3;simp only [Value.pointer.injEq,Option.some.injEq,Addr.mk.injEq,and_true] at q3;subst q3;by_cases hps:pos<s.size
       ·have h:=setK_iff (h1 (by simpa using hps));let w':World:={ c.w with heap:=c.w.heap.setIfInBounds g (.stringIter s (pos+(Utf8.decode s pos).2)) };have hglt:g<c.w.heap.size:=hs.sub hj rfl (by rw [q1];try rfl);have hset:=hs.set_ (y:= .iter s (pos+(Utf8.decode s pos).2)) hj rfl rfl (g:=g) (by rw [q1];try rfl) (w':=w') (fun b hb=>by simp only [w'];rw [Array.getElem?_setIfInBounds_ne (Ne.symm hb)]) (by simp [w']) rfl rfl rfl ⟨g,q1,by simp only [w'];rw [C7 hglt]⟩;have hrun:(execOp a.eval o).run P c.w = .ok (.value (.tuple #[.bool true, .int .i64 pos, .int .i32 (Utf8.decode s pos).1])) w':=by
         simp [execOp,ho,q4,Instr.next,getObj,setObj,Sem.run,q2,hps,goInt,w']
        rw [hrun];refine hn _ _ _ _ h hset.1 hset.2 ?_ (fun e=>by cases e);simp only [Rd,RdL];exact⟨_,rfl,_,_,rfl,rfl,_,_,rfl,rfl,_,_,rfl,rfl,rfl⟩
       ·have h:=h2 (by simpa using hps);have hrun:(execOp a.eval o).run P c.w = .ok (.value (.tuple #[.bool false])) c.w:=by
         simp [execOp,ho,q4,Instr.next,getObj,Sem.run,q2,hps]
        rw [hrun];refine hn _ _ _ _ h hs (zM _) ?_ (fun e=>by cases e);simp only [Rd,RdL];exact⟨_,rfl,_,_,rfl,rfl,rfl⟩
      ·exact h.elim
     ·exact h.elim
    ·exact h.elim
  ·exact h.elim
 ·exact h.elim
mutual
def AV.ren (f:Nat->Nat):AV->AV
 | .ow k n=> .ow (f k) n
 | .bp k o=> .bp (f k) o
 | .ep k n i sz off=> .ep (f k) n i sz off
 | .ag l=> .ag (AV.renL f l)
 | .tp l=> .tp (AV.renL f l)
 | .fn p l=> .fn p (AV.renL f l)
 | .ic p l=> .ic p (AV.renL f l)
 | .top=> .top
 | .v x=> .v x
 | .sl sz n get=> .sl sz n get
 | .rp cs=> .rp cs
def AV.renL (f:Nat->Nat):List AV->List AV
 | []=> []
 | x::l=>x.ren f::AV.renL f l
end
def Zh (f:Nat->Nat):Nat->Nat
 | 0=>0
 | n+1=>max (Zh f n) (f n+1)
theorem NU {f:Nat->Nat}:∀ {n k:Nat},k<n->f k<Zh f n
 | n+1,k,h=>by
  simp only [Zh];by_cases e:k=n
  ·subst e;omega
  ·have:=NU (f:=f) (n:=n) (k:=k) (by omega);omega
mutual
theorem AV.ren_lt {f:Nat->Nat} {m:Nat}:∀ (x:AV),x.lt m=true->(x.ren f).lt (Zh f m)=true
 | .top,_=>rfl
 | .v _,_=>rfl
 | .sl _ _ _,_=>rfl
 | .rp _,_=>rfl
 | .bp k _,h=>by simp only [AV.ren,AV.lt,Du] at h |-;exact NU h
 | .ow k _,h=>by simp only [AV.ren,AV.lt,Du] at h |-;exact NU h
 | .ep k _ _ _ _,h=>by simp only [AV.ren,AV.lt,Du] at h |-;exact NU h
 | .ag cs,h=>by simp only [AV.ren,AV.lt] at h |-;exact AV.renL_lt cs h
 | .tp cs,h=>by simp only [AV.ren,AV.lt] at h |-;exact AV.renL_lt cs h
 | .fn _ cs,h=>by simp only [AV.ren,AV.lt] at h |-;exact AV.renL_lt cs h
 | .ic _ cs,h=>by simp only [AV.ren,AV.lt] at h |-;exact AV.renL_lt cs h
theorem AV.renL_lt {f:Nat->Nat} {m:Nat}:∀ (l:List AV),AV.ltL l m=true->AV.ltL (AV.renL f l) (Zh f m)=true
 | [],_=>rfl
 | x::l,h=>by
  simp only [AV.renL,AV.ltL,Ad] at h |-
  exact⟨AV.ren_lt x h.1,AV.renL_lt l h.2⟩
end
theorem AV.renL_app (f:Nat->Nat):∀ (a b:List AV),AV.renL f (a ++ b)=AV.renL f a ++ AV.renL f b
 | [],_=>rfl
 | x::a,b=>by simp [AV.renL,AV.renL_app f a b]
theorem AV.renL_flat (f:Nat->Nat):∀ (l:List (List AV)),(l.map (AV.renL f)).flatten=AV.renL f l.flatten
 | []=>rfl
 | x::l=>by simp only [A5,A8,AV.renL_app,AV.renL_flat f l]
def zj:=@AV.renL_flat
theorem AV.renL_len (f:Nat->Nat):∀ (l:List AV),(AV.renL f l).length=l.length
 | []=>rfl
 | x::l=>by simp [AV.renL,AV.renL_len f l]
def AB.ren (f:Nat->Nat):AB->AB
 | .box t cs=> .box t (AV.renL f cs)
 | .row t sz es=> .row t sz es
 | .iter s pos=> .iter s pos
 | .dead=> .dead
 | .rowo t sz es m=> .rowo t sz (es.map (AV.renL f)) (Zh f m)
theorem AB.ren_live (f:Nat->Nat) (x:AB):(x.ren f).live=x.live:=by cases x <;> rfl

def zv:=@AB.ren_live
mutual
theorem Rd.ren {f:Nat->Nat} {c c':Ctx} (hf:∀ k,k<c.dom->f k<c'.dom/\c'.rho (f k)=c.rho k/\c'.len (f k)=c.len k) (e:Ext c.closed c'.closed):∀ (x:AV) {u:Value},Rd x c u->Rd (x.ren f) c' u
 | .top,_,_=>by simp [AV.ren,Rd]
 | .v _,_,h=>by simpa [AV.ren,Rd] using h
 | .sl sz n get,u,h=>by
  simp only [AV.ren,Rd] at h |-
  obtain⟨a,k,rfl,h1,h2,h3⟩:=h;refine⟨a,k,rfl,h1,h2,h3.imp id ?_⟩;rintro⟨b,off,rfl,hm,hb,hc⟩;exact⟨b,off,rfl,(e.keep b hb hm).1,As hb e.size,fun i hi=>⟨(hc i hi).1,RdAt.ext (get i) e hb hm (hc i hi).2⟩⟩
 | .rp cs,u,h=>by
  simp only [AV.ren,Rd] at h |-
  obtain⟨b,off,rfl,hm,hb,hc⟩:=h;exact⟨b,off,rfl,(e.keep b hb hm).1,As hb e.size,RdAt.ext cs e hb hm hc⟩
 | .bp k off,u,h=>by
  simp only [AV.ren,Rd] at h |-
  obtain⟨h1,g,h2,h3⟩:=h;obtain⟨q1,q2,q3⟩:=hf k h1;exact⟨q1,g,by rw [q2];exact h2,h3⟩
 | .ow k n,u,h=>by
  simp only [AV.ren,Rd] at h |-
  obtain⟨h1,h2,h3,h4⟩:=h;obtain⟨q1,q2,q3⟩:=hf k h1;rw [q2,q3];exact⟨q1,h2,h3,h4⟩
 | .ep k n i sz off,u,h=>by
  simp only [AV.ren,Rd] at h |-
  obtain⟨h1,h2,h3⟩:=h;obtain⟨q1,q2,q3⟩:=hf k h1;rw [q2,q3];exact⟨q1,h2,h3⟩
 | .ag l,u,h=>by
  simp only [AV.ren,Rd] at h |-
  obtain⟨xs,rfl,h1⟩:=h;exact⟨xs,rfl,RdL.ren hf e l h1⟩
 | .tp l,u,h=>by
  simp only [AV.ren,Rd] at h |-
  obtain⟨xs,rfl,h1⟩:=h;exact⟨xs,rfl,RdL.ren hf e l h1⟩
 | .fn p l,u,h=>by
  simp only [AV.ren,Rd] at h |-
  obtain⟨xs,rfl,h1⟩:=h;exact⟨xs,rfl,RdL.ren hf e l h1⟩
 | .ic p l,u,h=>by
  simp only [AV.ren,Rd] at h |-
  obtain⟨xs,rfl,h1⟩:=h;exact⟨xs,rfl,RdL.ren hf e l h1⟩
theorem RdL.ren {f:Nat->Nat} {c c':Ctx} (hf:∀ k,k<c.dom->f k<c'.dom/\c'.rho (f k)=c.rho k/\c'.len (f k)=c.len k) (e:Ext c.closed c'.closed):∀ (l:List AV) {us:List Value},RdL l c us->RdL (AV.renL f l) c' us
 | [],_,h=>by simp only [AV.renL,RdL] at h |-;exact h
 | x::l,us,h=>by
  simp only [AV.renL,RdL] at h |-
  obtain⟨u,us,rfl,h1,h2⟩:=h;exact⟨u,us,rfl,Rd.ren hf e x h1,RdL.ren hf e l h2⟩
end
mutual
theorem Rd.unren {f:Nat->Nat} {c c':Ctx} (hf:∀ k,k<c'.dom->c'.rho k=c.rho (f k)/\c'.len k=c.len (f k)) (e:Ext c.closed c'.closed):∀ (x:AV) {u:Value},x.lt c'.dom=true->Rd (x.ren f) c u->Rd x c' u
 | .top,_,_,_=>by simp [Rd]
 | .v _,_,_,h=>by simpa [AV.ren,Rd] using h
 | .sl sz n get,u,_,h=>by
  simp only [AV.ren,Rd] at h |-
  obtain⟨a,k,rfl,h1,h2,h3⟩:=h;refine⟨a,k,rfl,h1,h2,h3.imp id ?_⟩;rintro⟨b,off,rfl,hm,hb,hc⟩;exact⟨b,off,rfl,(e.keep b hb hm).1,As hb e.size,fun i hi=>⟨(hc i hi).1,RdAt.ext (get i) e hb hm (hc i hi).2⟩⟩
 | .rp cs,u,_,h=>by
  simp only [AV.ren,Rd] at h |-
  obtain⟨b,off,rfl,hm,hb,hc⟩:=h;exact⟨b,off,rfl,(e.keep b hb hm).1,As hb e.size,RdAt.ext cs e hb hm hc⟩
 | .bp k off,u,hl,h=>by
  simp only [AV.lt,Du] at hl;simp only [AV.ren,Rd] at h |-
  obtain⟨h1,g,h2,h3⟩:=h;obtain⟨q2,q3⟩:=hf k hl;exact⟨hl,g,by rw [q2];exact h2,h3⟩
 | .ow k n,u,hl,h=>by
  simp only [AV.lt,Du] at hl;simp only [AV.ren,Rd] at h |-
  obtain⟨h1,h2,h3,h4⟩:=h;obtain⟨q2,q3⟩:=hf k hl;rw [q2,q3];exact⟨hl,h2,h3,h4⟩
 | .ep k n i sz off,u,hl,h=>by
  simp only [AV.lt,Du] at hl;simp only [AV.ren,Rd] at h |-
  obtain⟨h1,h2,h3⟩:=h;obtain⟨q2,q3⟩:=hf k hl;rw [q2,q3];exact⟨hl,h2,h3⟩
 | .ag l,u,hl,h=>by
  simp only [AV.lt] at hl;simp only [AV.ren,Rd] at h |-
  obtain⟨xs,rfl,h1⟩:=h;exact⟨xs,rfl,RdL.unren hf e l hl h1⟩
 | .tp l,u,hl,h=>by
  simp only [AV.lt] at hl;simp only [AV.ren,Rd] at h |-
  obtain⟨xs,rfl,h1⟩:=h;exact⟨xs,rfl,RdL.unren hf e l hl h1⟩
 | .fn p l,u,hl,h=>by
  simp only [AV.lt] at hl;simp only [AV.ren,Rd] at h |-
  obtain⟨xs,rfl,h1⟩:=h;exact⟨xs,rfl,RdL.unren hf e l hl h1⟩
 | .ic p l,u,hl,h=>by
  simp only [AV.lt] at hl;simp only [AV.ren,Rd] at h |-
  obtain⟨xs,rfl,h1⟩:=h;exact⟨xs,rfl,RdL.unren hf e l hl h1⟩
theorem RdL.unren {f:Nat->Nat} {c c':Ctx} (hf:∀ k,k<c'.dom->c'.rho k=c.rho (f k)/\c'.len k=c.len (f k)) (e:Ext c.closed c'.closed):∀ (l:List AV) {us:List Value},AV.ltL l c'.dom=true->RdL (AV.renL f l) c us->RdL l c' us
 | [],_,_,h=>by simp only [AV.renL,RdL] at h |-;exact h
 | x::l,us,hl,h=>by
  simp only [AV.ltL,Ad] at hl;simp only [AV.renL,RdL] at h |-
  obtain⟨u,us,rfl,h1,h2⟩:=h;exact⟨u,us,rfl,Rd.unren hf e x hl.1 h1,RdL.unren hf e l hl.2 h2⟩
end
inductive EX where
 | normal
 | exit (id:Nat)
 | ret
abbrev QA:=EX->Fr->List AB->Prop

def isEff:Op->Bool
 | .alloc _ | .box _ _ | .store _ _ _ | .buildSlice _ _ _ | .makeSlice _ _ _ | .range _ _ | .next _ _=>true
 | .makeFunc _ _ ⟨_::_⟩=>true
 | .call ⟨.builtin .append,_,_⟩=>true
 | .call ⟨.value _,_,_⟩=>true
 | _=>false
def NV (n:Nat) (d:Option Nat) (r:AV) (fr:Fr) (K:Fr->Prop):Prop:=
 match d with
 | none=>K fr
 | some d=>match Nat.blt d n with | true=>K ((d,r)::fr) | false=>False
def Hf (P:Program) (T:Tys) (n:Nat) (q:Bool) (o:Oper) (fr:Fr) (H:List AB) (K:Fr->List AB->Prop):Prop:=
 match isEff o.op with
 | false=>ab T o.op (ev fr) H fun r=>NV n o.dst r fr fun fr=>K fr H
 | true=>Z_ P T q o.op (ev fr) H fun r H=>NV n o.dst r fr fun fr=>K fr H
def IN (ops:List Oper) (o:Oper) (fr:Fr) (run skip:Fr->Prop):Prop:=
 match o.guard with
 | none=>run fr
 | some (j,want)=>match IJ ops j with
  | some oj=>match oj.dst with
   | some d=>match fget fr d with
    | .v (.bool t)=>match want with
     | true=>KF t (run ((d, .v (.bool true))::fr)) (skip ((d, .v (.bool false))::fr))
     | false=>KF t (skip ((d, .v (.bool true))::fr)) (run ((d, .v (.bool false))::fr))
    | .v (.tuple _)=>skip fr
    | _=>False
   | none=>False
  | none=>False
def NY (P:Program) (T:Tys) (n:Nat) (ops:List Oper):List Oper->Fr->List AB->(Fr->List AB->Prop)->Prop
 | [],fr,H,K=>K fr H
 | o::r,fr,H,K=>IN ops o fr (fun fr=>Hf P T n false o fr H fun fr H=>NY P T n ops r fr H K) fun fr=>NV n o.dst (.v undef) fr fun fr=>NY P T n ops r fr H K
def wkF:Fr->Fr->Prop
 | [],_=>True
 | (i,x)::r,fr=>fget fr i=x/\wkF r fr
def wkH:List AB->List AB->Prop
 | [],_=>True
 | .dead::r,_::s=>wkH r s
 | x::r,y::s=>x=y/\wkH r s
 | _::_, []=>False
def Yc (n:Nat):Fr->Bool
 | []=>true
 | (_,x)::r=>x.lt n&&Yc n r
def Oa (n:Nat):List AB->Bool
 | []=>true
 | .box _ cs::r=>AV.ltL cs n&&Oa n r
 | .rowo _ _ _ m::r=>Nat.ble m n&&Oa n r
 | _::r=>Oa n r
def cellAt:List AB->Nat->Nat->Option AV
 | .box _ cs::_,0,j=>IJ cs j
 | _::r,k+1,j=>cellAt r k j
 | _,_,_=>none
def lset:List AV->Nat->AV->List AV
 | _::r,0,y=>y::r
 | x::r,j+1,y=>x::lset r j y
 | [],_,_=> []
def setCellK:List AB->Nat->Nat->AV->List AB
 | .box t cs::r,0,j,x=> .box t (lset cs j x)::r
 | y::r,0,_,_=>y::r
 | y::r,k+1,j,x=>y::setCellK r k j x
 | [],_,_,_=> []
def gF:List (Nat × Nat × Nat)->Fr->Nat->Fr
 | [],fr,_=>fr
 | (s,_,_)::r,fr,n=>gF r (match Nat.blt s 1000000 with | true=>(s, .ow n 0)::fr | false=>fr) (n+1)
def gH:List (Nat × Nat × Nat)->List AB->List AB
 | [],H=>H
 | (s,t,sz)::r,H=>gH r ((match Nat.blt s 1000000 with | true=>H | false=>setCellK H ((s - 1000000) / 1000) ((s - 1000000) % 1000) (.ow H.length 0)) ++ [.row t sz []])
def gOk:List (Nat × Nat × Nat)->Fr->List AB->Prop
 | [],_,_=>True
 | (s,t,sz)::r,fr,H=>(match Nat.blt s 1000000 with | true=>fget fr s = .v (.slice none 0 0) | false=>cellAt H ((s - 1000000) / 1000) ((s - 1000000) % 1000)=some (.v (.slice none 0 0)))/\Nat.blt 0 sz=true/\
  gOk r (match Nat.blt s 1000000 with | true=>(s, .ow H.length 0)::fr | false=>fr) ((match Nat.blt s 1000000 with | true=>H | false=>setCellK H ((s - 1000000) / 1000) ((s - 1000000) % 1000) (.ow H.length 0)) ++ [.row t sz []])
structure WkG (gs:List (Nat × Nat × Nat)) (d0:Nat) (fr:Fr) (H:List AB) (fr2:Fr) (H2:List AB):Prop where
 g:gOk gs fr H
 f:wkF fr2 (gF gs fr H.length)
 h:wkH H2 (gH gs H)
 nf:Yc H2.length fr2=true
 nh:Oa H2.length H2=true
 d:Nat.ble d0 H2.length=true
def Wk (d0:Nat) (fr:Fr) (H:List AB) (fr2:Fr) (H2:List AB):Prop:=∃ gs,WkG gs d0 fr H fr2 H2
theorem Wk.plain {d0:Nat} {fr:Fr} {H:List AB} {fr2:Fr} {H2:List AB} (h1:wkF fr2 fr) (h2:wkH H2 H) (h3:Yc H2.length fr2=true) (h4:Oa H2.length H2=true) (h5:Nat.ble d0 H2.length=true):Wk d0 fr H fr2 H2:=⟨[],tv,h1,h2,h3,h4,h5⟩
def ConvH (H H':List AB):Prop:=∀ (w0:Fl) (M0:Ms) (c:Ctx),HS w0 M0 c H->∃ c',c'.w=c.w/\HS w0 M0 c' H'/\Ext c c'
theorem ConvH.refl (H:List AB):ConvH H H:=fun _ _ c h=>⟨c,rfl,h,zM c⟩
def zE:=@ConvH.refl
theorem ConvH.trans {H H1 H2:List AB} (h:ConvH H H1) (k:ConvH H1 H2):ConvH H H2:=fun w0 M0 c hs=>by
 obtain⟨c1,e1,s1,x1⟩:=h w0 M0 c hs;obtain⟨c2,e2,s2,x2⟩:=k w0 M0 c1 s1;exact⟨c2,e2.trans e1,s2,x1.trans x2⟩
def zC:=@ConvH.trans
def wkO:List AB->List AB->Prop
 | [],_=>True
 | .dead::r,_::s=>wkO r s
 | .rowo t sz es m::r,y::s=>match y with
  | .row t' sz' es'=>((t=t'/\sz=sz')/\es=es')/\wkO r s
  | y=> .rowo t sz es m=y/\wkO r s
 | x::r,y::s=>x=y/\wkO r s
 | _::_, []=>False
theorem wkH_o:∀ {H2 H:List AB},wkH H2 H->wkO H2 H
 | [],_,_=>trivial
 | x::r, [],h=>by cases x <;> simp [wkH] at h
 | x::r,y::s,h=>by
  cases x with
  | dead=>simp only [wkH] at h;exact(wkH_o (H2:=r) (H:=s) h:wkO r s)
  | rowo t sz es m=>simp only [wkH] at h;obtain⟨rfl,h⟩:=h;exact⟨rfl,wkH_o h⟩
  | box t cs=>simp only [wkH] at h;exact⟨h.1,wkH_o h.2⟩
  | row t sz es=>simp only [wkH] at h;exact⟨h.1,wkH_o h.2⟩
  | iter a b=>simp only [wkH] at h;exact⟨h.1,wkH_o h.2⟩
structure WkGC (gs:List (Nat × Nat × Nat)) (d0:Nat) (fr:Fr) (H:List AB) (fr2:Fr) (H2:List AB):Prop where
 g:gOk gs fr H
 f:wkF fr2 (gF gs fr H.length)
 h:wkO H2 (gH gs H)
 nf:Yc H2.length fr2=true
 nh:Oa H2.length H2=true
 d:Nat.ble d0 H2.length=true
def WkC (d0:Nat) (fr:Fr) (H:List AB) (fr2:Fr) (H2:List AB):Prop:=∃ Hc,ConvH H Hc/\∃ gs,WkGC gs d0 fr Hc fr2 H2
theorem Wk.conv {d0:Nat} {fr:Fr} {H:List AB} {fr2:Fr} {H2:List AB} (h:Wk d0 fr H fr2 H2):WkC d0 fr H fr2 H2:=by
 obtain⟨gs,h1,h2,h3,h4,h5,h6⟩:=h;exact⟨H,zE H,gs,h1,h2,wkH_o h3,h4,h5,h6⟩
def zL:=@Wk.conv
theorem wkO_conv:∀ {H2 H P:List AB},wkO H2 H->∃ H1,ConvH (P ++ H) (P ++ H1)/\wkH H2 H1/\H1.length=H.length
 | [],H,P,_=>⟨H,zE _,tv,rfl⟩
 | x::r, [],P,h=>by cases x <;> simp [wkO] at h
 | x::r,y::s,P,h=>by
  have step:∀ y',wkO r s->ConvH (P ++ y::s) (P ++ y'::s)->(∀ H1,wkH r H1->wkH (x::r) (y'::H1))->∃ H1,ConvH (P ++ y::s) (P ++ H1)/\wkH (x::r) H1/\H1.length=(y::s).length:=by
   intro y' h1 h2 h3;obtain⟨H1,q1,q2,q3⟩:=wkO_conv (P:=P ++ [y']) h1;simp only [AA,Bj,Bk] at q1;exact⟨y'::H1,h2.trans q1,h3 H1 q2,by simp [q3]⟩
  cases x with
  | dead=>simp only [wkO] at h;exact step y h (zE _) fun H1 q=>q
  | box t cs=>simp only [wkO] at h;exact step y h.2 (zE _) fun H1 q=>⟨h.1,q⟩
  | row t sz es=>simp only [wkO] at h;exact step y h.2 (zE _) fun H1 q=>⟨h.1,q⟩
  | iter a b=>simp only [wkO] at h;exact step y h.2 (zE _) fun H1 q=>⟨h.1,q⟩
  | rowo t sz es m=>
   cases y with
   | row t' sz' es'=>
    simp only [wkO] at h;obtain⟨⟨⟨rfl,rfl⟩,rfl⟩,h⟩:=h;refine step (.rowo t sz es m) h (fun w0 M0 c hs=>?_) fun H1 q=>⟨rfl,q⟩
    have hk:(P ++ .row t sz es::s)[P.length]? = some (.row t sz es):=by simp
    have:=hs.recell (y:= .rowo t sz es m) hk rfl fun⟨h1,h2,h3,xs,h4,h5,h6⟩=>⟨h1,h2,h3,CP.2 fun z hz=>AV.lt_mono z (Aj _) (CP.1 (RdL.lt_dom _ h5) z hz),xs,h4,RdL.ext _ (zA c) h5,h6⟩
    rw [show (P ++ .row t sz es::s).set P.length (.rowo t sz es m)=P ++ .rowo t sz es m::s by simp] at this;exact⟨c,rfl,this,zM c⟩
   | dead=>simp only [wkO] at h;exact step _ h.2 (zE _) fun H1 q=>⟨h.1,q⟩
   | box a b=>simp only [wkO] at h;exact step _ h.2 (zE _) fun H1 q=>⟨h.1,q⟩
   | iter a b=>simp only [wkO] at h;exact step _ h.2 (zE _) fun H1 q=>⟨h.1,q⟩
   | rowo a b c d=>simp only [wkO] at h;exact step _ h.2 (zE _) fun H1 q=>⟨h.1,q⟩
def KN (s:List Nat) (k:Nat):Nat:=s.getD k 0
def Yw (s:List Nat):Fr->Fr->Prop
 | [],_=>True
 | (i,x)::r,fr=>fget fr i=x.ren (KN s)/\Yw s r fr
def Yv (s:List Nat) (H:List AB):List Nat->List AB->Prop
 | _, []=>True
 | [],_::_=>False
 | i::t,x::r=>(match x with
  | .dead=>True
  | .rowo t' sz es m=>AV.ltL es.flatten m=true/\∃ m',hget H i=some (.rowo t' sz (es.map (AV.renL (KN s))) m')
  | .box t' cs=>hget H i=some (.box t' (AV.renL (KN s) cs))
  | y=>hget H i=some y)/\Yv s H t r
structure WkN (s:List Nat) (d0:Nat) (fr:Fr) (H:List AB) (fr2:Fr) (H2:List AB):Prop where
 f:Yw s fr2 fr
 h:Yv s H s H2
 l:Nat.beq s.length H2.length=true
 low:(List.range d0).all (fun k=>Nat.blt k s.length&&Nat.beq (KN s k) k)=true
 inj:decide s.Nodup=true
 nf:Yc H2.length fr2=true
 nh:Oa H2.length H2=true
def ConvF (fr:Fr) (H:List AB) (fr':Fr) (H':List AB):Prop:=∀ (w0:Fl) (M0:Ms) (c:Ctx) (n:Nat) (a:Act),HS w0 M0 c H->FR w0 c n fr a->∃ c',c'.w=c.w/\HS w0 M0 c' H'/\FR w0 c' n fr' a/\Ext c c'
theorem ConvF.refl (fr:Fr) (H:List AB):ConvF fr H fr H:=fun _ _ c _ _ h k=>⟨c,rfl,h,k,zM c⟩
def zo:=@ConvF.refl
theorem ConvF.trans {fr fr1 fr2:Fr} {H H1 H2:List AB} (h:ConvF fr H fr1 H1) (k:ConvF fr1 H1 fr2 H2):ConvF fr H fr2 H2:=fun w0 M0 c n a hs hf=>by
 obtain⟨c1,e1,s1,f1,x1⟩:=h w0 M0 c n a hs hf;obtain⟨c2,e2,s2,f2,x2⟩:=k w0 M0 c1 n a s1 f1;exact⟨c2,e2.trans e1,s2,f2,x1.trans x2⟩
def zN:=@ConvF.trans
theorem ConvF.ofH {fr:Fr} {H H':List AB} (h:ConvH H H'):ConvF fr H fr H':=fun w0 M0 c n a hs hf=>by
 obtain⟨c1,e1,s1,x1⟩:=h w0 M0 c hs;exact⟨c1,e1,s1,hf.ext x1,x1⟩
def zO:=@ConvF.ofH
theorem FR.cons {w0:Fl} {c:Ctx} {n:Nat} {fr:Fr} {a:Act} (hf:FR w0 c n fr a) (i:Nat) (y:AV) (h:Rd y c (a.tmps.getD i undef)):FR w0 c n ((i,y)::fr) a:=by
 refine⟨hf.size,hf.defers,fun j=>?_⟩;unfold fget;cases hb:Nat.beq i j with
 | true=>have:=Am hb;subst this;exact h
 | false=>exact hf.get j
theorem ConvF.sub {fr:Fr} {H:List AB} (i:Nat) {x y:AV} (hx:fget fr i=x) (h:∀ c v,Rd x c v->Rd y c v):ConvF fr H ((i,y)::fr) H:=fun _ _ c _ _ hs hf=>
 ⟨c,rfl,hs,hf.cons i y (h _ _ (hx ▸ hf.get i)),zM c⟩
def z8:=@ConvF.sub
theorem ConvF.shutF {fr:Fr} {H:List AB} (i k:Nat) {t:TypeId} {sz:Nat} {es:List (List AV)} (hx:fget fr i = .ow k es.length) (hk:hget H k=some (.row t sz es)):ConvF fr H ((i, .sl sz es.length fun j=>es.getD j [])::fr) (H.set k .dead):=fun _ _ c _ _ hs hf=>by
 rw [hget_eq] at hk;obtain⟨c1,e1,s1,x1,r1⟩:=hs.freeze hk;exact⟨c1,e1,s1,(hf.ext x1).cons i _ (r1 _ (hx ▸ hf.get i)),x1⟩
def zF:=@ConvF.shutF
def WkR (d0:Nat) (fr:Fr) (H:List AB) (fr2:Fr) (H2:List AB):Prop:=∃ fr1 H1,ConvF fr H fr1 H1/\∃ gs,gOk gs fr1 H1/\∃ s,WkN s d0 (gF gs fr1 H1.length) (gH gs H1) fr2 H2
theorem WkN.r {s:List Nat} {d0:Nat} {fr:Fr} {H:List AB} {fr2:Fr} {H2:List AB} (h:WkN s d0 fr H fr2 H2):WkR d0 fr H fr2 H2:=⟨fr,H,zo fr H, [],tv,s,h⟩
def zQ:=@WkN.r
theorem WkN.rc {s:List Nat} {d0:Nat} {fr fr1:Fr} {H H1:List AB} {fr2:Fr} {H2:List AB} (k:ConvF fr H fr1 H1) (h:WkN s d0 fr1 H1 fr2 H2):WkR d0 fr H fr2 H2:=⟨fr1,H1,k, [],tv,s,h⟩
def zK:=@WkN.rc
def EX.then (next:Fr->List AB->Prop) (Q:QA):QA:=fun ex fr H=>match ex with | .normal=>next fr H | e=>Q e fr H
def Y6 (body:QA->Fr->List AB->Prop) (Q:QA):Nat->Fr->List AB->Prop
 | 0,_,_=>False
 | n+1,fr,H=>body (EX.then (fun fr H=>Y6 body Q n fr H) Q) fr H
structure aLoop (d0:Nat) (body:QA->Fr->List AB->Prop) (Q:QA) (fr:Fr) (H:List AB):Prop where
 ex:(∃ n,Y6 body Q n fr H)\/(∃ (ι:Type) (st:ι->Fr × List AB) (I:ι->Prop) (μ:ι->Nat),(∃ x,I x/\Wk d0 fr H (st x).1 (st x).2)/\
  ∀ x,I x->body (fun ex fr' H'=>match ex with | .normal=>∃ x',I x'/\μ x'<μ x/\Wk d0 fr' H' (st x').1 (st x').2 | e=>Q e fr' H') (st x).1 (st x).2)
 \/(∃ (ι:Type) (st:ι->Fr × List AB) (I:ι->Prop) (μ:ι->Nat),(∃ x,I x/\WkC d0 fr H (st x).1 (st x).2)/\
  ∀ x,I x->body (fun ex fr' H'=>match ex with | .normal=>∃ x',I x'/\μ x'<μ x/\WkC d0 fr' H' (st x').1 (st x').2 | e=>Q e fr' H') (st x).1 (st x).2)
 \/∃ (ι:Type) (st:ι->Fr × List AB) (I:ι->Prop) (μ:ι->Nat),(∃ x,I x/\(WkC d0 fr H (st x).1 (st x).2\/WkR d0 fr H (st x).1 (st x).2))/\
  ∀ x,I x->body (fun ex fr' H'=>match ex with | .normal=>∃ x',I x'/\μ x'<μ x/\WkR d0 fr' H' (st x').1 (st x').2 | e=>Q e fr' H') (st x).1 (st x).2
theorem aLoop.rounds {d0:Nat} {body:QA->Fr->List AB->Prop} {Q:QA} {fr:Fr} {H:List AB} (n:Nat) (h:Y6 body Q n fr H):aLoop d0 body Q fr H:=⟨.inl ⟨n,h⟩⟩
def zB:=@aLoop.rounds
def EX.inBlock (id:Nat) (Q:QA):QA:=fun ex fr H=>match ex with
 | .exit i=>match Nat.beq i id with | true=>Q .normal fr H | false=>Q (.exit i) fr H
 | e=>Q e fr H
structure aDraw (P:Program) (T:Tys) (n d0:Nat) (id:Nat) (ops:Array Oper) (K:Fr->List AB->Prop) (fr:Fr) (H:List AB):Prop where
 wp:∀ (w0:Fl) (M0:Ms) (ce c:Ctx) (a:Act),HS w0 M0 c H->FR w0 c n fr a->Ext ce c->ce.dom=d0->
  ∀ Q:Exit->Act->World->Prop,(∀ c' fr' H' a',K fr' H'->HS w0 M0 c' H'->FR w0 c' n fr' a'->Ext ce c'->Q .normal a' c'.w)->(Code.region id ops true).wp P Q a c.w
def EX.up:EX->Exit
 | .normal=> .normal
 | .exit id=> .exit id
 | .ret=> .ret
def Zw (o:Oper):Bool:=match o.op with
 | .defer _=>false
 | _=>true
def noRF:Code->Bool
 | .skip=>true
 | .exit _=>true
 | .ret=>true
 | .region _ ops draw=>!draw&&ops.toList.all Zw
 | .seq a b=>noRF a&&noRF b
 | .cond _ a b=>noRF a&&noRF b
 | .block _ c=>noRF c
 | _=>false
structure aRF (P:Program) (T:Tys) (n d0:Nat) (g:Operand) (ps:Array Tmp) (asg body:Code) (Q:QA) (fr:Fr) (H:List AB):Prop where
 wp:∀ (w0:Fl) (M0:Ms) (ce c:Ctx) (a:Act),HS w0 M0 c H->FR w0 c n fr a->Ext ce c->ce.dom=d0->
  ∀ Q':Exit->Act->World->Prop,(∀ ex c' fr' H' a',Q ex fr' H'->HS w0 M0 c' H'->FR w0 c' n fr' a'->Ext ce c'->Q' ex.up a' c'.w)->(Code.rangeFunc g ps asg body).wp P Q' a c.w
 wpR:noRF body=true->∀ (w0:Fl) (M0:Ms) (ce c:Ctx) (a:Act),HS w0 M0 c H->FR w0 c n fr a->Ext ce c->ce.dom=d0->∀ (l0:Nat) (r0:Loop) (m:Nat),c.w.heap[l0]? = some (.loop r0)->3<=m->
  ∀ Q':Exit->Act->World->Prop,(∀ ex c' fr' H' a',Q ex fr' H'->HS w0 M0 c' H'->FR w0 c' n fr' a'->Ext ce c'->Q' ex.up a' c'.w)->(Code.rangeFunc g ps asg body).wpIn (Fence.wide.inRound l0) m P Q' a c.w
def falls:Code->Bool
 | .exit _ | .ret=>false
 | .seq a b=>falls a&&falls b
 | .cond _ a b=>falls a || falls b
 | _=>true
def Z4 (ops:List Oper):Bool:=match ops.reverse with
 | o::p::l=>match o.op,p.op with
  | .assign _, .buildSlice _ 8 _=>true
  | .assign _, .indexAddr _ _ _=>match l with | [_,_]=>true | _=>false
  | _,_=>false
 | _=>false
def meets:Code->Bool
 | .region _ ops draw=>!draw&&Z4 ops.toList
 | .cond _ a b=>(falls a&&falls b) || meets a || meets b
 | .seq a b=>meets a || meets b
 | .block _ c=>meets c
 | _=>false
structure aSeq (d0:Nat) (body:QA->Prop) (next:Fr->List AB->Prop) (Q:QA):Prop where
 ex:body (EX.then next Q)\/(∃ (ι:Type) (st:ι->Fr × List AB) (I:ι->Prop),body (EX.then (fun fr' H'=>∃ x,I x/\Wk d0 fr' H' (st x).1 (st x).2) Q)/\∀ x,I x->next (st x).1 (st x).2)
  \/(∃ (ι:Type) (st:ι->Fr × List AB) (I:ι->Prop),body (EX.then (fun fr' H'=>∃ x,I x/\WkC d0 fr' H' (st x).1 (st x).2) Q)/\∀ x,I x->next (st x).1 (st x).2)
  \/∃ (ι:Type) (st:ι->Fr × List AB) (I:ι->Prop),body (EX.then (fun fr' H'=>∃ x,I x/\WkR d0 fr' H' (st x).1 (st x).2) Q)/\∀ x,I x->next (st x).1 (st x).2
theorem aSeq.go {d0:Nat} {body:QA->Prop} {next:Fr->List AB->Prop} {Q:QA} (h:body (EX.then next Q)):aSeq d0 body next Q:=⟨.inl h⟩
def zZ:=@aSeq.go
theorem aSeq.cut {d0:Nat} {body:QA->Prop} {next:Fr->List AB->Prop} {Q:QA} (ι:Type) (st:ι->Fr × List AB) (I:ι->Prop) (h:body (EX.then (fun fr' H'=>∃ x,I x/\Wk d0 fr' H' (st x).1 (st x).2) Q)) (k:∀ x,I x->next (st x).1 (st x).2):aSeq d0 body next Q:=⟨.inr (.inl ⟨ι,st,I,h,k⟩)⟩
theorem aSeq.cutC {d0:Nat} {body:QA->Prop} {next:Fr->List AB->Prop} {Q:QA} (ι:Type) (st:ι->Fr × List AB) (I:ι->Prop) (h:body (EX.then (fun fr' H'=>∃ x,I x/\WkC d0 fr' H' (st x).1 (st x).2) Q)) (k:∀ x,I x->next (st x).1 (st x).2):aSeq d0 body next Q:=⟨.inr (.inr (.inl ⟨ι,st,I,h,k⟩))⟩
theorem aSeq.cutR {d0:Nat} {body:QA->Prop} {next:Fr->List AB->Prop} {Q:QA} (ι:Type) (st:ι->Fr × List AB) (I:ι->Prop) (h:body (EX.then (fun fr' H'=>∃ x,I x/\WkR d0 fr' H' (st x).1 (st x).2) Q)) (k:∀ x,I x->next (st x).1 (st x).2):aSeq d0 body next Q:=⟨.inr (.inr (.inr ⟨ι,st,I,h,k⟩))⟩
def y_:=@aSeq.cutR
def Ck (P:Program) (T:Tys) (n d0:Nat):Code->QA->Fr->List AB->Prop
 | .skip,Q,fr,H=>Q .normal fr H
 | .region id ops draw,Q,fr,H=>match draw with
  | false=>NY P T n ops.toList ops.toList fr H (Q .normal)
  | true=>aDraw P T n d0 id ops (Q .normal) fr H
 | .seq a b,Q,fr,H=>match meets a with
  | true=>aSeq d0 (fun Q=>Ck P T n d0 a Q fr H) (fun fr H=>Ck P T n d0 b Q fr H) Q
  | false=>Ck P T n d0 a (EX.then (fun fr H=>Ck P T n d0 b Q fr H) Q) fr H
 | .cond c a b,Q,fr,H=>match ev fr c with
  | .v (.bool t)=>KF t (Ck P T n d0 a Q fr H) (Ck P T n d0 b Q fr H)
  | _=>False
 | .block id c,Q,fr,H=>Ck P T n d0 c (EX.inBlock id Q) fr H
 | .loop c,Q,fr,H=>aLoop d0 (fun Q fr H=>Ck P T n d0 c Q fr H) Q fr H
 | .exit id,Q,fr,H=>Q (.exit id) fr H
 | .ret,Q,fr,H=>Q .ret fr H
 | .rangeFunc g ps asg body,Q,fr,H=>aRF P T n d0 g ps asg body Q fr H
 | _,_,_,_=>False

section
variable {P:Program} {T:Tys} {w0:Fl} {M0:Ms} {n d0:Nat} {ce:Ctx}
def DP (w0:Fl) (M0:Ms) (ce:Ctx) (n:Nat) (K:Fr->List AB->Prop) (a:Act) (w:World):Prop:=
 ∃ c fr H,c.w=w/\K fr H/\HS w0 M0 c H/\FR w0 c n fr a/\Ext ce c
def LiftQ (w0:Fl) (M0:Ms) (ce:Ctx) (n:Nat) (Q:QA):Exit->Act->World->Prop
 | .normal,a,w=>DP w0 M0 ce n (Q .normal) a w
 | .exit id,a,w=>DP w0 M0 ce n (Q (.exit id)) a w
 | .ret,a,w=>DP w0 M0 ce n (Q .ret) a w
 | _,_,_=>False

theorem Co {c:Ctx} {fr:Fr} {a:Act} (hf:FR w0 c n fr a) {d:Option Nat} {r:AV} {v:Value} (hr:Rd r c v) {K:Fr->Prop} (h:NV n d r fr K):∃ fr',K fr'/\FR w0 c n fr' (a.put d v):=by
 unfold NV at h;split at h
 ·exact⟨fr,h,hf.none⟩
 ·split at h
  ·rename_i hb;exact⟨_,h,hf.put (by simpa using hb) hr⟩
  ·exact h.elim
theorem E_ (hT:TOk P T) {c:Ctx} {H:List AB} (hs:HS w0 M0 c H) {fr:Fr} {a:Act} (hf:FR w0 c n fr a) (he:Ext ce c) {q:Bool} {o:Oper} {K:Fr->List AB->Prop} (h:Hf P T n q o fr H K)
  {next:Act->World->Prop} {Q:Exit->Act->World->Prop} (hn:∀ a w,DP w0 M0 ce n K a w->(q=true->Old c.w w)->next a w):o.wp P a c.w next Q:=by
 unfold Hf at h;split at h
 ·obtain⟨r,v,h1,h2,h3⟩:=(Gp hT hs hf h).y;obtain⟨fr',h4,h5⟩:=Co hf h3 h1;unfold Oper.wp;rw [h2 c.w (.inr (zy _)),Oper.upon_value];exact hn _ _ ⟨c,fr',H,rfl,h4,hs,h5,he⟩ fun _=>zy _
 ·refine TW hT hs hf h fun r H' c' v h1 h2 h3 h4 hold=>?_
  obtain⟨fr',h5,h6⟩:=Co (hf.ext h3) h4 h1;exact hn _ _ ⟨c',fr',H',rfl,h5,h2,h6,he.trans h3⟩ hold
theorem FR.lit {c:Ctx} {fr:Fr} {a:Act} (hf:FR w0 c n fr a) {d:Nat} {t:Bool} (h:fget fr d = .v (.bool t)):FR w0 c n ((d, .v (.bool t))::fr) a:=by
 refine⟨hf.size,hf.defers,fun i=>?_⟩;unfold fget;cases hb:Nat.beq d i with
 | true=>have:=Am hb;subst this;have:=hf.get d;rw [h] at this;exact this
 | false=>exact hf.get i
theorem IG (hT:TOk P T) {ops:Array Oper} {K:Fr->List AB->Prop} {Q:Exit->Act->World->Prop} (hq:∀ a w,DP w0 M0 ce n K a w->Q .normal a w) :
  ∀ (l:List Oper) (c:Ctx) (fr:Fr) (H:List AB) (a:Act),HS w0 M0 c H->FR w0 c n fr a->Ext ce c->NY P T n ops.toList l fr H K->wpList P ops Q l a c.w
 | [],c,fr,H,a,hs,hf,he,h=>hq _ _ ⟨c,fr,H,rfl,h,hs,hf,he⟩
 | o::l,c,fr,H,a,hs,hf,he,h=>by
  simp only [NY] at h;have run:∀ fr,FR w0 c n fr a->Region.wanted o (yielded ops a.tmps)=true->Hf P T n false o fr H (fun fr H=>NY P T n ops.toList l fr H K)->wpList P ops Q (o::l) a c.w:=by
   intro fr hf hw h;unfold wpList;rw [if_pos hw];refine .inl (E_ hT hs hf he h ?_);rintro a' w' ⟨c',fr',H',rfl,h1,h2,h3,h4⟩ -
   exact IG hT hq l c' fr' H' a' h2 h3 h4 h1
  have skip:∀ fr,FR w0 c n fr a->Region.wanted o (yielded ops a.tmps)=false->NV n o.dst (.v undef) fr (fun fr=>NY P T n ops.toList l fr H K)->wpList P ops Q (o::l) a c.w:=by
   intro fr hf hw h;unfold wpList;rw [if_neg (by rw [hw];simp)];obtain⟨fr',h1,h2⟩:=Co (v:=undef) hf (by simp [Rd]) h;exact IG hT hq l c fr' H _ hs h2 he h1
  unfold IN at h;split at h
  ·rename_i hg;exact run fr hf (by simp [Region.wanted,hg]) h
  ·rename_i j want hg;rw [DN] at h;split at h
   ·rename_i oj hj;have hj':ops[j]? = some oj:=by simpa using hj
    split at h
    ·rename_i d hd;have hgd:=hf.get d;split at h
     ·rename_i t ht;rw [ht] at hgd;simp only [Rd] at hgd;have hy:yielded ops a.tmps j=some t:=by
       unfold yielded;simp only [hj',Option.bind_some,hd];have:a.tmps[d]? = some (.bool t):=by
        rw [AH] at hgd;cases hq:a.tmps[d]? with
        | none=>rw [hq] at hgd;simp [undef] at hgd
        | some x=>rw [hq] at hgd;simp at hgd;rw [hgd]
       rw [this]
      have hl:=hf.lit ht;split at h
      ·obtain⟨h1,h2⟩:=E0 h;cases t with
       | true=>exact run _ hl (by simp [Region.wanted,hg,hy]) (h1 rfl)
       | false=>exact skip _ hl (by simp [Region.wanted,hg,hy]) (h2 rfl)
      ·obtain⟨h1,h2⟩:=E0 h;cases t with
       | true=>exact skip _ hl (by simp [Region.wanted,hg,hy]) (h1 rfl)
       | false=>exact run _ hl (by simp [Region.wanted,hg,hy]) (h2 rfl)
     ·rename_i vs ht;rw [ht] at hgd;simp only [Rd] at hgd;refine skip fr hf ?_ h;have hy:yielded ops a.tmps j=none:=by
       unfold yielded;simp only [hj',Option.bind_some,hd];rw [AH] at hgd;cases hq:a.tmps[d]? with
       | none=>rfl
       | some x=>rw [hq] at hgd;simp at hgd;rw [hgd]
      simp [Region.wanted,hg,hy]
     ·exact h.elim
    ·exact h.elim
   ·exact h.elim
theorem RP {fr:Fr}:∀ {fr2:Fr},wkF fr2 fr->∀ i,fget fr2 i = .top\/fget fr2 i=fget fr i
 | [],_,i=> .inl rfl
 | (j,x)::r,h,i=>by
  have e:fget ((j,x)::r) i=bif Nat.beq j i then x else fget r i:=rfl
  rw [e];cases hb:Nat.beq j i with
  | true=>have:=Am hb;subst this;exact .inr h.1.symm
  | false=>exact RP h.2 i
theorem wkH_get:∀ {H2 H:List AB},wkH H2 H->∀ (k:Nat) (x:AB),H2[k]? = some x->x.live=true->H[k]? = some x
 | [],_,_,k,x,h,_=>by simp at h
 | y::r, [],h,_,_,_,_=>by cases y <;> simp [wkH] at h
 | y::r,z::s,h,k,x,hk,hl=>by
  have hh:(y.live=true->y=z)/\wkH r s:=by cases y <;> simp only [wkH] at h;exact⟨fun _=>h.1,h.2⟩;exact⟨fun _=>h.1,h.2⟩;exact⟨fun _=>h.1,h.2⟩;exact⟨fun e=>by simp [AB.live] at e,h⟩;exact⟨fun _=>h.1,h.2⟩
  cases k with
  | zero=>simp at hk;subst hk;simp;exact(hh.1 hl).symm
  | succ k=>simp at hk |-;exact wkH_get hh.2 k x hk hl
theorem wkH_len:∀ {H2 H:List AB},wkH H2 H->H2.length<=H.length
 | [],_,_=>Aj _
 | y::r, [],h=>by cases y <;> simp [wkH] at h
 | y::r,z::s,h=>by
  have hh:wkH r s:=by cases y <;> simp only [wkH] at h;exact h.2;exact h.2;exact h.2;exact h;exact h.2
  have:=wkH_len hh;simp;omega
theorem Ob {m:Nat}:∀ {fr:Fr},Yc m fr=true->∀ i,(fget fr i).lt m=true
 | [],_,i=>by simp [fget,AV.lt]
 | (j,x)::r,h,i=>by
  simp only [Yc,Ad] at h;unfold fget;cases hb:Nat.beq j i with
  | true=>exact h.1
  | false=>exact Ob h.2 i
theorem Ig {m:Nat}:∀ {H:List AB},Oa m H=true->∀ (k:Nat) (t:TypeId) (cs:List AV),H[k]? = some (.box t cs)->AV.ltL cs m=true
 | [],_,k,_,_,h=>by simp at h
 | x::r,h,k,t,cs,hk=>by
  cases k with
  | zero=>simp at hk;subst hk;simp only [Oa,Ad] at h;exact h.1
  | succ k=>
   simp at hk;refine Ig (H:=r) ?_ k t cs hk;cases x <;> simp only [Oa,Ad] at h;exact h.2;exact h;exact h;exact h;exact h.2
theorem Hu {m:Nat}:∀ {H:List AB},Oa m H=true->∀ {k:Nat} {t:TypeId} {sz:Nat} {es:List (List AV)} {m':Nat},H[k]? = some (.rowo t sz es m')->AV.ltL es.flatten m'=true->AV.ltL es.flatten m=true
 | [],_,k,_,_,_,_,h,_=>by simp at h
 | x::r,h,k,t,sz,es,m',hk,hl=>by
  cases k with
  | zero=>
   simp at hk;subst hk;simp only [Oa,Ad] at h;have:=Ae h.1;refine CP.2 fun x hx=>AV.lt_mono x this (CP.1 hl x hx)
  | succ k=>
   simp at hk;refine Hu (H:=r) ?_ hk hl;cases x <;> simp only [Oa,Ad] at h;exact h.2;exact h;exact h;exact h;exact h.2
theorem lset_eq:∀ (l:List AV) (j:Nat) (y:AV),lset l j y=l.set j y
 | [],_,_=>by simp [lset]
 | _::_,0,_=>rfl
 | x::r,j+1,y=>by simp only [lset,List.set_cons_succ,lset_eq r j y]
theorem cellAt_box:∀ {H:List AB} {k j:Nat} {x:AV},cellAt H k j=some x->∃ t cs,H[k]? = some (.box t cs)/\cs[j]? = some x
 | [],_,_,_,h=>by simp [cellAt] at h
 | .box t cs::r,0,j,x,h=>⟨t,cs,rfl,by simpa [cellAt,DN] using h⟩
 | .row _ _ _::r,0,j,x,h=>by simp [cellAt] at h
 | .iter _ _::r,0,j,x,h=>by simp [cellAt] at h
 | .dead::r,0,j,x,h=>by simp [cellAt] at h
 | .rowo _ _ _ _::r,0,j,x,h=>by simp [cellAt] at h
 | y::r,k+1,j,x,h=>by
  have h':cellAt r k j=some x:=by cases y <;> simpa [cellAt] using h
  obtain⟨t,cs,h1,h2⟩:=cellAt_box h';exact⟨t,cs,by simpa using h1,h2⟩
theorem setCellK_get:∀ {H:List AB} {k j:Nat} {x:AV} {t:TypeId} {cs:List AV},H[k]? = some (.box t cs)->setCellK H k j x=H.set k (.box t (cs.set j x))
 | [],_,_,_,_,_,h=>by simp at h
 | y::r,0,j,x,t,cs,h=>by simp at h;subst h;simp [setCellK,lset_eq]
 | y::r,k+1,j,x,t,cs,h=>by
  simp at h;have:=setCellK_get (j:=j) (x:=x) h;cases y <;> simp [setCellK,this]
theorem HS.rebox {c:Ctx} {H:List AB} (h:HS w0 M0 c H) {k:Nat} {t:TypeId} {cs cs':List AV} (hk:H[k]? = some (.box t cs)) (hc:∀ xs,RdL cs c xs->RdL cs' c xs):HS w0 M0 c (H.set k (.box t cs')):=by
 have hget:∀ (j:Nat) (y:AB),(H.set k (.box t cs'))[j]? = some y->(j=k/\y = .box t cs')\/(j≠k/\H[j]? = some y):=by
  intro j y hj;by_cases hjk:j=k
  ·subst hjk;rw [A3 (Ar.1 hk).1] at hj;exact .inl ⟨rfl,(Option.some.inj hj).symm⟩
  ·rw [A4 (Ne.symm hjk)] at hj;exact .inr ⟨hjk,hj⟩
 have hlive:∀ (j:Nat) (y:AB),(H.set k (.box t cs'))[j]? = some y->y.live=true->∃ z:AB,H[j]? = some z/\z.live=true:=by
  intro j y hj hy;rcases hget j y hj with ⟨rfl,rfl⟩ | ⟨_,h2⟩
  ·exact⟨_,hk,rfl⟩
  ·exact⟨_,h2,hy⟩
 refine⟨h.low,h.base,by simp [h.dom],h.foreign,h.lt,fun j y hj=>?_,fun j y g hj hl ho=>?_,fun i j y z g hi hj hy hz hoi hoj=>?_⟩
 ·rcases hget j y hj with ⟨rfl,rfl⟩ | ⟨_,h2⟩
  ·obtain⟨g,xs,q1,q2,q3,q4⟩:=h.blk _ _ hk;exact⟨g,xs,q1,q2,hc xs q3,q4⟩
  ·exact h.blk j y h2
 ·obtain⟨z,h1,h2⟩:=hlive j y hj hl;exact h.own j z g h1 h2 ho
 ·obtain⟨y',h1,h2⟩:=hlive i y hi hy;obtain⟨z',h3,h4⟩:=hlive j z hj hz;exact h.dis i j y' z' g h1 h3 h2 h4 hoi hoj
theorem ghost:∀ (gs:List (Nat × Nat × Nat)) {fr:Fr} {H:List AB} {c:Ctx} {a:Act},gOk gs fr H->HS w0 M0 c H->FR w0 c n fr a->Ext ce c->
  ∃ c',c'.w=c.w/\HS w0 M0 c' (gH gs H)/\FR w0 c' n (gF gs fr H.length) a/\Ext ce c'
 | [],fr,H,c,a,_,hs,hf,he=>⟨c,rfl,hs,hf,he⟩
 | (s,t,sz)::r,fr,H,c,a,hg,hs,hf,he=>by
  simp only [gOk] at hg;obtain⟨h1,h2,h3⟩:=hg;simp only [gF,gH];have hsz:0<sz:=by simpa using h2
  have hrow:=hs.newrow (Below.refl _ _) (t:=t) (es:= []) (v:= .slice none 0 0) (xs:= []) hsz (by simp) (World.ownsRow_nil _ _ _ _) (by simp) (by simp [RdL]);obtain⟨q1,q2,q3⟩:=hrow;cases hb:Nat.blt s 1000000 with
  | true=>
   rw [hb] at h1 h3;simp only at h1 h3 |-
   have hf':FR w0 (c.new c.w (.slice none 0 0) ([]:List (List AV)).length) n ((s, .ow H.length 0)::fr) a:=by
    refine⟨hf.size,hf.defers.ext q2,fun i=>?_⟩;have e:fget ((s, .ow H.length 0)::fr) i=bif Nat.beq s i then .ow H.length 0 else fget fr i:=rfl
    rw [e];cases hb:Nat.beq s i with
    | true=>
     have:=Am hb;subst this;have hr:=hf.get s;rw [h1] at hr;simp only [Rd] at hr;rw [hr];exact q3
    | false=>exact Rd.ext _ q2 (hf.get i)
   have hl:(H ++ [AB.row t sz []]).length=H.length+1:=by simp
   obtain⟨c',e1,e2,e3,e4⟩:=ghost r h3 q1 hf' (he.trans q2);rw [hl] at e3;exact⟨c',e1,e2,e3,e4⟩
  | false=>
   rw [hb] at h1 h3;simp only at h1 h3 |-
   obtain⟨bt,cs,hk,hj⟩:=cellAt_box h1;have hset:=setCellK_get (j:=(s - 1000000) % 1000) (x:= .ow H.length 0) hk;rw [hset] at h3 |-
   have hkl:=(Ar.1 hk).1;have hk':(H ++ [AB.row t sz []])[(s - 1000000) / 1000]? = some (.box bt cs):=by rw [AD hkl];exact hk
   have q1':=q1.rebox hk' (cs':=cs.set ((s - 1000000) % 1000) (.ow H.length 0)) (fun xs hx=>by
    obtain⟨v,h5,h6⟩:=hx.get hj;simp only [Rd] at h6;subst h6;have h7:=hx.set (i:=(s - 1000000) % 1000) q3;have e:xs.set ((s - 1000000) % 1000) (.slice none 0 0)=xs:=by
     obtain⟨hlt,h8⟩:=Ar.1 h5;have:=@List.set_getElem_self _ xs _ hlt;rw [h8] at this;exact this
    rw [e] at h7;exact h7)
   have e:(H ++ [AB.row t sz []]).set ((s - 1000000) / 1000) (.box bt (cs.set ((s - 1000000) % 1000) (.ow H.length 0)))=H.set ((s - 1000000) / 1000) (.box bt (cs.set ((s - 1000000) % 1000) (.ow H.length 0))) ++ [AB.row t sz []]:=by
    rw [List.set_append_left _ _ hkl]
   rw [e] at q1';obtain⟨c',e1,e2,e3,e4⟩:=ghost r h3 q1' (hf.ext q2) (he.trans q2);have hl:(H.set ((s - 1000000) / 1000) (.box bt (cs.set ((s - 1000000) % 1000) (.ow H.length 0))) ++ [AB.row t sz []]).length=H.length+1:=by simp
   rw [hl] at e3;exact⟨c',e1,e2,e3,e4⟩
theorem Ql {c:Ctx} {m:Nat}:∀ {l:List Deferred},DfOk w0 c l->DfOk w0 { c with dom:=m } l
 | [],_=>trivial
 | _::_,h=>⟨h.1,Ql h.2⟩
theorem Qk {c:Ctx} {rho:Nat->Value} {len:Nat->Nat} {m:Nat}:∀ {l:List Deferred},DfOk w0 c l->DfOk w0 { c with rho:=rho,len:=len,dom:=m } l
 | [],_=>trivial
 | _::_,h=>⟨h.1,Qk h.2⟩
theorem Un {fr fr2:Fr} {H H2:List AB} (hwf:wkF fr2 fr) (hwh:wkH H2 H) (hnf:Yc H2.length fr2=true) (hnh:Oa H2.length H2=true) (hwd:Nat.ble d0 H2.length=true) (hd:ce.dom=d0) {c:Ctx} {a:Act} (hs:HS w0 M0 c H) (hf:FR w0 c n fr a) (he:Ext ce c) :
  ∃ c',c'.w=c.w/\HS w0 M0 c' H2/\FR w0 c' n fr2 a/\Ext ce c':=by
 have hlen:=wkH_len hwh;have hcut:Cut c { c with dom:=H2.length }:=⟨⟨rfl,rfl,rfl,Ag _,fun _ _ h=>⟨h,rfl⟩,Ag _,fun k hk=>absurd hk (Ap k),fun k hk=>absurd hk (Ap k),fun k _ hk=>absurd hk (Ap k)⟩,fun _ _=>tA⟩;have hdl:d0<=H2.length:=Ae hwd;refine⟨{ c with dom:=H2.length },rfl,⟨hs.low,hs.base,rfl,hs.foreign,hs.lt,fun k x hk=>?_,fun k x g hk hl ho=>hs.own k x g (wkH_get hwh k x hk hl) hl ho,fun j k x y g hj hk hx hy ho ho'=>hs.dis j k x y g (wkH_get hwh j x hj hx) (wkH_get hwh k y hk hy) hx hy ho ho'⟩,
  ⟨hf.size,Ql hf.defers,fun i=>?_⟩,⟨he.os,he.tape,he.output,he.size,he.keep,by simpa [hd] using hdl,he.len,he.rho,he.box⟩⟩
 ·cases x with
  | dead=>trivial
  | box t cs=>
   obtain⟨g,xs,h1,h2,h3,h4⟩:=hs.blk k _ (wkH_get hwh k _ hk rfl);exact⟨g,xs,h1,h2,RdL.cut cs hcut (Ig hnh k t cs hk) h3,h4⟩
  | iter s pos=>
   obtain⟨g,h1,h2⟩:=hs.blk k _ (wkH_get hwh k _ hk rfl);exact⟨g,h1,h2⟩
  | row t sz es=>
   obtain⟨h1,h2,h3,xs,h4,h5,h6⟩:=hs.blk k _ (wkH_get hwh k _ hk rfl);exact⟨h1,h2,h3,xs,h4,h5,h6⟩
  | rowo t sz es m=>
   obtain⟨h1,h2,h3,h3',xs,h4,h5,h6⟩:=hs.blk k _ (wkH_get hwh k _ hk rfl);exact⟨h1,h2,h3,h3',xs,h4,RdL.cut _ hcut (Hu hnh hk h3') h5,h6⟩
 ·rcases RP hwf i with h | h
  ·rw [h];simp [Rd]
  ·refine Rd.cut _ hcut (Ob hnf i) ?_;rw [h];exact hf.get i

theorem Wk.sound {fr fr2:Fr} {H H2:List AB} (hwk:Wk d0 fr H fr2 H2) (hd:ce.dom=d0) {c:Ctx} {a:Act} (hs:HS w0 M0 c H) (hf:FR w0 c n fr a) (he:Ext ce c) :
  ∃ c',c'.w=c.w/\HS w0 M0 c' H2/\FR w0 c' n fr2 a/\Ext ce c':=by
 obtain⟨gs,hw⟩:=hwk;obtain⟨c1,ec,hs1,hf1,he1⟩:=ghost gs hw.g hs hf he;obtain⟨c2,e2,q⟩:=Un hw.f hw.h hw.nf hw.nh hw.d hd hs1 hf1 he1;exact⟨c2,e2.trans ec,q⟩
theorem WkC.sound {c:Ctx} {fr fr2:Fr} {H H2:List AB} {a:Act} (hw:WkC d0 fr H fr2 H2) (hd:ce.dom=d0) (hs:HS w0 M0 c H) (hf:FR w0 c n fr a) (he:Ext ce c) :
  ∃ c',c'.w=c.w/\HS w0 M0 c' H2/\FR w0 c' n fr2 a/\Ext ce c':=by
 obtain⟨Hc,h1,gs,h2⟩:=hw;obtain⟨c1,e1,s1,x1⟩:=h1 w0 M0 c hs;obtain⟨c2,e2,s2,f2,x2⟩:=ghost gs h2.g s1 (hf.ext x1) (he.trans x1);obtain⟨H1,q1,q2,_⟩:=wkO_conv (P:= []) h2.h;obtain⟨c3,e3,s3,x3⟩:=q1 w0 M0 c2 s2;obtain⟨c4,e4,s4,f4,x4⟩:=Un h2.f q2 h2.nf h2.nh h2.d hd s3 (f2.ext x3) (x2.trans x3);exact⟨c4,e4.trans (e3.trans (e2.trans e1)),s4,f4,x4⟩
theorem OE {s:List Nat} {fr:Fr}:∀ {fr2:Fr},Yw s fr2 fr->∀ i,fget fr2 i = .top\/fget fr i=(fget fr2 i).ren (KN s)
 | [],_,i=> .inl rfl
 | (j,x)::r,h,i=>by
  have e:fget ((j,x)::r) i=bif Nat.beq j i then x else fget r i:=rfl
  rw [e];cases hb:Nat.beq j i with
  | true=>have:=Am hb;subst this;exact .inr h.1
  | false=>exact OE h.2 i
theorem Ha {s:List Nat} {H:List AB}:∀ {t:List Nat} {r:List AB},Yv s H t r->∀ (k:Nat) (x:AB),r[k]? = some x->∃ i,t[k]? = some i/\(match x with
  | .dead=>True
  | .rowo t' sz es m=>AV.ltL es.flatten m=true/\∃ m',hget H i=some (.rowo t' sz (es.map (AV.renL (KN s))) m')
  | .box t' cs=>hget H i=some (.box t' (AV.renL (KN s) cs))
  | y=>hget H i=some y)
 | _, [],_,k,x,h=>by simp at h
 | [],_::_,h,_,_,_=>h.elim
 | i::t,y::r,h,k,x,hk=>by
  cases k with
  | zero=>simp at hk;subst hk;exact⟨i,rfl,h.1⟩
  | succ k=>simp at hk;obtain⟨j,h1,h2⟩:=Ha h.2 k x hk;exact⟨j,by simpa using h1,h2⟩
theorem WkN.sound {s:List Nat} {c:Ctx} {fr fr2:Fr} {H H2:List AB} {a:Act} (hw:WkN s d0 fr H fr2 H2) (hd:ce.dom=d0) (hs:HS w0 M0 c H) (hf:FR w0 c n fr a) (he:Ext ce c) :
  ∃ c',c'.w=c.w/\HS w0 M0 c' H2/\FR w0 c' n fr2 a/\Ext ce c':=by
 have hl:=Am hw.l;have hinj:s.Nodup:=of_decide_eq_true hw.inj;have hlow:∀ k,k<d0->k<s.length/\KN s k=k:=fun k hk=>by
  have:=Av.1 hw.low k (AJ.2 hk);simp only [Ad,Du] at this;exact⟨this.1,Am this.2⟩
 have hnth:∀ k i,s[k]? = some i->KN s k=i:=fun k i h=>by unfold KN;rw [Ab,h];try rfl
 let c':Ctx:={ c with rho:=fun k=>c.rho (KN s k),len:=fun k=>c.len (KN s k),dom:=s.length };have ecl:Ext c.closed c'.closed:=⟨rfl,rfl,rfl,Ag _,fun _ _ h=>⟨h,rfl⟩,Ag _,fun k hk=>absurd hk (Ap k),fun k hk=>absurd hk (Ap k),fun k _ hk=>absurd hk (Ap k)⟩;have hrn:∀ k,k<c'.dom->c'.rho k=c.rho (KN s k)/\c'.len k=c.len (KN s k):=fun _ _=>tA
 have hlive:∀ (k:Nat) (x:AB),H2[k]? = some x->x.live=true->∃ y:AB,H[KN s k]? = some y/\y.live=true:=by
  intro k x hk hx;obtain⟨i,h1,h2⟩:=Ha hw.h k x hk;rw [hnth k i h1];cases x <;> simp only [hget_eq] at h2
  ·exact⟨_,h2,rfl⟩
  ·exact⟨_,h2,rfl⟩
  ·exact⟨_,h2,rfl⟩
  ·cases hx
  ·obtain⟨_,m',h2⟩:=h2;exact⟨_,h2,rfl⟩
 refine⟨c',rfl,⟨hs.low,hs.base,hl,hs.foreign,hs.lt,fun k x hk=>?_,fun k x g hk hx ho=>?_,fun j k x y g hj hk hx hy ho ho'=>?_⟩,⟨hf.size,?_,fun i=>?_⟩,⟨he.os,he.tape,he.output,he.size,he.keep,?_,fun k hk=>?_,fun k hk e=>?_,fun k g hk hg=>?_⟩⟩
 ·obtain⟨i,h1,h2⟩:=Ha hw.h k x hk;have hi:=hnth k i h1;have hkl:k<c'.dom:=by show k<s.length;rw [hl];exact(Ar.1 hk).1
  cases x <;> simp only [hget_eq] at h2
  ·rename_i t cs;obtain⟨g,xs,q1,q2,q3,q4⟩:=hs.blk _ _ h2;refine⟨g,xs,?_,q2,RdL.unren hrn ecl cs ?_ q3,q4⟩
   ·show c.rho (KN s k)=_;rw [hi];exact q1
   ·show AV.ltL cs s.length=true;rw [hl];exact Ig hw.nh k t cs hk
  ·rename_i t sz es;obtain⟨q1,q2,q3,xs,q4,q5,q6⟩:=hs.blk _ _ h2;refine⟨?_,q2,q3,xs,?_,RdL.ext _ ecl q5,q6⟩
   ·show c.len (KN s k)=_;rw [hi];exact q1
   ·show c.w.ownsRow c.base t sz (c.rho (KN s k)) _ _;rw [hi];exact q4
  ·obtain⟨g,q1,q2⟩:=hs.blk _ _ h2;refine⟨g,?_,q2⟩;show c.rho (KN s k)=_;rw [hi];exact q1
  ·trivial
  ·rename_i t sz es m;obtain⟨h3,m',h2⟩:=h2;obtain⟨q1,q2,q3,_,xs,q4,q5,q6⟩:=hs.blk _ _ h2;rw [Aa] at q1 q4;refine⟨?_,q2,fun e he=>?_,h3,xs,?_,RdL.unren hrn ecl es.flatten ?_ (by rw [<-zj];exact q5),q6⟩
   ·show c.len (KN s k)=_;rw [hi];exact q1
   ·have:=q3 _ (AI.2 ⟨e,he,rfl⟩);rwa [AV.renL_len] at this
   ·show c.w.ownsRow c.base t sz (c.rho (KN s k)) _ _;rw [hi];exact q4
   ·show AV.ltL es.flatten s.length=true;rw [hl];exact Hu hw.nh hk h3
 ·obtain⟨y,h1,h2⟩:=hlive k x hk hx;exact hs.own _ y g h1 h2 ho
 ·obtain⟨x',h1,h2⟩:=hlive j x hj hx;obtain⟨y',h3,h4⟩:=hlive k y hk hy;have e:=hs.dis _ _ x' y' g h1 h3 h2 h4 ho ho';obtain⟨i,q1,_⟩:=Ha hw.h j x hj;obtain⟨i',q2,_⟩:=Ha hw.h k y hk;rw [hnth j i q1,hnth k i' q2] at e;subst e;obtain⟨l1,e1⟩:=Ar.1 q1;obtain⟨l2,e2⟩:=Ar.1 q2;exact(List.getElem_inj hinj).1 (e1.trans e2.symm)
 ·exact Qk hf.defers
 ·rcases OE hw.f i with h | h
  ·rw [h];simp [Rd]
  ·have:=hf.get i;rw [h] at this;exact Rd.unren hrn ecl _ (by show (fget fr2 i).lt s.length=true;rw [hl];exact Ob hw.nf i) this
 ·show ce.dom<=s.length;rcases Da d0 with h | h
  ·omega
  ·have:=(hlow (d0 - 1) (by omega)).1;omega
 ·show ce.len k<=c.len (KN s k);rw [(hlow k (hd ▸ hk)).2];exact he.len k hk
 ·show c.rho (KN s k)=_;have e:ce.len k=c.len (KN s k):=e;rw [(hlow k (hd ▸ hk)).2] at e |-
  exact he.rho k hk e
 ·show c.rho (KN s k)=_;rw [(hlow k (hd ▸ hk)).2];exact he.box k g hk hg
theorem WkR.sound {c:Ctx} {fr fr2:Fr} {H H2:List AB} {a:Act} (hw:WkR d0 fr H fr2 H2) (hd:ce.dom=d0) (hs:HS w0 M0 c H) (hf:FR w0 c n fr a) (he:Ext ce c) :
  ∃ c',c'.w=c.w/\HS w0 M0 c' H2/\FR w0 c' n fr2 a/\Ext ce c':=by
 obtain⟨fr1,H1,h1,gs,h2,s,h3⟩:=hw;obtain⟨c1,e1,s1,f1,x1⟩:=h1 w0 M0 c n a hs hf;obtain⟨c2,e2,s2,f2,x2⟩:=ghost gs h2 s1 f1 (he.trans x1);obtain⟨c3,e3,q⟩:=h3.sound hd s2 f2 x2;exact⟨c3,e3.trans (e2.trans e1),q⟩
theorem LiftQ.mono_then {next:Fr->List AB->Prop} {Q:QA} {K:Act->World->Prop} {Q':Exit->Act->World->Prop} (h1:∀ a w,DP w0 M0 ce n next a w->K a w) (h2:∀ e a w,LiftQ w0 M0 ce n Q e a w->Q' e a w) :
  ∀ e a w,LiftQ w0 M0 ce n (EX.then next Q) e a w->Exit.then K Q' e a w:=by
 intro e a w h;cases e with
 | normal=>exact h1 a w h
 | exit id=>exact h2 (.exit id) a w h
 | ret=>exact h2 .ret a w h
 | _=>exact h.elim
def zD:=@LiftQ.mono_then
theorem B3 (hT:TOk P T) (hd:ce.dom=d0):∀ (cd:Code) (Q:QA) (Q':Exit->Act->World->Prop) (c:Ctx) (fr:Fr) (H:List AB) (a:Act),(∀ e a w,LiftQ w0 M0 ce n Q e a w->Q' e a w)->HS w0 M0 c H->FR w0 c n fr a->Ext ce c->
  Ck P T n d0 cd Q fr H->cd.wp P Q' a c.w
 | .skip,Q,Q',c,fr,H,a,hq,hs,hf,he,h=>wp_skip (hq .normal _ _ ⟨c,fr,H,rfl,h,hs,hf,he⟩)
 | .region id ops draw,Q,Q',c,fr,H,a,hq,hs,hf,he,h=>by
  simp only [Ck] at h;split at h
  ·exact wp_region_list (IG hT (fun a w hl=>hq .normal a w hl) ops.toList c fr H a hs hf he h)
  ·exact h.wp w0 M0 ce c a hs hf he hd Q' fun c' fr' H' a' h1 h2 h3 h4=>hq .normal _ _ ⟨c',fr',H',rfl,h1,h2,h3,h4⟩
 | .seq x y,Q,Q',c,fr,H,a,hq,hs,hf,he,h=>by
  simp only [Ck] at h;have plain:Ck P T n d0 x (EX.then (fun fr H=>Ck P T n d0 y Q fr H) Q) fr H->(Code.seq x y).wp P Q' a c.w:=by
   intro h;refine wp_seq_k fun K hK=>B3 hT hd x _ _ c fr H a (zD ?_ hq) hs hf he h
   rintro a' w' ⟨c',fr',H',rfl,h1,h2,h3,h4⟩;exact hK _ _ (B3 hT hd y Q Q' c' fr' H' a' hq h2 h3 h4 h1)
  split at h
  ·rcases h.ex with h | ⟨ι,st,I,h,hk⟩ | ⟨ι,st,I,h,hk⟩ | ⟨ι,st,I,h,hk⟩
   ·exact plain h
   ·refine wp_seq_k fun K hK=>B3 hT hd x _ _ c fr H a (zD ?_ hq) hs hf he h
    rintro a' w' ⟨c',fr',H',rfl,⟨z,hI,hw⟩,h2,h3,h4⟩;obtain⟨c4,e4,hs4,hf4,he4⟩:=hw.sound hd h2 h3 h4;rw [<-e4];exact hK _ _ (B3 hT hd y Q Q' c4 _ _ a' hq hs4 hf4 he4 (hk z hI))
   ·refine wp_seq_k fun K hK=>B3 hT hd x _ _ c fr H a (zD ?_ hq) hs hf he h
    rintro a' w' ⟨c',fr',H',rfl,⟨z,hI,hw⟩,h2,h3,h4⟩;obtain⟨c4,e4,hs4,hf4,he4⟩:=hw.sound hd h2 h3 h4;rw [<-e4];exact hK _ _ (B3 hT hd y Q Q' c4 _ _ a' hq hs4 hf4 he4 (hk z hI))
   ·refine wp_seq_k fun K hK=>B3 hT hd x _ _ c fr H a (zD ?_ hq) hs hf he h
    rintro a' w' ⟨c',fr',H',rfl,⟨z,hI,hw⟩,h2,h3,h4⟩;obtain⟨c4,e4,hs4,hf4,he4⟩:=hw.sound hd h2 h3 h4;rw [<-e4];exact hK _ _ (B3 hT hd y Q Q' c4 _ _ a' hq hs4 hf4 he4 (hk z hI))
  ·exact plain h
 | .cond x y z,Q,Q',c,fr,H,a,hq,hs,hf,he,h=>by
  simp only [Ck] at h;split at h
  ·rename_i t ht;have hr:=hf.ev x;rw [ht] at hr;simp only [Rd] at hr;obtain⟨h1,h2⟩:=E0 h;refine wp_cond_split hr (fun e=>?_) fun e=>?_
   ·exact B3 hT hd y Q Q' c fr H a hq hs hf he (h1 e)
   ·exact B3 hT hd z Q Q' c fr H a hq hs hf he (h2 e)
  ·exact h.elim
 | .block id x,Q,Q',c,fr,H,a,hq,hs,hf,he,h=>by
  simp only [Ck] at h;refine wp_block (B3 hT hd x _ _ c fr H a ?_ hs hf he h);intro e a' w' hl;cases e with
  | normal=>exact hq .normal _ _ hl
  | exit i=>
   simp only [Exit.inBlock];have hl:DP w0 M0 ce n (match Nat.beq i id with | true=>Q .normal | false=>Q (.exit i)) a' w':=by
    have e:(EX.inBlock id Q (EX.exit i))=(match Nat.beq i id with | true=>Q .normal | false=>Q (.exit i)):=by
     funext fr H;simp only [EX.inBlock];cases Nat.beq i id <;> rfl
    rw [<-e];exact hl
   by_cases hi:i=id
   ·subst hi;rw [if_pos rfl];rw [Nat.beq_refl] at hl;exact hq .normal _ _ hl
   ·rw [if_neg hi];have hb:Nat.beq i id=false:=by
     cases hq:Nat.beq i id with
     | true=>exact absurd (Am hq) hi
     | false=>rfl
    rw [hb] at hl;exact hq (.exit i) _ _ hl
  | ret=>exact hq .ret _ _ hl
  | _=>exact hl.elim
 | .loop x,Q,Q',c,fr,H,a,hq,hs,hf,he,h=>by
  simp only [Ck] at h;rcases h.ex with ⟨m,hm⟩ | ⟨ι,st,I,μ,⟨x0,hI,hw⟩,hround⟩ | ⟨ι,st,I,μ,⟨x0,hI,hw⟩,hround⟩ | ⟨ι,st,I,μ,⟨x0,hI,hw⟩,hround⟩
  ·refine wp_loop_rounds m ?_;clear h;induction m generalizing c fr H a with
   | zero=>exact hm.elim
   | succ m ih=>
    rw [rounds_succ];refine B3 hT hd x _ _ c fr H a (zD ?_ hq) hs hf he hm;rintro a' w' ⟨c',fr',H',rfl,h1,h2,h3,h4⟩;exact ih _ _ _ _ h2 h3 h4 h1
  ·obtain⟨c2,e1,hs2,hf2,he2⟩:=hw.sound hd hs hf he;rw [<-e1];refine wp_loop_ghost (fun m a w=>∃ c x,c.w=w/\μ x=m/\I x/\HS w0 M0 c (st x).2/\FR w0 c n (st x).1 a/\Ext ce c) (μ x0) ⟨c2,x0,rfl,rfl,hI,hs2,hf2,he2⟩ ?_;rintro m a' w' ⟨c',y,rfl,rfl,hI',hs',hf',he'⟩;refine B3 hT hd x _ _ c' _ _ a' ?_ hs' hf' he' (hround y hI');intro e a3 w3 hl;cases e with
   | normal=>
    obtain⟨c3,fr3,H3,rfl,⟨z,hI4,hlt,hw4⟩,hs3,hf3,he3⟩:=hl;obtain⟨c4,e4,hs4,hf4,he4⟩:=hw4.sound hd hs3 hf3 he3;exact⟨μ z,hlt,c4,z,e4,rfl,hI4,hs4,hf4,he4⟩
   | exit id=>exact hq (.exit id) _ _ hl
   | ret=>exact hq .ret _ _ hl
   | _=>exact hl.elim
  ·obtain⟨c2,e1,hs2,hf2,he2⟩:=hw.sound hd hs hf he;rw [<-e1];refine wp_loop_ghost (fun m a w=>∃ c x,c.w=w/\μ x=m/\I x/\HS w0 M0 c (st x).2/\FR w0 c n (st x).1 a/\Ext ce c) (μ x0) ⟨c2,x0,rfl,rfl,hI,hs2,hf2,he2⟩ ?_;rintro m a' w' ⟨c',y,rfl,rfl,hI',hs',hf',he'⟩;refine B3 hT hd x _ _ c' _ _ a' ?_ hs' hf' he' (hround y hI');intro e a3 w3 hl;cases e with
   | normal=>
    obtain⟨c3,fr3,H3,rfl,⟨z,hI4,hlt,hw4⟩,hs3,hf3,he3⟩:=hl;obtain⟨c4,e4,hs4,hf4,he4⟩:=hw4.sound hd hs3 hf3 he3;exact⟨μ z,hlt,c4,z,e4,rfl,hI4,hs4,hf4,he4⟩
   | exit id=>exact hq (.exit id) _ _ hl
   | ret=>exact hq .ret _ _ hl
   | _=>exact hl.elim
  ·obtain⟨c2,e1,hs2,hf2,he2⟩:=hw.elim (fun h=>h.sound hd hs hf he) (fun h=>h.sound hd hs hf he);rw [<-e1];refine wp_loop_ghost (fun m a w=>∃ c x,c.w=w/\μ x=m/\I x/\HS w0 M0 c (st x).2/\FR w0 c n (st x).1 a/\Ext ce c) (μ x0) ⟨c2,x0,rfl,rfl,hI,hs2,hf2,he2⟩ ?_;rintro m a' w' ⟨c',y,rfl,rfl,hI',hs',hf',he'⟩;refine B3 hT hd x _ _ c' _ _ a' ?_ hs' hf' he' (hround y hI');intro e a3 w3 hl;cases e with
   | normal=>
    obtain⟨c3,fr3,H3,rfl,⟨z,hI4,hlt,hw4⟩,hs3,hf3,he3⟩:=hl;obtain⟨c4,e4,hs4,hf4,he4⟩:=hw4.sound hd hs3 hf3 he3;exact⟨μ z,hlt,c4,z,e4,rfl,hI4,hs4,hf4,he4⟩
   | exit id=>exact hq (.exit id) _ _ hl
   | ret=>exact hq .ret _ _ hl
   | _=>exact hl.elim
 | .exit id,Q,Q',c,fr,H,a,hq,hs,hf,he,h=>wp_exit (hq (.exit id) _ _ ⟨c,fr,H,rfl,h,hs,hf,he⟩)
 | .ret,Q,Q',c,fr,H,a,hq,hs,hf,he,h=>wp_ret (hq .ret _ _ ⟨c,fr,H,rfl,h,hs,hf,he⟩)
 | .rangeFunc g ps asg body,Q,Q',c,fr,H,a,hq,hs,hf,he,h=>by
  simp only [Ck] at h;refine h.wp w0 M0 ce c a hs hf he hd Q' fun ex c' fr' H' a' h1 h2 h3 h4=>?_
  cases ex with
  | normal=>exact hq .normal _ _ ⟨c',fr',H',rfl,h1,h2,h3,h4⟩
  | exit id=>exact hq (.exit id) _ _ ⟨c',fr',H',rfl,h1,h2,h3,h4⟩
  | ret=>exact hq .ret _ _ ⟨c',fr',H',rfl,h1,h2,h3,h4⟩
 | .label _,_,_,_,_,_,_,_,_,_,_,h=>by simp [Ck] at h
 | .goto _,_,_,_,_,_,_,_,_,_,_,h=>by simp [Ck] at h
 | .scope _,_,_,_,_,_,_,_,_,_,_,h=>by simp [Ck] at h
 | .refuse _,_,_,_,_,_,_,_,_,_,_,h=>by simp [Ck] at h
end
def QW (T:Tys) (fr:Fr) (H:List AB) (r:ResultVar) (k:AV->Prop):Prop:=
 match r with
 | .tmp t=>CZ (fget fr t) k
 | .cell a t=>match tget T t with
  | some ty=>Zv H (fget fr a) fun cs=>ZN ty cs k
  | none=>False
def WU (T:Tys) (fr:Fr) (H:List AB):List ResultVar->(List AV->Prop)->Prop
 | [],k=>k []
 | r::l,k=>QW T fr H r fun x=>WU T fr H l fun xs=>k (x::xs)
def Ir (T:Tys) (rs:List ResultVar) (fr:Fr) (H:List AB) (k:AV->Prop):Prop:=
 WU T fr H rs fun l=>match l with | [x]=>k x | l=>k (.tp l)
def Po (x:AV) (H:List AB) (k:AV->List AB->Prop):Prop:=
 match x with
 | .ag cs=>sealK cs H fun l H=>k (.ag l) H
 | .v u=>k (.v u) H
 | .sl sz n get=>k (.sl sz n get) H
 | .ow j n=>match hget H j with
   | some (.row _ sz es)=>n=es.length/\setK j .dead H fun H=>k (.sl sz n (fun i=>es.getD i [])) H
   | _=>False
 | .ic t cs=>match AV.ltL cs 0 with | true=>k (.ic t cs) H | false=>False
 | _=>False
def sealA:List AV->List AB->(List AV->List AB->Prop)->Prop
 | [],H,k=>k [] H
 | x::l,H,k=>Po x H fun x H=>sealA l H fun l H=>k (x::l) H
def Pm (x:AV) (H:List AB) (k:AV->Prop):Prop:=
 match x with
 | .tp l=>sealA l H fun l _=>k (.tp l)
 | x=>Po x H fun x _=>k x

theorem FI {w0:Fl} {M0:Ms} {c:Ctx} {H:List AB} {x:AV} {u:Value} {k:AV->List AB->Prop} (hs:HS w0 M0 c H) (hr:Rd x c u) (h:Po x H k) :
  ∃ r H' c',k r H'/\c'.w=c.w/\HS w0 M0 c' H'/\Ext c c'/\Rd r c'.closed u/\H'.length=H.length:=by
 unfold Po at h;split at h
 ·rename_i cs;simp only [Rd] at hr;obtain⟨xs,rfl,hx⟩:=hr;obtain⟨l',H',c',q1,q2,q3,q4,q5,q6,q7,q8⟩:=sealK_sound hs hx h;exact⟨_,H',c',q1,q2,q3,q4,by simp only [Rd];exact⟨xs,rfl,q5⟩,q6⟩
 ·exact⟨_,H,c,h,rfl,hs,zM c,by simpa [Rd] using hr,rfl⟩
 ·exact⟨_,H,c,h,rfl,hs,zM c,by simp only [Rd] at hr |-;exact hr,rfl⟩
 ·rename_i j n;rw [hget_eq] at h;split at h
  ·rename_i t sz es hj;obtain⟨rfl,h⟩:=h;have h:=setK_iff h;obtain⟨c1,e1,e2,e3,e4⟩:=hs.freeze hj;refine⟨_,_,c1,h,e1,e2,e3,?_,by simp⟩;have:=e4 u hr;simp only [Rd] at this |-
   exact this
  ·exact h.elim
 ·rename_i t cs;split at h
  ·rename_i hl;exact⟨_,H,c,h,rfl,hs,zM c,Rd.cut (c:=c) (c':=c.closed) (.ic t cs) ⟨zM _,fun k hk=>absurd hk (Ap k)⟩ (by simpa [AV.lt,Ctx.closed] using hl) hr,rfl⟩
  ·exact h.elim
 ·exact h.elim
theorem sealA_sound:∀ {l:List AV} {w0:Fl} {M0:Ms} {c:Ctx} {H:List AB} {xs:List Value} {k:List AV->List AB->Prop},HS w0 M0 c H->RdL l c xs->sealA l H k->
  ∃ l' H' c',k l' H'/\c'.w=c.w/\HS w0 M0 c' H'/\Ext c c'/\RdL l' c'.closed xs/\H'.length=H.length
 | [],_,_,c,H,xs,k,hs,hr,h=>⟨[],H,c,h,rfl,hs,zM c,by simp only [RdL] at hr |-;exact hr,rfl⟩
 | x::l,w0,M0,c,H,xs,k,hs,hr,h=>by
  simp only [RdL] at hr;obtain⟨u,us,rfl,h1,h2⟩:=hr;simp only [sealA] at h;obtain⟨r,H1,c1,q1,q2,q3,q4,q5,q6⟩:=FI hs h1 h;obtain⟨l',H2,c2,p1,p2,p3,p4,p5,p6⟩:=sealA_sound q3 (RdL.ext _ q4 h2) q1;refine⟨_,H2,c2,p1,p2.trans q2,p3,q4.trans p4,?_,by omega⟩;simp only [RdL];exact⟨u,us,rfl,Rd.ext _ p4.closed q5,p5⟩
theorem Kv {w0:Fl} {M0:Ms} {c:Ctx} {H:List AB} {x:AV} {u:Value} {k:AV->Prop} (hs:HS w0 M0 c H) (hr:Rd x c u) (h:Pm x H k) :
  ∃ r H' c',k r/\c'.w=c.w/\HS w0 M0 c' H'/\Ext c c'/\Rd r c'.closed u:=by
 unfold Pm at h;split at h
 ·simp only [Rd] at hr;obtain⟨xs,rfl,hx⟩:=hr;obtain⟨l',H',c',q1,q2,q3,q4,q5,q6⟩:=sealA_sound hs hx h;exact⟨_,H',c',q1,q2,q3,q4,by simp only [Rd];exact⟨xs,rfl,q5⟩⟩
 ·obtain⟨r,H',c',q1,q2,q3,q4,q5,_⟩:=FI hs hr h;exact⟨r,H',c',q1,q2,q3,q4,q5⟩

def NQ (tmps:Array Value) (r:ResultVar):Sem Value:=
 match r with
 | .tmp t=>pure (tmps.getD t undef)
 | .cell a t=>do loadVar t (<-asAddr (tmps.getD a undef))
theorem QX (fn:Func) (tmps:Array Value):results fn tmps=(do let vs <-fn.results.mapM (NQ tmps);pure (if h:vs.size=1 then vs[0] else .tuple vs)):=by
 unfold results;congr 1
theorem NP {P:Program} {T:Tys} (hT:TOk P T) {w0:Fl} {M0:Ms} {c:Ctx} {H:List AB} (hs:HS w0 M0 c H) {n:Nat} {fr:Fr} {a:Act} (hf:FR w0 c n fr a) {r:ResultVar} {k:AV->Prop} (h:QW T fr H r k) :
  ∃ x v,k x/\Rd x c v/\(NQ a.tmps r).run P c.w = .ok v c.w:=by
 cases r with
 | tmp t=>exact⟨_,_,BD h,hf.get _,rfl⟩
 | cell ad t=>
  simp only [QW] at h;split at h
  ·rename_i ty ht;obtain⟨b,off,cs,hu,hc,hk⟩:=Pz hs (hf.get ad) h;obtain⟨x,v,h1,h2,h3⟩:=PK (P:=P) (hT.get ht) hc hk;exact⟨x,v,h1,h3,by simp only [NQ,hu,asAddr,Sem.run_bind,Sem.run_pure,Result.andThen_ok];exact h2 c.w (zy _)⟩
  ·exact h.elim
theorem Ly {P:Program} {T:Tys} (hT:TOk P T) {w0:Fl} {M0:Ms} {c:Ctx} {H:List AB} (hs:HS w0 M0 c H) {n:Nat} {fr:Fr} {a:Act} (hf:FR w0 c n fr a):∀ {l:List ResultVar} {k:List AV->Prop},WU T fr H l k->
  ∃ xs vs,k xs/\RdL xs c vs/\(l.mapM (NQ a.tmps)).run P c.w = .ok vs c.w
 | [],k,h=>⟨[], [],h,by simp [RdL],by simp⟩
 | r::l,k,h=>by
  simp only [WU] at h;obtain⟨x,v,h1,h2,h3⟩:=NP hT hs hf h;obtain⟨xs,vs,h4,h5,h6⟩:=Ly hT hs hf h1;refine⟨x::xs,v::vs,h4,by simp only [RdL];exact⟨v,vs,rfl,h2,h5⟩,?_⟩;rw [List.mapM_cons,Sem.run_bind,h3,Result.andThen_ok,Sem.run_bind,h6];try rfl
theorem Es {P:Program} {T:Tys} (hT:TOk P T) {w0:Fl} {M0:Ms} {c:Ctx} {H:List AB} (hs:HS w0 M0 c H) {n:Nat} {fr:Fr} {a:Act} (hf:FR w0 c n fr a) {fn:Func} {k:AV->Prop} (h:Ir T fn.results.toList fr H k) :
  ∃ x v,k x/\Rd x c v/\(results fn a.tmps).run P c.w = .ok v c.w:=by
 unfold Ir at h;obtain⟨xs,vs,h1,h2,h3⟩:=Ly hT hs hf h;have hrun:∀ v,(if h:vs.toArray.size=1 then vs.toArray[0] else .tuple vs.toArray)=v->(results fn a.tmps).run P c.w = .ok v c.w:=by
  intro v hv;rw [QX,Sem.run_bind,Array.mapM_eq_mapM_toList,Sem.run_map,h3];simp only [Result.andThen_ok,Sem.run_pure];rw [<-hv]
 have hl:=h2.length;cases xs with
 | nil=>
  simp only [RdL] at h2;subst h2;exact⟨.tp [], .tuple #[],h1,by simp only [Rd];exact⟨[],rfl,by simp [RdL]⟩,hrun _ (by simp)⟩
 | cons x xs=>
  have h2':=h2;simp only [RdL] at h2;obtain⟨v,us,rfl,h4,h5⟩:=h2;cases xs with
  | nil=>
   simp only [RdL] at h5;subst h5;exact⟨x,v,h1,h4,hrun v (by simp)⟩
  | cons y xs=>
   refine⟨.tp (x::y::xs), .tuple (v::us).toArray,h1,by simp only [Rd];exact⟨_,rfl,h2'⟩,hrun _ ?_⟩;rw [dif_neg];have:=h5.length;simp at this |-
   intro e;subst e;simp at this

def Q5 (P : Program) (f : FuncId) : Prop := ∃ fn, P.funcs[f]? = some fn ∧ fn.body.isNone = false ∧ (fn.name == "runtime.NumGoroutine") = false
structure Fn (P:Program) (f:FuncId) (args:List AV) (K:AV->Prop):Prop where
 go:Q5 P f
 calls:∀ (c0:Ctx) (us:List Value),c0.dom=0->(∀ b,c0.M b->b<c0.w.heap.size)->globOk c0.w->RdL args c0 us->
  Calls P f us.toArray c0.w fun e w'=>∃ v r,e = .returned v/\K r/\Below c0.w.heap.size c0.w w'/\Rd r { c0 with w:=w' } v
theorem Fn.mono {P:Program} {f:FuncId} {args:List AV} {K K':AV->Prop} (h:Fn P f args K) (hk:∀ r,K r->K' r):Fn P f args K':=
 ⟨h.1,fun c0 us h1 h2 h3 h4=>(h.2 c0 us h1 h2 h3 h4).mono fun _ _ ⟨v,r,h4,h5,h6⟩=>⟨v,r,h4,hk _ h5,h6⟩⟩
theorem Fn.closed {P:Program} {f:FuncId} {args:List AV} {H:List AB} {K:AV->Prop} {q:Bool} {k:AV->List AB->Prop} (h:Fn P f args K) (hc:AV.ltL args 0=true) (hk:∀ r,K r->k r H):ACalls P q f args H k:=by
 refine⟨h.go,fun w0 M0 c us hs0 hr=>?_⟩;have hcut:Cut c c.closed:=⟨zM _,fun k hk=>absurd hk (Ap k)⟩;refine(h.calls c.closed us rfl hs0.lt hs0.glob (RdL.cut args hcut hc hr)).mono ?_;rintro e w' ⟨v,r,rfl,q1,q2,q3⟩;obtain⟨p1,p2⟩:=hs0.grow (w':=w') q2;exact⟨v,_,r,H,rfl,rfl,hk r q1,p1,p2,Rd.ext r (zA { c with w:=w' }) q3,fun _=>q2.old⟩
def zx:=@Fn.closed
theorem Fn.cl {P:Program} {f:FuncId} {args:List AV} {H:List AB} {a:AV} {q:Bool} {k:AV->List AB->Prop} (h:Fn P f args fun r=>r=a) (hk:k a H) (hc:AV.ltL args 0=true:=by rfl):ACalls P q f args H k:=zx h hc fun _ e=>e▸hk
def zY:=@Fn.cl
theorem tS {A B C R:Prop} (r:R) (a:A:=by exact rfl) (b:B:=by first | rfl | (simp;done) | (simp;omega)) (c:C:=by first | omega | (simp;omega)):(A /\ B /\ C) /\ R:=⟨⟨a,b,c⟩,r⟩
theorem tI {A R:Prop} (r:R) (a:A:=by first | omega | (simp;done)):A /\ R:=⟨a,r⟩
theorem tJ {A R:Prop} (r:R) (a:A:=by first | rfl | omega):A /\ R:=⟨a,r⟩
theorem tK {A R:Prop} (r:R) (a:A:=by first | omega | exact ⟨by first | rfl | (simp;done) | (simp;omega),by omega⟩):A /\ R:=⟨a,r⟩
theorem ACalls.shut {P:Program} {q:Bool} {f:FuncId} {args:List AV} {H:List AB} {k:AV->List AB->Prop} (h:Q5 P f) (hs:sealA args H fun a H=>ACalls P q f a H k):ACalls P q f args H k:=by
 refine⟨h,fun w0 M0 c us hs0 hr=>?_⟩;obtain⟨l',H',c',h1,h2,h3,h4,h5,_⟩:=sealA_sound hs0 hr hs;have:=h1.calls w0 M0 c' us h3 (RdL.ext _ (zA c') h5);rw [h2] at this;refine this.mono ?_;rintro e w' ⟨v,c2,r,H2,rfl,rfl,q1,q2,q3,q4,q5⟩;exact⟨v,c2,r,H2,rfl,rfl,q1,q2,h4.trans q3,q4,q5⟩
def zS:=@ACalls.shut
theorem Fn.shut {P:Program} {f:FuncId} {args args':List AV} {H:List AB} {K:AV->Prop} {q:Bool} {k:AV->List AB->Prop} (h:Fn P f args' K) (hs:sealA args H fun a H=>a=args'/\∀ r,K r->k r H):ACalls P q f args H k:=by
 refine⟨h.1,fun w0 M0 c us hs0 hr=>?_⟩;obtain⟨l',H',c',⟨rfl,h1⟩,h2,h3,h4,h5,_⟩:=sealA_sound hs0 hr hs;have:=h.2 c'.closed us rfl h3.lt h3.glob h5;rw [show c'.closed.w=c.w from h2] at this;refine this.mono ?_;rintro e w' ⟨v,r,rfl,q1,q2,q3⟩;have hB:Below c'.w.heap.size c'.w w':=by rw [h2];exact q2
 obtain⟨p1,p2⟩:=h3.grow hB;exact⟨v,_,r,H',rfl,rfl,h1 r q1,p1,h4.trans p2,Rd.ext r (zA { c' with w:=w' }) q3,fun _=>q2.old⟩

def frOf:Nat->List AV->Fr
 | _, []=> []
 | i,x::l=>(i,x)::frOf (i+1) l
theorem GF {c:Ctx} {us:List Value} {m:Nat}:∀ {l:List AV} {i:Nat} {pre:List Value},pre.length=i->RdL l c us->∀ j,Rd (fget (frOf i l) j) c ((pre ++ us ++ List.replicate m undef)[j]?.getD undef):=by
 intro l;induction l generalizing us with
 | nil=>intro i pre _ _ j;simp [frOf,fget,Rd]
 | cons x l ih=>
  intro i pre hp hr j;simp only [RdL] at hr;obtain⟨y,ys,rfl,h1,h2⟩:=hr;simp only [frOf,fget];cases hb:Nat.beq i j with
  | true=>
   have:=Am hb;subst this;simp only [cond_true];rw [AA,AL (by omega),hp];simpa using h1
  | false=>
   have:=ih (us:=ys) (i:=i+1) (pre:=pre ++ [y]) (by simp [hp]) h2 j;simpa using this
theorem HS.shut {w0:Fl} {M0:Ms} {c:Ctx} {H:List AB} (h:HS w0 M0 c H) {b:Nat} (hb:w0.w.heap.size<=b) (hd:c.w.heap[b]? = some (.deferred (some []))) :
  HS w0 M0 { c with w:=c.w.putObj b (.deferred none) } H/\Like c { c with w:=c.w.putObj b (.deferred none) }:=by
 have hcell:∀ a u,c.w.cell? a=some u->(c.w.putObj b (.deferred none)).cell? a=some u:=by
  intro a u hu;refine(World.cell?_of_block (World.putObj_heap_other ?_)).trans hu;intro e;unfold World.cell? at hu;rw [e,hd] at hu;cases hu
 have hl:Like c { c with w:=c.w.putObj b (.deferred none) }:=⟨rfl,by simp,hcell,rfl,rfl,rfl⟩;have hoth:∀ g:Nat,(∃ o:Obj,c.w.heap[g]? = some o/\o≠ .deferred (some []))->(c.w.putObj b (.deferred none)).heap[g]? = c.w.heap[g]? :=by
  rintro g ⟨o,ho,hne⟩;refine World.putObj_heap_other ?_;rintro rfl;rw [hd] at ho;exact hne (Option.some.inj ho).symm
 refine⟨⟨⟨h.low.os,h.low.tape,h.low.output,by simpa using h.low.size,fun b' hb'=>?_⟩,h.base,h.dom,h.foreign,fun b' hm=>by simpa using h.lt b' hm,fun k x hk=>?_,h.own,h.dis⟩,hl⟩
 ·rw [<-h.low.block b' hb'];exact World.putObj_heap_other (by have:=w0.lt b' hb';omega)
 ·have hx:=h.blk k x hk;cases x with
  | dead=>trivial
  | box t cs=>
   obtain⟨g,xs,h1,h2,h3,h4⟩:=hx;exact⟨g,xs,h1,(hoth g ⟨_,h2,by simp⟩).trans h2,RdL.like cs hl h3,h4⟩
  | iter s pos=>
   obtain⟨g,h1,h2⟩:=hx;exact⟨g,h1,(hoth g ⟨_,h2,by simp⟩).trans h2⟩
  | row t sz es=>
   obtain⟨h1,h2,h3,xs,h4,h5,h6⟩:=hx;refine⟨h1,h2,h3,xs,?_,RdL.like _ hl.closed h5,h6⟩;refine⟨h4.1,h4.2.imp id ?_⟩;rintro⟨g,cap,cur,q1,q2,q3,q4⟩;exact⟨g,cap,cur,q1,q2,(hoth g ⟨_,q3,by simp⟩).trans q3,q4⟩
  | rowo t sz es m=>
   obtain⟨h1,h2,h3,h3',xs,h4,h5,h6⟩:=hx;refine⟨h1,h2,h3,h3',xs,?_,RdL.like _ hl h5,h6⟩;refine⟨h4.1,h4.2.imp id ?_⟩;rintro⟨g,cap,cur,q1,q2,q3,q4⟩;exact⟨g,cap,cur,q1,q2,(hoth g ⟨_,q3,by simp⟩).trans q3,q4⟩
theorem Jy {P:Program} {w0:Fl} {M0:Ms} {ce:Ctx} {n:Nat} {fn:Func} {R:Ending->World->Prop} {K:Fr->List AB->Prop} (hck:w0.chk) (hce:ce.w.heap.size<=w0.w.heap.size)
  (fin:∀ a w,DP w0 M0 ce n K a w->∃ v,(results fn a.tmps).run P w = .ok v w/\R (.returned v) w) {tmps:Array Value} {fr:Fr} {H:List AB} (hK:K fr H) (hsz:tmps.size=n) :
  ∀ (ds:List Deferred) (c:Ctx),HS w0 M0 c H->(∀ i,Rd (fget fr i) c (tmps.getD i undef))->Ext ce c->DfOk w0 c ds->LeavesInM Fence.wide 0 P fn tmps R ds .returning c.w
 | [],c,hs,hf,he,_=>fin { tmps:=tmps,defers:= [] } c.w ⟨c,fr,H,rfl,hK,hs,⟨hsz,tv,hf⟩,he⟩
 | d::ds,c,hs,hf,he,hd=>by
  obtain⟨b,rfl,h2,h3,h4,h5⟩:=hd.1 hck;have h6:=hd.2;clear hd;obtain⟨hs',hl⟩:=hs.shut h2 h4;refine⟨by simp, .inl ⟨b,_,rfl,run_takeDeferred h4,Jy hck hce fin hK hsz ds { c with w:=c.w.putObj b (.deferred none) } hs' (fun i=>Rd.like _ hl (hf i)) ?_ ?_⟩⟩
  ·refine⟨he.os,he.tape,he.output,by simpa using he.size,fun b' hb' hm=>⟨(he.keep b' hb' hm).1,?_⟩,he.dom,he.len,he.rho,he.box⟩;rw [<-(he.keep b' hb' hm).2];exact World.putObj_heap_other (by omega)
  ·clear h4 hs' hl;induction ds with
   | nil=>trivial
   | cons e r ih=>
    obtain⟨b2,rfl,q2,q3,q4,q5⟩:=h6.1 hck;have q6:=h6.2;have hne:b2≠b:=fun e=>h5 { target:= .collected b2,args:= #[] } (by simp) (by rw [e])
    exact⟨fun _=>⟨b2,rfl,q2,q3,(World.putObj_heap_other hne).trans q4,q5⟩,ih (fun e he=>h5 e (by simp [he])) q6⟩
theorem DZ {P:Program} {w0:Fl} {M0:Ms} {ce:Ctx} {f:FuncId} {fn:Func} {body:Code} {args:Array Value} {w:World} {R:Ending->World->Prop} {K:Fr->List AB->Prop} (hf:P.funcs[f]? = some fn) (hb:fn.body=some body) (hck:w0.chk) (hce:ce.w.heap.size<=w0.w.heap.size)
  (fin:∀ a w,DP w0 M0 ce fn.ntmps K a w->∃ v,(results fn a.tmps).run P w = .ok v w/\R (.returned v) w)
  (h:body.wp P (fun e a w=>(e = .normal\/e = .ret)/\DP w0 M0 ce fn.ntmps K a w) { tmps:=args ++ Array.replicate (fn.ntmps - args.size) undef,defers:= [] } w):Calls P f args w R:=by
 refine callsIn_wide.1 (callsIn_of_wp_marks (F:=Fence.wide) (n:=0) hf hb trivial (wpIn_mono (wpIn_wide.2 h) ?_));rintro e a w' ⟨he,c,fr,H,rfl,hK,hs,hfr,hx⟩;have:=Jy hck hce fin hK hfr.size a.defers c hs hfr.get hx hfr.defers;rcases he with rfl | rfl <;> exact this
theorem EO {w0:Fl} {M0:Ms} {ce:Ctx} {n:Nat} {Q:QA} {K:Fr->List AB->Prop} (h1:Q .normal=K) (h2:Q .ret=K) (h3:∀ id fr H,¬Q (.exit id) fr H):∀ e a w,LiftQ w0 M0 ce n Q e a w->(e = .normal\/e = .ret)/\DP w0 M0 ce n K a w:=by
 intro e a w hl;cases e with
 | normal=>exact⟨.inl rfl,h1 ▸ hl⟩
 | ret=>exact⟨.inr rfl,h2 ▸ hl⟩
 | exit id=>obtain⟨c,fr,H,_,q,_⟩:=hl;exact(h3 _ _ _ q).elim
 | _=>exact hl.elim
def Fl.at (w0:Fl) (w:World) (h:LowF w0 w):Fl:=⟨w,w0.old,fun b hb=>As (w0.lt b hb) h.size,fun w' hs hb=>w0.gl w' (AW h.size hs) fun b h'=>(hb b h').trans (h.block b h'),True⟩
theorem LowF.ofAt {w0:Fl} {w w':World} {h:LowF w0 w} (k:LowF (w0.at w h) w'):LowF w0 w':=⟨k.os.trans h.os,k.tape.trans h.tape,k.output.trans h.output,AW h.size k.size,fun b hb=>(k.block b hb).trans (h.block b hb)⟩
def zb:=@LowF.ofAt
theorem HS.toAt {w0:Fl} {M0:Ms} {c:Ctx} {H:List AB} (h:HS w0 M0 c H):HS (w0.at c.w h.low) M0 c H:=⟨⟨rfl,rfl,rfl,Ag _,fun _ _=>rfl⟩,h.base,h.dom,h.foreign,h.lt,h.blk,h.own,h.dis⟩
def Z6 (T:Tys) (rs:List ResultVar) (K:AV->Prop):QA:=fun ex fr H=>match ex with
 | .exit _=>False
 | _=>Ir T rs fr H fun x=>Pm x H fun r=>∃ r',(∀ c v,Rd r c v->Rd r' c v)/\K r'
theorem Fn.of {P : Program} {T : Tys} (hT : TOk P T) {f : FuncId} {fn : Func} {body : Code} {args : List AV} {K : AV → Prop} (hf : P.funcs[f]? = some fn) (hb : fn.body = some body) (hname : (fn.name == "runtime.NumGoroutine") = false) (hn : args.length ≤ fn.ntmps)
  (h:Ck P T fn.ntmps 0 body (Z6 T fn.results.toList K) (frOf 0 args) []):Fn P f args K:=by
 refine⟨⟨fn,hf,by rw [hb];try rfl,hname⟩,fun c0 us hd hM hg hr=>?_⟩;let ce:Ctx:={ c0 with base:=0 };have hce:Ext c0 ce:=⟨rfl,rfl,rfl,Ag _,fun _ _ h=>⟨h,rfl⟩,Ag _,fun _ _=>Ag _,fun _ _ _=>rfl,fun _ _ _ h=>h⟩;have hHS:HS (Fl.all c0.w hg) c0.M ce []:=⟨yZ _ hg,rfl,hd,fun _ _=>Iff.rfl,hM,by simp,by simp,by simp⟩;have hlen:=hr.length;have hFR:FR (Fl.all c0.w hg) ce fn.ntmps (frOf 0 args) { tmps:=us.toArray ++ Array.replicate (fn.ntmps - us.toArray.size) undef,defers:= [] }:=by
  refine⟨by simp;omega,tv,fun i=>?_⟩;have:=GF (c:=ce) (m:=fn.ntmps - us.length) (l:=args) (i:=0) (pre:= []) rfl (RdL.ext _ hce hr) i;rw [AH];have e:(us.toArray ++ Array.replicate (fn.ntmps - us.toArray.size) undef)[i]? = ([] ++ us ++ List.replicate (fn.ntmps - us.length) undef)[i]? :=by
   have:(us.toArray ++ Array.replicate (fn.ntmps - us.toArray.size) undef)=([] ++ us ++ List.replicate (fn.ntmps - us.length) undef).toArray:=Array.ext' (by simp);rw [this];simp only [Ch]
  rw [e];exact this
 have fin:∀ a w,DP (Fl.all c0.w hg) c0.M ce fn.ntmps (fun fr H=>Ir T fn.results.toList fr H fun x=>Pm x H fun r=>∃ r',(∀ c v,Rd r c v->Rd r' c v)/\K r') a w->∃ v,(results fn a.tmps).run P w = .ok v w/\∃ v' r,Ending.returned v = .returned v'/\K r/\Below c0.w.heap.size c0.w w/\Rd r { c0 with w:=w } v':=by
  rintro a w ⟨c,fr,H,rfl,h1,h2,h3,h4⟩;obtain⟨x,v,q1,q2,q3⟩:=Es hT h2 h3 h1;obtain⟨r,H',c',p1,p2,p3,p4,p5⟩:=Kv h2 q2 q1;obtain⟨r',o1,o2⟩:=p1;refine⟨v,q3,v,r',rfl,o2,h2.low.below,?_⟩;refine o1 _ _ ?_;have hE:Ext c'.closed { c0 with w:=c.w }:=by
   refine⟨by simp [Ctx.closed,p2],by simp [Ctx.closed,p2],by simp [Ctx.closed,p2],by simp [Ctx.closed,p2],fun b hb hm=>⟨fun h=>hm ?_,by simp [Ctx.closed,p2]⟩,Aj _,fun k hk=>absurd hk (Ap k),fun k hk=>absurd hk (Ap k),fun k _ hk=>absurd hk (Ap k)⟩;exact(p3.foreign b (hM b h)).2 h
  exact Rd.ext _ hE p5
 refine DZ hf hb trivial (Ag _) fin ?_;refine B3 (w0:=Fl.all c0.w hg) (M0:=c0.M) (ce:=ce) hT hd body _ _ ce _ [] _ (EO rfl rfl fun _ _ _ h=>h) hHS hFR (zM _) h
end
end Go.Proofs.YtpjkcgacjjbikaaGreatDoor.A
namespace Go.Proofs.YtpjkcgacjjbikaaGreatDoor
section

section
variable {P:Program} {ops:Array Oper} {Q:Exit->Act->World->Prop} {D:List Nat} {S:World->Prop}

def Oh (ops:Array Oper) (D:List Nat) (j:Nat):Bool:=
 D.any fun i=>i != j&&!((ops[j]?).map fun o=>o.after.any fun e=>Region.binds .any e&&e.on == i).getD false

end
end
section

end
end Go.Proofs.YtpjkcgacjjbikaaGreatDoor
