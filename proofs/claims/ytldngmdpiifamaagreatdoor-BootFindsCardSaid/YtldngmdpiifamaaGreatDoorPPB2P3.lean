/-
Several texts in one.
-/
import Derived.Test.YtldngmdpiifamaaGreatDoorPPB2P1
import Derived.Test.YtldngmdpiifamaaGreatDoorPPB2P2
import Derived.Test.YtldngmdpiifamaaGreatDoorPPB2P0
import Derived.Lib.Overlaps
import Derived.Laws.Externs
section
namespace Go.Proofs.YtldngmdpiifamaaGreatDoor.A
open Go.RowKit
structure Cel where
 state : Int
 bytes : List UInt8
 old : List UInt8
 deriving DecidableEq
def celC (x : Cel) : List AV := [.v (.int .i64 x.state), bA x.bytes, bA x.old]
structure Dk where
 cells : List Cel
 cache : List Wr
 reqs : Int
 left : Int
 deriving DecidableEq
@[reducible] def dkX (x y : AV) (reqs left : Int) : List AV := [x, y, .v (.int .i64 reqs), .v (.int .i64 left)]
@[reducible] def dkH (d : Dk) : List AB := [.box 164 (dkX (.ow 1 d.cells.length) (.ow 2 d.cache.length) d.reqs d.left), .row 87 3 (d.cells.map celC), .row 130 2 (d.cache.map wrC)]
def Dk.req (d : Dk) : Dk := { d with reqs := if 1048576 < IntKind.i64.wrap (d.reqs + 1) then 1048576 else IntKind.i64.wrap (d.reqs + 1), left := if d.left > 0 then d.left - 1 else d.left }

set_option maxRecDepth 100000 in
theorem request_fn (d : Dk) (hl : -1 ≤ d.left ∧ d.left ≤ 1048576) : ACalls Tryz.prog false 163 [.bp 0 0] (dkH d) fun r H => r = .v (.bool (decide (d.left ≠ 0))) ∧ H = dkH (if d.left = 0 then d else d.req) := by
 refine ACalls.ofO tys_ok Tryz.func163 rfl rfl (by decide) ?_
 conv => whnf
 refine boolI (fun h => ?_) (fun h => ?_) <;> (repeat rw [Int.toNat_natCast] at h) <;> conv => whnf
 ·exact ⟨_, dkH d, fun _ _ h => h, ⟨rfl, rfl, rfl, trivial⟩, rfl, ⟨rfl, rfl⟩, by simp [h], by rw [if_pos h]⟩
 ·have hw : IntKind.i64.wrap (d.left - 1) = d.left - 1 := by rw [IntKind.wrap_i64]; omega
  refine aSeq.go ?_
  conv => whnf
  refine boolI (fun h2 => ?_) (fun h2 => ?_) <;> (repeat rw [Int.toNat_natCast] at h2) <;> conv => whnf
  ·exact ⟨_, dkH d.req, fun _ _ h => h, ⟨by simp [Dk.req, h2, hw], rfl, rfl, trivial⟩, rfl, ⟨rfl, rfl⟩, by simp [h], by rw [if_neg h]⟩
  ·exact ⟨_, dkH d.req, fun _ _ h => h, ⟨by simp [Dk.req]; omega, rfl, rfl, trivial⟩, rfl, ⟨rfl, rfl⟩, by simp [h], by rw [if_neg h]⟩

set_option maxHeartbeats 1000000 in
theorem back_any (a : Option Addr) (len cap : Nat) (w : World) :
  Calls Tryz.prog 164 #[.slice a len cap] w fun e w' => e = .returned (.func (.func 206) #[] #[.pointer (some ⟨w.heap.size, 0, none⟩)]) ∧ w.alloc (.cells #[.slice a len cap] 30) = w' := by
 go_enter Tryz.func164, Tryz.ntmps164
 go_wp2
 go_ret
 exact ⟨rfl, rfl⟩

theorem backward_fn (x : AV) (Hin : List AB) (hx : ∀ c u, Rd x c u → ∃ a len cap, u = .slice a len cap) : ACalls Tryz.prog false 164 [x] Hin fun r H => r = .fn 206 [.bp Hin.length 0] ∧ H = Hin ++ [.box 30 [x]] := by
 refine ⟨⟨_, Tryz.func164, rfl, by decide⟩, fun w0 M0 c us hs hr => ?_⟩
 have hr0 := hr
 simp only [RdL] at hr
 obtain ⟨u, _, rfl, hu, rfl⟩ := hr
 obtain ⟨a, len, cap, rfl⟩ := hx _ _ hu
 obtain ⟨c', e1, e2, e3, e4⟩ := hs.box 30 hr0 (by simp [Value.oneCell'])
 refine (back_any a len cap c.w).mono ?_
 rintro e w' ⟨rfl, rfl⟩
 refine ⟨_, c', _, _, rfl, by rw [e1], ⟨rfl, rfl⟩, e2, e3, ?_, fun e => by cases e⟩
 simp only [Rd, RdL]
 exact ⟨_, rfl, _, _, rfl, by simpa only [Rd] using e4, rfl⟩
def celsA (l : List Cel) : AV := .sl 3 l.length fun i => celC (l.getD i ⟨0, [], []⟩)
set_option maxRecDepth 100000 in
theorem iclo_own (l : List Int) (hl : l.length ≤ 1000000000) : ACalls Tryz.prog false 118 [iA l] [] fun r H => r = .ow 0 l.length ∧ H = [.row 3 1 (l.map ic1)] := by
 refine ACalls.ofC tys_ok Tryz.func118 rfl rfl (by show 1 ≤ _; decide) ?_
 conv => whnf
 refine And.intro (fun h => ?_) ?_
 ·conv => whnf
  have h0 := List.length_eq_zero_iff.1 h
  subst h0
  exact ⟨_, .ow 0 0, [.row 3 1 []], fun _ _ h => h, Wk.conv ⟨[(0, 3, 1)], ⟨rfl, rfl, trivial⟩, ⟨rfl, trivial⟩, ⟨rfl, trivial⟩, rfl, rfl, rfl⟩, rfl, rfl⟩
 ·conv => whnf
  refine And.intro ⟨rfl, by omega⟩ ?_
  conv => whnf
  exact ⟨.ow 0 l.length, .ow 0 l.length, [.row 3 1 (l.map ic1)], fun _ _ h => by rwa [Nat.zero_add] at h, Wk.conv ⟨[], trivial, ⟨rfl, trivial⟩, ⟨(congrArg (AB.row _ _) (rangeF (d := 0) ic1 l)).symm, trivial⟩, rfl, rfl, rfl⟩, rfl, rfl⟩
set_option maxRecDepth 100000 in
theorem hmclo_own (l : List Hm) (hl : l.length ≤ 1000000000) : ACalls Tryz.prog false 170 [hmsA l] [] fun r H => r = .ow 0 l.length ∧ H = [.row 132 3 (l.map hmC)] := by
 refine ACalls.ofC tys_ok Tryz.func170 rfl rfl (by show 1 ≤ _; decide) ?_
 conv => whnf
 refine And.intro (fun h => ?_) ?_
 ·conv => whnf
  have h0 := List.length_eq_zero_iff.1 h
  subst h0
  exact ⟨_, .ow 0 0, [.row 132 3 []], fun _ _ h => h, Wk.conv ⟨[(0, 132, 3)], ⟨rfl, rfl, trivial⟩, ⟨rfl, trivial⟩, ⟨rfl, trivial⟩, rfl, rfl, rfl⟩, rfl, rfl⟩
 ·conv => whnf
  refine And.intro ⟨rfl, by omega⟩ ?_
  conv => whnf
  exact ⟨.ow 0 l.length, .ow 0 l.length, [.row 132 3 (l.map hmC)], fun _ _ h => by rwa [Nat.zero_add] at h, Wk.conv ⟨[], trivial, ⟨rfl, trivial⟩, ⟨(congrArg (AB.row _ _) (rangeF (d := ⟨[], 0, 0⟩) hmC l)).symm, trivial⟩, rfl, rfl, rfl⟩, rfl, rfl⟩
set_option maxRecDepth 100000 in
theorem txclo_own (l : List Tx) (hl : l.length ≤ 1000000000) : ACalls Tryz.prog false 171 [txsA l] [] fun r H => r = .ow 0 l.length ∧ H = [.row 78 4 (l.map txC)] := by
 refine ACalls.ofC tys_ok Tryz.func171 rfl rfl (by show 1 ≤ _; decide) ?_
 conv => whnf
 refine And.intro (fun h => ?_) ?_
 ·conv => whnf
  have h0 := List.length_eq_zero_iff.1 h
  subst h0
  exact ⟨_, .ow 0 0, [.row 78 4 []], fun _ _ h => h, Wk.conv ⟨[(0, 78, 4)], ⟨rfl, rfl, trivial⟩, ⟨rfl, trivial⟩, ⟨rfl, trivial⟩, rfl, rfl, rfl⟩, rfl, rfl⟩
 ·conv => whnf
  refine And.intro ⟨rfl, by omega⟩ ?_
  conv => whnf
  exact ⟨.ow 0 l.length, .ow 0 l.length, [.row 78 4 (l.map txC)], fun _ _ h => by rwa [Nat.zero_add] at h, Wk.conv ⟨[], trivial, ⟨rfl, trivial⟩, ⟨(congrArg (AB.row _ _) (rangeF (d := ⟨0, 0, 0, []⟩) txC l)).symm, trivial⟩, rfl, rfl, rfl⟩, rfl, rfl⟩
set_option maxRecDepth 100000 in
theorem imclo_own (l : List Img) (hl : l.length ≤ 1000000000) : ACalls Tryz.prog false 172 [imgsA l] [] fun r H => r = .ow 0 l.length ∧ H = [.row 83 3 (l.map imgC)] := by
 refine ACalls.ofC tys_ok Tryz.func172 rfl rfl (by show 1 ≤ _; decide) ?_
 conv => whnf
 refine And.intro (fun h => ?_) ?_
 ·conv => whnf
  have h0 := List.length_eq_zero_iff.1 h
  subst h0
  exact ⟨_, .ow 0 0, [.row 83 3 []], fun _ _ h => h, Wk.conv ⟨[(0, 83, 3)], ⟨rfl, rfl, trivial⟩, ⟨rfl, trivial⟩, ⟨rfl, trivial⟩, rfl, rfl, rfl⟩, rfl, rfl⟩
 ·conv => whnf
  refine And.intro ⟨rfl, by omega⟩ ?_
  conv => whnf
  exact ⟨.ow 0 l.length, .ow 0 l.length, [.row 83 3 (l.map imgC)], fun _ _ h => by rwa [Nat.zero_add] at h, Wk.conv ⟨[], trivial, ⟨rfl, trivial⟩, ⟨(congrArg (AB.row _ _) (rangeF (d := ⟨0, 0, []⟩) imgC l)).symm, trivial⟩, rfl, rfl, rfl⟩, rfl, rfl⟩
set_option maxRecDepth 100000 in
theorem celclo_own (l : List Cel) (hl : l.length ≤ 1000000000) : ACalls Tryz.prog false 109 [celsA l] [] fun r H => r = .ow 0 l.length ∧ H = [.row 87 3 (l.map celC)] := by
 refine ACalls.ofC tys_ok Tryz.func109 rfl rfl (by show 1 ≤ _; decide) ?_
 conv => whnf
 refine And.intro (fun h => ?_) ?_
 ·conv => whnf
  have h0 := List.length_eq_zero_iff.1 h
  subst h0
  exact ⟨_, .ow 0 0, [.row 87 3 []], fun _ _ h => h, Wk.conv ⟨[(0, 87, 3)], ⟨rfl, rfl, trivial⟩, ⟨rfl, trivial⟩, ⟨rfl, trivial⟩, rfl, rfl, rfl⟩, rfl, rfl⟩
 ·conv => whnf
  refine And.intro ⟨rfl, by omega⟩ ?_
  conv => whnf
  exact ⟨.ow 0 l.length, .ow 0 l.length, [.row 87 3 (l.map celC)], fun _ _ h => by rwa [Nat.zero_add] at h, Wk.conv ⟨[], trivial, ⟨rfl, trivial⟩, ⟨(congrArg (AB.row _ _) (rangeF (d := ⟨0, [], []⟩) celC l)).symm, trivial⟩, rfl, rfl, rfl⟩, rfl, rfl⟩
set_option maxRecDepth 100000 in
theorem wrclo_own (l : List Wr) (hl : l.length ≤ 1000000000) : ACalls Tryz.prog false 110 [wrsA l] [] fun r H => r = .ow 0 l.length ∧ H = [.row 130 2 (l.map wrC)] := by
 refine ACalls.ofC tys_ok Tryz.func110 rfl rfl (by show 1 ≤ _; decide) ?_
 conv => whnf
 refine And.intro (fun h => ?_) ?_
 ·conv => whnf
  have h0 := List.length_eq_zero_iff.1 h
  subst h0
  exact ⟨_, .ow 0 0, [.row 130 2 []], fun _ _ h => h, Wk.conv ⟨[(0, 130, 2)], ⟨rfl, rfl, trivial⟩, ⟨rfl, trivial⟩, ⟨rfl, trivial⟩, rfl, rfl, rfl⟩, rfl, rfl⟩
 ·conv => whnf
  refine And.intro ⟨rfl, by omega⟩ ?_
  conv => whnf
  exact ⟨.ow 0 l.length, .ow 0 l.length, [.row 130 2 (l.map wrC)], fun _ _ h => by rwa [Nat.zero_add] at h, Wk.conv ⟨[], trivial, ⟨rfl, trivial⟩, ⟨(congrArg (AB.row _ _) (rangeF (d := ⟨0, []⟩) wrC l)).symm, trivial⟩, rfl, rfl, rfl⟩, rfl, rfl⟩
theorem SubL.app : ∀ {a b x y : List AV}, SubL a b → SubL x y → SubL (a ++ x) (b ++ y)
 | [], [], _, _, _, k => k
 | _ :: _, _ :: _, _, _, h, k => ⟨h.1, SubL.app h.2 k⟩
 | [], _ :: _, _, _, h, _ => h.elim
 | _ :: _, [], _, _, h, _ => h.elim
theorem SubL.flat : ∀ {a b : List (List AV)}, a.length = b.length → (∀ i, SubL (a.getD i []) (b.getD i [])) → SubL a.flatten b.flatten
 | [], [], _, _ => trivial
 | x :: a, y :: b, hl, h => by
  rw [List.flatten_cons, List.flatten_cons]
  exact SubL.app (h 0) (SubL.flat (by simpa using hl) fun i => h (i + 1))
 | [], _ :: _, hl, _ => by simp at hl
 | _ :: _, [], hl, _ => by simp at hl
theorem ConvH.subRow {H : List AB} {k : Nat} {t : TypeId} {sz : Nat} {es es' : List (List AV)} (hk : H[k]? = some (.row t sz es)) (hl : es.length = es'.length) (h : ∀ i, SubL (es.getD i []) (es'.getD i [])) : ConvH H (H.set k (.row t sz es')) := fun _ _ c hs =>
 ⟨c, rfl, hs.recell hk rfl fun ⟨h1, h2, h3, xs, h4, h5, h6⟩ => ⟨h1.trans hl, h2, fun e he => by
  obtain ⟨i, hi, rfl⟩ := List.mem_iff_getElem.1 he
  have := (h i).len
  rw [List.getD_eq_getElem?_getD, List.getD_eq_getElem?_getD, List.getElem?_eq_getElem hi, List.getElem?_eq_getElem (by omega)] at this
  simp only [Option.getD_some] at this
  rw [← this]
  exact h3 _ (List.getElem_mem _), xs, by rw [← hl]; exact h4, (SubL.flat hl h).rdl h5, h6⟩, Ext.refl c⟩
theorem ConvH.subRowo {H : List AB} {k : Nat} {t : TypeId} {sz m m' : Nat} {es es' : List (List AV)} (hk : H[k]? = some (.rowo t sz es m)) (hl : es.length = es'.length) (h : ∀ i, SubL (es.getD i []) (es'.getD i [])) (hm : AV.ltL es'.flatten m' = true) : ConvH H (H.set k (.rowo t sz es' m')) := fun _ _ c hs =>
 ⟨c, rfl, hs.recell hk rfl fun ⟨h1, h2, h3, h7, xs, h4, h5, h6⟩ => ⟨h1.trans hl, h2, fun e he => by
  obtain ⟨i, hi, rfl⟩ := List.mem_iff_getElem.1 he
  have := (h i).len
  rw [List.getD_eq_getElem?_getD, List.getD_eq_getElem?_getD, List.getElem?_eq_getElem hi, List.getElem?_eq_getElem (by omega)] at this
  simp only [Option.getD_some] at this
  rw [← this]
  exact h3 _ (List.getElem_mem _), hm, xs, by rw [← hl]; exact h4, (SubL.flat hl h).rdl h5, h6⟩, Ext.refl c⟩
theorem set_getD_ne {α : Type} {d x : α} {l : List α} {i k : Nat} (h : i ≠ k) : (l.set i x).getD k d = l.getD k d := by
 rw [List.getD_eq_getElem?_getD, List.getElem?_set_ne h, ← List.getD_eq_getElem?_getD]
theorem set_getD_eq {α : Type} {d x : α} {l : List α} {i : Nat} (h : i < l.length) : (l.set i x).getD i d = x := by
 rw [List.getD_eq_getElem?_getD, List.getElem?_set_self h]; rfl
theorem ConvH.last {H : List AB} (k : Nat) {t : TypeId} {sz : Nat} {es : List (List AV)} {e e' : List AV} (hk : H[k]? = some (.row t sz (es ++ [e]))) (h : SubL e e') : ConvH H (H.set k (.row t sz (es ++ [e']))) :=
 ConvH.subRow hk (by simp) fun i => by
  by_cases hi : i < es.length
  ·rw [getD_app hi, getD_app hi]; exact SubL.refl _
  ·rw [getD_appR (by omega), getD_appR (by omega)]
   cases h2 : i - es.length with
   | zero => exact h
   | succ j => exact SubL.refl _
def AV.mv (k d : Nat) : AV → AV
 | .ow j n => .ow (bif Nat.beq j k then d else j) n
 | x => x
theorem Rd.mv {c c' : Ctx} {k : Nat} (e : Ext c c') (hd : c.dom < c'.dom) (hr : c'.rho c.dom = c.rho k) (hl : c'.len c.dom = c.len k) : ∀ (x : AV) {u : Value}, Rd x c u → Rd (x.mv k c.dom) c' u
 | .ow j n, u, h => by
  show Rd (.ow (bif Nat.beq j k then c.dom else j) n) c' u
  cases hb : Nat.beq j k with
  | true =>
   have := Nat.eq_of_beq_eq_true hb
   subst this
   simp only [Rd] at h
   simp only [cond_true, Rd]
   exact ⟨hd, by rw [hl]; exact h.2.1, h.2.2.1, fun e => by rw [hr]; exact h.2.2.2 (by rw [← hl]; exact e)⟩
  | false => exact Rd.ext _ e h
 | .top, _, h => Rd.ext _ e h
 | .v _, _, h => Rd.ext _ e h
 | .sl _ _ _, _, h => Rd.ext _ e h
 | .rp _, _, h => Rd.ext _ e h
 | .bp _ _, _, h => Rd.ext _ e h
 | .ep _ _ _ _ _, _, h => Rd.ext _ e h
 | .ag _, _, h => Rd.ext _ e h
 | .tp _, _, h => Rd.ext _ e h
 | .fn _ _, _, h => Rd.ext _ e h
 | .ic _ _, _, h => Rd.ext _ e h
theorem RdL.mv {c c' : Ctx} {k : Nat} (e : Ext c c') (hd : c.dom < c'.dom) (hr : c'.rho c.dom = c.rho k) (hl : c'.len c.dom = c.len k) : ∀ (l : List AV) {us : List Value}, RdL l c us → RdL (l.map (AV.mv k c.dom)) c' us
 | [], _, h => h
 | x :: l, _, h => by
  simp only [RdL] at h
  obtain ⟨y, ys, rfl, h1, h2⟩ := h
  simp only [List.map_cons, RdL]
  exact ⟨y, ys, rfl, Rd.mv e hd hr hl x h1, RdL.mv e hd hr hl l h2⟩
theorem ConvH.move {H : List AB} (i k : Nat) {t ti : TypeId} {sz : Nat} {es : List (List AV)} {cs : List AV} (hik : i ≠ k) (hi : H[i]? = some (.box ti cs)) (hk : H[k]? = some (.row t sz es)) :
  ConvH H (((H.set k .dead).set i (.box ti (cs.map (AV.mv k H.length)))) ++ [.row t sz es]) := fun w0 M0 c hs => by
 have hil := (List.getElem?_eq_some_iff.1 hi).1
 have hkl := (List.getElem?_eq_some_iff.1 hk).1
 have hdom := hs.dom
 let c' : Ctx := { c with rho := fun j => if j = c.dom then c.rho k else c.rho j, len := fun j => if j = c.dom then c.len k else c.len j, dom := c.dom + 1 }
 have hn : ∀ j, j < c.dom → c'.rho j = c.rho j ∧ c'.len j = c.len j := fun j hj => ⟨if_neg (by omega), if_neg (by omega)⟩
 have e : Ext c c' := ⟨rfl, rfl, rfl, Nat.le_refl _, fun _ _ h => ⟨h, rfl⟩, Nat.le_succ _, fun j hj => by rw [(hn j hj).2]; exact Nat.le_refl _, fun j hj _ => (hn j hj).1, fun j g hj h => by rw [(hn j hj).1]; exact h⟩
 have hr : c'.rho c.dom = c.rho k := if_pos rfl
 have hl : c'.len c.dom = c.len k := if_pos rfl
 have get : ∀ j x, (((H.set k .dead).set i (.box ti (cs.map (AV.mv k H.length)))) ++ [.row t sz es])[j]? = some x → x.live = true → (j = c.dom ∧ x = .row t sz es) ∨ (j < c.dom ∧ j = i ∧ x = .box ti (cs.map (AV.mv k c.dom))) ∨ (j < c.dom ∧ j ≠ i ∧ j ≠ k ∧ H[j]? = some x) := fun j x hj hx => by
  rw [hdom]
  by_cases h1 : j < H.length
  ·rw [List.getElem?_append_left (by simpa using h1)] at hj
   by_cases h2 : j = i
   ·subst h2
    rw [List.getElem?_set_self (by simpa using h1)] at hj
    exact .inr (.inl ⟨h1, rfl, (Option.some.inj hj).symm⟩)
   ·rw [List.getElem?_set_ne (Ne.symm h2)] at hj
    by_cases h3 : j = k
    ·subst h3
     rw [List.getElem?_set_self h1] at hj
     rw [← Option.some.inj hj] at hx
     cases hx
    ·rw [List.getElem?_set_ne (Ne.symm h3)] at hj
     exact .inr (.inr ⟨h1, h2, h3, hj⟩)
  ·rw [List.getElem?_append_right (by simpa using h1)] at hj
   simp only [List.length_set] at hj
   cases h2 : j - H.length with
   | zero => rw [h2] at hj; exact .inl ⟨by omega, (Option.some.inj hj).symm⟩
   | succ m => rw [h2] at hj; simp at hj
 have org : ∀ j x, (((H.set k .dead).set i (.box ti (cs.map (AV.mv k H.length)))) ++ [.row t sz es])[j]? = some x → x.live = true → ∃ j' y, H[j']? = some y ∧ y.live = true ∧ c'.rho j = c.rho j' ∧ ((j = c.dom ∧ j' = k) ∨ (j < c.dom ∧ j' = j ∧ j ≠ k)) := fun j x hj hx => by
  rcases get j x hj hx with ⟨rfl, rfl⟩ | ⟨h1, rfl, rfl⟩ | ⟨h1, h2, h3, h4⟩
  ·exact ⟨k, _, hk, rfl, hr, .inl ⟨rfl, rfl⟩⟩
  ·exact ⟨j, _, hi, rfl, (hn j h1).1, .inr ⟨h1, rfl, hik⟩⟩
  ·exact ⟨j, _, h4, hx, (hn j h1).1, .inr ⟨h1, rfl, h3⟩⟩
 refine ⟨c', rfl, ⟨hs.low, hs.base, by simp [c', hdom], hs.foreign, hs.lt, fun j x hj => ?_, fun j x g hj hx ho => ?_, fun j1 j2 x y g h1 h2 hx hy o1 o2 => ?_⟩, e⟩
 ·cases hx : x.live with
  | false => cases x <;> first | trivial | cases hx
  | true =>
   rcases get j x hj hx with ⟨rfl, rfl⟩ | ⟨h1, rfl, rfl⟩ | ⟨h1, h2, h3, h4⟩
   ·obtain ⟨q1, q2, q3, xs, q4, q5, q6⟩ := hs.blk k _ hk
    exact ⟨by rw [hl]; exact q1, q2, q3, xs, by rw [hr]; exact q4, RdL.ext _ e.closed q5, q6⟩
   ·obtain ⟨g, xs, q1, q2, q3, q4⟩ := hs.blk j _ hi
    exact ⟨g, xs, by rw [(hn j h1).1]; exact q1, q2, RdL.mv e (Nat.lt_succ_self _) hr hl _ q3, q4⟩
   ·exact BlkOk.ext e rfl h1 (hn j h1).2 (fun _ _ _ => rfl) (hs.blk j x h4)
 ·obtain ⟨j', y, h1, h2, h3, _⟩ := org j x hj hx
  exact hs.own j' y g h1 h2 (by rw [← h3]; exact ho)
 ·obtain ⟨a, y1, p1, p2, p3, p4⟩ := org j1 x h1 hx
  obtain ⟨b, y2, r1, r2, r3, r4⟩ := org j2 y h2 hy
  have := hs.dis a b y1 y2 g p1 r1 p2 r2 (by rw [← p3]; exact o1) (by rw [← r3]; exact o2)
  omega

def finGR (T : Tys) (m : Nat) (rs : List ResultVar) (K : AV → List AB → Prop) : QA := fun ex fr H => match ex with
 | .exit _ => False
 | _ => retK T rs fr H fun x => ∃ y r H2, (∀ c v, Rd x c v → Rd y c v) ∧ WkR m [(0, y)] H [(0, r)] H2 ∧ K r H2
theorem ACalls.ofR {P : Program} {T : Tys} (hT : TOk P T) {f : FuncId} {fn : Func} {body : Code} {args : List AV} {Hin : List AB} {K : AV → List AB → Prop} (hf : P.funcs[f]? = some fn) (hb : fn.body = some body) (hname : (fn.name == "runtime.NumGoroutine") = false) (hn : args.length ≤ fn.ntmps)
  (h : aCode P T fn.ntmps Hin.length body (finGR T Hin.length fn.results.toList K) (frOf 0 args) Hin) : ACalls P false f args Hin K := by
 refine ⟨⟨fn, hf, by rw [hb]; rfl, hname⟩, fun w0 M0 c0 us hs0 hr => ?_⟩
 have hlen := hr.length
 have hFR : FR (w0.at c0.w hs0.low) c0 fn.ntmps (frOf 0 args) { tmps := us.toArray ++ Array.replicate (fn.ntmps - us.toArray.size) undef, defers := [] } := by
  refine ⟨by simp; omega, trivial, fun i => ?_⟩
  have := frOf_rd (c := c0) (m := fn.ntmps - us.length) (l := args) (i := 0) (pre := []) rfl hr i
  rw [Array.getD_eq_getD_getElem?]
  have e : (us.toArray ++ Array.replicate (fn.ntmps - us.toArray.size) undef)[i]? = ([] ++ us ++ List.replicate (fn.ntmps - us.length) undef)[i]? := by
   have : (us.toArray ++ Array.replicate (fn.ntmps - us.toArray.size) undef) = ([] ++ us ++ List.replicate (fn.ntmps - us.length) undef).toArray := Array.ext' (by simp)
   rw [this]; simp only [List.getElem?_toArray]
  rw [e]
  exact this
 have fin : ∀ a w, Lift (w0.at c0.w hs0.low) M0 c0 fn.ntmps (fun fr H => retK T fn.results.toList fr H fun x => ∃ y r H2, (∀ c v, Rd x c v → Rd y c v) ∧ WkR Hin.length [(0, y)] H [(0, r)] H2 ∧ K r H2) a w → ∃ v, (results fn a.tmps).run P w = .ok v w ∧ ∃ v' c' r H', Ending.returned v = .returned v' ∧ c'.w = w ∧ K r H' ∧ HS w0 M0 c' H' ∧ Ext c0 c' ∧ Rd r c' v' ∧ (false = true → Old c0.w w) := by
  rintro a w ⟨c, fr, H, rfl, h1, h2, h3, h4⟩
  obtain ⟨x, v, ⟨y, r, H2, o1, o2, o3⟩, q2, q3⟩ := retK_sound hT h2 h3 h1
  have hfr : FR (w0.at c0.w hs0.low) c 1 [(0, y)] { tmps := #[v], defers := [] } := by
   refine ⟨rfl, trivial, fun i => ?_⟩
   unfold fget
   cases i with
   | zero => exact o1 _ _ q2
   | succ i => show Rd .top c _; simp [Rd]
  obtain ⟨c', e1, e2, e3, e4⟩ := o2.sound hs0.dom h2 hfr h4
  have hr' := e3.get 0
  refine ⟨v, q3, v, c', r, H2, rfl, e1, o3, ⟨LowF.ofAt e2.low, e2.base, e2.dom, e2.foreign, e2.lt, e2.blk, e2.own, e2.dis⟩, e4, ?_, fun e => by cases e⟩
  simpa [fget] using hr'
 refine calls_marks hf hb trivial (Nat.le_refl _) fin ?_
 refine aCode_sound (w0 := w0.at c0.w hs0.low) (M0 := M0) (ce := c0) hT hs0.dom body _ _ c0 _ Hin _ (lift_ends rfl rfl fun _ _ _ h => h) hs0.toAt hFR (Ext.refl _) h
def lastW (l : List Wr) (a : Int) : Option Wr := l.foldl (fun r w => if w.addr = a then some w else r) none
theorem lastW_nil (a : Int) : lastW [] a = none := rfl
theorem lastW_snoc (l : List Wr) (w : Wr) (a : Int) : lastW (l ++ [w]) a = if w.addr = a then some w else lastW l a := by simp [lastW]
theorem lastW_hit {a : Int} : ∀ (n : Nat) (l : List Wr), l.length = n → ∀ i, i < l.length → (l.getD i ⟨0, []⟩).addr = a → (∀ j, i < j → j < l.length → (l.getD j ⟨0, []⟩).addr ≠ a) → lastW l a = some (l.getD i ⟨0, []⟩)
 | 0, l, hn, i, hi, _, _ => by omega
 | n + 1, l, hn, i, hi, h1, h2 => by
  rcases List.eq_nil_or_concat l with rfl | ⟨m, w, rfl⟩
  ·simp at hn
  ·simp only [List.concat_eq_append] at *
   simp at hn hi
   rw [lastW_snoc]
   by_cases he : i = m.length
   ·subst he
    simp only [List.getD_eq_getElem?_getD, List.getElem?_append_right (Nat.le_refl _), Nat.sub_self, List.getElem?_cons_zero, Option.getD_some] at h1 ⊢
    rw [if_pos h1]
   ·have hm : ∀ j, j < m.length → (m ++ [w]).getD j ⟨0, []⟩ = m.getD j ⟨0, []⟩ := fun j hj => by simp only [List.getD_eq_getElem?_getD, List.getElem?_append_left hj]
    have hw := h2 m.length (by omega) (by simp)
    simp only [List.getD_eq_getElem?_getD, List.getElem?_append_right (Nat.le_refl _), Nat.sub_self, List.getElem?_cons_zero, Option.getD_some] at hw
    rw [if_neg hw, hm i (by omega)]
    rw [hm i (by omega)] at h1
    exact lastW_hit n m hn i (by omega) h1 fun j q1 q2 => by rw [← hm j q2]; exact h2 j q1 (by simp; omega)
theorem lastW_none {a : Int} : ∀ (n : Nat) (l : List Wr), l.length = n → (∀ j, j < l.length → (l.getD j ⟨0, []⟩).addr ≠ a) → lastW l a = none
 | 0, l, hn, _ => by rw [List.length_eq_zero_iff.1 hn]; rfl
 | n + 1, l, hn, h => by
  rcases List.eq_nil_or_concat l with rfl | ⟨m, w, rfl⟩
  ·rfl
  ·simp only [List.concat_eq_append] at *
   simp at hn
   rw [lastW_snoc]
   have hw := h m.length (by simp)
   simp only [List.getD_eq_getElem?_getD, List.getElem?_append_right (Nat.le_refl _), Nat.sub_self, List.getElem?_cons_zero, Option.getD_some] at hw
   rw [if_neg hw]
   exact lastW_none n m hn fun j q => by
    have := h j (by simp; omega)
    simpa only [List.getD_eq_getElem?_getD, List.getElem?_append_left q] using this
def Dk.got (d : Dk) (a : Int) : List UInt8 × Int :=
 match lastW d.cache a with
 | some w => (w.bytes, 0)
 | none => if (d.cells.getD a.toNat ⟨0, [], []⟩).state = 0 then ((d.cells.getD a.toNat ⟨0, [], []⟩).bytes, 0) else ([], 6)
def Dk.read (d : Dk) (a : Int) : Dk × List UInt8 × Int := if d.left = 0 then (d, [], 8) else (d.req, d.got a)

theorem nil_tp (e : Int) (c : Ctx) (v : Value) (h : Rd (.tp [.v (.slice none 0 0), .v (.int .i64 e)]) c v) : Rd (.tp [bA [], .v (.int .i64 e)]) c v := by
 simp only [Rd, RdL] at h ⊢
 obtain ⟨xs, rfl, y, ys, rfl, rfl, h⟩ := h
 exact ⟨_, rfl, _, _, rfl, nil_sl 1 (fun i => [.v (.int .u8 (([] : List UInt8).getD i 0).toNat)]) c (.slice none 0 0) (by simp [Rd]), h⟩
theorem lt012 {m : Nat} (h : Nat.ble 3 m = true) : ∀ z ∈ [0, 1, 2], z < m := fun z hz => by
 have := Nat.le_of_ble_eq_true h
 simp at hz
 omega
set_option maxRecDepth 100000 in
theorem dread_fn (hcl : ∀ b : List UInt8, b.length ≤ 1000000000 → Fn Tryz.prog 102 [bA b] fun r => r = bA b) (d : Dk) (a : Int) (hl : -1 ≤ d.left ∧ d.left ≤ 1048576) (ha : 0 ≤ a ∧ a < d.cells.length) (hc : d.cache.length ≤ 2000) (hb : ∀ c ∈ d.cells, c.bytes.length ≤ 100000) (hw : ∀ w ∈ d.cache, w.bytes.length ≤ 100000) :
  ACalls Tryz.prog false 103 [.bp 0 0, .v (.int .i64 a)] (dkH d) fun r H => r = .tp [bA (d.read a).2.1, .v (.int .i64 (d.read a).2.2)] ∧ H = dkH (d.read a).1 := by
 refine ACalls.ofO tys_ok Tryz.func103 rfl rfl (by show 2 ≤ _; decide) ?_
 have hq := request_fn d hl
 conv => whnf
 by_cases h0 : d.left = 0
 ·rw [if_pos h0] at hq
  refine ACalls.frame [0, 1, 2] hq rfl rfl rfl rfl (by decide) (lt012 rfl) ⟨rfl, rfl, rfl, trivial⟩ ?_
  rintro _ _ ⟨rfl, rfl⟩
  rw [show decide (d.left ≠ 0) = false by simp [h0]]
  conv => whnf
  exact ⟨.tp [bA [], .v (.int .i64 8)], dkH d, nil_tp 8, ⟨rfl, rfl, rfl, trivial⟩, rfl, ⟨rfl, rfl⟩, by simp [Dk.read, h0], by simp [Dk.read, h0]⟩
 ·rw [if_neg h0] at hq
  refine ACalls.frame [0, 1, 2] hq rfl rfl rfl rfl (by decide) (lt012 rfl) ⟨rfl, rfl, rfl, trivial⟩ ?_
  rintro _ _ ⟨rfl, rfl⟩
  rw [show decide (d.left ≠ 0) = true by simp [h0]]
  conv => whnf
  refine (backward_fn (.ow 2 d.req.cache.length) _ (fun c u hu => by simp only [Rd] at hu; obtain ⟨_, _, ⟨a, p, h, _⟩, _⟩ := hu; exact ⟨_, _, _, h⟩)).mono ?_
  rintro _ _ ⟨rfl, rfl⟩
  conv => whnf
  have hE : ∀ i, i < d.cache.length → (d.cache.map wrC).getD i [] = wrC (d.cache.getD i ⟨0, []⟩) := fun i hi => map_getD hi
  refine aRF.back tys_ok back_is (B := 6) (len := d.cache.length) (E := fun i => (d.cache.map wrC).getD i []) rfl rfl ⟨rfl, _, _, rfl, by simp [Dk.req], rfl⟩ (by omega) rfl (by decide) rfl [(3, .rp [.v (.int .i64 a)])] ⟨.inr ⟨3, _, _, rfl, rfl, rfl, rfl⟩, trivial⟩ (fun i => decide ((d.cache.getD i ⟨0, []⟩).addr = a)) ?_ ?_ ?_
  ·intro i hi hh
   rw [hE i hi]
   conv => whnf
   refine ⟨rfl, ?_⟩
   have hh' : (d.cache.getD i ⟨0, []⟩).addr ≠ a := by simpa using hh
   conv => whnf
   refine boolI (fun h1 => ?_) (fun h1 => ?_) <;> (repeat rw [Int.toNat_natCast] at h1) <;> conv => whnf
   ·exact absurd h1 hh'
  ·intro i hi hh
   rw [hE i hi]
   conv => whnf
   refine ⟨rfl, ?_⟩
   have hh' : (d.cache.getD i ⟨0, []⟩).addr = a := by simpa using hh
   have hcw := hcl (d.cache.getD i ⟨0, []⟩).bytes (by have := hw _ (getD_mem (d := ⟨0, []⟩) hi); omega)
   conv => whnf
   refine boolI (fun h1 => ?_) (fun h1 => ?_) <;> (repeat rw [Int.toNat_natCast] at h1) <;> conv => whnf
   ·refine Fn.closed (hcw) rfl ?_
    rintro _ rfl
    conv => whnf
    conv => whnf
    refine ⟨by simp, rfl, fun hord => ?_⟩
    conv => whnf
    have hg : d.got a = ((d.cache.getD i ⟨0, []⟩).bytes, 0) := by
     unfold Dk.got
     rw [lastW_hit _ _ rfl i hi hh' fun j q1 q2 => by simpa using hord j q1 q2]
    exact ⟨_, dkH d.req, fun _ _ h => h, ⟨rfl, rfl, rfl, trivial⟩, rfl, ⟨rfl, rfl⟩, by simp [Dk.read, h0, hg, bA], by simp [Dk.read, h0]⟩
   ·exact absurd hh' h1
  ·intro hh
   have hg : d.got a = if (d.cells.getD a.toNat ⟨0, [], []⟩).state = 0 then ((d.cells.getD a.toNat ⟨0, [], []⟩).bytes, 0) else ([], 6) := by
    unfold Dk.got
    rw [lastW_none _ _ rfl fun j q => by simpa using hh j q]
   have hgc : (d.cells.map celC).getD a.toNat [] = celC (d.cells.getD a.toNat ⟨0, [], []⟩) := map_getD (by omega)
   have hgc' : (d.req.cells.map celC).getD a.toNat [] = celC (d.cells.getD a.toNat ⟨0, [], []⟩) := hgc
   have hcb := hcl (d.cells.getD a.toNat ⟨0, [], []⟩).bytes (by have := hb _ (getD_mem (d := ⟨0, [], []⟩) (show a.toNat < d.cells.length by omega)); omega)
   conv => whnf
   refine aDraw.of tys_ok mixed [0, 1, 2, 3, 4, 5, 6, 7, 8, 9] (by kernel_rfl) ?_
   conv => whnf
   refine And.intro ha ?_
   conv => whnf
   refine And.intro ⟨rfl, (List.length_map _).symm, show a.toNat < d.cells.length by omega⟩ ?_
   conv => whnf
   first | rw [hgc] | rw [hgc']
   conv => whnf
   refine boolI (fun h1 => ?_) (fun h1 => ?_) <;> (repeat rw [Int.toNat_natCast] at h1) <;> conv => whnf
   ·rw [if_neg h1] at hg
    exact ⟨.tp [bA [], .v (.int .i64 6)], dkH d.req, nil_tp 6, ⟨rfl, rfl, rfl, trivial⟩, rfl, ⟨rfl, rfl⟩, by simp only [Dk.read, if_neg h0, hg], by simp only [Dk.read, if_neg h0]⟩
   ·refine Fn.closed (hcb) rfl ?_
    rintro _ rfl
    conv => whnf
    conv => whnf
    rw [if_pos h1] at hg
    exact ⟨_, dkH d.req, fun _ _ h => h, ⟨rfl, rfl, rfl, trivial⟩, rfl, ⟨rfl, rfl⟩, by simp only [Dk.read, if_neg h0, hg, bA], by simp only [Dk.read, if_neg h0]⟩
def Dk.write (d : Dk) (a : Int) (b : List UInt8) : Dk × Int :=
 if d.left = 0 then (d, 8) else if (d.cells.getD a.toNat ⟨0, [], []⟩).state = 2 ∨ (2000 : Int) ≤ d.cache.length then (d.req, 7) else ({ d.req with cache := d.cache ++ [⟨a, b⟩] }, 0)

set_option maxRecDepth 100000 in
theorem dwrite_fn (hcl : ∀ b : List UInt8, b.length ≤ 1000000000 → Fn Tryz.prog 102 [bA b] fun r => r = bA b) (d : Dk) (a : Int) (b : List UInt8) (hl : -1 ≤ d.left ∧ d.left ≤ 1048576) (ha : 0 ≤ a ∧ a < d.cells.length) (hc : d.cache.length ≤ 2000) (hb : b.length ≤ 100000) :
  ACalls Tryz.prog false 196 [.bp 0 0, .v (.int .i64 a), bA b] (dkH d) fun r H => r = .v (.int .i64 (d.write a b).2) ∧ H = dkH (d.write a b).1 := by
 refine ACalls.ofO tys_ok Tryz.func196 rfl rfl (by show 3 ≤ _; decide) ?_
 have hq := request_fn d hl
 have hcb := hcl b (by omega)
 conv => whnf
 by_cases h0 : d.left = 0
 ·rw [if_pos h0] at hq
  refine hq.mono ?_
  rintro _ _ ⟨rfl, rfl⟩
  rw [show decide (d.left ≠ 0) = false by simp [h0]]
  conv => whnf
  exact ⟨_, dkH d, fun _ _ h => h, ⟨rfl, rfl, rfl, trivial⟩, rfl, ⟨rfl, rfl⟩, by simp only [Dk.write, if_pos h0], by simp only [Dk.write, if_pos h0]⟩
 ·rw [if_neg h0] at hq
  refine hq.mono ?_
  rintro _ _ ⟨rfl, rfl⟩
  rw [show decide (d.left ≠ 0) = true by simp [h0]]
  have hgc : (d.cells.map celC).getD a.toNat [] = celC (d.cells.getD a.toNat ⟨0, [], []⟩) := map_getD (by omega)
  have hgc' : (d.req.cells.map celC).getD a.toNat [] = celC (d.cells.getD a.toNat ⟨0, [], []⟩) := hgc
  conv => whnf
  refine And.intro ha ?_
  conv => whnf
  refine And.intro ⟨rfl, (List.length_map _).symm, show a.toNat < d.cells.length by omega⟩ ?_
  conv => whnf
  first | rw [hgc] | rw [hgc']
  conv => whnf
  refine boolI (fun h1 => ?_) (fun h1 => ?_) <;> (repeat rw [Int.toNat_natCast] at h1) <;> conv => whnf
  ·exact ⟨_, dkH d.req, fun _ _ h => h, ⟨rfl, rfl, rfl, trivial⟩, rfl, ⟨rfl, rfl⟩, by simp only [Dk.write, if_neg h0, if_pos (Or.inl h1)], by simp only [Dk.write, if_neg h0, if_pos (Or.inl h1)]⟩
  ·by_cases h2 : (2000 : Int) ≤ d.cache.length
   ·rw [show decide ((d.req.cache.length : Int) ≥ 2000) = true from decide_eq_true h2]
    conv => whnf
    exact ⟨_, dkH d.req, fun _ _ h => h, ⟨rfl, rfl, rfl, trivial⟩, rfl, ⟨rfl, rfl⟩, by simp only [Dk.write, if_neg h0, if_pos (Or.inr h2)], by simp only [Dk.write, if_neg h0, if_pos (Or.inr h2)]⟩
   ·rw [show decide ((d.req.cache.length : Int) ≥ 2000) = false from decide_eq_false h2]
    have hc' : d.req.cache.length ≤ 2000 := hc
    have h3 : ¬ ((d.cells.getD a.toNat ⟨0, [], []⟩).state = 2 ∨ (2000 : Int) ≤ d.cache.length) := fun h => h.elim h1 h2
    conv => whnf
    apply aDraw.tree tys_ok mixed (.one 0 (.one 1 (.one 2 (.one 3 (.one 4 (.one 5 (.one 6 (.one 7 (.one 8 (.one 9 (.one 10 (.one 11 (.one 12 (.one 13 (.one 14 (.one 15 .fin)))))))))))))))) [31, 32, 33, 34, 35, 36, 37, 38, 39, 40, 41, 42, 43, 44, 45] (by kernel_rfl)
    ·conv => whnf
     refine Fn.closed (hcb) rfl ?_
     rintro _ rfl
     conv => whnf
     try (refine And.intro (by first | rfl | omega) ?_; conv => whnf)
     try (refine And.intro (by first | omega | exact ⟨by first | rfl | (simp; done) | (simp; omega), by omega⟩) ?_; conv => whnf)
     try (refine And.intro ⟨rfl, by first | rfl | (simp; done) | (simp; omega), by first | omega | (simp; omega)⟩ ?_; conv => whnf)
     exact ⟨rfl, rfl⟩
    conv => whnf
    have e : dkH { d.req with cache := d.cache ++ [⟨a, b⟩] } = [.box 164 (dkX (.ow 1 d.cells.length) (.ow 2 (d.cache.length + 1)) d.req.reqs d.req.left), .row 87 3 (d.cells.map celC), .row 130 2 (d.cache.map wrC ++ [wrC ⟨a, b⟩])] := by
     unfold dkH
     simp only [List.length_append, List.length_singleton, List.map_append, List.map_cons, List.map_nil]
     rfl
    refine ⟨_, dkH { d.req with cache := d.cache ++ [⟨a, b⟩] }, fun _ _ h => h, ?_, rfl, ⟨rfl, rfl⟩, by simp only [Dk.write, if_neg h0, if_neg h3], by simp only [Dk.write, if_neg h0, if_neg h3]⟩
    rw [e]
    exact ⟨rfl, rfl, rfl, trivial⟩
def cz : Cel := ⟨0, [], []⟩
def Dk.fin (d : Dk) (w : Wr) : Dk :=
 if (d.cells.getD w.addr.toNat cz).state = 2 then d else { d with cells := d.cells.set w.addr.toNat ⟨0, w.bytes, (d.cells.getD w.addr.toNat cz).bytes⟩ }

set_option maxRecDepth 100000 in
theorem ddone_fn (d : Dk) (w : Wr) (ha : 0 ≤ w.addr ∧ w.addr < d.cells.length) :
  ACalls Tryz.prog false 98 [.bp 0 0, .ag (wrC w)] (dkH d) fun r H => r = .tp [] ∧ H = dkH (d.fin w) := by
 refine ACalls.ofO tys_ok Tryz.func98 rfl rfl (by show 2 ≤ _; decide) ?_
 have hgc : (d.cells.map celC).getD w.addr.toNat [] = celC (d.cells.getD w.addr.toNat cz) := map_getD (by omega)
 conv => whnf
 refine aDraw.of tys_ok mixed [0, 1, 2, 3, 4, 5, 6, 7, 8] (by kernel_rfl) ?_
 conv => whnf
 refine And.intro (show 0 ≤ w.addr ∧ w.addr < d.cells.length from ha) ?_
 conv => whnf
 refine And.intro ⟨rfl, (List.length_map _).symm, show w.addr.toNat < d.cells.length by omega⟩ ?_
 conv => whnf
 rw [hgc]
 conv => whnf
 refine boolI (fun h1 => ?_) (fun h1 => ?_) <;> (repeat rw [Int.toNat_natCast] at h1) <;> conv => whnf
 ·refine aDraw.of tys_ok mixed [0, 1, 2, 3, 4, 5, 6, 7, 8, 9] (by kernel_rfl) ?_
  conv => whnf
  refine And.intro ⟨rfl, (List.length_map _).symm, show w.addr.toNat < d.cells.length by omega⟩ ?_
  conv => whnf
  rw [hgc]
  conv => whnf
  refine And.intro ⟨rfl, (List.length_map _).symm, show w.addr.toNat < d.cells.length by omega⟩ ?_
  conv => whnf
  rw [hgc]
  conv => whnf
  have hmem : w.addr.toNat < d.cells.length := by omega
  refine ⟨_, dkH { d with cells := d.cells.set w.addr.toNat ⟨0, w.bytes, (d.cells.getD w.addr.toNat cz).bytes⟩ }, fun _ _ h => h, ?_, rfl, ⟨rfl, rfl⟩, rfl, by simp only [Dk.fin, if_neg h1]⟩
  have e : dkH { d with cells := d.cells.set w.addr.toNat ⟨0, w.bytes, (d.cells.getD w.addr.toNat cz).bytes⟩ } = [.box 164 (dkX (.ow 1 d.cells.length) (.ow 2 d.cache.length) d.reqs d.left), .row 87 3 ((d.cells.map celC).set w.addr.toNat (celC ⟨0, w.bytes, (d.cells.getD w.addr.toNat cz).bytes⟩)), .row 130 2 (d.cache.map wrC)] := by
   unfold dkH
   simp only [List.length_set, List.map_set]
  rw [e]
  exact ⟨rfl, rfl, rfl, trivial⟩
 ·refine ⟨_, dkH d, fun _ _ h => h, ⟨rfl, rfl, rfl, trivial⟩, rfl, ⟨rfl, rfl⟩, rfl, by simp only [Dk.fin, if_pos h1]⟩
@[reducible] def dkF (d : Dk) : List AB := [.box 164 (dkX (.ow 1 d.cells.length) (.ow 3 0) d.reqs d.left), .row 87 3 (d.cells.map celC), .dead, .row 130 2 []]
def Dk.allFin (d : Dk) (l : List Wr) : Dk := l.foldl Dk.fin d
theorem fin_len (d : Dk) (w : Wr) : (d.fin w).cells.length = d.cells.length := by unfold Dk.fin; split <;> simp
theorem fin_cache (d : Dk) (w : Wr) : (d.fin w).cache = d.cache ∧ (d.fin w).reqs = d.reqs ∧ (d.fin w).left = d.left := by unfold Dk.fin; split <;> simp
theorem allFin_len (l : List Wr) : ∀ (d : Dk), (d.allFin l).cells.length = d.cells.length ∧ (d.allFin l).cache = d.cache ∧ (d.allFin l).reqs = d.reqs ∧ (d.allFin l).left = d.left := by
 induction l with
 | nil => intro d; exact ⟨rfl, rfl, rfl, rfl⟩
 | cons w r ih =>
  intro d
  obtain ⟨h1, h2, h3, h4⟩ := ih (d.fin w)
  have := fin_cache d w
  exact ⟨h1.trans (fin_len d w), h2.trans this.1, h3.trans this.2.1, h4.trans this.2.2⟩
theorem allFin_take (d : Dk) {l : List Wr} {k : Nat} (h : k < l.length) : d.allFin (l.take (k + 1)) = (d.allFin (l.take k)).fin (l.getD k ⟨0, []⟩) := by
 unfold Dk.allFin
 rw [List.take_add_one, List.foldl_append, List.getElem?_eq_getElem h]
 simp [List.getD_eq_getElem?_getD, List.getElem?_eq_getElem h]
def Dk.flush (d : Dk) : Dk := { d.req.allFin d.cache with cache := [] }

set_option maxRecDepth 100000 in
theorem dflush0_fn (d : Dk) (hl : -1 ≤ d.left ∧ d.left ≤ 1048576) (h0 : d.left = 0) :
  ACalls Tryz.prog false 146 [.bp 0 0] (dkH d) fun r H => r = .v (.int .i64 8) ∧ H = dkH d := by
 refine ACalls.ofW tys_ok Tryz.func146 rfl rfl (by show 1 ≤ _; decide) ?_
 have hq := request_fn d hl
 rw [if_pos h0, show decide (d.left ≠ 0) = false by simp [h0]] at hq
 conv => whnf
 refine hq.mono ?_
 rintro _ _ ⟨rfl, rfl⟩
 conv => whnf
 exact ⟨_, _, dkH d, fun _ _ h => h, ⟨[], trivial, ⟨rfl, trivial⟩, ⟨rfl, rfl, rfl, trivial⟩, rfl, rfl, rfl⟩, rfl, rfl⟩
set_option maxRecDepth 100000 in
theorem dflush_fn (d : Dk) (hl : -1 ≤ d.left ∧ d.left ≤ 1048576) (h0 : d.left ≠ 0) (hc : d.cache.length ≤ 2000) (ha : ∀ w ∈ d.cache, 0 ≤ w.addr ∧ w.addr < d.cells.length) :
  ACalls Tryz.prog false 146 [.bp 0 0] (dkH d) fun r H => r = .v (.int .i64 0) ∧ H = dkF d.flush := by
 refine ACalls.ofW tys_ok Tryz.func146 rfl rfl (by show 1 ≤ _; decide) ?_
 have hq := request_fn d hl
 rw [if_neg h0, show decide (d.left ≠ 0) = true by simp [h0]] at hq
 conv => whnf
 refine hq.mono ?_
 rintro _ _ ⟨rfl, rfl⟩
 conv => whnf
 have hE : ∀ i, i < d.cache.length → (d.cache.map wrC).getD i [] = wrC (d.cache.getD i ⟨0, []⟩) := fun i hi => map_getD hi
 refine aLoop.rule Nat (fun k => ([(0, .bp 0 0), (12, .ow 2 d.cache.length), (13, .v (.int .i64 d.cache.length)), (14, .v (.int .i64 k)), (2, .v (.int .i64 0))], dkH (d.req.allFin (d.cache.take k)))) (fun k => k ≤ d.cache.length) (fun k => d.cache.length - k) 0 (Nat.zero_le _) ⟨[], trivial, ⟨rfl, rfl, rfl, rfl, rfl, trivial⟩, ⟨rfl, rfl, rfl, trivial⟩, rfl, rfl, rfl⟩ ?_
 rintro k hk
 have hall := allFin_len (d.cache.take k) d.req
 have hnext : k < d.cache.length → d.req.allFin (d.cache.take (k + 1)) = (d.req.allFin (d.cache.take k)).fin (d.cache.getD k ⟨0, []⟩) := fun h => allFin_take d.req h
 have hlast : k = d.cache.length → d.flush = { d.req.allFin (d.cache.take k) with cache := [] } := fun h => by rw [h, List.take_length]; rfl
 generalize d.req.allFin (d.cache.take k) = X at hall hnext hlast ⊢
 obtain ⟨xc, xw, xr, xl⟩ := X
 simp only at hall
 obtain ⟨q1, q2, q3, q4⟩ := hall
 have q2 : xw = d.cache := q2
 subst q2
 have q1' : xc.length = d.cells.length := q1
 conv => whnf
 refine boolI (fun h => ?_) (fun h => ?_) <;> (repeat rw [Int.toNat_natCast] at h) <;> conv => whnf
 ·have hd := ddone_fn ⟨xc, d.cache, xr, xl⟩ (d.cache.getD k ⟨0, []⟩) (by have := ha _ (getD_mem (d := ⟨0, []⟩) (show k < d.cache.length by omega)); show _ ∧ _ < ((xc.length : Nat) : Int); rw [q1']; exact this)
  refine And.intro ⟨by omega, by omega⟩ ?_
  conv => whnf
  refine And.intro ⟨rfl, (List.length_map _).symm, by simpa using h⟩ ?_
  conv => whnf
  rw [show ((k : Int)).toNat = k from Int.toNat_natCast k, hE k (by omega)]
  conv => whnf
  refine ACalls.frame [0, 1, 2] hd rfl rfl rfl rfl (by decide) (lt012 rfl) ⟨rfl, rfl, rfl, trivial⟩ ?_
  rintro _ _ ⟨rfl, rfl⟩
  conv => whnf
  refine ⟨k + 1, by omega, by omega, [], trivial, ⟨rfl, rfl, rfl, wsucc (by omega), rfl, trivial⟩, ?_, rfl, rfl, rfl⟩
  rw [hnext (by omega)]
  exact ⟨rfl, rfl, rfl, trivial⟩
 ·conv => whnf
  have ek : k = d.cache.length := by omega
  rw [hlast ek]
  exact ⟨.v (.int .i64 0), .v (.int .i64 0), dkF { cells := xc, cache := [], reqs := xr, left := xl }, fun _ _ h => h, ⟨[(1000001, 130, 2)], ⟨rfl, rfl, trivial⟩, ⟨rfl, trivial⟩, ⟨rfl, rfl, rfl, trivial⟩, rfl, rfl, rfl⟩, rfl, rfl⟩
theorem rput_br (l : List UInt8) (n m : Nat) (hl : l.length ≤ 1000000) (hn : n ≤ 4294967295) (hm : m ≤ 4) : Fn Tryz.prog 148 [bA l, .v (.int .i64 n), .v (.int .i64 m)] fun r => r = bA (l ++ leB m n) := by
 refine ⟨⟨_, Tryz.func148, rfl, by decide⟩, fun c0 us hd hM _ hr => ?_⟩
 simp only [RdL] at hr
 obtain ⟨u1, _, rfl, h1, u2, _, rfl, h2, u3, _, rfl, h3, rfl⟩ := hr
 simp only [Rd] at h2 h3
 subst h2 h3
 refine (rput_any u1 l n m c0.w c0.M (toBytes h1) hl hn hm).mono ?_
 rintro e w' ⟨q, rfl, ho, hB⟩
 exact ⟨_, _, rfl, rfl, hB, ofOwn ho hM⟩
theorem rput_int (l : List UInt8) (n : Int) (m : Nat) (hl : l.length ≤ 1000000) (hn : 0 ≤ n ∧ n ≤ 4294967295) (hm : m ≤ 4) : Fn Tryz.prog 148 [bA l, .v (.int .i64 n), .v (.int .i64 m)] fun r => r = bA (l ++ leB m n.toNat) := by
 have := rput_br l n.toNat m hl (by omega) hm
 rwa [Int.toNat_of_nonneg hn.1] at this
theorem ACalls.ofBytes1 {P : Program} {f : FuncId} {args : List AV} {l : List UInt8} (hg : IsGo P f)
  (h : ∀ (c : Ctx) (us : List Value), RdL args c us → Calls P f us.toArray c.w fun e w' => ∃ r, e = .returned r ∧ OwR w' noM c.w.heap.size 5 r l ∧ Below c.w.heap.size c.w w') :
  ACalls P false f args [] fun r H => r = .ow 0 l.length ∧ H = [.row 5 1 (l.map by1)] := by
 refine ⟨hg, fun w0 M0 c us hs hr => (h c us hr).mono ?_⟩
 rintro e w' ⟨r, rfl, ho, hB⟩
 obtain ⟨c', e1, e2, e3, e4⟩ := hs.bytes hB ho
 exact ⟨_, c', _, _, rfl, e1, ⟨rfl, rfl⟩, e2, e3, e4, fun h => by cases h⟩
theorem rput_own (l : List UInt8) (n : Int) (m : Nat) (hl : l.length ≤ 1000000) (hn : 0 ≤ n ∧ n ≤ 4294967295) (hm : m ≤ 4) : ACalls Tryz.prog false 148 [bA l, .v (.int .i64 n), .v (.int .i64 m)] [] fun r H => r = .ow 0 (l ++ leB m n.toNat).length ∧ H = [.row 5 1 ((l ++ leB m n.toNat).map by1)] := by
 refine ACalls.ofBytes1 ⟨_, Tryz.func148, rfl, by decide⟩ fun c us hr => ?_
 simp only [RdL] at hr
 obtain ⟨u1, _, rfl, h1, u2, _, rfl, h2, u3, _, rfl, h3, rfl⟩ := hr
 simp only [Rd] at h2 h3
 subst h2 h3
 have := rput_any u1 l n.toNat m c.w c.M (toBytes h1) hl (by omega) hm
 rwa [Int.toNat_of_nonneg hn.1] at this
theorem rcellB_fn (addr stamp : Int) (p : List UInt8) (hok : okS addr stamp p) : Fn Tryz.prog 84 [.v (.int .i64 addr), .v (.int .i64 stamp), bA p] fun r => r = bA (sealB addr stamp p) := by
 obtain ⟨q1, q2, q3, q4, q5⟩ := hok
 refine ⟨⟨_, Tryz.func84, rfl, by decide⟩, fun c0 us hd hM _ hr => ?_⟩
 simp only [RdL] at hr
 obtain ⟨u1, _, rfl, h1, u2, _, rfl, h2, u3, _, rfl, h3, rfl⟩ := hr
 simp only [Rd] at h1 h2
 subst h1 h2
 have h := rcellB_any addr.toNat stamp.toNat u3 p c0.w c0.M (toBytes h3) (by omega) (by omega) q5
 rw [Int.toNat_of_nonneg q1, Int.toNat_of_nonneg q3] at h
 refine h.mono ?_
 rintro e w' ⟨q, rfl, ho, hB⟩
 exact ⟨_, _, rfl, rfl, hB, ofOwn ho hM⟩
end Go.Proofs.YtldngmdpiifamaaGreatDoor.A
end
section
namespace Go.Proofs.YtldngmdpiifamaaGreatDoor
open Go.RowKit
attribute [local go_sem ↓] Go.wp_at_zero Go.wp_at_succ

def openE (b : List UInt8) : Int :=
 if b.length < 11 ∨ 107 < b.length then 4
 else if leN (b.drop (b.length - 4)) ≠ sumC (b.take (b.length - 4)) then 5
 else if partOk b = true ∧ partN b = b.length - 11 then 0 else 4
def secAddr (b : List UInt8) : Int := (leN ((b.drop (b.length - 10)).take 2) : Nat)
def secStamp (b : List UInt8) : Int := (leN ((b.drop (b.length - 8)).take 4) : Nat)
def secPay (b : List UInt8) : List UInt8 := (b.drop 1).take (b.length - 11)
end Go.Proofs.YtldngmdpiifamaaGreatDoor
end
section
namespace Go.Proofs.YtldngmdpiifamaaGreatDoor.A
open Go.RowKit
def isOne (r : Rc) (a : An) (seq at_ of_ left : Int) : Bool := decide (r.kind ≠ 0 ∧ r.seq = seq ∧ r.at_ = at_ ∧ (of_ = 0 → r.of_ ≤ left) ∧ (of_ ≠ 0 → r.of_ = of_) ∧ (r.epoch = a.epoch ∨ seq ≤ a.last ∧ r.epoch ≤ a.epoch))
theorem is_fn (r : Rc) (a : An) (seq at_ of_ left : Int) : Fn Tryz.prog 238 [.ag (rcC r), .ag (anC a), .v (.int .i64 seq), .v (.int .i64 at_), .v (.int .i64 of_), .v (.int .i64 left)] fun x => x = .v (.bool (isOne r a seq at_ of_ left)) := by
 by_cases h1 : (r.kind ≠ 0 ∧ r.seq = seq ∧ r.at_ = at_ ∧ (of_ = 0 → r.of_ ≤ left) ∧ (of_ ≠ 0 → r.of_ = of_) ∧ (r.epoch = a.epoch ∨ seq ≤ a.last ∧ r.epoch ≤ a.epoch))
 ·have e : isOne r a seq at_ of_ left = true := decide_eq_true h1
  rw [e]
  refine Fn.of tys_ok Tryz.func238 rfl rfl (Nat.le_of_ble_eq_true rfl) ?_
  conv => whnf
  repeat' (refine boolK_intro (fun h => ?_) (fun h => ?_) <;> simp at h <;> conv => whnf)
  all_goals first | (exfalso; omega) | exact ⟨_, fun _ _ h => h, rfl⟩ | exact ⟨_, fun _ _ h => h, by simp; omega⟩
 ·have e : isOne r a seq at_ of_ left = false := decide_eq_false h1
  rw [e]
  refine Fn.of tys_ok Tryz.func238 rfl rfl (Nat.le_of_ble_eq_true rfl) ?_
  conv => whnf
  repeat' (refine boolK_intro (fun h => ?_) (fun h => ?_) <;> simp at h <;> conv => whnf)
  all_goals first | (exfalso; omega) | exact ⟨_, fun _ _ h => h, rfl⟩ | exact ⟨_, fun _ _ h => h, by simp; omega⟩
theorem sumOf_fn (b : List UInt8) : Fn Tryz.prog 132 [bA b] fun r => r = .v (.int .i64 (sumC b : Nat)) := by
 refine ⟨⟨_, Tryz.func132, rfl, by decide⟩, fun c0 us hd hM _ hr => ?_⟩
 obtain ⟨u1, rfl, h1⟩ := rd1 hr
 refine (sumOf_any u1 b c0.w c0.M (toBytes h1)).mono ?_
 rintro e w' ⟨rfl, rfl⟩
 exact ⟨_, _, rfl, rfl, Below.refl _ _, rd_v _⟩
theorem bytes_take_sub {b : List UInt8} {n k : Nat} (hn : n = k) (hk : k ≤ b.length) (c : Ctx) (u : Value) (h : Rd (.sl 1 n fun i => [.v (.int .u8 (b.getD (i + 0) 0).toNat)]) c u) : Rd (bA (b.take k)) c u :=
 Rd.congr (by rw [List.length_take]; omega) (fun i hi => by rw [List.getD_eq_getElem?_getD, List.getD_eq_getElem?_getD, List.getElem?_take_of_lt (by omega), Nat.add_zero]) h
theorem sec_nil (e : Int) (c : Ctx) (v : Value) (h : Rd (.tp [.ag [.v (.int .i64 0), .v (.int .i64 0), .v (.slice none 0 0)], .v (.int .i64 e)]) c v) : Rd (.tp [.ag (secC ⟨0, 0, []⟩), .v (.int .i64 e)]) c v := by
 have e1 : SubL [.ag [.v (.int .i64 0), .v (.int .i64 0), .v (.slice none 0 0)], .v (.int .i64 e)] [.ag (secC ⟨0, 0, []⟩), .v (.int .i64 e)] := ⟨ag_sub ⟨fun _ _ h => h, fun _ _ h => h, fun c u h => nil_sl 1 _ c u h, trivial⟩, fun _ _ h => h, trivial⟩
 simp only [Rd] at h ⊢
 obtain ⟨xs, rfl, h⟩ := h
 exact ⟨_, rfl, e1.rdl (c := c) (xs := xs) (by simpa only [RdL, Rd] using h)⟩
set_option maxRecDepth 100000 in
theorem sopen_fn (b : List UInt8) (hl : b.length ≤ 100000) : Fn Tryz.prog 208 [bA b] fun r => r = .tp [.ag (if openE b = 0 then secC ⟨secAddr b, secStamp b, secPay b⟩ else secC ⟨0, 0, []⟩), .v (.int .i64 (openE b))] := by
 have e4 : IntKind.i64.wrap ((b.length : Int) - 4) = (b.length : Int) - 4 := IntWalk.i64_in _ (by omega)
 have e11 : IntKind.i64.wrap ((b.length : Int) - 11) = (b.length : Int) - 11 := IntWalk.i64_in _ (by omega)
 have em : ((b.length : Int) - 4).toNat = b.length - 4 := by omega
 by_cases hB : b.length < 11 ∨ 107 < b.length
 ·have hE : openE b = 4 := by rw [openE, if_pos hB]
  rw [hE, if_neg (by decide)]
  refine Fn.of tys_ok Tryz.func208 rfl rfl (Nat.le_of_ble_eq_true rfl) ?_
  conv => whnf
  refine boolI (fun h => ?_) (fun h => ?_) <;> conv => whnf
  ·exact ⟨_, sec_nil 4, rfl⟩
  refine boolI (fun h2 => ?_) (fun h2 => ?_) <;> conv => whnf
  ·exact ⟨_, sec_nil 4, rfl⟩
  ·exfalso; omega
 have hg := get_yes (b.drop (b.length - 4)) 4 (.inr (.inr rfl)) (by rw [List.length_drop]; omega) (by rw [List.length_drop]; omega)
 rw [show (b.drop (b.length - 4)).take (4 : Int).toNat = b.drop (b.length - 4) from List.take_of_length_le (by rw [List.length_drop]; show _ ≤ 4; omega)] at hg
 have hs := sumOf_fn (b.take (b.length - 4))
 by_cases hS : leN (b.drop (b.length - 4)) = sumC (b.take (b.length - 4))
 ·cases hp : partOk b with
  | false =>
   have hE : openE b = 4 := by rw [openE, if_neg hB, if_neg (fun h => h hS), hp]; rfl
   rw [hE, if_neg (by decide)]
   refine Fn.of tys_ok Tryz.func208 rfl rfl (Nat.le_of_ble_eq_true rfl) ?_
   conv => whnf
   refine boolI (fun h => ?_) (fun h => ?_) <;> conv => whnf
   ·exfalso; omega
   refine boolI (fun h => ?_) (fun h => ?_) <;> conv => whnf
   ·exfalso; omega
   rw [e4]
   conv => whnf
   refine And.intro (by omega) ?_
   conv => whnf
   rw [em]
   refine ACalls.sub [bA (b.drop (b.length - 4)), .v (.int .i64 4)] ⟨drop_sub (by omega), fun _ _ h => h, trivial⟩ ?_
   refine Fn.closed (hg) rfl ?_
   rintro _ rfl
   conv => whnf
   refine And.intro (by omega) ?_
   conv => whnf
   rw [em]
   refine ACalls.sub [bA (b.take (b.length - 4))] ⟨bytes_take_sub (by omega) (by omega), trivial⟩ ?_
   refine Fn.closed (hs) rfl ?_
   rintro _ rfl
   conv => whnf
   refine boolI (fun h => ?_) (fun h => ?_) <;> conv => whnf
   ·exfalso; omega
   refine Fn.closed (unpart_no b hp) rfl ?_
   rintro _ rfl
   conv => whnf
   exact ⟨_, sec_nil 4, rfl⟩
  | true =>
   have hpp := hp
   simp only [partOk, decide_eq_true_eq] at hpp
   have hlen : ((b.drop 1).take (partN b)).length = partN b := by rw [List.length_take, List.length_drop]; omega
   by_cases hn : partN b = b.length - 11
   ·have hE : openE b = 0 := by rw [openE, if_neg hB, if_neg (fun h => h hS), if_pos ⟨hp, hn⟩]
    have hu := unrow_yes (b.drop (1 + partN b)) [2, 4] (fun s h => by simp at h; rcases h with rfl | rfl; exact .inr (.inl rfl); exact .inr (.inr rfl)) (by rw [List.length_drop]; omega) (by show 2 ≤ 1000; decide) (by rw [List.length_drop]; show 6 ≤ _; omega)
    have hnum : nums [2, 4] (b.drop (1 + partN b)) = [secAddr b, secStamp b] := by
     rw [secAddr, secStamp, show b.length - 10 = 1 + partN b by omega, show b.length - 8 = (1 + partN b) + 2 by omega, show b.drop ((1 + partN b) + 2) = (b.drop (1 + partN b)).drop 2 by rw [List.drop_drop]]
     rfl
    rw [hnum] at hu
    have hpay : secPay b = (b.drop 1).take (partN b) := by rw [secPay, hn]
    rw [hE, if_pos rfl, hpay]
    refine Fn.of tys_ok Tryz.func208 rfl rfl (Nat.le_of_ble_eq_true rfl) ?_
    conv => whnf
    refine boolI (fun h => ?_) (fun h => ?_) <;> conv => whnf
    ·exfalso; omega
    refine boolI (fun h => ?_) (fun h => ?_) <;> conv => whnf
    ·exfalso; omega
    rw [e4]
    conv => whnf
    refine And.intro (by omega) ?_
    conv => whnf
    rw [em]
    refine ACalls.sub [bA (b.drop (b.length - 4)), .v (.int .i64 4)] ⟨drop_sub (by omega), fun _ _ h => h, trivial⟩ ?_
    refine Fn.closed (hg) rfl ?_
    rintro _ rfl
    conv => whnf
    refine And.intro (by omega) ?_
    conv => whnf
    rw [em]
    refine ACalls.sub [bA (b.take (b.length - 4))] ⟨bytes_take_sub (by omega) (by omega), trivial⟩ ?_
    refine Fn.closed (hs) rfl ?_
    rintro _ rfl
    conv => whnf
    refine boolI (fun h => ?_) (fun h => ?_) <;> conv => whnf
    ·exfalso; omega
    refine Fn.closed (unpart_yes b (by omega) hp) rfl ?_
    rintro _ rfl
    conv => whnf
    rw [e11]
    refine boolI (fun h => ?_) (fun h => ?_) <;> conv => whnf
    ·exfalso; omega
    refine ACalls.shut hu.go ?_
    conv => whnf
    refine And.intro rfl ?_
    conv => whnf
    refine ACalls.sub [bA (b.drop (1 + partN b)), iA [2, 4]] ⟨fun _ _ h => h, (lit_ints (l := [2, 4]) rfl).1, trivial⟩ ?_
    refine ACalls.beside (hu) rfl ?_
    rintro _ _ ⟨rfl, rfl⟩
    conv => whnf
    refine aDraw.of tys_ok mixed [0, 1, 2, 3, 4, 5, 6, 7, 8, 9] (by kernel_rfl) ?_
    conv => whnf
    refine And.intro ⟨by decide, by decide⟩ ?_
    conv => whnf
    refine And.intro ⟨rfl, rfl, by decide⟩ ?_
    conv => whnf
    refine And.intro ⟨by decide, by decide⟩ ?_
    conv => whnf
    refine And.intro ⟨rfl, rfl, by decide⟩ ?_
    conv => whnf
    exact ⟨_, fun _ _ h => h, rfl⟩
   ·have hE : openE b = 4 := by rw [openE, if_neg hB, if_neg (fun h => h hS), if_neg (fun h => hn h.2)]
    rw [hE, if_neg (by decide)]
    refine Fn.of tys_ok Tryz.func208 rfl rfl (Nat.le_of_ble_eq_true rfl) ?_
    conv => whnf
    refine boolI (fun h => ?_) (fun h => ?_) <;> conv => whnf
    ·exfalso; omega
    refine boolI (fun h => ?_) (fun h => ?_) <;> conv => whnf
    ·exfalso; omega
    rw [e4]
    conv => whnf
    refine And.intro (by omega) ?_
    conv => whnf
    rw [em]
    refine ACalls.sub [bA (b.drop (b.length - 4)), .v (.int .i64 4)] ⟨drop_sub (by omega), fun _ _ h => h, trivial⟩ ?_
    refine Fn.closed (hg) rfl ?_
    rintro _ rfl
    conv => whnf
    refine And.intro (by omega) ?_
    conv => whnf
    rw [em]
    refine ACalls.sub [bA (b.take (b.length - 4))] ⟨bytes_take_sub (by omega) (by omega), trivial⟩ ?_
    refine Fn.closed (hs) rfl ?_
    rintro _ rfl
    conv => whnf
    refine boolI (fun h => ?_) (fun h => ?_) <;> conv => whnf
    ·exfalso; omega
    refine Fn.closed (unpart_yes b (by omega) hp) rfl ?_
    rintro _ rfl
    conv => whnf
    rw [e11]
    refine boolI (fun h => ?_) (fun h => ?_) <;> conv => whnf
    ·exact ⟨_, sec_nil 4, rfl⟩
    ·exfalso; omega
 ·have hE : openE b = 5 := by rw [openE, if_neg hB, if_pos hS]
  rw [hE, if_neg (by decide)]
  refine Fn.of tys_ok Tryz.func208 rfl rfl (Nat.le_of_ble_eq_true rfl) ?_
  conv => whnf
  refine boolI (fun h => ?_) (fun h => ?_) <;> conv => whnf
  ·exfalso; omega
  refine boolI (fun h => ?_) (fun h => ?_) <;> conv => whnf
  ·exfalso; omega
  rw [e4]
  conv => whnf
  refine And.intro (by omega) ?_
  conv => whnf
  rw [em]
  refine ACalls.sub [bA (b.drop (b.length - 4)), .v (.int .i64 4)] ⟨drop_sub (by omega), fun _ _ h => h, trivial⟩ ?_
  refine Fn.closed (hg) rfl ?_
  rintro _ rfl
  conv => whnf
  refine And.intro (by omega) ?_
  conv => whnf
  rw [em]
  refine ACalls.sub [bA (b.take (b.length - 4))] ⟨bytes_take_sub (by omega) (by omega), trivial⟩ ?_
  refine Fn.closed (hs) rfl ?_
  rintro _ rfl
  conv => whnf
  refine boolI (fun h => ?_) (fun h => ?_) <;> conv => whnf
  ·exact ⟨_, sec_nil 5, rfl⟩
  ·exfalso; omega
theorem rc_nil (k s e a o z w err : Int) (c : Ctx) (v : Value) (h : Rd (.tp [.ag [.v (.int .i64 k), .v (.int .i64 s), .v (.int .i64 e), .v (.int .i64 a), .v (.int .i64 o), .v (.int .i64 z), .v (.int .i64 w), .v (.slice none 0 0)], .v (.int .i64 err)]) c v) :
  Rd (.tp [.ag (rcC ⟨k, s, e, a, o, ⟨z, w, []⟩⟩), .v (.int .i64 err)]) c v := by
 have e1 : SubL [.ag [.v (.int .i64 k), .v (.int .i64 s), .v (.int .i64 e), .v (.int .i64 a), .v (.int .i64 o), .v (.int .i64 z), .v (.int .i64 w), .v (.slice none 0 0)], .v (.int .i64 err)] [.ag (rcC ⟨k, s, e, a, o, ⟨z, w, []⟩⟩), .v (.int .i64 err)] :=
  ⟨ag_sub ⟨fun _ _ h => h, fun _ _ h => h, fun _ _ h => h, fun _ _ h => h, fun _ _ h => h, fun _ _ h => h, fun _ _ h => h, fun c u h => nil_sl 1 _ c u h, trivial⟩, fun _ _ h => h, trivial⟩
 simp only [Rd] at h ⊢
 obtain ⟨xs, rfl, h⟩ := h
 have := e1.rdl (c := c) (xs := xs) (by simpa only [RdL, Rd] using h)
 exact ⟨_, rfl, this⟩
theorem szR_ok : ∀ s ∈ szR, szOk s := by decide
set_option maxRecDepth 100000 in
theorem recread_fn (g : Geo) (b : List UInt8) (hl : b.length ≤ 100000) : Fn Tryz.prog 240 [.ag (geoC g), bA b] fun r => r = .tp [.ag (rcC (if okG g then (readR g b).getD zeroC else zeroC)), .v (.int .i64 (readE g b))] := by
 have hG : Fn Tryz.prog 46 [.ag (geoC g)] fun r => r = .v (errV (okG g)) := gcheck_fn g.z g.d g.sp g.sl g.an
 cases hg : okG g with
 | false =>
  rw [hg] at hG
  rw [show readE g b = 1 by rw [readE, if_pos hg]]
  refine Fn.of tys_ok Tryz.func240 rfl rfl (Nat.le_of_ble_eq_true rfl) ?_
  conv => whnf
  refine Fn.closed (hG) rfl ?_
  rintro _ rfl
  conv => whnf
  exact ⟨_, rc_nil _ _ _ _ _ _ _ _, rfl⟩
 | true =>
  rw [hg] at hG
  by_cases h11 : 11 ≤ b.length
  ·have hu := unrow_yes b szR szR_ok (by omega) (by show 5 ≤ 1000; decide) (show 11 ≤ b.length from h11)
   obtain ⟨K, S, E, A, O, hn, hP⟩ := nums5 b
   rw [hn] at hu
   refine Fn.of tys_ok Tryz.func240 rfl rfl (Nat.le_of_ble_eq_true rfl) ?_
   conv => whnf
   refine Fn.closed (hG) rfl ?_
   rintro _ rfl
   conv => whnf
   refine ACalls.beside (sizes_own) rfl ?_
   rintro _ _ ⟨rfl, rfl⟩
   conv => whnf
   refine ACalls.shut hu.go ?_
   conv => whnf
   refine And.intro rfl ?_
   conv => whnf
   refine ACalls.sub [bA b, iA szR] ⟨fun _ _ h => h, (lit_ints (l := szR) rfl).1, trivial⟩ ?_
   refine ACalls.beside (hu) rfl ?_
   rintro _ _ ⟨rfl, rfl⟩
   conv => whnf
   refine aDraw.of tys_ok mixed [0, 1, 2, 3, 4, 5, 6, 7, 8, 9, 10, 11, 12, 13, 14, 15, 16, 17] (by kernel_rfl) ?_
   conv => whnf
   refine And.intro ⟨by decide, by decide⟩ ?_
   conv => whnf
   refine And.intro ⟨rfl, rfl, by decide⟩ ?_
   conv => whnf
   refine And.intro ⟨by decide, by decide⟩ ?_
   conv => whnf
   refine And.intro ⟨rfl, rfl, by decide⟩ ?_
   conv => whnf
   refine And.intro ⟨by decide, by decide⟩ ?_
   conv => whnf
   refine And.intro ⟨rfl, rfl, by decide⟩ ?_
   conv => whnf
   refine And.intro ⟨by decide, by decide⟩ ?_
   conv => whnf
   refine And.intro ⟨rfl, rfl, by decide⟩ ?_
   conv => whnf
   refine And.intro ⟨by decide, by decide⟩ ?_
   conv => whnf
   refine And.intro ⟨rfl, rfl, by decide⟩ ?_
   conv => whnf
   refine aSeq.go ?_
   conv => whnf
   refine boolI (fun h => ?_) (fun h => ?_) <;> conv => whnf
   ·have hP1 : parseR b = ⟨K, S, E, A, O, imgOf (b.drop 11)⟩ := by rw [hP, if_pos h]
    cases hs : shownOk (b.drop 11) with
    | true =>
     have hb := rbytes_fn g ⟨K, S, E, A, O, imgOf (b.drop 11)⟩ (by have := imgOf_len (b.drop 11); rw [List.length_drop] at this; show (imgOf (b.drop 11)).bytes.length ≤ _; omega)
     have hq := equal_fn (recB ⟨K, S, E, A, O, imgOf (b.drop 11)⟩) b
     have hRR : readR g b = if okR g ⟨K, S, E, A, O, imgOf (b.drop 11)⟩ = true ∧ recB ⟨K, S, E, A, O, imgOf (b.drop 11)⟩ = b then some ⟨K, S, E, A, O, imgOf (b.drop 11)⟩ else none := by
      rw [readR, hP1]; simp [h11, hs]
     refine Fn.closed (shown_yes (b.drop 11) (by rw [List.length_drop]; omega) hs) rfl ?_
     rintro _ rfl
     conv => whnf
     cases hok : okR g ⟨K, S, E, A, O, imgOf (b.drop 11)⟩ with
     | false =>
      rw [hok] at hb
      have hN : readR g b = none := by rw [hRR, if_neg (fun h => by rw [hok] at h; cases h.1)]
      rw [show readE g b = 4 by rw [readE, if_neg (by rw [hg]; decide), hN]; rfl, hN]
      refine Fn.closed (hb) rfl ?_
      rintro _ rfl
      conv => whnf
      exact ⟨_, rc_nil _ _ _ _ _ _ _ _, rfl⟩
     | true =>
      rw [hok] at hb
      by_cases he : recB ⟨K, S, E, A, O, imgOf (b.drop 11)⟩ = b
      ·have hN : readR g b = some ⟨K, S, E, A, O, imgOf (b.drop 11)⟩ := by rw [hRR, if_pos ⟨hok, he⟩]
       rw [show readE g b = 0 by rw [readE, if_neg (by rw [hg]; decide), hN]; rfl, hN]
       rw [decide_eq_true he] at hq
       refine Fn.closed (hb) rfl ?_
       rintro _ rfl
       conv => whnf
       refine Fn.closed (hq) rfl ?_
       rintro _ rfl
       conv => whnf
       exact ⟨_, fun _ _ h => h, rfl⟩
      ·have hN : readR g b = none := by rw [hRR, if_neg (fun h => he h.2)]
       rw [show readE g b = 4 by rw [readE, if_neg (by rw [hg]; decide), hN]; rfl, hN]
       rw [decide_eq_false he] at hq
       refine Fn.closed (hb) rfl ?_
       rintro _ rfl
       conv => whnf
       refine Fn.closed (hq) rfl ?_
       rintro _ rfl
       conv => whnf
       exact ⟨_, rc_nil _ _ _ _ _ _ _ _, rfl⟩
    | false =>
     obtain ⟨x, hx, hf⟩ := shown_no (b.drop 11) (by rw [List.length_drop]; omega) hs
     have hN : readR g b = none := by rw [readR, if_neg (fun hh => by have := hh.2.1 (by rw [hP1]; exact h); rw [hs] at this; cases this)]
     rw [show readE g b = 4 by rw [readE, if_neg (by rw [hg]; decide), hN]; rfl, hN]
     have hb := rbytes_fn g ⟨K, S, E, A, O, x⟩ (by show x.bytes.length ≤ _; rw [hx]; decide)
     cases hok : okR g ⟨K, S, E, A, O, x⟩ <;> rw [hok] at hb
     all_goals
      refine Fn.closed (hf) rfl ?_
      rintro _ rfl
      conv => whnf
      refine Fn.closed (hb) rfl ?_
      rintro _ rfl
      conv => whnf
      exact ⟨_, rc_nil _ _ _ _ _ _ _ _, rfl⟩
   ·have hP1 : parseR b = ⟨K, S, E, A, O, noImg⟩ := by rw [hP, if_neg h]
    have hb := rbytes_fn g ⟨K, S, E, A, O, noImg⟩ (by show 0 ≤ 100000; decide)
    have hq := equal_fn (recB ⟨K, S, E, A, O, noImg⟩) b
    have hRR : readR g b = if okR g ⟨K, S, E, A, O, noImg⟩ = true ∧ recB ⟨K, S, E, A, O, noImg⟩ = b then some ⟨K, S, E, A, O, noImg⟩ else none := by
     rw [readR, hP1]; simp [h11, h]
    refine ACalls.sub [.ag (geoC g), .ag (rcC ⟨K, S, E, A, O, noImg⟩)] ⟨fun _ _ h => h, ag_sub ⟨fun _ _ h => h, fun _ _ h => h, fun _ _ h => h, fun _ _ h => h, fun _ _ h => h, fun _ _ h => h, fun _ _ h => h, fun c u h => nil_sl 1 _ c u h, trivial⟩, trivial⟩ ?_
    cases hok : okR g ⟨K, S, E, A, O, noImg⟩ with
    | false =>
     rw [hok] at hb
     have hN : readR g b = none := by rw [hRR, if_neg (fun h => by rw [hok] at h; cases h.1)]
     rw [show readE g b = 4 by rw [readE, if_neg (by rw [hg]; decide), hN]; rfl, hN]
     refine Fn.closed (hb) rfl ?_
     rintro _ rfl
     conv => whnf
     exact ⟨_, rc_nil _ _ _ _ _ _ _ _, rfl⟩
    | true =>
     rw [hok] at hb
     by_cases he : recB ⟨K, S, E, A, O, noImg⟩ = b
     ·have hN : readR g b = some ⟨K, S, E, A, O, noImg⟩ := by rw [hRR, if_pos ⟨hok, he⟩]
      rw [show readE g b = 0 by rw [readE, if_neg (by rw [hg]; decide), hN]; rfl, hN]
      rw [decide_eq_true he] at hq
      refine Fn.closed (hb) rfl ?_
      rintro _ rfl
      conv => whnf
      refine Fn.closed (hq) rfl ?_
      rintro _ rfl
      conv => whnf
      exact ⟨_, rc_nil _ _ _ _ _ _ _ _, rfl⟩
     ·have hN : readR g b = none := by rw [hRR, if_neg (fun h => he h.2)]
      rw [show readE g b = 4 by rw [readE, if_neg (by rw [hg]; decide), hN]; rfl, hN]
      rw [decide_eq_false he] at hq
      refine Fn.closed (hb) rfl ?_
      rintro _ rfl
      conv => whnf
      refine Fn.closed (hq) rfl ?_
      rintro _ rfl
      conv => whnf
      exact ⟨_, rc_nil _ _ _ _ _ _ _ _, rfl⟩
  ·have hu := unrow_no b szR szR_ok (by omega) (by show 5 ≤ 1000; decide) (show b.length < 11 by omega)
   have hr : readR g b = none := by rw [readR, if_neg (fun h => h11 h.1)]
   rw [show readE g b = 4 by rw [readE, if_neg (by rw [hg]; decide), hr]; rfl, hr]
   refine Fn.of tys_ok Tryz.func240 rfl rfl (Nat.le_of_ble_eq_true rfl) ?_
   conv => whnf
   refine Fn.closed (hG) rfl ?_
   rintro _ rfl
   conv => whnf
   refine ACalls.beside (sizes_own) rfl ?_
   rintro _ _ ⟨rfl, rfl⟩
   conv => whnf
   refine ACalls.shut hu.go ?_
   conv => whnf
   refine And.intro rfl ?_
   conv => whnf
   refine ACalls.sub [bA b, iA szR] ⟨fun _ _ h => h, (lit_ints (l := szR) rfl).1, trivial⟩ ?_
   refine Fn.closed (hu) rfl ?_
   rintro _ rfl
   conv => whnf
   exact ⟨_, rc_nil _ _ _ _ _ _ _ _, rfl⟩
theorem gin_fn (n lo hi : Int) : Fn Tryz.prog 108 [.v (.int .i64 n), .v (.int .i64 lo), .v (.int .i64 hi)] fun r => r = .v (.bool (inB n lo hi)) := by
 refine Fn.of tys_ok Tryz.func108 rfl rfl (Nat.le_of_ble_eq_true rfl) ?_
 conv => whnf
 repeat' (first | (refine boolK_intro (fun h => ?_) (fun h => ?_) <;> (try simp at h) <;> conv => whnf) | (refine aDraw.seq tys_ok mixed (by kernel_rfl) ?_; conv => whnf) | (refine aSeq.go ?_; conv => whnf) | (refine And.intro (by omega) ?_; conv => whnf))
 all_goals exact ⟨_, fun _ _ h => h, by simp [inB, *] <;> omega⟩
theorem told_fn (g : Geo) (n : Int) (b : Bool) : Fn Tryz.prog 128 [.ag (geoC g), .v (.int .i64 n), .v (.bool b)] fun r => r = .tp [.v (.int .i64 (if okG g && b then n else 0)), .v (.int .i64 (if okG g && b then 0 else 1))] := by
 have s1 : Fn Tryz.prog 46 [.ag (geoC g)] fun r => r = .v (errV (okG g)) := gcheck_fn g.z g.d g.sp g.sl g.an
 cases hg : okG g <;> cases b
 all_goals
  rw [hg] at s1
  refine Fn.of tys_ok Tryz.func128 rfl rfl (Nat.le_of_ble_eq_true rfl) ?_
  conv => whnf
  refine Fn.closed (s1) rfl ?_
  rintro _ rfl
  conv => whnf
  exact ⟨_, fun _ _ h => h, rfl⟩
theorem log_fn (g : Geo) (copy slot : Int) : Fn Tryz.prog 68 [.ag (geoC g), .v (.int .i64 copy), .v (.int .i64 slot)] fun r => r = .tp [.v (.int .i64 (if okG g && okL g copy slot then logAt g copy slot else 0)), .v (.int .i64 (if okG g && okL g copy slot then 0 else 1))] := by
 refine Fn.of tys_ok Tryz.func68 rfl rfl (Nat.le_of_ble_eq_true rfl) ?_
 conv => whnf
 refine aDraw.of tys_ok mixed [0, 1, 2, 3, 4, 5, 6, 7, 8, 9, 10, 11, 12, 13, 14, 15, 16, 17, 18, 19, 20, 21, 22, 23] (by kernel_rfl) ?_
 conv => whnf
 refine Fn.closed (gin_fn _ _ _) rfl ?_
 rintro _ rfl
 conv => whnf
 refine boolK_intro (fun t1 => ?_) (fun t1 => ?_) <;> conv => whnf
 ·refine Fn.closed (gin_fn _ _ _) rfl ?_
  rintro _ rfl
  conv => whnf
  refine Fn.closed (told_fn g _ _) rfl ?_
  rintro _ rfl
  conv => whnf
  refine ⟨_, fun _ _ h => h, ?_⟩
  cases hg : okG g with
  | false => rfl
  | true =>
   obtain ⟨h1, h2, h3, h4, h5⟩ := okG_iff.1 hg
   rw [wi (n := g.sl - 1) (by omega)]
   have e : okL g copy slot = inB slot 0 (g.sl - 1) := by rw [okL, t1]; rfl
   rw [e]
   cases hb : inB slot 0 (g.sl - 1) with
   | false => rfl
   | true =>
    obtain ⟨c1, c2⟩ := inB_iff.1 t1
    obtain ⟨b1, b2⟩ := inB_iff.1 hb
    have hm : 0 ≤ copy * g.sl ∧ copy * g.sl ≤ 30 := by
     rcases (show copy = 0 ∨ copy = 1 by omega) with rfl | rfl
     ·omega
     ·omega
    rw [wi (n := copy * g.sl) (by omega), wi (n := g.an + copy * g.sl) (by omega), wi (n := g.an + copy * g.sl + slot) (by omega)]
    rfl
 ·refine Fn.closed (told_fn g _ _) rfl ?_
  rintro _ rfl
  conv => whnf
  refine ⟨_, fun _ _ h => h, ?_⟩
  have e : okL g copy slot = false := by rw [okL, t1]; rfl
  rw [e]
  cases okG g <;> rfl
def saysR (g : Geo) (x : Gt) (copy slot : Int) : Option Rc :=
 if okG g && okL g copy slot && decide (x.err = 0) && decide (openE x.bytes = 0) && decide (secAddr x.bytes = logAt g copy slot) then
  match readR g (secPay x.bytes) with
  | some r => if r.seq = secStamp x.bytes then some r else none
  | none => none
 else none
theorem tp_sub {l m : List AV} (h : SubL l m) (c : Ctx) (u : Value) (hr : Rd (.tp l) c u) : Rd (.tp m) c u := by
 simp only [Rd] at hr ⊢
 obtain ⟨xs, rfl, h1⟩ := hr
 exact ⟨xs, rfl, h.rdl h1⟩
theorem zrec_sub (c : Ctx) (u : Value) (b : Bool) (h : Rd (.tp [.ag [.v (.int .i64 0), .v (.int .i64 0), .v (.int .i64 0), .v (.int .i64 0), .v (.int .i64 0), .v (.int .i64 0), .v (.int .i64 0), .v (.slice none 0 0)], .v (.bool b)]) c u) : Rd (.tp [.ag (rcC zeroC), .v (.bool b)]) c u := by
 refine tp_sub ?_ c u h
 exact ⟨ag_sub ⟨fun _ _ h => h, fun _ _ h => h, fun _ _ h => h, fun _ _ h => h, fun _ _ h => h, fun _ _ h => h, fun _ _ h => h, nil_sl _ _, trivial⟩, fun _ _ h => h, trivial⟩
theorem says_fn (g : Geo) (x : Gt) (copy slot : Int) (hl : x.bytes.length ≤ 100000) : Fn Tryz.prog 237 [.ag (geoC g), .ag (gotC x), .v (.int .i64 copy), .v (.int .i64 slot)] fun r => r = .tp [.ag (rcC ((saysR g x copy slot).getD zeroC)), .v (.bool (saysR g x copy slot).isSome)] := by
 have s1 := log_fn g copy slot
 have s2 := sopen_fn x.bytes hl
 cases hQ : okG g && okL g copy slot with
 | false =>
  have e : saysR g x copy slot = none := by rw [saysR, hQ]; rfl
  rw [hQ] at s1
  rw [e]
  refine Fn.of tys_ok Tryz.func237 rfl rfl (Nat.le_of_ble_eq_true rfl) ?_
  conv => whnf
  refine Fn.closed (s1) rfl ?_
  rintro _ rfl
  conv => whnf
  exact ⟨_, fun c v h => zrec_sub c v false h, rfl⟩
 | true =>
  rw [hQ] at s1
  have hg : okG g = true := by simp at hQ; exact hQ.1
  by_cases hO : openE x.bytes = 0
  ·rw [if_pos hO, hO] at s2
   have s3 := recread_fn g (secPay x.bytes) (by simp [secPay]; omega)
   rw [hg, if_pos rfl] at s3
   refine Fn.of tys_ok Tryz.func237 rfl rfl (Nat.le_of_ble_eq_true rfl) ?_
   conv => whnf
   refine Fn.closed (s1) rfl ?_
   rintro _ rfl
   conv => whnf
   refine boolK_intro (fun t1 => ?_) (fun t1 => ?_) <;> simp only [bne_iff_ne, ne_eq, bne_eq_false_iff_eq] at t1 <;> conv => whnf
   ·have e : saysR g x copy slot = none := by rw [saysR, decide_eq_false t1]; simp
    exact ⟨_, fun c v h => zrec_sub c v false h, by rw [e]; rfl⟩
   refine Fn.closed (s2) rfl ?_
   rintro _ rfl
   conv => whnf
   refine boolK_intro (fun t2 => ?_) (fun t2 => ?_) <;> simp only [bne_iff_ne, ne_eq, bne_eq_false_iff_eq, if_true] at t2 <;> conv => whnf
   ·have e : saysR g x copy slot = none := by rw [saysR, decide_eq_false (p := secAddr x.bytes = logAt g copy slot) t2]; simp
    exact ⟨_, fun c v h => zrec_sub c v false h, by rw [e]; rfl⟩
   have es : saysR g x copy slot = match readR g (secPay x.bytes) with | some r => if r.seq = secStamp x.bytes then some r else none | none => none := by
    rw [saysR, hQ, decide_eq_true t1, decide_eq_true hO, decide_eq_true (p := secAddr x.bytes = logAt g copy slot) t2]; rfl
   cases hR : readR g (secPay x.bytes) with
   | none =>
    rw [hR] at s3 es
    have e4 : readE g (secPay x.bytes) = 4 := by simp [readE, hg, hR]
    rw [e4] at s3
    refine Fn.closed (s3) rfl ?_
    rintro _ rfl
    conv => whnf
    exact ⟨_, fun c v h => zrec_sub c v false h, by rw [es]; rfl⟩
   | some r =>
    rw [hR] at s3 es
    have e4 : readE g (secPay x.bytes) = 0 := by simp [readE, hg, hR]
    rw [e4] at s3
    refine Fn.closed (s3) rfl ?_
    rintro _ rfl
    conv => whnf
    refine boolK_intro (fun t3 => ?_) (fun t3 => ?_) <;> simp only [bne_iff_ne, ne_eq, bne_eq_false_iff_eq, Option.getD_some] at t3 <;> conv => whnf
    ·exact ⟨_, fun c v h => zrec_sub c v false h, by rw [es]; simp only [if_neg t3]; rfl⟩
    ·exact ⟨_, fun _ _ h => h, by rw [es]; simp only [if_pos t3]; rfl⟩
  ·have e : saysR g x copy slot = none := by rw [saysR, decide_eq_false hO]; simp
   rw [if_neg hO] at s2
   rw [e]
   refine Fn.of tys_ok Tryz.func237 rfl rfl (Nat.le_of_ble_eq_true rfl) ?_
   conv => whnf
   refine Fn.closed (s1) rfl ?_
   rintro _ rfl
   conv => whnf
   refine boolK_intro (fun t1 => ?_) (fun t1 => ?_) <;> conv => whnf
   ·exact ⟨_, fun c v h => zrec_sub c v false h, rfl⟩
   refine Fn.closed (s2) rfl ?_
   rintro _ rfl
   conv => whnf
   refine boolK_intro (fun t2 => ?_) (fun t2 => ?_) <;> simp only [bne_iff_ne, ne_eq, bne_eq_false_iff_eq] at t2 <;> conv => whnf
   ·exact ⟨_, fun c v h => zrec_sub c v false h, rfl⟩
   ·exact absurd t2 hO
theorem smake_fn (addr stamp : Int) (p : List UInt8) (hok : okS addr stamp p) : Fn Tryz.prog 73 [.ag [.v (.int .i64 addr), .v (.int .i64 stamp), bA p]] fun r => r = .tp [bA (sealB addr stamp p), .v (.int .i64 0)] := by
 refine ⟨⟨_, Tryz.func73, rfl, by decide⟩, fun c0 us hd hM _ hr => ?_⟩
 obtain ⟨u, rfl, h⟩ := rd1 hr
 simp only [Rd, RdL] at h
 obtain ⟨xs, rfl, a, _, rfl, rfl, b, _, rfl, rfl, d, _, rfl, h3, rfl⟩ := h
 refine (make_any addr stamp d p c0.w c0.M (toBytes (by simpa only [Rd, bA] using h3)) hok).mono ?_
 rintro e w' ⟨q, rfl, ho, hB⟩
 exact ⟨_, _, rfl, rfl, hB, of_tp2 (ofOwn ho hM) (rd_v _)⟩
set_option maxRecDepth 100000 in
theorem rcell_fn (g : Geo) (x : Rc) (copy slot : Int) (hl : x.img.bytes.length ≤ 100000) : Fn Tryz.prog 69 [.ag (geoC g), .ag (rcC x), .v (.int .i64 copy), .v (.int .i64 slot)] fun r => r = .tp [bA (if okR g x && okL g copy slot then cellB g x copy slot else []), .v (errV (okR g x && okL g copy slot))] := by
 have hb := rbytes_fn g x hl
 have hL := log_fn g copy slot
 have no : ∀ (c : Ctx) (v : Value), Rd (.tp [.v (.slice none 0 0), .v (.int .i64 1)]) c v → Rd (.tp [bA [], .v (.int .i64 1)]) c v := fun c v h => by
  simp only [Rd, RdL] at h ⊢
  obtain ⟨xs, rfl, y, ys, rfl, rfl, h⟩ := h
  exact ⟨_, rfl, _, _, rfl, nil_sl 1 (fun i => [.v (.int .u8 (([] : List UInt8).getD i 0).toNat)]) c (.slice none 0 0) (by simp [Rd]), h⟩
 cases hok : okR g x with
 | false =>
  rw [hok] at hb
  refine Fn.of tys_ok Tryz.func69 rfl rfl (Nat.le_of_ble_eq_true rfl) ?_
  conv => whnf
  refine Fn.closed (hb) rfl ?_
  rintro _ rfl
  conv => whnf
  exact ⟨_, no, rfl⟩
 | true =>
  have hg : okG g = true := by simp only [okR, Bool.and_eq_true] at hok; exact hok.1
  rw [hok] at hb
  rw [hg] at hL
  cases hl2 : okL g copy slot with
  | false =>
   rw [hl2] at hL
   refine Fn.of tys_ok Tryz.func69 rfl rfl (Nat.le_of_ble_eq_true rfl) ?_
   conv => whnf
   refine Fn.closed (hb) rfl ?_
   rintro _ rfl
   conv => whnf
   refine Fn.closed (hL) rfl ?_
   rintro _ rfl
   conv => whnf
   exact ⟨_, no, rfl⟩
  | true =>
   rw [hl2] at hL
   have h1 := logAt_bounds hg hl2
   have h2 := okR_seq hok
   have h3 := recB_short hok
   have hm := smake_fn (logAt g copy slot) x.seq (recB x) ⟨h1.1, h1.2, h2.1, h2.2, by omega⟩
   refine Fn.of tys_ok Tryz.func69 rfl rfl (Nat.le_of_ble_eq_true rfl) ?_
   conv => whnf
   refine Fn.closed (hb) rfl ?_
   rintro _ rfl
   conv => whnf
   refine Fn.closed (hL) rfl ?_
   rintro _ rfl
   conv => whnf
   refine Fn.closed (hm) rfl ?_
   rintro _ rfl
   conv => whnf
   exact ⟨_, fun _ _ h => h, rfl⟩
def perG (g : Geo) : Int := g.d + 1 + g.sp
def cellsN (g : Geo) : Int := g.an + 2 * g.sl + 2 * g.z + g.z * perG g
def tabAt (g : Geo) (z k : Int) : Int := g.an + 2 * g.sl + 2 * z + k
def slotAt (g : Geo) (z s : Int) : Int := g.an + 2 * g.sl + 2 * g.z + z * perG g + s
theorem per_bd {g : Geo} (hg : okG g = true) : 2 ≤ perG g ∧ perG g ≤ 7 := by
 obtain ⟨h1, h2, h3, h4, h5⟩ := okG_iff.1 hg
 unfold perG; omega
theorem zper_bd {g : Geo} (hg : okG g = true) {z : Int} (hz : 0 ≤ z ∧ z ≤ 4) : 0 ≤ z * perG g ∧ z * perG g ≤ 28 := by
 obtain ⟨p1, p2⟩ := per_bd hg
 rcases (show z = 0 ∨ z = 1 ∨ z = 2 ∨ z = 3 ∨ z = 4 by omega) with rfl | rfl | rfl | rfl | rfl <;> omega
theorem cells_bd {g : Geo} (hg : okG g = true) : 32 ≤ cellsN g ∧ cellsN g ≤ 99 := by
 obtain ⟨h1, h2, h3, h4, h5⟩ := okG_iff.1 hg
 obtain ⟨p1, p2⟩ := per_bd hg
 have := zper_bd hg (z := g.z) (by omega)
 unfold cellsN
 rcases (show g.z = 1 ∨ g.z = 2 ∨ g.z = 3 ∨ g.z = 4 by omega) with h | h | h | h <;> rw [h] at this ⊢ <;> omega
theorem gtables_fn (g : Geo) (hg : okG g = true) : Fn Tryz.prog 136 [.ag (geoC g)] fun r => r = .v (.int .i64 (g.an + 2 * g.sl)) := by
 obtain ⟨h1, h2, h3, h4, h5⟩ := okG_iff.1 hg
 refine Fn.of tys_ok Tryz.func136 rfl rfl (Nat.le_of_ble_eq_true rfl) ?_
 conv => whnf
 exact ⟨_, fun _ _ h => h, by rw [wi (n := 2 * g.sl) (by omega), wi (by omega)]⟩
theorem gSlots_fn (g : Geo) (hg : okG g = true) : Fn Tryz.prog 74 [.ag (geoC g)] fun r => r = .v (.int .i64 (perG g)) := by
 obtain ⟨h1, h2, h3, h4, h5⟩ := okG_iff.1 hg
 refine Fn.of tys_ok Tryz.func74 rfl rfl (Nat.le_of_ble_eq_true rfl) ?_
 conv => whnf
 exact ⟨_, fun _ _ h => h, by rw [wi (n := g.d + 1) (by omega), wi (by omega)]; rfl⟩
theorem gslots1_fn (g : Geo) (hg : okG g = true) : Fn Tryz.prog 139 [.ag (geoC g)] fun r => r = .v (.int .i64 (g.an + 2 * g.sl + 2 * g.z)) := by
 obtain ⟨h1, h2, h3, h4, h5⟩ := okG_iff.1 hg
 refine Fn.of tys_ok Tryz.func139 rfl rfl (Nat.le_of_ble_eq_true rfl) ?_
 conv => whnf
 apply aDraw.tree tys_ok mixed (.one 0 (.one 2 (.one 3 (.one 4 (.one 1 (.one 5 (.one 6 .fin))))))) [2, 3, 4, 5, 6, 7, 8] (by kernel_rfl)
 ·conv => whnf
  refine Fn.closed (gtables_fn g hg) rfl ?_
  rintro _ rfl
  conv => whnf
  exact ⟨rfl, rfl⟩
 conv => whnf
 exact ⟨_, fun _ _ h => h, by rw [wi (n := 2 * g.z) (by omega), wi (by omega)]⟩
theorem gcells1_fn (g : Geo) (hg : okG g = true) : Fn Tryz.prog 129 [.ag (geoC g)] fun r => r = .v (.int .i64 (cellsN g)) := by
 obtain ⟨h1, h2, h3, h4, h5⟩ := okG_iff.1 hg
 have hz := zper_bd hg (z := g.z) (by omega)
 have hc := cells_bd hg
 refine Fn.of tys_ok Tryz.func129 rfl rfl (Nat.le_of_ble_eq_true rfl) ?_
 conv => whnf
 apply aDraw.tree tys_ok mixed (.one 0 (.one 2 (.one 3 (.one 4 (.one 1 (.one 5 (.one 6 (.one 7 (.one 8 .fin))))))))) [2, 3, 4, 5, 6, 7, 8, 9, 10] (by kernel_rfl)
 ·conv => whnf
  refine Fn.closed (gslots1_fn g hg) rfl ?_
  rintro _ rfl
  conv => whnf
  refine Fn.closed (gSlots_fn g hg) rfl ?_
  rintro _ rfl
  conv => whnf
  exact ⟨rfl, rfl⟩
 conv => whnf
 exact ⟨_, fun _ _ h => h, by rw [wi (n := g.z * perG g) (by omega), wi (by omega)]; rfl⟩
theorem gcells_fn (g : Geo) (hg : okG g = true) : Fn Tryz.prog 64 [.ag (geoC g)] fun r => r = .tp [.v (.int .i64 (cellsN g)), .v (.int .i64 0)] := by
 have ht := told_fn g (cellsN g) true
 rw [hg] at ht
 refine Fn.of tys_ok Tryz.func64 rfl rfl (Nat.le_of_ble_eq_true rfl) ?_
 conv => whnf
 apply aDraw.tree tys_ok mixed (.one 0 (.one 1 (.one 2 (.one 3 (.one 4 (.one 5 (.one 6 (.one 7 .fin)))))))) [2, 3, 4, 5, 6, 7, 8, 9] (by kernel_rfl)
 ·conv => whnf
  refine Fn.closed (gcells1_fn g hg) rfl ?_
  rintro _ rfl
  conv => whnf
  refine Fn.closed (ht) rfl ?_
  rintro _ rfl
  conv => whnf
  exact ⟨rfl, rfl⟩
 conv => whnf
 exact ⟨_, fun _ _ h => h, rfl⟩
theorem ganchor_fn (g : Geo) (i : Int) (hg : okG g = true) (hi : 0 ≤ i ∧ i < g.an) : Fn Tryz.prog 66 [.ag (geoC g), .v (.int .i64 i)] fun r => r = .tp [.v (.int .i64 i), .v (.int .i64 0)] := by
 obtain ⟨h1, h2, h3, h4, h5⟩ := okG_iff.1 hg
 have ht := told_fn g i true
 rw [hg] at ht
 have hw : IntKind.i64.wrap (g.an - 1) = g.an - 1 := wi (by omega)
 have hn := gin_fn i 0 (IntKind.i64.wrap (g.an - 1))
 rw [show inB i 0 (IntKind.i64.wrap (g.an - 1)) = true from inB_iff.2 (by rw [hw]; omega)] at hn
 refine Fn.of tys_ok Tryz.func66 rfl rfl (Nat.le_of_ble_eq_true rfl) ?_
 conv => whnf
 apply aDraw.tree tys_ok mixed (.one 0 (.one 1 (.one 2 (.one 3 (.one 4 (.one 5 (.one 6 (.one 7 (.one 8 (.one 9 (.one 10 (.one 11 .fin)))))))))))) [4, 5, 6, 7, 8, 9, 10, 11, 12, 13, 14, 15] (by kernel_rfl)
 ·conv => whnf
  refine Fn.closed (hn) rfl ?_
  rintro _ rfl
  conv => whnf
  refine Fn.closed (ht) rfl ?_
  rintro _ rfl
  conv => whnf
  exact ⟨rfl, rfl⟩
 conv => whnf
 exact ⟨_, fun _ _ h => h, rfl⟩
theorem gtable_fn (g : Geo) (z k : Int) (hg : okG g = true) (hz : 0 ≤ z ∧ z < g.z) (hk : 0 ≤ k ∧ k ≤ 1) : Fn Tryz.prog 72 [.ag (geoC g), .v (.int .i64 z), .v (.int .i64 k)] fun r => r = .tp [.v (.int .i64 (tabAt g z k)), .v (.int .i64 0)] := by
 obtain ⟨h1, h2, h3, h4, h5⟩ := okG_iff.1 hg
 have e : IntKind.i64.wrap (IntKind.i64.wrap (g.an + 2 * g.sl + IntKind.i64.wrap (2 * z)) + k) = tabAt g z k := by
  rw [wi (n := 2 * z) (by omega), wi (n := g.an + 2 * g.sl + 2 * z) (by omega), wi (by omega)]; rfl
 have ht := told_fn g (IntKind.i64.wrap (IntKind.i64.wrap (g.an + 2 * g.sl + IntKind.i64.wrap (2 * z)) + k)) true
 rw [hg] at ht
 have hw : IntKind.i64.wrap (g.z - 1) = g.z - 1 := wi (by omega)
 have hn := gin_fn z 0 (IntKind.i64.wrap (g.z - 1))
 rw [show inB z 0 (IntKind.i64.wrap (g.z - 1)) = true from inB_iff.2 (by rw [hw]; omega)] at hn
 have hn2 := gin_fn k 0 1
 rw [show inB k 0 1 = true from inB_iff.2 hk] at hn2
 refine Fn.of tys_ok Tryz.func72 rfl rfl (Nat.le_of_ble_eq_true rfl) ?_
 conv => whnf
 apply aDraw.tree tys_ok mixed (.one 0 (.one 1 (.one 3 (.one 4 (.one 6 (.one 8 (.one 9 (.one 10 (.one 11 (.one 2 (.one 5 (.one 7 (.one 12 (.one 13 (.one 14 (.one 15 (.one 16 (.one 17 (.one 18 (.one 19 (.one 20 (.one 21 .fin)))))))))))))))))))))) [6, 7, 8, 9, 10, 11, 12, 13, 14, 15, 16, 17, 18, 19, 20, 21, 22, 23, 24, 25, 26, 27] (by kernel_rfl)
 ·conv => whnf
  refine Fn.closed (gtables_fn g hg) rfl ?_
  rintro _ rfl
  conv => whnf
  refine Fn.closed (hn) rfl ?_
  rintro _ rfl
  conv => whnf
  refine Fn.closed (hn2) rfl ?_
  rintro _ rfl
  conv => whnf
  refine Fn.closed (ht) rfl ?_
  rintro _ rfl
  conv => whnf
  exact ⟨rfl, rfl⟩
 conv => whnf
 exact ⟨_, fun _ _ h => h, by simp only [Bool.and_self, if_true]; rw [e]⟩
theorem gslot_fn (g : Geo) (z s : Int) (hg : okG g = true) (hz : 0 ≤ z ∧ z < g.z) (hs : 0 ≤ s ∧ s < perG g) : Fn Tryz.prog 75 [.ag (geoC g), .v (.int .i64 z), .v (.int .i64 s)] fun r => r = .tp [.v (.int .i64 (slotAt g z s)), .v (.int .i64 0)] := by
 obtain ⟨h1, h2, h3, h4, h5⟩ := okG_iff.1 hg
 have hzp := zper_bd hg (z := z) (by omega)
 have hp := per_bd hg
 have e : IntKind.i64.wrap (IntKind.i64.wrap (g.an + 2 * g.sl + 2 * g.z + IntKind.i64.wrap (z * perG g)) + s) = slotAt g z s := by
  rw [wi (n := z * perG g) (by omega), wi (n := g.an + 2 * g.sl + 2 * g.z + z * perG g) (by omega), wi (by omega)]; rfl
 have ht := told_fn g (IntKind.i64.wrap (IntKind.i64.wrap (g.an + 2 * g.sl + 2 * g.z + IntKind.i64.wrap (z * perG g)) + s)) true
 rw [hg] at ht
 have hw : IntKind.i64.wrap (g.z - 1) = g.z - 1 := wi (by omega)
 have hn := gin_fn z 0 (IntKind.i64.wrap (g.z - 1))
 rw [show inB z 0 (IntKind.i64.wrap (g.z - 1)) = true from inB_iff.2 (by rw [hw]; omega)] at hn
 have hw2 : IntKind.i64.wrap (perG g - 1) = perG g - 1 := wi (by omega)
 have hn2 := gin_fn s 0 (IntKind.i64.wrap (perG g - 1))
 rw [show inB s 0 (IntKind.i64.wrap (perG g - 1)) = true from inB_iff.2 (by rw [hw2]; omega)] at hn2
 refine Fn.of tys_ok Tryz.func75 rfl rfl (Nat.le_of_ble_eq_true rfl) ?_
 conv => whnf
 apply aDraw.tree tys_ok mixed (.one 0 (.one 1 (.one 3 (.one 4 (.one 8 (.one 10 (.one 11 (.one 12 (.one 13 (.one 2 (.one 5 (.one 6 (.one 7 (.one 9 (.one 14 (.one 15 (.one 16 (.one 17 (.one 18 (.one 19 (.one 20 (.one 21 (.one 22 (.one 23 (.one 24 (.one 25 (.one 26 .fin))))))))))))))))))))))))))) [6, 7, 8, 9, 10, 11, 12, 13, 14, 15, 16, 17, 18, 19, 20, 21, 22, 23, 24, 25, 26, 27, 28, 29, 30, 31, 32] (by kernel_rfl)
 ·conv => whnf
  refine Fn.closed (gslots1_fn g hg) rfl ?_
  rintro _ rfl
  conv => whnf
  refine Fn.closed (gSlots_fn g hg) rfl ?_
  rintro _ rfl
  conv => whnf
  refine Fn.closed (hn) rfl ?_
  rintro _ rfl
  conv => whnf
  refine Fn.closed (gSlots_fn g hg) rfl ?_
  rintro _ rfl
  conv => whnf
  refine Fn.closed (hn2) rfl ?_
  rintro _ rfl
  conv => whnf
  refine Fn.closed (ht) rfl ?_
  rintro _ rfl
  conv => whnf
  exact ⟨rfl, rfl⟩
 conv => whnf
 exact ⟨_, fun _ _ h => h, by simp only [Bool.and_self, if_true]; rw [e]⟩
theorem rper_fn (g : Geo) (hg : okG g = true) : Fn Tryz.prog 85 [.ag (geoC g)] fun r => r = .v (.int .i64 (perG g)) := by
 obtain ⟨h1, h2, h3, h4, h5⟩ := okG_iff.1 hg
 refine Fn.of tys_ok Tryz.func85 rfl rfl (Nat.le_of_ble_eq_true rfl) ?_
 conv => whnf
 exact ⟨_, fun _ _ h => h, by rw [wi (n := g.d + 1) (by omega), wi (by omega)]; rfl⟩
theorem rcellsN_fn (g : Geo) (hg : okG g = true) : Fn Tryz.prog 79 [.ag (geoC g)] fun r => r = .v (.int .i64 (cellsN g)) := by
 obtain ⟨h1, h2, h3, h4, h5⟩ := okG_iff.1 hg
 have hz := zper_bd hg (z := g.z) (by omega)
 have hc := cells_bd hg
 refine Fn.of tys_ok Tryz.func79 rfl rfl (Nat.le_of_ble_eq_true rfl) ?_
 conv => whnf
 apply aDraw.tree tys_ok mixed (.one 0 (.one 1 (.one 2 (.one 3 (.one 4 (.one 5 (.one 6 (.one 7 (.one 8 (.one 9 (.one 10 (.one 11 (.one 12 (.one 13 (.one 14 (.one 15 (.one 16 .fin))))))))))))))))) [2, 3, 4, 5, 6, 7, 8, 9, 10, 11, 12, 13, 14, 15, 16, 17, 18] (by kernel_rfl)
 ·conv => whnf
  refine Fn.closed (rper_fn g hg) rfl ?_
  rintro _ rfl
  conv => whnf
  exact ⟨rfl, rfl⟩
 conv => whnf
 exact ⟨_, fun _ _ h => h, by rw [wi (n := g.z * perG g) (by omega), wi (n := 2 * g.sl) (by omega), wi (n := 2 * g.z) (by omega), wi (n := g.an + 2 * g.sl) (by omega), wi (n := g.an + 2 * g.sl + 2 * g.z) (by omega), wi (by omega)]; rfl⟩
theorem rtable_fn (g : Geo) (z k : Int) (hg : okG g = true) (hz : 0 ≤ z ∧ z < g.z) (hk : 0 ≤ k ∧ k ≤ 1) : Fn Tryz.prog 83 [.ag (geoC g), .v (.int .i64 z), .v (.int .i64 k)] fun r => r = .v (.int .i64 (tabAt g z k)) := by
 obtain ⟨h1, h2, h3, h4, h5⟩ := okG_iff.1 hg
 refine Fn.of tys_ok Tryz.func83 rfl rfl (Nat.le_of_ble_eq_true rfl) ?_
 conv => whnf
 exact ⟨_, fun _ _ h => h, by rw [wi (n := 2 * g.sl) (by omega), wi (n := 2 * z) (by omega), wi (n := g.an + 2 * g.sl) (by omega), wi (n := g.an + 2 * g.sl + 2 * z) (by omega), wi (by omega)]; rfl⟩
theorem rslot_fn (g : Geo) (z s : Int) (hg : okG g = true) (hz : 0 ≤ z ∧ z < g.z) (hs : 0 ≤ s ∧ s < perG g) : Fn Tryz.prog 86 [.ag (geoC g), .v (.int .i64 z), .v (.int .i64 s)] fun r => r = .v (.int .i64 (slotAt g z s)) := by
 obtain ⟨h1, h2, h3, h4, h5⟩ := okG_iff.1 hg
 have hzp := zper_bd hg (z := z) (by omega)
 have hp := per_bd hg
 refine Fn.of tys_ok Tryz.func86 rfl rfl (Nat.le_of_ble_eq_true rfl) ?_
 conv => whnf
 apply aDraw.tree tys_ok mixed (.one 0 (.one 1 (.one 2 (.one 3 (.one 4 (.one 5 (.one 6 (.one 7 (.one 8 (.one 9 (.one 10 (.one 11 (.one 15 (.one 12 (.one 13 (.one 14 (.one 16 (.one 17 .fin)))))))))))))))))) [6, 7, 8, 9, 10, 11, 12, 13, 14, 15, 16, 17, 18, 19, 20, 21, 22, 23] (by kernel_rfl)
 ·conv => whnf
  refine Fn.closed (rper_fn g hg) rfl ?_
  rintro _ rfl
  conv => whnf
  exact ⟨rfl, rfl⟩
 conv => whnf
 exact ⟨_, fun _ _ h => h, by rw [wi (n := z * perG g) (by omega), wi (n := 2 * g.sl) (by omega), wi (n := 2 * g.z) (by omega), wi (n := g.an + 2 * g.sl) (by omega), wi (n := g.an + 2 * g.sl + 2 * g.z) (by omega), wi (n := g.an + 2 * g.sl + 2 * g.z + z * perG g) (by omega), wi (by omega)]; rfl⟩
theorem anN_rows (a : An) : rowB (anN a) szA = leB 4 a.gen.toNat ++ (leB 4 a.epoch.toNat ++ (leB 4 a.seq.toNat ++ (leB 4 a.last.toNat ++ leB 1 a.pos.toNat))) := by
 simp [rowB, anN, szA]
set_option maxRecDepth 100000 in
theorem ranB_fn (g : Geo) (a : An) (hg : okG g = true) (ha : anOk g a = true) : Fn Tryz.prog 147 [.ag (anC a)] fun r => r = bA (anB a) := by
 obtain ⟨g1, g2, g3, g4, g5⟩ := okG_iff.1 hg
 obtain ⟨q1, q2, q3, q4, q5⟩ := anBk_len hg ha 0 (Nat.zero_le _)
 have ha0 := ha
 simp only [anOk, Bool.and_eq_true, decide_eq_true_eq, List.all_cons, List.all_nil, Bool.and_true, inB_iff, List.all_eq_true] at ha
 obtain ⟨⟨w1, w2, w3, w4⟩, _, _, w5, _, _, _⟩ := ha
 have p1 := rput_int [] a.gen 4 (by simp) w1 (by decide)
 have p2 := rput_int (leB 4 a.gen.toNat) a.epoch 4 (by rw [leB_len]; decide) w2 (by decide)
 have p3 := rput_int (leB 4 a.gen.toNat ++ leB 4 a.epoch.toNat) a.seq 4 (by simp [leB_len]) w3 (by decide)
 have p4 := rput_int (leB 4 a.gen.toNat ++ leB 4 a.epoch.toNat ++ leB 4 a.seq.toNat) a.last 4 (by simp [leB_len]) w4 (by decide)
 have p5 := rput_own (leB 4 a.gen.toNat ++ leB 4 a.epoch.toNat ++ leB 4 a.seq.toNat ++ leB 4 a.last.toNat) a.pos 1 (by simp [leB_len]) (by omega) (by decide)
 have hlb := rlblB_fn a.label (by omega)
 refine Fn.of tys_ok Tryz.func147 rfl rfl (Nat.le_of_ble_eq_true rfl) ?_
 conv => whnf
 refine ACalls.sub [bA [], .v (.int .i64 a.gen), .v (.int .i64 4)] ⟨nil_sl 1 _, fun _ _ h => h, fun _ _ h => h, trivial⟩ ?_
 refine Fn.closed (p1) rfl ?_
 rintro _ rfl
 conv => whnf
 refine Fn.closed (p2) rfl ?_
 rintro _ rfl
 conv => whnf
 refine Fn.closed (p3) rfl ?_
 rintro _ rfl
 conv => whnf
 refine Fn.closed (p4) rfl ?_
 rintro _ rfl
 conv => whnf
 apply aDraw.treeK (0) tys_ok mixed (.one 0 (.one 1 (.one 2 (.one 4 (.one 5 (.one 3 (.one 6 (.one 7 (.one 8 .fin))))))))) (by kernel_rfl)
 conv => whnf
 (refine ACalls.beside p5 rfl ?_; rintro _ _ ⟨rfl, rfl⟩)
 conv => whnf
 refine Fn.closed (hlb) rfl ?_
 rintro _ rfl
 conv => whnf
 try (refine And.intro (by first | rfl | omega) ?_; conv => whnf)
 try (refine And.intro (by first | omega | exact ⟨by first | rfl | (simp; done) | (simp; omega), by omega⟩) ?_; conv => whnf)
 have eR : leB 4 a.gen.toNat ++ leB 4 a.epoch.toNat ++ leB 4 a.seq.toNat ++ leB 4 a.last.toNat ++ leB 1 a.pos.toNat = rowB (anN a) szA := by rw [anN_rows]; simp
 rw [eR]
 have hr17 : (rowB (anN a) szA).length = 17 := tot_rowB _ _ rfl
 refine And.intro ⟨by simp, by rw [hr17, lblB_len]; omega⟩ ?_
 conv => whnf
 have e0 : (rowB (anN a) szA).map by1 ++ ((List.range (lblB a.label).length).map fun i => [AV.v (Value.int IntKind.u8 (((lblB a.label).getD i 0).toNat : Int))]) = (anBk a 0).map by1 := by
  rw [by_range, ← List.map_append]; simp [anBk]
 have e1 : (rowB (anN a) szA).length + (lblB a.label).length = (anBk a 0).length := by simp [anBk]
 refine aLoop.ruleR Nat (fun k => ([(1, .bp 0 0), (3, .ow 1 (anBk a k).length), (4, .v (.int .i64 k))], [.box 40 (anC a), .row 5 1 ((anBk a k).map by1)])) (fun k => k ≤ a.homes.length) (fun k => a.homes.length - k) 0 (Nat.zero_le _)
  (Wk.conv ⟨[], trivial, ⟨rfl, congrArg (AV.ow 1) e1, rfl, trivial⟩, ⟨rfl, congrArg (AB.row _ _) e0.symm, trivial⟩, rfl, rfl, rfl⟩) ?_
 intro k hk
 conv => whnf
 refine boolI (fun h6 => ?_) (fun h6 => ?_) <;> (repeat rw [Int.toNat_natCast] at h6) <;> conv => whnf
 ·have hk' : k < a.homes.length := by omega
  have hh4 := q5 _ (getD_mem (d := (⟨[], 0, 0⟩ : Hm)) hk')
  obtain ⟨f1, f2, f3, f4, f5⟩ := hm_fit hg hh4
  have hst := anBk_step a k hk'
  have hB := (anBk_len hg ha0 k hk).1
  have hB2 := (anBk_len hg ha0 (k + 1) hk').1
  obtain ⟨h, hh⟩ : ∃ h, h = a.homes.getD k ⟨[], 0, 0⟩ := ⟨_, rfl⟩
  rw [← hh] at hh4 f1 f2 f3 f4 f5 hst
  generalize hX : anBk a k = X at hst hB ⊢
  have hlm : (hmB h).length = h.places.length + 5 := by rw [hmB_row, tot_rowB _ _ (by rw [List.length_append, szH_len]; rfl), tot_szH]
  rw [hst, List.length_append, hlm] at hB2
  refine aLoop.ruleR Nat (fun j => ([(1, .bp 0 0), (3, .ow 1 (X ++ plB (h.places.take j)).length), (4, .v (.int .i64 k)), (5, .v (.int .i64 j))], [.box 40 (anC a), .row 5 1 ((X ++ plB (h.places.take j)).map by1)])) (fun j => j ≤ h.places.length) (fun j => h.places.length - j) 0 (Nat.zero_le _)
   (Wk.conv ⟨[], trivial, ⟨rfl, congrArg (fun l => AV.ow 1 (List.length l)) (List.append_nil X).symm, rfl, rfl, trivial⟩, ⟨rfl, congrArg (fun l => AB.row _ _ (List.map by1 l)) (List.append_nil X), trivial⟩, rfl, rfl, rfl⟩) ?_
  intro j hj
  conv => whnf
  have hgk : a.homes.getD (k : Int).toNat ⟨[], 0, 0⟩ = h := by rw [Int.toNat_natCast, hh]
  refine ⟨by first | omega | (refine ⟨rfl, ?_, ?_⟩ <;> first | omega | (simp only [List.length_map]; done) | (simp only [List.length_map]; omega)) | (simp only [List.length_map]; omega), ?_⟩
  conv => whnf
  rw [hgk]
  refine boolI (fun h7 => ?_) (fun h7 => ?_) <;> (repeat rw [Int.toNat_natCast] at h7) <;> conv => whnf
  ·refine ⟨by first | omega | (refine ⟨rfl, ?_, ?_⟩ <;> first | omega | (simp only [List.length_map]; done) | (simp only [List.length_map]; omega)) | (simp only [List.length_map]; omega), ?_⟩
   conv => whnf
   rw [hgk]
   refine ⟨by first | omega | (refine ⟨rfl, ?_, ?_⟩ <;> first | omega | (simp only [List.length_map]; done) | (simp only [List.length_map]; omega)) | (simp only [List.length_map]; omega), ?_⟩
   conv => whnf
   rw [Int.toNat_natCast]
   have hj' : j < h.places.length := by omega
   have hp := f2 _ (getD_mem (d := (0 : Int)) hj')
   have hpl := plB_len (h.places.take j)
   have hps := plB_step h.places j hj'
   have hput := rput_own (X ++ plB (h.places.take j)) (h.places.getD j 0) 1 (by rw [List.length_append, hpl, List.length_take]; omega) (by omega) (by decide)
   rw [List.append_assoc, ← hps] at hput
   refine ACalls.shut (hput).go ?_
   conv => whnf
   repeat' (refine And.intro (by first | rfl | omega | (simp; done) | (simp only [List.length_map]; omega) | (simp; omega)) ?_; conv => whnf)
   refine ACalls.sub [bA (X ++ plB (h.places.take j)), .v (.int .i64 (h.places.getD j 0)), .v (.int .i64 1)] ⟨by_sub rfl rfl, fun _ _ h => h, fun _ _ h => h, trivial⟩ ?_
   refine ACalls.beside (hput) rfl ?_
   rintro _ _ ⟨rfl, rfl⟩
   conv => whnf
   refine ⟨j + 1, by omega, by omega, WkN.r (s := [0, 2]) ⟨⟨rfl, rfl, rfl, wsucc (by omega), trivial⟩, ⟨rfl, rfl, trivial⟩, rfl, rfl, rfl, rfl, rfl⟩⟩
  ·have ej : j = h.places.length := by omega
   subst ej
   have hpl := plB_len (h.places.take h.places.length)
   rw [List.take_length] at hpl ⊢
   have hp1 := rput_int (X ++ plB h.places) h.next 1 (by rw [List.length_append, hpl]; omega) (by omega) (by decide)
   have hp2 := rput_own (X ++ plB h.places ++ leB 1 h.next.toNat) h.root 4 (by rw [List.length_append, List.length_append, hpl, leB_len]; omega) (by omega) (by decide)
   have eY : X ++ plB h.places ++ leB 1 h.next.toNat ++ leB 4 h.root.toNat = X ++ hmB h := by simp [hmB, rowB]
   rw [eY] at hp2
   apply aDraw.treeK (0) tys_ok mixed (.one 0 (.one 1 (.one 2 (.one 3 (.one 4 (.one 5 (.one 6 (.one 8 (.one 9 (.one 10 (.one 11 (.one 12 (.one 13 (.one 7 (.one 14 (.one 15 .fin)))))))))))))))) (by kernel_rfl)
   conv => whnf
   try (refine And.intro (by first | omega | (simp; done)) ?_; conv => whnf)
   try (refine And.intro (by first | omega | (simp; done)) ?_; conv => whnf)
   (rw [hgk]; refine ACalls.shut hp1.go ?_; (conv => whnf); refine And.intro (by simp) ?_; (conv => whnf); refine ACalls.sub [bA (X ++ plB h.places), .v (.int .i64 h.next), .v (.int .i64 1)] ⟨by_sub rfl rfl, fun _ _ h => h, fun _ _ h => h, trivial⟩ ?_; refine Fn.closed hp1 rfl ?_; rintro _ rfl)
   conv => whnf
   (refine ACalls.beside hp2 rfl ?_; rintro _ _ ⟨rfl, rfl⟩)
   conv => whnf
   refine ⟨k + 1, hk', by omega, WkN.r (s := [0, 2]) ⟨⟨rfl, congrArg (AV.ow 2) (by rw [hst]), wsucc (by omega), trivial⟩, ⟨rfl, congrArg (fun l => some (AB.row _ _ l)) (by rw [hst]), trivial⟩, rfl, rfl, rfl, rfl, rfl⟩⟩
 ·have ek : k = a.homes.length := by omega
  subst ek
  rw [anBk_all]
  refine And.intro (by simp) ?_
  conv => whnf
  exact ⟨bA (anB a), by_sub rfl rfl, rfl⟩
def anCell (a : An) (i : Int) : List UInt8 := sealB i a.gen (anB a)
theorem anB_short {g : Geo} {a : An} (hg : okG g = true) (ha : anOk g a = true) : (anB a).length ≤ 82 := by
 obtain ⟨g1, g2, g3, g4, g5⟩ := okG_iff.1 hg
 have hz := ha
 simp only [anOk, Bool.and_eq_true, decide_eq_true_eq, List.all_cons, List.all_nil, Bool.and_true, inB_iff, List.all_eq_true] at hz
 obtain ⟨_, _, _, _, q6, q7, q8⟩ := hz
 have h24 := labE_len q6
 have hs : a.label.size = a.label.data.toList.length := rfl
 have hr : (rowB (anN a) szA).length = 17 := tot_rowB _ _ rfl
 have hm := (hmsOf_B hg a.homes q8).2
 have hmul : a.homes.length * (g.d.toNat + 6) ≤ 4 * 10 := Nat.mul_le_mul (by omega) (by omega)
 rw [anB, List.length_append, List.length_append, hr, lblB_len, hm]
 omega
theorem anOk_gen {g : Geo} {a : An} (ha : anOk g a = true) : 0 ≤ a.gen ∧ a.gen ≤ 4294967295 := by
 simp only [anOk, Bool.and_eq_true, decide_eq_true_eq, List.all_cons, List.all_nil, Bool.and_true, inB_iff, List.all_eq_true] at ha
 exact ha.1.1
theorem anCell_ok {g : Geo} {a : An} (hg : okG g = true) (ha : anOk g a = true) {i : Int} (hi : 0 ≤ i ∧ i ≤ 65535) : okS i a.gen (anB a) :=
 ⟨hi.1, hi.2, (anOk_gen ha).1, (anOk_gen ha).2, by have := anB_short hg ha; omega⟩
theorem rancell_fn (g : Geo) (a : An) (i : Int) (hg : okG g = true) (ha : anOk g a = true) (hi : 0 ≤ i ∧ i ≤ 65535) : Fn Tryz.prog 80 [.ag (anC a), .v (.int .i64 i)] fun r => r = bA (anCell a i) := by
 have h1 := ranB_fn g a hg ha
 have h2 := rcellB_fn i a.gen (anB a) (anCell_ok hg ha hi)
 refine Fn.of tys_ok Tryz.func80 rfl rfl (Nat.le_of_ble_eq_true rfl) ?_
 conv => whnf
 apply aDraw.tree tys_ok mixed (.one 0 (.one 1 (.one 2 (.one 3 (.one 4 (.one 5 (.one 6 .fin))))))) [4, 5, 6, 7, 8, 9, 10] (by kernel_rfl)
 ·conv => whnf
  refine Fn.closed (h1) rfl ?_
  rintro _ rfl
  conv => whnf
  refine Fn.closed (h2) rfl ?_
  rintro _ rfl
  conv => whnf
  exact ⟨rfl, rfl⟩
 conv => whnf
 exact ⟨_, fun _ _ h => h, rfl⟩
theorem ncell_fn (g : Geo) (a : An) (i : Int) (hg : okG g = true) (ha : anOk g a = true) (hi : 0 ≤ i ∧ i < g.an) : Fn Tryz.prog 67 [.ag (geoC g), .ag (anC a), .v (.int .i64 i)] fun r => r = .tp [bA (anCell a i), .v (.int .i64 0)] := by
 obtain ⟨g1, g2, g3, g4, g5⟩ := okG_iff.1 hg
 obtain ⟨q1, q2, q3, q4, q5⟩ := anBk_len hg ha 0 (Nat.zero_le _)
 have h1 := abytes_fn g a (by omega) (by omega)
 rw [hg, ha] at h1
 have h2 := ganchor_fn g i hg hi
 have h3 := smake_fn i a.gen (anB a) (anCell_ok hg ha (by omega))
 refine Fn.of tys_ok Tryz.func67 rfl rfl (Nat.le_of_ble_eq_true rfl) ?_
 conv => whnf
 refine Fn.closed (h1) rfl ?_
 rintro _ rfl
 conv => whnf
 refine Fn.closed (h2) rfl ?_
 rintro _ rfl
 conv => whnf
 refine Fn.closed (h3) rfl ?_
 rintro _ rfl
 conv => whnf
 exact ⟨_, fun _ _ h => h, rfl⟩
end Go.Proofs.YtldngmdpiifamaaGreatDoor.A
end
section
namespace Go.Proofs.YtldngmdpiifamaaGreatDoor
open Go.RowKit
attribute [local go_sem ↓] Go.wp_at_zero Go.wp_at_succ

theorem run_copy_K {P : Program} (w : World) (dT sT ty elem : TypeId) (g o dLen dCap : Nat) (a : Addr) (sLen sCap : Nat) (cur : Array Value) (t : TypeId) (cs : List Value) (sz : Nat)
  (hu : P.underlying dT = some (.slice elem)) (hs : (P.info? elem).map (·.size) = some sz)
  (hg : w.heap[g]? = some (.cells cur t (0, 0))) (hn : cs.length = Nat.min sLen dLen * sz)
  (hsrc : ∀ j v, cs[j]? = some v → w.cell? (a.add j) = some v) (hfit : o + cs.length ≤ cur.size) (h1 : ∀ v ∈ cs, v.oneCell' = true) :
  (Builtin.copy_ #[dT, sT] ty #[.slice (some ⟨g, o, none⟩) dLen dCap, .slice (some a) sLen sCap]).run P w =
   .ok (goInt (Nat.min sLen dLen)) (w.setRow g (cur.toList.take o ++ cs ++ cur.toList.drop (o + cs.length)).toArray) := by
 have hl := run_loadCells_list (P := P) w a cs hsrc
 have hst := run_storeCells_at P g o t cs 0 cur w hg (by simpa using hfit) h1
 cases hq : P.info? elem with
 | none => simp [hq] at hs
 | some i =>
  have hi : i.size = sz := by simpa [hq] using hs
  have e' : Nat.min sLen dLen * sz = cs.length := hn.symm
  simp [Builtin.copy_, run_underlying hu, Builtin.lenOf, Builtin.firstCells, sizeOf, typeInfo, hq, hi, e', hl, hst]
theorem step_copy_R {P : Program} {ops : Array Oper} {o : Oper} {a : Act} {w : World} {K : Act → World → Prop} {Q : Exit → Act → World → Prop} {E : Prop}
  (hg : o.guard = none) (d x : Operand) (dT sT : TypeId) (hop : o.op = Op.call { callee := Callee.builtin Builtin.copy, args := #[d, x], argTypes := #[dT, sT] })
  {v u : Value} (hd : a.eval d = v) (hx : a.eval x = u) {v' : Value} {w' : World} (hr : (Builtin.copy_ #[dT, sT] o.type #[v, u]).run P w = .ok v' w') (hK : K (a.put o.dst v') w') :
  if Region.wanted o (yielded ops a.tmps) = true then Oper.wp P o a w K Q else E := by
 have hw : Region.wanted o (yielded ops a.tmps) = true := by simp [Region.wanted, hg]
 rw [if_pos hw]
 unfold Oper.wp
 simp [execOp, hop, resolve, invoke, builtin, hd, hx, hr, Result.andThen]
 exact hK
theorem setRow_grown {w : World} {g : Nat} {cs : Array Value} {row : Option Nat} (h : row = some g) : w.grownBy (w.setRow g cs) row :=
 ⟨rfl, rfl, rfl, by simp [World.setRow], fun k _ hne => setRow_other w g k cs (fun e => hne (by rw [h, e]))⟩
def repL (xs zs : List Value) (k m : Nat) : List Value := (List.replicate k xs).flatten ++ (List.replicate m zs).flatten
theorem rep_add {α : Type} (a b : Nat) (x : α) : List.replicate (a + b) x = List.replicate a x ++ List.replicate b x := (List.replicate_append_replicate).symm
theorem flat_len {n : Nat} {xs : List Value} : (List.replicate n xs).flatten.length = n * xs.length := by simp
theorem repL_step {xs zs : List Value} {k m j : Nat} (h : xs.length = zs.length) (hm : j ≤ m) :
  (repL xs zs k m).take (k * xs.length) ++ (List.replicate j xs).flatten ++ (repL xs zs k m).drop (k * xs.length + (List.replicate j xs).flatten.length) = repL xs zs (k + j) (m - j) := by
 have e1 : (repL xs zs k m).take (k * xs.length) = (List.replicate k xs).flatten := by
  unfold repL; rw [List.take_left' (by simp)]
 have e2 : (repL xs zs k m).drop (k * xs.length + (List.replicate j xs).flatten.length) = (List.replicate (m - j) zs).flatten := by
  unfold repL
  rw [← List.drop_drop, List.drop_left' (by simp), flat_len, h, show m = j + (m - j) by omega, rep_add, List.flatten_append, List.drop_left' (by simp), show j + (m - j) - j = m - j by omega]
 rw [e1, e2]
 unfold repL
 rw [rep_add, List.flatten_append]
theorem rep_cell {xs zs : List Value} {k m j i : Nat} {v : Value} (hj : j ≤ k) (hv : (List.replicate j xs).flatten[i]? = some v) : (repL xs zs k m)[i]? = some v := by
 have e : repL xs zs k m = (List.replicate j xs).flatten ++ ((List.replicate (k - j) xs).flatten ++ (List.replicate m zs).flatten) := by
  unfold repL; rw [← List.append_assoc, ← List.flatten_append (L₁ := List.replicate j xs), ← rep_add, show j + (k - j) = k by omega]
 rw [e, List.getElem?_append_left (List.getElem?_eq_some_iff.1 hv).1, hv]

end Go.Proofs.YtldngmdpiifamaaGreatDoor
end
section
namespace Go.Proofs.YtldngmdpiifamaaGreatDoor
open Go.RowKit
attribute [local go_sem ↓] Go.wp_at_zero Go.wp_at_succ

set_option maxRecDepth 100000 in
set_option maxHeartbeats 4000000 in
theorem repeatI_any (a : Addr) (cap : Nat) (x : Int) (N : Nat) (w : World) (hN : 2 ≤ N ∧ N ≤ 6) (hx : ∀ j u, [Value.int .i64 x][j]? = some u → w.cell? (a.add j) = some u)
  (hmul : Calls Tryz.prog 185 #[.int .u64 1, .int .u64 N] w fun e w' => e = .returned (.tuple #[.int .u64 0, .int .u64 N]) ∧ Below w.heap.size w w') :
  Calls Tryz.prog 236 #[.slice (some a) 1 cap, .int .i64 N] w fun e w' => ∃ g, e = .returned (.slice (some ⟨g, 0, none⟩) N N) ∧ w.heap.size ≤ g ∧ w'.heap[g]? = some (.cells (repL [Value.int .i64 x] [Value.int .i64 0] N 0).toArray 3 (0, 0)) ∧ Below w.heap.size w w' := by
 have hw1 : IntKind.u64.wrap (N : Int) = N := by rw [IntKind.wrap_u64]; omega
 have hw2 : IntKind.i64.wrap (N : Int) = N := by rw [IntKind.wrap_i64]; omega
 have h0 : ¬ (N : Int) < 0 := by omega
 have h9 : ¬ (9223372036854775807 : Int) < N := by omega
 have hmk : ∀ w : World, (Instr.makeSlice 24 (.int .i64 (N : Int)) (.int .i64 (N : Int))).run Tryz.prog w = .ok (.slice (some ⟨w.heap.size, 0, none⟩) N N) (w.alloc (.cells (repL [Value.int .i64 x] [Value.int .i64 0] 0 N).toArray 3)) := by
  intro w
  obtain ⟨i, h1, h2, h3, h4⟩ := info_parts (show (Tryz.prog.info? 3).map (fun i => (i.zero, i.size, i.bytes)) = some (some (.int .i64 0), 1, 8) by kernel_rfl)
  have hr := run_make (P := Tryz.prog) w 24 3 i (.int .i64 0) (by kernel_rfl) h1 h2 .i64 .i64 N N (by omega) (by omega) (by rw [h4]; omega) (by omega)
  simp only [Int.toNat_natCast, h3] at hr
  rw [hr]
  congr 3
  rw [repL]
  rcases (show N = 2 ∨ N = 3 ∨ N = 4 ∨ N = 5 ∨ N = 6 by omega) with rfl | rfl | rfl | rfl | rfl <;> kernel_rfl
 have HX := Lib.hid hx
 have HM := Lib.hid hmul
 have HN := Lib.hid hN
 clear hx hmul hN
 go_enter Tryz.func236, Tryz.ntmps236
 go_wp2_with (go_at_call 185; go_must (with_reducible refine HM.out.mono ?_); rintro e w1 ⟨rfl, hB1⟩)
 have hn1 : ¬ ((some ⟨w1.heap.size, 0, none⟩ : Option Addr) = none) := by simp
 have hg1 : (w1.alloc (.cells (repL [Value.int .i64 x] [Value.int .i64 0] 0 N).toArray 3)).heap[w1.heap.size]? = some (.cells (repL [Value.int .i64 x] [Value.int .i64 0] 0 N).toArray 3 (0, 0)) := heap_alloc_new w1 _
 have hBA := hB1.trans ((Below.refl w1.heap.size w1).alloc (Nat.le_refl _) (.cells (repL [Value.int .i64 x] [Value.int .i64 0] 0 N).toArray 3) |>.mono hB1.size)
 have hc1 := run_copy_K (P := Tryz.prog) (w1.alloc (.cells (repL [Value.int .i64 x] [Value.int .i64 0] 0 N).toArray 3)) 24 24 3 3 w1.heap.size 0 N N a 1 cap _ 3 (List.replicate 1 [Value.int .i64 x]).flatten 1 Tryz.underlying24 (by kernel_rfl) hg1
  (by rw [show Nat.min 1 N = 1 from Nat.min_eq_left (by have := HN.out; omega)]; rfl) (fun j v hv => below_cell hBA (HX.out j v (by simpa using hv))) (by have := HN.out; simp [repL]; omega) (fun v hv => by
    obtain ⟨l, hl, hv⟩ := List.mem_flatten.1 hv
    rw [List.eq_of_mem_replicate hl] at hv
    simp at hv
    first | (subst hv; rfl) | (rcases hv with rfl | rfl | rfl <;> rfl))
 have hl1 := repL_step (xs := [Value.int .i64 x]) (zs := [Value.int .i64 0]) (k := 0) (m := N) (j := 1) rfl (by have := HN.out; omega)
 rw [show Nat.min 1 N = 1 from Nat.min_eq_left (by have := HN.out; omega)] at hc1
 rw [hc1]
 simp only [Nat.zero_mul] at hl1
 rw [show (repL [Value.int .i64 x] [Value.int .i64 0] 0 N).toArray.toList = repL [Value.int .i64 x] [Value.int .i64 0] 0 N from rfl, hl1]
 have hg2 := setRow_heap _ w1.heap.size _ (repL [Value.int .i64 x] [Value.int .i64 0] (0 + 1) (N - 1)).toArray 3 (0, 0) hg1
 have hB2 := hBA.grown (setRow_grown (w := w1.alloc (.cells (repL [Value.int .i64 x] [Value.int .i64 0] 0 N).toArray 3)) (g := w1.heap.size) (cs := (repL [Value.int .i64 x] [Value.int .i64 0] (0 + 1) (N - 1)).toArray) (row := some w1.heap.size) rfl) (by simp; have := hB1.size; omega) (fun b e => by cases e; exact hB1.size)
 obtain ⟨g, hg⟩ : ∃ g, g = w1.heap.size := ⟨_, rfl⟩
 have hgs := hB1.size
 rw [← hg] at hg2 hB2 hgs ⊢
 clear hc1 hl1 hBA hg1 hn1
 generalize (w1.alloc (.cells (repL [Value.int .i64 x] [Value.int .i64 0] 0 N).toArray 3)).setRow g (repL [Value.int .i64 x] [Value.int .i64 0] (0 + 1) (N - 1)).toArray = w2 at hg2 hB2 ⊢
 have HH := Lib.hid (And.intro hg2 (And.intro hB2 hgs))
 clear hg2 hB2 hgs hg hB1
 go_wp2_with fail
 go_loopg [8] N (fun gg s8 wr => ∃ k : Nat, s8 = .int .i64 k ∧ 1 ≤ k ∧ k ≤ N ∧ N - k ≤ gg ∧ Hid (wr.heap[g]? = some (.cells (repL [Value.int .i64 x] [Value.int .i64 0] k (N - k)).toArray 3 (0, 0)) ∧ Below w.heap.size w wr))
 case atStart => exact ⟨1, rfl, Nat.le_refl _, by have := HN.out; omega, by omega, Lib.hid ⟨HH.out.1, HH.out.2.1⟩⟩
 case round =>
  obtain ⟨k, rfl, hk1, hkl, hgg, hI⟩ := hrel
  obtain ⟨w0, rfl⟩ : ∃ w0, w0 = wr := ⟨_, rfl⟩
  by_cases hlt : k < N
  ·have hlt' : (k : Int) < N := by omega
   have hne : ¬ N = k := by omega
   have hkN : (k : Int) ≤ N := by omega
   have hk0 : (0 : Int) ≤ k := by omega
   go_wp2_with fail
   refine rp_enter [] (fun _ => True) (by kernel_rfl) ?_
   apply rp_pure 0 rfl (by kernel_rfl) (fun _ _ _ h => h) rfl
   ·(intro W; go_simp; try rfl)
   ·(go_simp; try rfl)
   apply rp_pure 1 rfl (by kernel_rfl) (fun _ _ _ h => h) rfl
   ·(intro W; go_simp; try rfl)
   ·(go_simp; try rfl)
   apply rp_pure 2 rfl (by kernel_rfl) (fun _ _ _ h => h) rfl
   ·(intro W; go_simp; try rfl)
   ·(go_simp; try rfl)
   apply rp_pure 3 rfl (by kernel_rfl) (fun _ _ _ h => h) rfl
   ·(intro W; go_simp; try rfl)
   ·(go_simp; try rfl)
   apply rp_pure 4 rfl (by kernel_rfl) (fun _ _ _ h => h) rfl
   ·(intro W; go_simp; try rfl)
   ·(go_simp; try rfl)
   apply rp_pure 5 rfl (by kernel_rfl) (fun _ _ _ h => h) rfl
   ·(intro W; go_simp; try rfl)
   ·(go_simp; try rfl)
   apply rp_pure 6 rfl (by kernel_rfl) (fun _ _ _ h => h) rfl
   ·(intro W; go_simp; try rfl)
   ·(go_simp; try rfl)
   refine rp_only 7 (by kernel_rfl) rfl (fun K hK => ?_)
   obtain ⟨j, hj⟩ : ∃ j, j = Nat.min k (N - k) := ⟨_, rfl⟩
   have hj' : j ≤ k ∧ j ≤ N - k ∧ 1 ≤ j := ⟨by rw [hj]; exact Nat.min_le_left _ _, by rw [hj]; exact Nat.min_le_right _ _, by rw [hj]; exact Nat.le_min.2 ⟨hk1, by omega⟩⟩
   have hst := repL_step (xs := [Value.int .i64 x]) (zs := [Value.int .i64 0]) (k := k) (m := N - k) (j := j) rfl hj'.2.1
   have hc2 := run_copy_K (P := Tryz.prog) w0.drew 24 24 3 3 g (k * 1) (N - k) (N - k) ⟨g, 0, none⟩ k N _ 3 (List.replicate j [Value.int .i64 x]).flatten 1 Tryz.underlying24 (by kernel_rfl) (show w0.drew.heap[g]? = _ from hI.out.1)
    (by rw [← hj, flat_len]; rfl) (fun i v hv => by
     rw [Addr.add_lit, Nat.zero_add, cell_of_row w0.drew g _ _ 3 (0, 0) hI.out.1]
     simpa using rep_cell hj'.1 hv) (by simp [repL]; omega) (fun v hv => by
    obtain ⟨l, hl, hv⟩ := List.mem_flatten.1 hv
    rw [List.eq_of_mem_replicate hl] at hv
    simp at hv
    first | (subst hv; rfl) | (rcases hv with rfl | rfl | rfl <;> rfl))
   rw [show (repL [Value.int .i64 x] [Value.int .i64 0] k (N - k)).toArray.toList = repL [Value.int .i64 x] [Value.int .i64 0] k (N - k) from rfl] at hc2
   simp only [List.length_cons, List.length_nil, Nat.zero_add, Nat.reduceAdd] at hst
   rw [hst, ← hj] at hc2
   try simp only [Nat.mul_one] at hc2
   have hg2 := setRow_heap _ g _ (repL [Value.int .i64 x] [Value.int .i64 0] (k + j) (N - k - j)).toArray 3 (0, 0) (show w0.drew.heap[g]? = _ from hI.out.1)
   have hB2 := (hI.out.2.trans ((below_drew w0).mono hI.out.2.size)).grown (setRow_grown (w := w0.drew) (g := g) (cs := (repL [Value.int .i64 x] [Value.int .i64 0] (k + j) (N - k - j)).toArray) (row := some g) rfl) (by have := hI.out.2.size; simpa using this) (fun b e => by cases e; exact HH.out.2.2)
   have HK := Lib.hid (And.intro hj' (And.intro hg2 hB2))
   have hwj : IntKind.i64.wrap ((k : Int) + (j : Int)) = ((k + j : Nat) : Int) := by have := HN.out; rw [IntKind.wrap_i64]; omega
   clear hst hg2 hB2 hj' hj hI
   refine step_copy_R rfl _ _ _ _ rfl (by rfl) (by rfl) hc2 ?_
   refine hK _ _ ⟨fun _ _ => trivial, ?_⟩; clear hK K
   clear hc2
   apply rp_pure 8 rfl (by kernel_rfl) (fun _ _ _ h => h) rfl
   ·(intro W; go_simp; try rfl)
   ·(go_simp; try rfl)
   apply rp_pure 9 rfl (by kernel_rfl) (fun _ _ _ h => h) rfl
   ·(intro W; go_simp; try rfl)
   ·(go_simp; try rfl)
   refine rp_done (by kernel_rfl) ?_
   generalize w0.drew.setRow g (repL [Value.int .i64 x] [Value.int .i64 0] (k + j) (N - k - j)).toArray = w3 at HK ⊢
   clear hwj
   go_wp2_with fail
   go_roundg (N - (k + j))
   case measure => have := HK.out.1; omega
   case rel => exact ⟨k + j, by go_num, by omega, by have := HK.out.1; omega, by omega, Lib.hid (by rw [Nat.sub_sub] at HK; exact HK.out.2)⟩
  ·obtain rfl : k = N := by omega
   have HE := Lib.hid (And.intro HH.out.2.2 hI.out)
   have hnl : ¬ (k : Int) < k := by omega
   clear hI HH
   go_wp2
   go_ret
   rw [Nat.sub_self] at HE
   exact ⟨g, rfl, HE.out.1, HE.out.2.1, HE.out.2.2⟩
end Go.Proofs.YtldngmdpiifamaaGreatDoor
end
section
namespace Go.Proofs.YtldngmdpiifamaaGreatDoor
open Go.RowKit
attribute [local go_sem ↓] Go.wp_at_zero Go.wp_at_succ

set_option maxRecDepth 100000 in
set_option maxHeartbeats 4000000 in
theorem repeatE_any (a : Addr) (cap : Nat) (x y : Int) (z : Bool) (N : Nat) (w : World) (hN : 2 ≤ N ∧ N ≤ 6) (hx : ∀ j u, [Value.int .i64 x, .int .i64 y, .bool z][j]? = some u → w.cell? (a.add j) = some u)
  (hmul : Calls Tryz.prog 185 #[.int .u64 1, .int .u64 N] w fun e w' => e = .returned (.tuple #[.int .u64 0, .int .u64 N]) ∧ Below w.heap.size w w') :
  Calls Tryz.prog 133 #[.slice (some a) 1 cap, .int .i64 N] w fun e w' => ∃ g, e = .returned (.slice (some ⟨g, 0, none⟩) N N) ∧ w.heap.size ≤ g ∧ w'.heap[g]? = some (.cells (repL [Value.int .i64 x, .int .i64 y, .bool z] [Value.int .i64 0, .int .i64 0, .bool false] N 0).toArray 200 (0, 0)) ∧ Below w.heap.size w w' := by
 have hw1 : IntKind.u64.wrap (N : Int) = N := by rw [IntKind.wrap_u64]; omega
 have hw2 : IntKind.i64.wrap (N : Int) = N := by rw [IntKind.wrap_i64]; omega
 have h0 : ¬ (N : Int) < 0 := by omega
 have h9 : ¬ (9223372036854775807 : Int) < N := by omega
 have hmk : ∀ w : World, (Instr.makeSlice 145 (.int .i64 (N : Int)) (.int .i64 (N : Int))).run Tryz.prog w = .ok (.slice (some ⟨w.heap.size, 0, none⟩) N N) (w.alloc (.cells (repL [Value.int .i64 x, .int .i64 y, .bool z] [Value.int .i64 0, .int .i64 0, .bool false] 0 N).toArray 200)) := by
  intro w
  obtain ⟨i, h1, h2, h3, h4⟩ := info_parts (show (Tryz.prog.info? 200).map (fun i => (i.zero, i.size, i.bytes)) = some (some (.agg #[.int .i64 0, .int .i64 0, .bool false]), 3, 24) by kernel_rfl)
  have hr := run_make (P := Tryz.prog) w 145 200 i (.agg #[.int .i64 0, .int .i64 0, .bool false]) (by kernel_rfl) h1 h2 .i64 .i64 N N (by omega) (by omega) (by rw [h4]; omega) (by omega)
  simp only [Int.toNat_natCast, h3] at hr
  rw [hr]
  congr 3
  rw [repL]
  rcases (show N = 2 ∨ N = 3 ∨ N = 4 ∨ N = 5 ∨ N = 6 by omega) with rfl | rfl | rfl | rfl | rfl <;> kernel_rfl
 have HX := Lib.hid hx
 have HM := Lib.hid hmul
 have HN := Lib.hid hN
 clear hx hmul hN
 go_enter Tryz.func133, Tryz.ntmps133
 go_wp2_with (go_at_call 185; go_must (with_reducible refine HM.out.mono ?_); rintro e w1 ⟨rfl, hB1⟩)
 have hn1 : ¬ ((some ⟨w1.heap.size, 0, none⟩ : Option Addr) = none) := by simp
 have hg1 : (w1.alloc (.cells (repL [Value.int .i64 x, .int .i64 y, .bool z] [Value.int .i64 0, .int .i64 0, .bool false] 0 N).toArray 200)).heap[w1.heap.size]? = some (.cells (repL [Value.int .i64 x, .int .i64 y, .bool z] [Value.int .i64 0, .int .i64 0, .bool false] 0 N).toArray 200 (0, 0)) := heap_alloc_new w1 _
 have hBA := hB1.trans ((Below.refl w1.heap.size w1).alloc (Nat.le_refl _) (.cells (repL [Value.int .i64 x, .int .i64 y, .bool z] [Value.int .i64 0, .int .i64 0, .bool false] 0 N).toArray 200) |>.mono hB1.size)
 have hc1 := run_copy_K (P := Tryz.prog) (w1.alloc (.cells (repL [Value.int .i64 x, .int .i64 y, .bool z] [Value.int .i64 0, .int .i64 0, .bool false] 0 N).toArray 200)) 145 145 3 200 w1.heap.size 0 N N a 1 cap _ 200 (List.replicate 1 [Value.int .i64 x, .int .i64 y, .bool z]).flatten 3 Tryz.underlying145 (by kernel_rfl) hg1
  (by rw [show Nat.min 1 N = 1 from Nat.min_eq_left (by have := HN.out; omega)]; rfl) (fun j v hv => below_cell hBA (HX.out j v (by simpa using hv))) (by have := HN.out; simp [repL]; omega) (fun v hv => by
    obtain ⟨l, hl, hv⟩ := List.mem_flatten.1 hv
    rw [List.eq_of_mem_replicate hl] at hv
    simp at hv
    first | (subst hv; rfl) | (rcases hv with rfl | rfl | rfl <;> rfl))
 have hl1 := repL_step (xs := [Value.int .i64 x, .int .i64 y, .bool z]) (zs := [Value.int .i64 0, .int .i64 0, .bool false]) (k := 0) (m := N) (j := 1) rfl (by have := HN.out; omega)
 rw [show Nat.min 1 N = 1 from Nat.min_eq_left (by have := HN.out; omega)] at hc1
 rw [hc1]
 simp only [Nat.zero_mul] at hl1
 rw [show (repL [Value.int .i64 x, .int .i64 y, .bool z] [Value.int .i64 0, .int .i64 0, .bool false] 0 N).toArray.toList = repL [Value.int .i64 x, .int .i64 y, .bool z] [Value.int .i64 0, .int .i64 0, .bool false] 0 N from rfl, hl1]
 have hg2 := setRow_heap _ w1.heap.size _ (repL [Value.int .i64 x, .int .i64 y, .bool z] [Value.int .i64 0, .int .i64 0, .bool false] (0 + 1) (N - 1)).toArray 200 (0, 0) hg1
 have hB2 := hBA.grown (setRow_grown (w := w1.alloc (.cells (repL [Value.int .i64 x, .int .i64 y, .bool z] [Value.int .i64 0, .int .i64 0, .bool false] 0 N).toArray 200)) (g := w1.heap.size) (cs := (repL [Value.int .i64 x, .int .i64 y, .bool z] [Value.int .i64 0, .int .i64 0, .bool false] (0 + 1) (N - 1)).toArray) (row := some w1.heap.size) rfl) (by simp; have := hB1.size; omega) (fun b e => by cases e; exact hB1.size)
 obtain ⟨g, hg⟩ : ∃ g, g = w1.heap.size := ⟨_, rfl⟩
 have hgs := hB1.size
 rw [← hg] at hg2 hB2 hgs ⊢
 clear hc1 hl1 hBA hg1 hn1
 generalize (w1.alloc (.cells (repL [Value.int .i64 x, .int .i64 y, .bool z] [Value.int .i64 0, .int .i64 0, .bool false] 0 N).toArray 200)).setRow g (repL [Value.int .i64 x, .int .i64 y, .bool z] [Value.int .i64 0, .int .i64 0, .bool false] (0 + 1) (N - 1)).toArray = w2 at hg2 hB2 ⊢
 have HH := Lib.hid (And.intro hg2 (And.intro hB2 hgs))
 clear hg2 hB2 hgs hg hB1
 go_wp2_with fail
 go_loopg [8] N (fun gg s8 wr => ∃ k : Nat, s8 = .int .i64 k ∧ 1 ≤ k ∧ k ≤ N ∧ N - k ≤ gg ∧ Hid (wr.heap[g]? = some (.cells (repL [Value.int .i64 x, .int .i64 y, .bool z] [Value.int .i64 0, .int .i64 0, .bool false] k (N - k)).toArray 200 (0, 0)) ∧ Below w.heap.size w wr))
 case atStart => exact ⟨1, rfl, Nat.le_refl _, by have := HN.out; omega, by omega, Lib.hid ⟨HH.out.1, HH.out.2.1⟩⟩
 case round =>
  obtain ⟨k, rfl, hk1, hkl, hgg, hI⟩ := hrel
  obtain ⟨w0, rfl⟩ : ∃ w0, w0 = wr := ⟨_, rfl⟩
  by_cases hlt : k < N
  ·have hlt' : (k : Int) < N := by omega
   have hne : ¬ N = k := by omega
   have hkN : (k : Int) ≤ N := by omega
   have hk0 : (0 : Int) ≤ k := by omega
   go_wp2_with fail
   refine rp_enter [] (fun _ => True) (by kernel_rfl) ?_
   apply rp_pure 0 rfl (by kernel_rfl) (fun _ _ _ h => h) rfl
   ·(intro W; go_simp; try rfl)
   ·(go_simp; try rfl)
   apply rp_pure 1 rfl (by kernel_rfl) (fun _ _ _ h => h) rfl
   ·(intro W; go_simp; try rfl)
   ·(go_simp; try rfl)
   apply rp_pure 2 rfl (by kernel_rfl) (fun _ _ _ h => h) rfl
   ·(intro W; go_simp; try rfl)
   ·(go_simp; try rfl)
   apply rp_pure 3 rfl (by kernel_rfl) (fun _ _ _ h => h) rfl
   ·(intro W; go_simp; try rfl)
   ·(go_simp; try rfl)
   apply rp_pure 4 rfl (by kernel_rfl) (fun _ _ _ h => h) rfl
   ·(intro W; go_simp; try rfl)
   ·(go_simp; try rfl)
   apply rp_pure 5 rfl (by kernel_rfl) (fun _ _ _ h => h) rfl
   ·(intro W; go_simp; try rfl)
   ·(go_simp; try rfl)
   apply rp_pure 6 rfl (by kernel_rfl) (fun _ _ _ h => h) rfl
   ·(intro W; go_simp; try rfl)
   ·(go_simp; try rfl)
   refine rp_only 7 (by kernel_rfl) rfl (fun K hK => ?_)
   obtain ⟨j, hj⟩ : ∃ j, j = Nat.min k (N - k) := ⟨_, rfl⟩
   have hj' : j ≤ k ∧ j ≤ N - k ∧ 1 ≤ j := ⟨by rw [hj]; exact Nat.min_le_left _ _, by rw [hj]; exact Nat.min_le_right _ _, by rw [hj]; exact Nat.le_min.2 ⟨hk1, by omega⟩⟩
   have hst := repL_step (xs := [Value.int .i64 x, .int .i64 y, .bool z]) (zs := [Value.int .i64 0, .int .i64 0, .bool false]) (k := k) (m := N - k) (j := j) rfl hj'.2.1
   have hc2 := run_copy_K (P := Tryz.prog) w0.drew 145 145 3 200 g (k * 3) (N - k) (N - k) ⟨g, 0, none⟩ k N _ 200 (List.replicate j [Value.int .i64 x, .int .i64 y, .bool z]).flatten 3 Tryz.underlying145 (by kernel_rfl) (show w0.drew.heap[g]? = _ from hI.out.1)
    (by rw [← hj, flat_len]; rfl) (fun i v hv => by
     rw [Addr.add_lit, Nat.zero_add, cell_of_row w0.drew g _ _ 200 (0, 0) hI.out.1]
     simpa using rep_cell hj'.1 hv) (by simp [repL]; omega) (fun v hv => by
    obtain ⟨l, hl, hv⟩ := List.mem_flatten.1 hv
    rw [List.eq_of_mem_replicate hl] at hv
    simp at hv
    first | (subst hv; rfl) | (rcases hv with rfl | rfl | rfl <;> rfl))
   rw [show (repL [Value.int .i64 x, .int .i64 y, .bool z] [Value.int .i64 0, .int .i64 0, .bool false] k (N - k)).toArray.toList = repL [Value.int .i64 x, .int .i64 y, .bool z] [Value.int .i64 0, .int .i64 0, .bool false] k (N - k) from rfl] at hc2
   simp only [List.length_cons, List.length_nil, Nat.zero_add, Nat.reduceAdd] at hst
   rw [hst, ← hj] at hc2
   try simp only [Nat.mul_one] at hc2
   have hg2 := setRow_heap _ g _ (repL [Value.int .i64 x, .int .i64 y, .bool z] [Value.int .i64 0, .int .i64 0, .bool false] (k + j) (N - k - j)).toArray 200 (0, 0) (show w0.drew.heap[g]? = _ from hI.out.1)
   have hB2 := (hI.out.2.trans ((below_drew w0).mono hI.out.2.size)).grown (setRow_grown (w := w0.drew) (g := g) (cs := (repL [Value.int .i64 x, .int .i64 y, .bool z] [Value.int .i64 0, .int .i64 0, .bool false] (k + j) (N - k - j)).toArray) (row := some g) rfl) (by have := hI.out.2.size; simpa using this) (fun b e => by cases e; exact HH.out.2.2)
   have HK := Lib.hid (And.intro hj' (And.intro hg2 hB2))
   have hwj : IntKind.i64.wrap ((k : Int) + (j : Int)) = ((k + j : Nat) : Int) := by have := HN.out; rw [IntKind.wrap_i64]; omega
   clear hst hg2 hB2 hj' hj hI
   refine step_copy_R rfl _ _ _ _ rfl (by rfl) (by rfl) hc2 ?_
   refine hK _ _ ⟨fun _ _ => trivial, ?_⟩; clear hK K
   clear hc2
   apply rp_pure 8 rfl (by kernel_rfl) (fun _ _ _ h => h) rfl
   ·(intro W; go_simp; try rfl)
   ·(go_simp; try rfl)
   apply rp_pure 9 rfl (by kernel_rfl) (fun _ _ _ h => h) rfl
   ·(intro W; go_simp; try rfl)
   ·(go_simp; try rfl)
   refine rp_done (by kernel_rfl) ?_
   generalize w0.drew.setRow g (repL [Value.int .i64 x, .int .i64 y, .bool z] [Value.int .i64 0, .int .i64 0, .bool false] (k + j) (N - k - j)).toArray = w3 at HK ⊢
   clear hwj
   go_wp2_with fail
   go_roundg (N - (k + j))
   case measure => have := HK.out.1; omega
   case rel => exact ⟨k + j, by go_num, by omega, by have := HK.out.1; omega, by omega, Lib.hid (by rw [Nat.sub_sub] at HK; exact HK.out.2)⟩
  ·obtain rfl : k = N := by omega
   have HE := Lib.hid (And.intro HH.out.2.2 hI.out)
   have hnl : ¬ (k : Int) < k := by omega
   clear hI HH
   go_wp2
   go_ret
   rw [Nat.sub_self] at HE
   exact ⟨g, rfl, HE.out.1, HE.out.2.1, HE.out.2.2⟩
end Go.Proofs.YtldngmdpiifamaaGreatDoor
end
section
namespace Go.Proofs.YtldngmdpiifamaaGreatDoor.A
open Go.RowKit
theorem mul_fn (N : Nat) (hN : 2 ≤ N ∧ N ≤ 6) : Fn Tryz.prog 185 [.v (.int .u64 1), .v (.int .u64 N)] fun r => r = .tp [.v (.int .u64 0), .v (.int .u64 N)] := by
 have h : ∀ N, 2 ≤ N ∧ N ≤ 6 → Fn Tryz.prog 221 [.v (.int .u64 1), .v (.int .u64 (N : Nat))] fun r => r = .tp [.v (.int .u64 0), .v (.int .u64 N)] := by
  intro N hN
  rcases (show N = 2 ∨ N = 3 ∨ N = 4 ∨ N = 5 ∨ N = 6 by omega) with rfl | rfl | rfl | rfl | rfl
  all_goals
   refine Fn.of tys_ok Tryz.func221 rfl rfl (Nat.le_of_ble_eq_true rfl) ?_
   conv => whnf
   repeat' (first | (refine And.intro (by decide) ?_; conv => whnf) | fail)
   exact ⟨_, fun _ _ h => h, rfl⟩
 have h := h N hN
 refine Fn.of tys_ok Tryz.func185 rfl rfl (Nat.le_of_ble_eq_true rfl) ?_
 conv => whnf
 refine Fn.closed (h) rfl ?_
 rintro _ rfl
 conv => whnf
 exact ⟨_, fun _ _ h => h, rfl⟩
theorem rdl_rep {c : Ctx} {l : List AV} {xs : List Value} : ∀ N, RdL l c xs → RdL (List.replicate N l).flatten c (List.replicate N xs).flatten
 | 0, _ => by simp [RdL]
 | N + 1, h => by
  rw [List.replicate_succ, List.replicate_succ, List.flatten_cons, List.flatten_cons]
  exact RdL.append h (rdl_rep N h)
theorem rep_own (N : Nat) (hN : 2 ≤ N ∧ N ≤ 6) (x : Int) (get : Nat → List AV) (hget : get 0 = [.v (.int .i64 x)]) :
  ACalls Tryz.prog false 236 [.sl 1 1 get, .v (.int .i64 N)] [] fun r H => r = .ow 0 N ∧ H = [.row 3 1 (List.replicate N [.v (.int .i64 x)])] := by
 refine ⟨⟨_, Tryz.func236, rfl, by decide⟩, fun w0 M0 c us hs hr => ?_⟩
 obtain ⟨u1, u2, rfl, h1, h2⟩ := rd2 hr
 simp only [Rd] at h1 h2
 subst h2
 obtain ⟨a, k, rfl, _, _, h3⟩ := h1
 obtain ⟨b, off, rfl, hm, hb, hc⟩ := h3.resolve_left (by decide)
 have hc0 := (hc 0 (by decide)).2
 rw [hget] at hc0
 simp only [RdAt, Rd, Nat.zero_mul, Nat.add_zero, and_true] at hc0
 obtain ⟨u, q1, _, rfl⟩ := hc0
 have hmul := (mul_fn N hN).calls (Ctx.closed { c with M := fun _ => False }) [.int .u64 1, .int .u64 N] rfl (fun _ h => h.elim) hs.glob (by simp [RdL, Rd])
 refine (repeatI_any ⟨b, off, none⟩ k x N c.w hN (fun j u hu => ?_) (hmul.mono ?_)).mono ?_
 ·cases j with
  | zero => simp at hu; subst hu; exact q1
  | succ j => simp at hu
 ·rintro e w' ⟨v, r, rfl, rfl, q2, q3⟩
  simp only [Rd, RdL] at q3
  obtain ⟨_, rfl, y, ys, rfl, rfl, z, zs, rfl, rfl, rfl⟩ := q3
  exact ⟨rfl, q2⟩
 ·rintro e w' ⟨g, rfl, hg, hh, hB⟩
  have hrow := hs.newrow hB (t := 3) (sz := 1) (es := List.replicate N [AV.v (.int .i64 x)]) (v := .slice (some ⟨g, 0, none⟩) N N) (xs := (List.replicate N [Value.int .i64 x]).flatten) (by decide) (fun e he => by rw [List.eq_of_mem_replicate he]; rfl)
   ⟨by simp, .inr ⟨g, N, _, by simp, hg, hh, by simp, by unfold maxLen; omega, by simp [repL], by simp only [repL, List.replicate_zero, List.flatten_nil, List.append_nil]; exact List.take_of_length_le (by simp)⟩⟩ (fun u hu => by obtain ⟨l, hl, hu⟩ := List.mem_flatten.1 hu; rw [List.eq_of_mem_replicate hl] at hu; simp at hu; subst hu; rfl) ?_
  ·rw [List.length_replicate] at hrow
   exact ⟨_, _, _, _, rfl, rfl, ⟨rfl, rfl⟩, hrow.1, hrow.2.1, hrow.2.2, fun e => by cases e⟩
  ·exact rdl_rep N (l := [AV.v (.int .i64 x)]) (xs := [Value.int .i64 x]) (by simp [RdL, Rd])
theorem repE_own (N : Nat) (hN : 2 ≤ N ∧ N ≤ 6) (x y : Int) (z : Bool) (get : Nat → List AV) (hget : get 0 = [.v (.int .i64 x), .v (.int .i64 y), .v (.bool z)]) :
  ACalls Tryz.prog false 133 [.sl 3 1 get, .v (.int .i64 N)] [] fun r H => r = .ow 0 N ∧ H = [.row 200 3 (List.replicate N [.v (.int .i64 x), .v (.int .i64 y), .v (.bool z)])] := by
 refine ⟨⟨_, Tryz.func133, rfl, by decide⟩, fun w0 M0 c us hs hr => ?_⟩
 obtain ⟨u1, u2, rfl, h1, h2⟩ := rd2 hr
 simp only [Rd] at h1 h2
 subst h2
 obtain ⟨a, k, rfl, _, _, h3⟩ := h1
 obtain ⟨b, off, rfl, hm, hb, hc⟩ := h3.resolve_left (by decide)
 have hc0 := (hc 0 (by decide)).2
 rw [hget] at hc0
 simp only [RdAt, Rd, Nat.zero_mul, Nat.add_zero, and_true] at hc0
 obtain ⟨⟨_, q1, _, rfl⟩, ⟨_, q2, _, rfl⟩, ⟨_, q3, _, rfl⟩⟩ := hc0
 have hmul := (mul_fn N hN).calls (Ctx.closed { c with M := fun _ => False }) [.int .u64 1, .int .u64 N] rfl (fun _ h => h.elim) hs.glob (by simp [RdL, Rd])
 refine (repeatE_any ⟨b, off, none⟩ k x y z N c.w hN (fun j u hu => ?_) (hmul.mono ?_)).mono ?_
 ·match j, hu with
  | 0, hu => simp at hu; subst hu; exact q1
  | 1, hu => simp at hu; subst hu; exact q2
  | 2, hu => simp at hu; subst hu; exact q3
  | j + 3, hu => simp at hu
 ·rintro e w' ⟨v, r, rfl, rfl, q2, q3⟩
  simp only [Rd, RdL] at q3
  obtain ⟨_, rfl, y, ys, rfl, rfl, z, zs, rfl, rfl, rfl⟩ := q3
  exact ⟨rfl, q2⟩
 ·rintro e w' ⟨g, rfl, hg, hh, hB⟩
  have hrow := hs.newrow hB (t := 200) (sz := 3) (es := List.replicate N [AV.v (.int .i64 x), .v (.int .i64 y), .v (.bool z)]) (v := .slice (some ⟨g, 0, none⟩) N N) (xs := (List.replicate N [Value.int .i64 x, .int .i64 y, .bool z]).flatten) (by decide) (fun e he => by rw [List.eq_of_mem_replicate he]; rfl)
   ⟨by simp, .inr ⟨g, N, _, by simp, hg, hh, by simp, by unfold maxLen; omega, by simp [repL], by simp only [repL, List.replicate_zero, List.flatten_nil, List.append_nil]; exact List.take_of_length_le (by simp)⟩⟩ (fun u hu => by obtain ⟨l, hl, hu⟩ := List.mem_flatten.1 hu; rw [List.eq_of_mem_replicate hl] at hu; simp at hu; rcases hu with rfl | rfl | rfl <;> rfl) ?_
  ·rw [List.length_replicate] at hrow
   exact ⟨_, _, _, _, rfl, rfl, ⟨rfl, rfl⟩, hrow.1, hrow.2.1, hrow.2.2, fun e => by cases e⟩
  ·exact rdl_rep N (l := [AV.v (.int .i64 x), .v (.int .i64 y), .v (.bool z)]) (xs := [Value.int .i64 x, .int .i64 y, .bool z]) (by simp [RdL, Rd])
theorem row_sub {α : Type} {f : α → List AV} {d : α} {sz : Nat} {es : List (List AV)} {n : Nat} (l : List α) (hn : n = l.length) (he : es = l.map f) (c : Ctx) (u : Value) (h : Rd (.sl sz n fun i => es.getD i []) c u) : Rd (.sl sz l.length fun i => f (l.getD i d)) c u :=
 Rd.congr hn (fun i hi => by rw [he, map_getD (d := d) (by omega)]) h
theorem bytes_sub {n : Nat} {es : List (List AV)} (l : List UInt8) (hn : n = l.length) (he : es = l.map fun x => [.v (.int .u8 x.toNat)]) (c : Ctx) (u : Value) (hr : Rd (.sl 1 n fun i => es.getD i []) c u) : Rd (bA l) c u :=
 row_sub (f := fun x : UInt8 => [.v (.int .u8 x.toNat)]) l hn he c u hr
theorem hmsOf_step (n k : Nat) (c : List UInt8) : hmsOf n (k + 1) c = hmsOf n k c ++ [hmOf n (c.drop ((n + 5) * k))] := by
 rw [hmsOf, hmsOf, List.range_succ, List.map_append]; rfl
theorem hmsOf_len (n k : Nat) (c : List UInt8) : (hmsOf n k c).length = k := by simp [hmsOf]
theorem szH_ok (n : Nat) : ∀ s ∈ szH n, szOk s := by
 intro s hs
 rw [szH, List.mem_append] at hs
 rcases hs with hs | hs
 ·rw [ones] at hs; rw [List.eq_of_mem_replicate hs]; exact .inl rfl
 ·simp at hs; subst hs; exact .inr (.inr rfl)
theorem int_sub {L : List Int} {n : Nat} {es : List (List AV)} (hn : n = L.length) (he : es = L.map ic1) (c : Ctx) (v : Value) (h : Rd (.sl 1 n fun i => es.getD i []) c v) : Rd (iA L) c v := by
 subst he
 exact Rd.congr hn (fun i hi => map_getD (f := ic1) (l := L) (d := 0) (hn ▸ hi)) h
theorem unrowF_fn (b : List UInt8) (ss : List Int) (hss : ∀ s ∈ ss, szOk s) (hl : b.length ≤ 1000000) (hn : ss.length ≤ 1000) (ht : tot ss ≤ b.length) : Fn Tryz.prog 215 [bA b, iA ss] fun r => r = .tp [iA (nums ss b), bA (b.drop (tot ss)), .v (.int .i64 0)] := by
 refine ACalls.fn (unrow_yes b ss hss hl hn ht) ?_
 rintro _ _ ⟨rfl, rfl⟩
 refine ⟨_, ConvH.refl _, ?_⟩
 conv => whnf
 refine And.intro (by rw [List.length_map, nums_len]) ?_
 conv => whnf
 exact ⟨.tp [iA (nums ss b), bA (b.drop (tot ss)), .v (.int .i64 0)], tp_sub ⟨int_sub (by rw [nums_len]) rfl, fun _ _ h => h, fun _ _ h => h, trivial⟩, rfl⟩
theorem hm_round {n : Nat} {c : List UInt8} {x y : Int} (hw1 : x = (n : Int)) (hw2 : y = ((n + 1 : Nat) : Int)) (hnl : (nums (szH n) c).length = n + 2) : SubL [AV.sl 1 (x.toNat - Int.toNat 0) fun i => (fun i => [AV.v (Value.int IntKind.i64 ((nums (szH n) c).getD i 0))]) (i + Int.toNat 0), AV.v (.int .i64 ((nums (szH n) c).getD x.toNat 0)), AV.v (.int .i64 ((nums (szH n) c).getD y.toNat 0))] (hmC (hmOf n c)) := by
 subst hw1 hw2
 rw [Int.toNat_natCast, Int.toNat_natCast]
 refine ⟨fun c' u h => ?_, fun _ _ h => h, fun _ _ h => h, trivial⟩
 refine Rd.congr ?_ (fun i hi => ?_) h
 ·show n - 0 = ((nums (szH n) c).take n).length; rw [List.length_take]; omega
 ·have hi' : i < n := hi
  show [AV.v (.int .i64 ((nums (szH n) c).getD (i + 0) 0))] = [AV.v (.int .i64 (((nums (szH n) c).take n).getD i 0))]
  rw [List.getD_eq_getElem?_getD, List.getD_eq_getElem?_getD, List.getElem?_take_of_lt hi']
  rfl
set_option maxRecDepth 100000 in
theorem homes_fn (g : Geo) (b : List UInt8) (hg : okG g = true) (hb : b.length ≤ 100000) : Fn Tryz.prog 231 [.ag (geoC g), bA b] fun r => r = .tp [hmsA (if g.z.toNat * (g.d.toNat + 6) ≤ b.length then hmsOf (g.d.toNat + 1) g.z.toNat b else []), .v (.int .i64 (if g.z.toNat * (g.d.toNat + 6) ≤ b.length then 0 else 4))] := by
 obtain ⟨g1, g2, g3, g4, g5⟩ := okG_iff.1 hg
 obtain ⟨n, hn⟩ : ∃ n : Nat, n = g.d.toNat + 1 := ⟨_, rfl⟩
 have hr := rep_own (n + 1) (by omega) 1 (fun i => [[AV.v (Value.int IntKind.i64 1)]].getD i []) rfl
 have hw2 : IntKind.i64.wrap (g.d + 2) = ((n + 1 : Nat) : Int) := by rw [wi (by omega)]; omega
 refine Fn.of tys_ok Tryz.func231 rfl rfl (Nat.le_of_ble_eq_true rfl) ?_
 conv => whnf
 rw [hw2]
 refine ACalls.shut hr.go ?_
 conv => whnf
 refine And.intro rfl ?_
 conv => whnf
 refine ACalls.beside hr rfl ?_
 rintro _ _ ⟨rfl, rfl⟩
 conv => whnf
 refine And.intro rfl ?_
 conv => whnf
 refine And.intro ⟨by simp, by omega⟩ ?_
 conv => whnf
 have es0 : List.replicate (n + 1) [AV.v (.int .i64 1)] ++ [[AV.v (.int .i64 4)]] = (szH n).map ic1 := by
  rw [szH, List.map_append, ones, List.map_replicate]; rfl
 have el0 : n + 1 + 1 = (List.replicate (n + 1) [AV.v (.int .i64 1)] ++ [[AV.v (.int .i64 4)]]).length := by simp
 have hst := fun k => hmsOf_step n k b
 by_cases hs : g.z.toNat * (g.d.toNat + 6) ≤ b.length
 ·rw [if_pos hs, if_pos hs]
  refine aLoop.ruleRR Nat (fun k => ([(1, bA (b.drop ((n + 5) * k))), (2, .bp 0 0), (6, .ow 1 k), (7, iA (szH n)), (19, .v (.int .i64 g.z)), (20, .v (.int .i64 k))], [.box 23 (geoC g), .row 132 3 ((hmsOf n k b).map hmC)])) (fun k => k ≤ g.z.toNat) (fun k => g.z.toNat - k) 0 (Nat.zero_le _) ?_ ?_
  ·refine ⟨_, _, ConvF.trans (ConvF.shutF 7 2 (congrArg (AV.ow 2) el0) rfl) (ConvF.sub 7 rfl (int_sub (L := szH n) (by rw [es0, List.length_map]) es0)), [(6, 132, 3)], ⟨rfl, rfl, trivial⟩, [0, 4], ⟨rfl, rfl, rfl, rfl, rfl, rfl, trivial⟩, ⟨rfl, rfl, trivial⟩, rfl, rfl, rfl, rfl, rfl⟩
  ·intro k hk
   conv => whnf
   refine boolI (fun h6 => ?_) (fun h6 => ?_) <;> (repeat rw [Int.toNat_natCast] at h6) <;> conv => whnf
   ·have hu := unrowF_fn (b.drop ((n + 5) * k)) (szH n) (szH_ok n) (by rw [List.length_drop]; omega) (by rw [szH_len]; omega) (by
     rw [tot_szH, List.length_drop]
     have : (n + 5) * (k + 1) ≤ (n + 5) * g.z.toNat := Nat.mul_le_mul_left _ (by omega)
     rw [Nat.mul_succ] at this
     have : (n + 5) * g.z.toNat = g.z.toNat * (g.d.toNat + 6) := by rw [hn, Nat.mul_comm]
     omega)
    rw [tot_szH] at hu
    refine Fn.closed (hu) rfl ?_
    rintro _ rfl
    conv => whnf
    have hnl : (nums (szH n) (b.drop ((n + 5) * k))).length = n + 2 := by rw [nums_len, szH_len]
    have hw1 : IntKind.i64.wrap (g.d + 1) = (n : Int) := by rw [wi (by omega)]; omega
    apply aDraw.treeK (0) tys_ok mixed (.one 0 (.one 1 (.one 2 (.one 3 (.one 4 (.one 5 (.one 6 (.one 7 (.one 8 (.one 9 (.one 10 (.one 11 (.one 12 (.one 13 (.one 14 (.one 15 (.one 16 (.one 17 (.one 18 (.one 19 (.one 20 (.one 21 (.one 22 (.one 23 (.one 24 .fin))))))))))))))))))))))))) (by kernel_rfl)
    conv => whnf
    try (refine And.intro (by first | omega | (simp; done)) ?_; conv => whnf)
    try (refine And.intro (by first | omega | (simp; done)) ?_; conv => whnf)
    try (refine And.intro (by first | omega | (simp; done)) ?_; conv => whnf)
    try (refine And.intro (by first | rfl | omega) ?_; conv => whnf)
    try (refine And.intro (by first | omega | exact ⟨by first | rfl | (simp; done) | (simp; omega), by omega⟩) ?_; conv => whnf)
    refine And.intro ⟨by rw [List.length_map, hmsOf_len], by omega⟩ ?_
    conv => whnf
    have e' := hm_round (n := n) (c := b.drop ((n + 5) * k)) hw1 hw2 hnl
    refine ⟨k + 1, by omega, by omega, WkN.rc (ConvF.ofH (ConvH.last 1 rfl e')) (s := [0, 1]) ⟨⟨congrArg bA (by rw [List.drop_drop, Nat.mul_succ]), rfl, rfl, rfl, rfl, wsucc (by omega), trivial⟩, ⟨rfl, congrArg (fun l => some (AB.row _ _ l)) (by rw [hst k, List.map_append]; rfl), trivial⟩, rfl, rfl, rfl, rfl, rfl⟩⟩
   ·have ek : k = g.z.toNat := by omega
    subst ek
    refine And.intro (by rw [List.length_map, hmsOf_len]) ?_
    conv => whnf
    exact ⟨.tp [hmsA (hmsOf n g.z.toNat b), .v (.int .i64 0)], tp_sub ⟨row_sub (f := hmC) (hmsOf n g.z.toNat b) (by rw [hmsOf_len]) rfl, fun _ _ h => h, trivial⟩, by rw [hn]⟩
 ·rw [if_neg hs, if_neg hs]
  refine aLoop.ruleRR Nat (fun k => ([(1, bA (b.drop ((n + 5) * k))), (2, .bp 0 0), (6, .ow 1 k), (7, iA (szH n)), (19, .v (.int .i64 g.z)), (20, .v (.int .i64 k))], [.box 23 (geoC g), .row 132 3 ((hmsOf n k b).map hmC)])) (fun k => (n + 5) * k ≤ b.length) (fun k => g.z.toNat - k) 0 (Nat.zero_le _) ?_ ?_
  ·refine ⟨_, _, ConvF.trans (ConvF.shutF 7 2 (congrArg (AV.ow 2) el0) rfl) (ConvF.sub 7 rfl (int_sub (L := szH n) (by rw [es0, List.length_map]) es0)), [(6, 132, 3)], ⟨rfl, rfl, trivial⟩, [0, 4], ⟨rfl, rfl, rfl, rfl, rfl, rfl, trivial⟩, ⟨rfl, rfl, trivial⟩, rfl, rfl, rfl, rfl, rfl⟩
  ·intro k hk
   conv => whnf
   refine boolI (fun h6 => ?_) (fun h6 => ?_) <;> (repeat rw [Int.toNat_natCast] at h6) <;> conv => whnf
   ·by_cases h9 : (n + 5) * (k + 1) ≤ b.length
    ·have hu := unrowF_fn (b.drop ((n + 5) * k)) (szH n) (szH_ok n) (by rw [List.length_drop]; omega) (by rw [szH_len]; omega) (by
      rw [tot_szH, List.length_drop]
      rw [Nat.mul_succ] at h9
      omega)
     rw [tot_szH] at hu
     refine Fn.closed (hu) rfl ?_
     rintro _ rfl
     conv => whnf
     have hnl : (nums (szH n) (b.drop ((n + 5) * k))).length = n + 2 := by rw [nums_len, szH_len]
     have hw1 : IntKind.i64.wrap (g.d + 1) = (n : Int) := by rw [wi (by omega)]; omega
     apply aDraw.treeK (0) tys_ok mixed (.one 0 (.one 1 (.one 2 (.one 3 (.one 4 (.one 5 (.one 6 (.one 7 (.one 8 (.one 9 (.one 10 (.one 11 (.one 12 (.one 13 (.one 14 (.one 15 (.one 16 (.one 17 (.one 18 (.one 19 (.one 20 (.one 21 (.one 22 (.one 23 (.one 24 .fin))))))))))))))))))))))))) (by kernel_rfl)
     conv => whnf
     try (refine And.intro (by first | omega | (simp; done)) ?_; conv => whnf)
     try (refine And.intro (by first | omega | (simp; done)) ?_; conv => whnf)
     try (refine And.intro (by first | omega | (simp; done)) ?_; conv => whnf)
     try (refine And.intro (by first | rfl | omega) ?_; conv => whnf)
     try (refine And.intro (by first | omega | exact ⟨by first | rfl | (simp; done) | (simp; omega), by omega⟩) ?_; conv => whnf)
     refine And.intro ⟨by rw [List.length_map, hmsOf_len], by omega⟩ ?_
     conv => whnf
     have e' := hm_round (n := n) (c := b.drop ((n + 5) * k)) hw1 hw2 hnl
     refine ⟨k + 1, h9, by omega, WkN.rc (ConvF.ofH (ConvH.last 1 rfl e')) (s := [0, 1]) ⟨⟨congrArg bA (by rw [List.drop_drop, Nat.mul_succ]), rfl, rfl, rfl, rfl, wsucc (by omega), trivial⟩, ⟨rfl, congrArg (fun l => some (AB.row _ _ l)) (by rw [hst k, List.map_append]; rfl), trivial⟩, rfl, rfl, rfl, rfl, rfl⟩⟩
    ·have hu := unrow_no (b.drop ((n + 5) * k)) (szH n) (szH_ok n) (by rw [List.length_drop]; omega) (by rw [szH_len]; omega) (by
      rw [tot_szH, List.length_drop]
      rw [Nat.mul_succ] at h9
      omega)
     refine Fn.closed (hu) rfl ?_
     rintro _ rfl
     conv => whnf
     exact ⟨.tp [hmsA [], .v (.int .i64 4)], tp_sub ⟨nil_sl 3 _, fun _ _ h => h, trivial⟩, rfl⟩
   ·exfalso
    have : (n + 5) * k = k * (g.d.toNat + 6) := by rw [hn, Nat.mul_comm]
    have h2 : g.z.toNat * (g.d.toNat + 6) ≤ k * (g.d.toNat + 6) := Nat.mul_le_mul_right _ (by omega)
    omega
theorem set_same {α : Type} {f : α → List AV} {d : α} {l : List α} {k : Nat} {e : List AV} (hk : k < l.length) (h : SubL e (f (l.getD k d))) (i : Nat) : SubL (((l.map f).set k e).getD i []) ((l.map f).getD i []) := by
 by_cases hi : k = i
 ·subst hi
  rw [set_getD_eq (by simpa using hk), map_getD (d := d) hk]
  exact h
 ·rw [set_getD_ne hi]; exact SubL.refl _
theorem hm_set (h : Hm) : SubL [.sl 1 h.places.length fun i => (h.places.map ic1).getD i [], .v (.int .i64 h.next), .v (.int .i64 h.root)] (hmC h) :=
 ⟨int_sub rfl rfl, fun _ _ h => h, fun _ _ h => h, trivial⟩
set_option maxRecDepth 100000 in
theorem atwin_fn (a : An) (hh : a.homes.length ≤ 1000) (hp : ∀ h ∈ a.homes, h.places.length ≤ 1000000) : Fn Tryz.prog 116 [.ag (anC a)] fun r => r = .ag (anC a) := by
 have hc := hmclo_own a.homes (by omega)
 refine Fn.of tys_ok Tryz.func116 rfl rfl (Nat.le_of_ble_eq_true rfl) ?_
 conv => whnf
 refine ACalls.beside hc rfl ?_
 rintro _ _ ⟨rfl, rfl⟩
 conv => whnf
 refine aLoop.ruleRR Nat (fun k => ([(1, .bp 0 0), (2, .bp 1 0), (10, .v (.int .i64 a.homes.length)), (11, .v (.int .i64 k))], [.box 40 [.v (.int .i64 a.gen), .v (.int .i64 a.epoch), .v (.int .i64 a.pos), .v (.int .i64 a.seq), .v (.int .i64 a.last), .v (.string a.label), .ow 2 a.homes.length], .box 40 [.v (.int .i64 0), .v (.int .i64 0), .v (.int .i64 0), .v (.int .i64 0), .v (.int .i64 0), .v (.string ⟨#[]⟩), .v (.slice none 0 0)], .row 132 3 (a.homes.map hmC)])) (fun k => k ≤ a.homes.length) (fun k => a.homes.length - k) 0 (Nat.zero_le _)
  (WkN.r (s := [0, 1, 2]) ⟨⟨rfl, rfl, rfl, rfl, trivial⟩, ⟨rfl, rfl, rfl, trivial⟩, rfl, rfl, rfl, rfl, rfl⟩) ?_
 intro k hk
 conv => whnf
 refine boolI (fun h6 => ?_) (fun h6 => ?_) <;> (repeat rw [Int.toNat_natCast] at h6) <;> conv => whnf
 ·have hk' : k < a.homes.length := by omega
  have hi := iclo_own (a.homes.getD k ⟨[], 0, 0⟩).places (by have := hp _ (getD_mem (d := (⟨[], 0, 0⟩ : Hm)) hk'); omega)
  have hE : (a.homes.map hmC).getD (k : Int).toNat [] = hmC (a.homes.getD k ⟨[], 0, 0⟩) := by rw [Int.toNat_natCast]; exact map_getD hk'
  apply aDraw.treeK (0) tys_ok mixed (.one 0 (.one 1 (.one 2 (.one 3 (.one 4 (.one 5 (.one 6 (.one 7 (.one 8 (.one 9 (.one 10 (.one 11 (.one 12 .fin))))))))))))) (by kernel_rfl)
  conv => whnf
  try (first | (refine And.intro ⟨rfl, (List.length_map _).symm, by omega⟩ ?_; (conv => whnf); rw [hE]) | skip; conv => whnf)
  try (first | (refine And.intro ⟨rfl, (List.length_map _).symm, by omega⟩ ?_; (conv => whnf); rw [hE]) | skip; conv => whnf)
  try (refine And.intro (by first | omega | (simp; done)) ?_; conv => whnf)
  try (first | (refine And.intro ⟨rfl, (List.length_map _).symm, by omega⟩ ?_; (conv => whnf); rw [hE]) | skip; conv => whnf)
  (refine ACalls.beside hi rfl ?_; rintro _ _ ⟨rfl, rfl⟩)
  conv => whnf
  try (refine And.intro (by first | omega | (simp; done)) ?_; conv => whnf)
  try (refine And.intro ⟨rfl, by first | rfl | (simp; done) | (simp; omega), by first | omega | (simp; omega)⟩ ?_; conv => whnf)
  (refine And.intro (List.length_map _).symm ?_; (conv => whnf); refine And.intro ⟨rfl, (List.length_map _).symm, by omega⟩ ?_; (conv => whnf); rw [hE])
  conv => whnf
  refine ⟨k + 1, hk', by omega, WkN.rc (ConvF.ofH (ConvH.subRow (k := 2) rfl (es' := a.homes.map hmC) (by simp) ?_)) (s := [0, 1, 2]) ⟨⟨rfl, rfl, rfl, wsucc (by omega), trivial⟩, ⟨rfl, rfl, rfl, trivial⟩, rfl, rfl, rfl, rfl, rfl⟩⟩
  rw [Int.toNat_natCast]
  exact set_same (d := (⟨[], 0, 0⟩ : Hm)) hk' (hm_set _)
 ·have ek : k = a.homes.length := by omega
  refine And.intro (List.length_map _).symm ?_
  conv => whnf
  exact ⟨.ag (anC a), ag_sub ⟨fun _ _ h => h, fun _ _ h => h, fun _ _ h => h, fun _ _ h => h, fun _ _ h => h, fun _ _ h => h, row_sub (f := hmC) a.homes rfl rfl, trivial⟩, rfl⟩
def dkC (d : Dk) : List AV := [celsA d.cells, wrsA d.cache, .v (.int .i64 d.reqs), .v (.int .i64 d.left)]
set_option maxRecDepth 100000 in
theorem down_fn (d : Dk) (h1 : d.cells.length ≤ 1000000000) (h2 : d.cache.length ≤ 1000000000) : ACalls Tryz.prog false 48 [.ag (dkC d)] [] fun r H => r = .bp 0 0 ∧ H = dkH d := by
 have c1 := celclo_own d.cells h1
 have c2 := wrclo_own d.cache h2
 refine ACalls.ofR tys_ok Tryz.func48 rfl rfl (Nat.le_of_ble_eq_true rfl) ?_
 conv => whnf
 apply aDraw.treeK (0) tys_ok mixed (.one 0 (.one 1 (.one 3 (.one 4 (.one 2 (.one 6 (.one 5 (.one 7 (.one 8 (.one 9 .fin)))))))))) (by kernel_rfl)
 conv => whnf
 (refine ACalls.beside c1 rfl ?_; rintro _ _ ⟨rfl, rfl⟩)
 conv => whnf
 (refine ACalls.beside c2 rfl ?_; rintro _ _ ⟨rfl, rfl⟩)
 conv => whnf
 try (refine And.intro ⟨rfl, by first | rfl | (simp; done) | (simp; omega), by first | omega | (simp; omega)⟩ ?_; conv => whnf)
 try (refine And.intro ⟨rfl, by first | rfl | (simp; done) | (simp; omega), by first | omega | (simp; omega)⟩ ?_; conv => whnf)
 exact ⟨_, .bp 0 0, dkH d, fun _ _ h => h, WkN.r (s := [3, 1, 2]) ⟨⟨rfl, trivial⟩, ⟨rfl, rfl, rfl, trivial⟩, rfl, rfl, rfl, rfl, rfl⟩, rfl, rfl⟩
set_option maxRecDepth 100000 in
theorem dtwin_fn (d : Dk) (h1 : d.cells.length ≤ 1000000000) (h2 : d.cache.length ≤ 1000000000) (hb : ∀ c ∈ d.cells, c.bytes.length ≤ 1000000000 ∧ c.old.length ≤ 1000000000) (hw : ∀ w ∈ d.cache, w.bytes.length ≤ 1000000000) : Fn Tryz.prog 99 [.ag (dkC d)] fun r => r = .ag (dkC d) := by
 have c1 := celclo_own d.cells h1
 have c2 := wrclo_own d.cache h2
 refine Fn.of tys_ok Tryz.func99 rfl rfl (Nat.le_of_ble_eq_true rfl) ?_
 conv => whnf
 apply aDraw.treeK (0) tys_ok mixed (.one 0 (.one 1 (.one 3 (.one 4 (.one 2 (.one 6 (.one 5 (.one 7 (.one 8 (.one 9 .fin)))))))))) (by kernel_rfl)
 conv => whnf
 (refine ACalls.beside c1 rfl ?_; rintro _ _ ⟨rfl, rfl⟩)
 conv => whnf
 (refine ACalls.beside c2 rfl ?_; rintro _ _ ⟨rfl, rfl⟩)
 conv => whnf
 try (refine And.intro ⟨rfl, by first | rfl | (simp; done) | (simp; omega), by first | omega | (simp; omega)⟩ ?_; conv => whnf)
 try (refine And.intro ⟨rfl, by first | rfl | (simp; done) | (simp; omega), by first | omega | (simp; omega)⟩ ?_; conv => whnf)
 refine aLoop.ruleRR Nat (fun k => ([(1, .bp 0 0), (2, .bp 1 0), (16, .ow 2 d.cells.length), (17, .v (.int .i64 d.cells.length)), (18, .v (.int .i64 k))], [.box 32 (dkX (.ow 2 d.cells.length) (.ow 3 d.cache.length) d.reqs d.left), .box 32 [.v (.slice none 0 0), .v (.slice none 0 0), .v (.int .i64 0), .v (.int .i64 0)], .row 87 3 (d.cells.map celC), .row 130 2 (d.cache.map wrC)])) (fun k => k ≤ d.cells.length) (fun k => d.cells.length - k) 0 (Nat.zero_le _)
  (WkN.r (s := [0, 1, 2, 3]) ⟨⟨rfl, rfl, rfl, rfl, rfl, trivial⟩, ⟨rfl, rfl, rfl, rfl, trivial⟩, rfl, rfl, rfl, rfl, rfl⟩) ?_
 intro k hk
 conv => whnf
 refine boolI (fun h6 => ?_) (fun h6 => ?_) <;> (repeat rw [Int.toNat_natCast] at h6) <;> conv => whnf
 ·have hk' : k < d.cells.length := by omega
  have hm := hb _ (getD_mem (d := (⟨0, [], []⟩ : Cel)) hk')
  have b1 := bclone_fn (d.cells.getD k ⟨0, [], []⟩).bytes hm.1
  have b2 := bclone_fn (d.cells.getD k ⟨0, [], []⟩).old hm.2
  have hE : (d.cells.map celC).getD (k : Int).toNat [] = celC (d.cells.getD k ⟨0, [], []⟩) := by rw [Int.toNat_natCast]; exact map_getD hk'
  refine And.intro ⟨by omega, by omega⟩ ?_
  conv => whnf
  refine And.intro ⟨rfl, (List.length_map _).symm, by rw [Int.toNat_natCast]; exact hk'⟩ ?_
  conv => whnf
  rw [hE]
  conv => whnf
  apply aDraw.treeK (24) tys_ok mixed (.one 0 (.one 1 (.one 2 (.one 5 (.one 6 (.one 7 (.one 9 (.one 10 (.two 3 (.two 4 (.one 8 (.one 11 (.one 12 (.one 13 (.one 14 (.one 15 (.one 16 (.one 17 .fin)))))))) 8 (.two 4 (.one 11 (.one 12 (.one 13 (.one 14 (.one 15 (.one 16 (.one 17 .fin))))))) 11 (.one 12 (.one 13 (.two 4 (.one 14 (.one 15 (.one 16 (.one 17 .fin)))) 14 (.one 4 (.one 15 (.one 16 (.one 17 .fin))))))))) 8 (.two 3 (.two 4 (.one 11 (.one 12 (.one 13 (.one 14 (.one 15 (.one 16 (.one 17 .fin))))))) 11 (.one 12 (.one 13 (.two 4 (.one 14 (.one 15 (.one 16 (.one 17 .fin)))) 14 (.one 4 (.one 15 (.one 16 (.one 17 .fin)))))))) 11 (.one 12 (.one 13 (.two 3 (.two 4 (.one 14 (.one 15 (.one 16 (.one 17 .fin)))) 14 (.one 4 (.one 15 (.one 16 (.one 17 .fin))))) 14 (.one 3 (.one 4 (.one 15 (.one 16 (.one 17 .fin)))))))))))))))))) (by kernel_rfl)
  conv => whnf
  refine And.intro ?_ ?_
  conv => whnf
  refine And.intro ?_ ?_
  conv => whnf
  refine Fn.closed (b1) rfl ?_
  rintro _ rfl
  conv => whnf
  refine Fn.closed (b2) rfl ?_
  rintro _ rfl
  conv => whnf
  try (refine And.intro (by first | omega | (simp; done)) ?_; conv => whnf)
  try (refine And.intro ⟨rfl, by first | rfl | (simp; done) | (simp; omega), by first | omega | (simp; omega)⟩ ?_; conv => whnf)
  (first | rw [hE] | rw [set_getD_eq (by rw [Int.toNat_natCast, List.length_map]; exact hk')] | skip)
  conv => whnf
  try (refine And.intro (by first | omega | (simp; done)) ?_; conv => whnf)
  try (refine And.intro ⟨rfl, by first | rfl | (simp; done) | (simp; omega), by first | omega | (simp; omega)⟩ ?_; conv => whnf)
  (first | rw [hE] | rw [set_getD_eq (by rw [Int.toNat_natCast, List.length_map]; exact hk')] | skip)
  conv => whnf
  rotate_left 1
  conv => whnf
  refine Fn.closed (b1) rfl ?_
  rintro _ rfl
  conv => whnf
  refine And.intro ?_ ?_
  conv => whnf
  refine Fn.closed (b2) rfl ?_
  rintro _ rfl
  conv => whnf
  try (refine And.intro (by first | omega | (simp; done)) ?_; conv => whnf)
  try (refine And.intro ⟨rfl, by first | rfl | (simp; done) | (simp; omega), by first | omega | (simp; omega)⟩ ?_; conv => whnf)
  (first | rw [hE] | rw [set_getD_eq (by rw [Int.toNat_natCast, List.length_map]; exact hk')] | skip)
  conv => whnf
  try (refine And.intro (by first | omega | (simp; done)) ?_; conv => whnf)
  try (refine And.intro ⟨rfl, by first | rfl | (simp; done) | (simp; omega), by first | omega | (simp; omega)⟩ ?_; conv => whnf)
  (first | rw [hE] | rw [set_getD_eq (by rw [Int.toNat_natCast, List.length_map]; exact hk')] | skip)
  conv => whnf
  rotate_left 1
  conv => whnf
  refine Fn.closed (b2) rfl ?_
  rintro _ rfl
  conv => whnf
  try (refine And.intro (by first | omega | (simp; done)) ?_; conv => whnf)
  refine And.intro ?_ ?_
  conv => whnf
  try (refine And.intro ⟨rfl, by first | rfl | (simp; done) | (simp; omega), by first | omega | (simp; omega)⟩ ?_; conv => whnf)
  (first | rw [hE] | rw [set_getD_eq (by rw [Int.toNat_natCast, List.length_map]; exact hk')] | skip)
  conv => whnf
  try (refine And.intro (by first | omega | (simp; done)) ?_; conv => whnf)
  try (refine And.intro ⟨rfl, by first | rfl | (simp; done) | (simp; omega), by first | omega | (simp; omega)⟩ ?_; conv => whnf)
  (first | rw [hE] | rw [set_getD_eq (by rw [Int.toNat_natCast, List.length_map]; exact hk')] | skip)
  conv => whnf
  rotate_left 1
  conv => whnf
  try (refine And.intro ⟨rfl, by first | rfl | (simp; done) | (simp; omega), by first | omega | (simp; omega)⟩ ?_; conv => whnf)
  (first | rw [hE] | rw [set_getD_eq (by rw [Int.toNat_natCast, List.length_map]; exact hk')] | skip)
  conv => whnf
  try (refine And.intro (by first | omega | (simp; done)) ?_; conv => whnf)
  try (refine And.intro ⟨rfl, by first | rfl | (simp; done) | (simp; omega), by first | omega | (simp; omega)⟩ ?_; conv => whnf)
  (first | rw [hE] | rw [set_getD_eq (by rw [Int.toNat_natCast, List.length_map]; exact hk')] | skip)
  conv => whnf
  rotate_left 1
  conv => whnf
  refine Fn.closed (b1) rfl ?_
  rintro _ rfl
  conv => whnf
  refine And.intro ?_ ?_
  conv => whnf
  refine And.intro ?_ ?_
  conv => whnf
  refine Fn.closed (b2) rfl ?_
  rintro _ rfl
  conv => whnf
  try (refine And.intro (by first | omega | (simp; done)) ?_; conv => whnf)
  try (refine And.intro ⟨rfl, by first | rfl | (simp; done) | (simp; omega), by first | omega | (simp; omega)⟩ ?_; conv => whnf)
  (first | rw [hE] | rw [set_getD_eq (by rw [Int.toNat_natCast, List.length_map]; exact hk')] | skip)
  conv => whnf
  try (refine And.intro (by first | omega | (simp; done)) ?_; conv => whnf)
  try (refine And.intro ⟨rfl, by first | rfl | (simp; done) | (simp; omega), by first | omega | (simp; omega)⟩ ?_; conv => whnf)
  (first | rw [hE] | rw [set_getD_eq (by rw [Int.toNat_natCast, List.length_map]; exact hk')] | skip)
  conv => whnf
  rotate_left 1
  conv => whnf
  refine Fn.closed (b2) rfl ?_
  rintro _ rfl
  conv => whnf
  try (refine And.intro (by first | omega | (simp; done)) ?_; conv => whnf)
  refine And.intro ?_ ?_
  conv => whnf
  try (refine And.intro ⟨rfl, by first | rfl | (simp; done) | (simp; omega), by first | omega | (simp; omega)⟩ ?_; conv => whnf)
  (first | rw [hE] | rw [set_getD_eq (by rw [Int.toNat_natCast, List.length_map]; exact hk')] | skip)
  conv => whnf
  try (refine And.intro (by first | omega | (simp; done)) ?_; conv => whnf)
  try (refine And.intro ⟨rfl, by first | rfl | (simp; done) | (simp; omega), by first | omega | (simp; omega)⟩ ?_; conv => whnf)
  (first | rw [hE] | rw [set_getD_eq (by rw [Int.toNat_natCast, List.length_map]; exact hk')] | skip)
  conv => whnf
  rotate_left 1
  conv => whnf
  try (refine And.intro ⟨rfl, by first | rfl | (simp; done) | (simp; omega), by first | omega | (simp; omega)⟩ ?_; conv => whnf)
  (first | rw [hE] | rw [set_getD_eq (by rw [Int.toNat_natCast, List.length_map]; exact hk')] | skip)
  conv => whnf
  try (refine And.intro (by first | omega | (simp; done)) ?_; conv => whnf)
  try (refine And.intro ⟨rfl, by first | rfl | (simp; done) | (simp; omega), by first | omega | (simp; omega)⟩ ?_; conv => whnf)
  (first | rw [hE] | rw [set_getD_eq (by rw [Int.toNat_natCast, List.length_map]; exact hk')] | skip)
  conv => whnf
  rotate_left 1
  conv => whnf
  refine Fn.closed (b2) rfl ?_
  rintro _ rfl
  conv => whnf
  try (refine And.intro (by first | omega | (simp; done)) ?_; conv => whnf)
  refine And.intro ?_ ?_
  conv => whnf
  refine And.intro ?_ ?_
  conv => whnf
  try (refine And.intro ⟨rfl, by first | rfl | (simp; done) | (simp; omega), by first | omega | (simp; omega)⟩ ?_; conv => whnf)
  (first | rw [hE] | rw [set_getD_eq (by rw [Int.toNat_natCast, List.length_map]; exact hk')] | skip)
  conv => whnf
  try (refine And.intro (by first | omega | (simp; done)) ?_; conv => whnf)
  try (refine And.intro ⟨rfl, by first | rfl | (simp; done) | (simp; omega), by first | omega | (simp; omega)⟩ ?_; conv => whnf)
  (first | rw [hE] | rw [set_getD_eq (by rw [Int.toNat_natCast, List.length_map]; exact hk')] | skip)
  conv => whnf
  rotate_left 1
  conv => whnf
  try (refine And.intro ⟨rfl, by first | rfl | (simp; done) | (simp; omega), by first | omega | (simp; omega)⟩ ?_; conv => whnf)
  (first | rw [hE] | rw [set_getD_eq (by rw [Int.toNat_natCast, List.length_map]; exact hk')] | skip)
  conv => whnf
  try (refine And.intro (by first | omega | (simp; done)) ?_; conv => whnf)
  try (refine And.intro ⟨rfl, by first | rfl | (simp; done) | (simp; omega), by first | omega | (simp; omega)⟩ ?_; conv => whnf)
  (first | rw [hE] | rw [set_getD_eq (by rw [Int.toNat_natCast, List.length_map]; exact hk')] | skip)
  conv => whnf
  rotate_left 1
  conv => whnf
  try (refine And.intro ⟨rfl, by first | rfl | (simp; done) | (simp; omega), by first | omega | (simp; omega)⟩ ?_; conv => whnf)
  (first | rw [hE] | rw [set_getD_eq (by rw [Int.toNat_natCast, List.length_map]; exact hk')] | skip)
  conv => whnf
  try (refine And.intro (by first | omega | (simp; done)) ?_; conv => whnf)
  try (refine And.intro ⟨rfl, by first | rfl | (simp; done) | (simp; omega), by first | omega | (simp; omega)⟩ ?_; conv => whnf)
  (first | rw [hE] | rw [set_getD_eq (by rw [Int.toNat_natCast, List.length_map]; exact hk')] | skip)
  conv => whnf
  rotate_left 1
  all_goals refine ⟨k + 1, hk', by omega, WkN.rc (ConvF.ofH (ConvH.subRow (k := 2) rfl (es' := d.cells.map celC) (by simp) ?_)) (s := [0, 1, 2, 3]) ⟨⟨rfl, rfl, rfl, rfl, wsucc (by omega), trivial⟩, ⟨rfl, rfl, rfl, rfl, trivial⟩, rfl, rfl, rfl, rfl, rfl⟩⟩
  all_goals
   intro i
   rw [List.set_set, Int.toNat_natCast]
   refine set_same (f := celC) (d := (⟨0, [], []⟩ : Cel)) hk' ?_ i
   exact ⟨fun _ _ h => h, fun _ _ h => h, fun _ _ h => h, trivial⟩
 ·refine aLoop.ruleRR Nat (fun k => ([(1, .bp 0 0), (2, .bp 1 0), (41, .ow 3 d.cache.length), (42, .v (.int .i64 d.cache.length)), (43, .v (.int .i64 k))], [.box 32 (dkX (.ow 2 d.cells.length) (.ow 3 d.cache.length) d.reqs d.left), .box 32 [.v (.slice none 0 0), .v (.slice none 0 0), .v (.int .i64 0), .v (.int .i64 0)], .row 87 3 (d.cells.map celC), .row 130 2 (d.cache.map wrC)])) (fun k => k ≤ d.cache.length) (fun k => d.cache.length - k) 0 (Nat.zero_le _)
   (WkN.r (s := [0, 1, 2, 3]) ⟨⟨rfl, rfl, rfl, rfl, rfl, trivial⟩, ⟨rfl, rfl, rfl, rfl, trivial⟩, rfl, rfl, rfl, rfl, rfl⟩) ?_
  intro k hk
  conv => whnf
  refine boolI (fun h7 => ?_) (fun h7 => ?_) <;> (repeat rw [Int.toNat_natCast] at h7) <;> conv => whnf
  ·have hk' : k < d.cache.length := by omega
   have hm := hw _ (getD_mem (d := (⟨0, []⟩ : Wr)) hk')
   have b1 := bclone_fn (d.cache.getD k ⟨0, []⟩).bytes hm
   have hE : (d.cache.map wrC).getD (k : Int).toNat [] = wrC (d.cache.getD k ⟨0, []⟩) := by rw [Int.toNat_natCast]; exact map_getD hk'
   refine And.intro ⟨by omega, by omega⟩ ?_
   conv => whnf
   refine And.intro ⟨rfl, (List.length_map _).symm, by rw [Int.toNat_natCast]; exact hk'⟩ ?_
   conv => whnf
   rw [hE]
   conv => whnf
   apply aDraw.treeK (0) tys_ok mixed (.one 0 (.one 1 (.one 2 (.one 3 (.one 4 (.one 5 (.one 6 (.one 7 (.one 8 .fin))))))))) (by kernel_rfl)
   conv => whnf
   refine Fn.closed (b1) rfl ?_
   rintro _ rfl
   conv => whnf
   try (refine And.intro (by first | omega | (simp; done)) ?_; conv => whnf)
   try (refine And.intro ⟨rfl, by first | rfl | (simp; done) | (simp; omega), by first | omega | (simp; omega)⟩ ?_; conv => whnf)
   (first | rw [hE] | skip)
   conv => whnf
   all_goals refine ⟨k + 1, hk', by omega, WkN.rc (ConvF.ofH (ConvH.subRow (k := 3) rfl (es' := d.cache.map wrC) (by simp) ?_)) (s := [0, 1, 2, 3]) ⟨⟨rfl, rfl, rfl, rfl, wsucc (by omega), trivial⟩, ⟨rfl, rfl, rfl, rfl, trivial⟩, rfl, rfl, rfl, rfl, rfl⟩⟩
   all_goals
    intro i
    rw [Int.toNat_natCast]
    refine set_same (f := wrC) (d := (⟨0, []⟩ : Wr)) hk' ?_ i
    exact ⟨fun _ _ h => h, fun _ _ h => h, trivial⟩
  ·refine And.intro (List.length_map _).symm ?_
   conv => whnf
   refine And.intro (List.length_map _).symm ?_
   conv => whnf
   exact ⟨.ag (dkC d), ag_sub ⟨row_sub (f := celC) d.cells rfl rfl, row_sub (f := wrC) d.cache rfl rfl, fun _ _ h => h, fun _ _ h => h, trivial⟩, rfl⟩
def celOk (c : Cel) : Bool := inB c.state 0 2 && (decide (c.bytes.length ≤ 200) && decide (c.old.length ≤ 200))
def wrOk (n : Nat) (w : Wr) : Bool := inB w.addr 0 ((n : Int) - 1) && decide (w.bytes.length ≤ 200)
def okDk (d : Dk) : Bool := (inB d.cells.length 1 300 && (decide (d.cache.length ≤ 2000) && (inB d.reqs 0 1048576 && inB d.left (-1) 1048576))) && (d.cells.all celOk && d.cache.all (wrOk d.cells.length))
theorem din_fn (n lo hi : Int) : Fn Tryz.prog 100 [.v (.int .i64 n), .v (.int .i64 lo), .v (.int .i64 hi)] fun r => r = .v (.bool (inB n lo hi)) := by
 refine Fn.of tys_ok Tryz.func100 rfl rfl (Nat.le_of_ble_eq_true rfl) ?_
 conv => whnf
 repeat' (first | (refine boolK_intro (fun h => ?_) (fun h => ?_) <;> (try simp at h) <;> conv => whnf) | (refine aDraw.seq tys_ok mixed (by kernel_rfl) ?_; conv => whnf) | (refine aSeq.go ?_; conv => whnf) | (refine And.intro (by omega) ?_; conv => whnf))
 all_goals exact ⟨_, fun _ _ h => h, by simp [inB, *] <;> omega⟩
theorem dcell_fn (c : Cel) : Fn Tryz.prog 160 [.ag (celC c)] fun r => r = .v (.bool (celOk c)) := by
 refine Fn.of tys_ok Tryz.func160 rfl rfl (Nat.le_of_ble_eq_true rfl) ?_
 conv => whnf
 repeat' (first | (refine boolK_intro (fun h => ?_) (fun h => ?_) <;> (try simp at h) <;> conv => whnf) | (refine aDraw.seq tys_ok mixed (by kernel_rfl) ?_; conv => whnf) | (refine aSeq.go ?_; conv => whnf) | (refine Fn.closed (din_fn _ _ _) rfl ?_; rintro _ rfl; conv => whnf) | (refine And.intro (by omega) ?_; conv => whnf))
 all_goals exact ⟨_, fun _ _ h => h, by congr 2; rw [Bool.eq_iff_iff]; simp [celOk, *] <;> omega⟩
theorem dcell1_fn (c : Cel) : Fn Tryz.prog 159 [.ag (celC c)] fun r => r = .v (.bool (!celOk c)) := by
 refine Fn.of tys_ok Tryz.func159 rfl rfl (Nat.le_of_ble_eq_true rfl) ?_
 conv => whnf
 refine Fn.closed (dcell_fn c) rfl ?_
 rintro _ rfl
 conv => whnf
 exact ⟨_, fun _ _ h => h, rfl⟩
theorem dce_ix (l : List Cel)  (hl : l.length ≤ 1000000) : Fn Tryz.prog 204 [celsA l, .v (.func (.func 159) #[] #[])] fun r => r = .v (.int .i64 (ixI (fun c => !celOk c) l)) := by
 refine Fn.of tys_ok Tryz.func204 rfl rfl (Nat.le_of_ble_eq_true rfl) ?_
 conv => whnf
 refine aLoop.rule Nat (fun k => ([(0, celsA l), (1, .v (.func (.func 159) #[] #[])), (7, .v (.int .i64 l.length)), (8, .v (.int .i64 k))], [])) (fun k => k ≤ l.length ∧ (l.take k).any (fun c => !celOk c) = false) (fun k => l.length - k) 0 ⟨Nat.zero_le _, by simp⟩ ⟨[], trivial, ⟨rfl, rfl, rfl, rfl, trivial⟩, trivial, rfl, rfl, rfl⟩ ?_
 rintro k ⟨hk, hI⟩
 conv => whnf
 refine boolK_intro (fun h2 => ?_) (fun h2 => ?_) <;> simp at h2 <;> conv => whnf
 ·refine ⟨by first | omega | (refine ⟨rfl, ?_, ?_⟩ <;> first | omega | (simp only [List.length_map]; done) | (simp only [List.length_map]; omega)) | (simp only [List.length_map]; omega), ?_⟩
  conv => whnf
  refine Fn.closed (dcell1_fn (l.getD k ⟨0, [], []⟩)) rfl ?_
  rintro _ rfl
  conv => whnf
  refine boolK_intro (fun h3 => ?_) (fun h3 => ?_) <;> conv => whnf
  ·exact ⟨_, fun _ _ h => h, by rw [ixI_hit (d := ⟨0, [], []⟩) h2 hI (by first | exact h3 | (rw [Int.toNat_natCast] at h3; exact h3) | simpa using h3)]⟩
  ·refine ⟨k + 1, ⟨by omega, any_take_succ (d := ⟨0, [], []⟩) h2 hI (by first | exact h3 | (rw [Int.toNat_natCast] at h3; exact h3) | simpa using h3)⟩, by omega, [], trivial, ⟨rfl, rfl, rfl, wsucc (by omega), trivial⟩, trivial, rfl, rfl, rfl⟩
 ·exact ⟨_, fun _ _ h => h, by rw [List.take_of_length_le h2] at hI; rw [ixI_none hI]⟩
theorem dce_cf (l : List Cel)  (hl : l.length ≤ 1000000) : Fn Tryz.prog 158 [celsA l, .v (.func (.func 159) #[] #[])] fun r => r = .v (.bool (l.any (fun c => !celOk c))) := by
 refine Fn.of tys_ok Tryz.func158 rfl rfl (Nat.le_of_ble_eq_true rfl) ?_
 conv => whnf
 refine Fn.closed (dce_ix l  hl) rfl ?_
 rintro _ rfl
 conv => whnf
 exact ⟨_, fun _ _ h => h, by rw [ixI_ge]⟩

theorem dcell2_fn (d : Dk) (w : Wr) (hn : d.cells.length ≤ 1000000) : Fn Tryz.prog 162 [.ag (wrC w), .rp (dkC d)] fun r => r = .v (.bool (!wrOk d.cells.length w)) := by
 have w1 : IntKind.i64.wrap ((d.cells.length : Int) - 1) = d.cells.length - 1 := wi (by omega)
 refine Fn.of tys_ok Tryz.func162 rfl rfl (Nat.le_of_ble_eq_true rfl) ?_
 conv => whnf
 rw [w1]
 repeat' (first | (refine boolK_intro (fun h => ?_) (fun h => ?_) <;> (try simp at h) <;> conv => whnf) | (refine aDraw.seq tys_ok mixed (by kernel_rfl) ?_; conv => whnf) | (refine aSeq.go ?_; conv => whnf) | (refine Fn.closed (din_fn _ _ _) rfl ?_; rintro _ rfl; conv => whnf) | (refine And.intro (by omega) ?_; conv => whnf))
 all_goals exact ⟨_, fun _ _ h => h, by congr 2; rw [Bool.eq_iff_iff]; simp [wrOk, *] <;> omega⟩
theorem dwr_ix (l : List Wr) (d : Dk) (hn : d.cells.length ≤ 1000000) (hl : l.length ≤ 1000000) : Fn Tryz.prog 205 [wrsA l, .fn 162 [.rp (dkC d)]] fun r => r = .v (.int .i64 (ixI (fun w => !wrOk d.cells.length w) l)) := by
 refine Fn.of tys_ok Tryz.func205 rfl rfl (Nat.le_of_ble_eq_true rfl) ?_
 conv => whnf
 refine aLoop.rule Nat (fun k => ([(0, wrsA l), (1, .fn 162 [.rp (dkC d)]), (7, .v (.int .i64 l.length)), (8, .v (.int .i64 k))], [])) (fun k => k ≤ l.length ∧ (l.take k).any (fun w => !wrOk d.cells.length w) = false) (fun k => l.length - k) 0 ⟨Nat.zero_le _, by simp⟩ ⟨[], trivial, ⟨rfl, rfl, rfl, rfl, trivial⟩, trivial, rfl, rfl, rfl⟩ ?_
 rintro k ⟨hk, hI⟩
 conv => whnf
 refine boolK_intro (fun h2 => ?_) (fun h2 => ?_) <;> simp at h2 <;> conv => whnf
 ·refine ⟨by first | omega | (refine ⟨rfl, ?_, ?_⟩ <;> first | omega | (simp only [List.length_map]; done) | (simp only [List.length_map]; omega)) | (simp only [List.length_map]; omega), ?_⟩
  conv => whnf
  refine Fn.closed (dcell2_fn d (l.getD k ⟨0, []⟩) hn) rfl ?_
  rintro _ rfl
  conv => whnf
  refine boolK_intro (fun h3 => ?_) (fun h3 => ?_) <;> conv => whnf
  ·exact ⟨_, fun _ _ h => h, by rw [ixI_hit (d := ⟨0, []⟩) h2 hI (by first | exact h3 | (rw [Int.toNat_natCast] at h3; exact h3) | simpa using h3)]⟩
  ·refine ⟨k + 1, ⟨by omega, any_take_succ (d := ⟨0, []⟩) h2 hI (by first | exact h3 | (rw [Int.toNat_natCast] at h3; exact h3) | simpa using h3)⟩, by omega, [], trivial, ⟨rfl, rfl, rfl, wsucc (by omega), trivial⟩, trivial, rfl, rfl, rfl⟩
 ·exact ⟨_, fun _ _ h => h, by rw [List.take_of_length_le h2] at hI; rw [ixI_none hI]⟩
theorem dwr_cf (l : List Wr) (d : Dk) (hn : d.cells.length ≤ 1000000) (hl : l.length ≤ 1000000) : Fn Tryz.prog 161 [wrsA l, .fn 162 [.rp (dkC d)]] fun r => r = .v (.bool (l.any (fun w => !wrOk d.cells.length w))) := by
 refine Fn.of tys_ok Tryz.func161 rfl rfl (Nat.le_of_ble_eq_true rfl) ?_
 conv => whnf
 refine Fn.closed (dwr_ix l d hn hl) rfl ?_
 rintro _ rfl
 conv => whnf
 exact ⟨_, fun _ _ h => h, by rw [ixI_ge]⟩

set_option maxRecDepth 100000 in
theorem dcheck_fn (d : Dk) (h1 : d.cells.length ≤ 1000000) (h2 : d.cache.length ≤ 1000000) : Fn Tryz.prog 97 [.ag (dkC d)] fun r => r = .v (errV (okDk d)) := by
 have c1 := dce_cf d.cells h1
 have c2 := dwr_cf d.cache d h1 h2
 rw [show (d.cells.any fun c => !celOk c) = !d.cells.all celOk by rw [List.all_eq_not_any_not, Bool.not_not]] at c1
 rw [show (d.cache.any fun w => !wrOk d.cells.length w) = !d.cache.all (wrOk d.cells.length) by rw [List.all_eq_not_any_not, Bool.not_not]] at c2
 obtain ⟨A, hA⟩ : ∃ A, A = d.cells.all celOk := ⟨_, rfl⟩
 obtain ⟨B, hB⟩ : ∃ B, B = d.cache.all (wrOk d.cells.length) := ⟨_, rfl⟩
 have hok : okDk d = ((inB d.cells.length 1 300 && (decide (d.cache.length ≤ 2000) && (inB d.reqs 0 1048576 && inB d.left (-1) 1048576))) && (A && B)) := by rw [okDk, hA, hB]
 rw [← hA] at c1
 rw [← hB] at c2
 rw [hok]
 clear hok hA hB
 refine Fn.of tys_ok Tryz.func97 rfl rfl (Nat.le_of_ble_eq_true rfl) ?_
 conv => whnf
 repeat' (first | (refine boolK_intro (fun h => ?_) (fun h => ?_) <;> (try simp at h) <;> conv => whnf) | (refine aDraw.seq tys_ok mixed (by kernel_rfl) ?_; conv => whnf) | (refine aSeq.go ?_; conv => whnf) | (refine Fn.closed (din_fn _ _ _) rfl ?_; rintro _ rfl; conv => whnf) | (refine Fn.closed (c1) rfl ?_; rintro _ rfl; conv => whnf) | (refine Fn.closed (c2) rfl ?_; rintro _ rfl; conv => whnf) | (refine And.intro (by omega) ?_; conv => whnf))
 all_goals exact ⟨_, fun _ _ h => h, by
  first
   | (rw [show ((inB d.cells.length 1 300 && (decide (d.cache.length ≤ 2000) && (inB d.reqs 0 1048576 && inB d.left (-1) 1048576))) && (A && B)) = false by rw [← Bool.not_eq_true]; simp [*] <;> omega]; rfl)
   | (rw [show ((inB d.cells.length 1 300 && (decide (d.cache.length ≤ 2000) && (inB d.reqs 0 1048576 && inB d.left (-1) 1048576))) && (A && B)) = true by simp [*] <;> omega]; rfl)⟩

def cel0 : List AV := [.v (.int .i64 0), .v (.slice none 0 0), .v (.slice none 0 0)]
set_option maxRecDepth 100000 in
theorem dnew_own (n : Nat) (hn : 1 ≤ n ∧ n ≤ 300) : ACalls Tryz.prog false 65 [.v (.int .i64 n)] [] fun r H => r = .tp [.ag [.ow 0 n, .v (.slice none 0 0), .v (.int .i64 0), .v (.int .i64 (-1))], .v (.int .i64 0)] ∧ H = [.row 87 3 (List.replicate n cel0)] := by
 have hi := din_fn n 1 300
 rw [show inB (n : Int) 1 300 = true by simp [inB]; omega] at hi
 refine ACalls.ofR tys_ok Tryz.func65 rfl rfl (Nat.le_of_ble_eq_true rfl) ?_
 conv => whnf
 refine Fn.closed (hi) rfl ?_
 rintro _ rfl
 conv => whnf
 refine And.intro ⟨rfl, by omega, by omega⟩ ?_
 conv => whnf
 exact ⟨_, .tp [.ag [.ow 0 n, .v (.slice none 0 0), .v (.int .i64 0), .v (.int .i64 (-1))], .v (.int .i64 0)], [.row 87 3 (List.replicate n cel0)], fun _ _ h => h, WkN.r (s := [1]) ⟨⟨by rw [Int.toNat_natCast]; rfl, trivial⟩, ⟨by rw [Int.toNat_natCast]; rfl, trivial⟩, rfl, rfl, rfl, rfl, rfl⟩, rfl, rfl⟩
set_option maxRecDepth 100000 in
theorem rnew_own (n : Nat) (hn : 1 ≤ n ∧ n ≤ 300) : ACalls Tryz.prog false 78 [.v (.int .i64 n)] [] fun r H => r = .ag [.ow 0 n, .v (.slice none 0 0), .v (.int .i64 0), .v (.int .i64 (-1))] ∧ H = [.row 87 3 (List.replicate n cel0)] := by
 refine ACalls.ofR tys_ok Tryz.func78 rfl rfl (Nat.le_of_ble_eq_true rfl) ?_
 conv => whnf
 refine And.intro ⟨rfl, by omega, by omega⟩ ?_
 conv => whnf
 exact ⟨_, .ag [.ow 0 n, .v (.slice none 0 0), .v (.int .i64 0), .v (.int .i64 (-1))], [.row 87 3 (List.replicate n cel0)], fun _ _ h => h, WkN.r (s := [1]) ⟨⟨by rw [Int.toNat_natCast]; rfl, trivial⟩, ⟨by rw [Int.toNat_natCast]; rfl, trivial⟩, rfl, rfl, rfl, rfl, rfl⟩, rfl, rfl⟩
@[reducible] def dkG (d : Dk) : List AB := [.box 164 (dkX (.ow 1 d.cells.length) (.ow 3 d.cache.length) d.reqs d.left), .row 87 3 (d.cells.map celC), .dead, .row 130 2 (d.cache.map wrC)]
theorem dkG_of (d : Dk) : ConvH (dkH d) (dkG d) := ConvH.move (H := dkH d) 0 2 (by decide) rfl rfl
theorem dflush_any (d : Dk) (hl : -1 ≤ d.left ∧ d.left ≤ 1048576) (hc : d.cache.length ≤ 2000) (ha : ∀ w ∈ d.cache, 0 ≤ w.addr ∧ w.addr < d.cells.length) :
  ACalls Tryz.prog false 146 [.bp 0 0] (dkH d) fun r H => r = .v (.int .i64 (if d.left = 0 then 8 else 0)) ∧ H = dkG (if d.left = 0 then d else d.flush) := by
 by_cases h0 : d.left = 0
 ·rw [if_pos h0, if_pos h0]
  exact (dflush0_fn d hl h0).conv fun r H ⟨h1, h2⟩ => ⟨_, h2 ▸ dkG_of d, h1, rfl⟩
 ·rw [if_neg h0, if_neg h0]
  exact (dflush_fn d hl h0 hc ha).conv fun r H ⟨h1, h2⟩ => ⟨_, h2 ▸ ConvH.refl _, h1, rfl⟩


structure DkOk (d : Dk) : Prop where
 n : 1 ≤ d.cells.length ∧ d.cells.length ≤ 300
 m : d.cache.length ≤ 2000
 r : 0 ≤ d.reqs ∧ d.reqs ≤ 1048576
 l : -1 ≤ d.left ∧ d.left ≤ 1048576
 c : ∀ c ∈ d.cells, (0 ≤ c.state ∧ c.state ≤ 2) ∧ c.bytes.length ≤ 200 ∧ c.old.length ≤ 200
 w : ∀ w ∈ d.cache, (0 ≤ w.addr ∧ w.addr < d.cells.length) ∧ w.bytes.length ≤ 200
theorem okDk_iff {d : Dk} : okDk d = true ↔ DkOk d := by
 constructor
 ·intro h
  simp only [okDk, Bool.and_eq_true, inB_iff, decide_eq_true_eq, List.all_eq_true, celOk, wrOk] at h
  obtain ⟨⟨h1, h2, h3, h4⟩, h5, h6⟩ := h
  exact ⟨by omega, h2, h3, h4, fun c hc => h5 c hc, fun w hw => ⟨by have := (h6 w hw).1; omega, (h6 w hw).2⟩⟩
 ·intro h
  simp only [okDk, Bool.and_eq_true, inB_iff, decide_eq_true_eq, List.all_eq_true, celOk, wrOk]
  exact ⟨⟨by have := h.n; omega, h.m, h.r, h.l⟩, fun c hc => h.c c hc, fun w hw => ⟨by have := (h.w w hw).1; omega, (h.w w hw).2⟩⟩
theorem DkOk.req {d : Dk} (h : DkOk d) : DkOk d.req := by
 have hr := h.r
 have hl := h.l
 refine ⟨h.n, h.m, ?_, ?_, h.c, h.w⟩
 ·show 0 ≤ (if 1048576 < IntKind.i64.wrap (d.reqs + 1) then 1048576 else IntKind.i64.wrap (d.reqs + 1)) ∧ (if 1048576 < IntKind.i64.wrap (d.reqs + 1) then 1048576 else IntKind.i64.wrap (d.reqs + 1)) ≤ 1048576
  rw [wi (by omega)]
  split <;> omega
 ·show -1 ≤ (if d.left > 0 then d.left - 1 else d.left) ∧ (if d.left > 0 then d.left - 1 else d.left) ≤ 1048576
  split <;> omega
theorem got_short {d : Dk} (h : DkOk d) (a : Int) : (d.got a).1.length ≤ 200 := by
 unfold Dk.got
 cases hl : lastW d.cache a with
 | some w =>
  have : ∀ (l : List Wr) (r : Option Wr), (∀ x ∈ l, x.bytes.length ≤ 200) → (∀ x, r = some x → x.bytes.length ≤ 200) → ∀ x, l.foldl (fun r w => if w.addr = a then some w else r) r = some x → x.bytes.length ≤ 200 := by
   intro l
   induction l with
   | nil => intro r _ h2 x hx; exact h2 x hx
   | cons y l ih =>
    intro r h1 h2 x hx
    refine ih _ (fun x hx => h1 x (List.mem_cons_of_mem _ hx)) (fun x hx => ?_) x hx
    simp only at hx
    split at hx
    ·cases hx; exact h1 y (by simp)
    ·exact h2 x hx
  exact this d.cache none (fun x hx => (h.w x hx).2) (fun x hx => by cases hx) w hl
 | none =>
  simp only
  split
  ·by_cases ha : a.toNat < d.cells.length
   ·exact (h.c _ (getD_mem (d := ⟨0, [], []⟩) ha)).2.1
   ·rw [List.getD_eq_getElem?_getD, List.getElem?_eq_none (by omega)]; simp
  ·simp
theorem DkOk.read {d : Dk} (h : DkOk d) (a : Int) : DkOk (d.read a).1 := by
 unfold Dk.read
 split
 ·exact h
 ·exact h.req
theorem DkOk.write {d : Dk} (h : DkOk d) {a : Int} {b : List UInt8} (ha : 0 ≤ a ∧ a < d.cells.length) (hb : b.length ≤ 200) : DkOk (d.write a b).1 := by
 unfold Dk.write
 split
 ·exact h
 ·split
  ·exact h.req
  ·rename_i h1
   have h2 := h.req
   refine ⟨h2.n, ?_, h2.r, h2.l, h2.c, fun w hw => ?_⟩
   ·simp only [List.length_append, List.length_singleton]; omega
   ·rcases List.mem_append.1 hw with hw | hw
    ·exact h.w w hw
    ·simp at hw; subst hw; exact ⟨ha, hb⟩
theorem DkOk.fin {d : Dk} (h : DkOk d) {w : Wr} (hb : w.bytes.length ≤ 200) : DkOk (d.fin w) := by
 unfold Dk.fin
 split
 ·exact h
 ·refine ⟨by simpa using h.n, h.m, h.r, h.l, fun c hc => ?_, fun x hx => by simpa using h.w x hx⟩
  rcases List.mem_or_eq_of_mem_set hc with hc | rfl
  ·exact h.c c hc
  ·refine ⟨⟨Int.le_refl _, show (0 : Int) ≤ 2 by decide⟩, hb, ?_⟩
   show (d.cells.getD w.addr.toNat cz).bytes.length ≤ 200
   by_cases ha : w.addr.toNat < d.cells.length
   ·exact (h.c _ (getD_mem (d := cz) ha)).2.1
   ·rw [List.getD_eq_getElem?_getD, List.getElem?_eq_none (by omega)]; simp [cz]
theorem DkOk.allFin (l : List Wr) : ∀ {d : Dk}, DkOk d → (∀ w ∈ l, w.bytes.length ≤ 200) → DkOk (d.allFin l) := by
 induction l with
 | nil => intro d h _; exact h
 | cons w l ih => intro d h hw; exact ih (h.fin (hw w (by simp))) fun x hx => hw x (List.mem_cons_of_mem _ hx)
theorem DkOk.flush {d : Dk} (h : DkOk d) : DkOk d.flush := by
 have h1 := h.req.allFin d.cache (fun w hw => (h.w w hw).2)
 exact ⟨h1.n, by simp [Dk.flush], h1.r, h1.l, h1.c, fun w hw => by simp [Dk.flush] at hw⟩
theorem write_n (d : Dk) (a : Int) (b : List UInt8) : (d.write a b).1.cells.length = d.cells.length := by
 unfold Dk.write; split
 ·rfl
 ·split <;> rfl
theorem flush_n (d : Dk) : d.flush.cells.length = d.cells.length := (allFin_len d.cache d.req).1
def Dk.adv : Nat → Dk → Dk
 | 0, d => d
 | k + 1, d => let e := Dk.adv k d; if e.left = 0 then e else e.req
def Dk.live (k : Nat) (d : Dk) : Prop := d.left < 0 ∨ (k : Int) ≤ d.left
instance (k : Nat) (d : Dk) : Decidable (d.live k) := by unfold Dk.live; infer_instance
theorem adv_same (k : Nat) (d : Dk) : (d.adv k).cells = d.cells ∧ (d.adv k).cache = d.cache := by
 induction k with
 | zero => exact ⟨rfl, rfl⟩
 | succ k ih => show (if _ then _ else _ : Dk).cells = _ ∧ (if _ then _ else _ : Dk).cache = _; split <;> exact ih
theorem adv_left (k : Nat) (d : Dk) (h : d.live k) : (d.adv k).left = if d.left < 0 then d.left else d.left - k := by
 induction k with
 | zero => show d.left = _; simp
 | succ k ih =>
  have h' : d.live k := by unfold Dk.live at *; omega
  have ih := ih h'
  have h0 : ¬ (d.adv k).left = 0 := by rw [ih]; unfold Dk.live at h; split <;> omega
  show (if (d.adv k).left = 0 then d.adv k else (d.adv k).req).left = _
  rw [if_neg h0]
  show (if (d.adv k).left > 0 then (d.adv k).left - 1 else (d.adv k).left) = _
  rw [ih]
  unfold Dk.live at h
  split <;> split <;> omega
theorem adv_stop (k n : Nat) (d : Dk) (h : (d.adv k).left = 0) (hn : k ≤ n) : d.adv n = d.adv k := by
 induction n with
 | zero => rw [show k = 0 by omega]
 | succ n ih =>
  by_cases e : k = n + 1
  ·rw [e]
  ·have := ih (by omega)
   show (if (d.adv n).left = 0 then d.adv n else (d.adv n).req) = _
   rw [this, if_pos h]
theorem adv_succ (k : Nat) (d : Dk) (h : ¬ (d.adv k).left = 0) : d.adv (k + 1) = (d.adv k).req := if_neg h
theorem adv_live (k : Nat) (d : Dk) (hl : -1 ≤ d.left) (h : d.live k) : (d.adv k).left = 0 ↔ ¬ d.live (k + 1) := by
 rw [adv_left k d h]
 unfold Dk.live at *
 split <;> omega
theorem DkOk.adv {d : Dk} (h : DkOk d) (k : Nat) : DkOk (d.adv k) := by
 induction k with
 | zero => exact h
 | succ k ih => show DkOk (if _ then _ else _); split; exact ih; exact ih.req
theorem adv_got (k : Nat) (d : Dk) (a : Int) : (d.adv k).got a = d.got a := by
 unfold Dk.got
 rw [(adv_same k d).1, (adv_same k d).2]
def gotG (d : Dk) (a : Int) : Gt := ⟨(d.got a).2, (d.got a).1⟩
theorem got_err (d : Dk) (a : Int) : (d.got a).2 = 0 ∨ (d.got a).2 = 6 := by
 unfold Dk.got
 cases lastW d.cache a with
 | some w => exact .inl rfl
 | none => simp only; split; exact .inl rfl; exact .inr rfl
def wrStep (s : Dk × Nat × Bool) (w : Wr) : Dk × Nat × Bool :=
 if s.2.2 then s else
 match s.1.write w.addr w.bytes with
 | (d, e) => if e = 8 then (d, s.2.1, true) else (d, s.2.1 + (if e = 0 then 1 else 0), false)
def Dk.writes (d : Dk) (l : List Wr) : Dk × Nat × Bool := l.foldl wrStep (d, 0, false)
def Dk.putAll (d : Dk) (l : List Wr) : Dk × Nat × Bool :=
 match d.writes l with
 | (d1, n, dead) => if dead then (d1, n, true) else if d1.left = 0 then (d1, n, true) else (d1.flush, n, false)
theorem writes_succ (d : Dk) {l : List Wr} {k : Nat} (h : k < l.length) : d.writes (l.take (k + 1)) = wrStep (d.writes (l.take k)) (l.getD k ⟨0, []⟩) := by
 unfold Dk.writes
 rw [List.take_add_one, List.foldl_append, List.getElem?_eq_getElem h]
 simp [List.getD_eq_getElem?_getD, List.getElem?_eq_getElem h]
theorem wrStep_dead {s : Dk × Nat × Bool} (w : Wr) (h : s.2.2 = true) : wrStep s w = s := by unfold wrStep; rw [if_pos h]
theorem writes_dead (d : Dk) {l : List Wr} {k : Nat} (hk : k ≤ l.length) (h : (d.writes (l.take k)).2.2 = true) : d.writes l = d.writes (l.take k) := by
 have : ∀ n, k ≤ n → n ≤ l.length → d.writes (l.take n) = d.writes (l.take k) := by
  intro n
  induction n with
  | zero => intro h1 _; rw [show k = 0 by omega]
  | succ n ih =>
   intro h1 h2
   by_cases e : k = n + 1
   ·rw [e]
   ·rw [writes_succ d (by omega), ih (by omega) (by omega), wrStep_dead _ h]
 have := this l.length hk (Nat.le_refl _)
 rwa [List.take_length] at this
theorem writes_inv {P : Dk → Prop} (l : List Wr) (hw : ∀ d, P d → ∀ w ∈ l, P (d.write w.addr w.bytes).1) {d : Dk} (h : P d) (k : Nat) : P (d.writes (l.take k)).1 := by
 induction k with
 | zero => simpa [Dk.writes] using h
 | succ k ih =>
  by_cases hk : k < l.length
  ·rw [writes_succ d hk]
   unfold wrStep
   split
   ·exact ih
   ·have := hw _ ih _ (getD_mem (d := (⟨0, []⟩ : Wr)) hk)
    simp only
    split <;> exact this
  ·rw [List.take_of_length_le (by omega)]; rwa [List.take_of_length_le (by omega)] at ih

theorem rsum_br (b : List UInt8) : Fn Tryz.prog 105 [bA b] fun r => r = .v (.int .i64 (sumC b : Nat)) := by
 refine ⟨⟨_, Tryz.func105, rfl, by decide⟩, fun c0 us hd hM _ hr => ?_⟩
 obtain ⟨u1, rfl, h1⟩ := rd1 hr
 refine (rsum_any u1 b c0.w c0.M (toBytes h1)).mono ?_
 rintro e w' ⟨rfl, rfl⟩
 exact ⟨_, _, rfl, rfl, Below.refl _ _, rd_v _⟩

theorem rlogAt_fn (g : Geo) (copy slot : Int) (hg : okG g = true) (hl : okL g copy slot = true) : Fn Tryz.prog 32 [.ag (geoC g), .v (.int .i64 copy), .v (.int .i64 slot)] fun r => r = .v (.int .i64 (logAt g copy slot)) := by
 obtain ⟨h1, h2, h3, h4, h5⟩ := okG_iff.1 hg
 simp only [okL, Bool.and_eq_true, inB_iff] at hl
 refine Fn.of tys_ok Tryz.func32 rfl rfl (Nat.le_of_ble_eq_true rfl) ?_
 conv => whnf
 refine ⟨_, fun _ _ h => h, ?_⟩
 have hm : 0 ≤ copy * g.sl ∧ copy * g.sl ≤ 30 := by
  rcases (show copy = 0 ∨ copy = 1 by omega) with rfl | rfl <;> omega
 rw [wi (n := copy * g.sl) (by omega), wi (n := g.an + copy * g.sl) (by omega), wi (n := g.an + copy * g.sl + slot) (by omega)]
 rfl
def sectorO (x : Gt) (addr : Int) : Option Sec := if x.err = 0 ∧ openE x.bytes = 0 ∧ secAddr x.bytes = addr then some ⟨secAddr x.bytes, secStamp x.bytes, secPay x.bytes⟩ else none
theorem saysR_of (g : Geo) (x : Gt) (copy slot : Int) (hg : okG g = true) (hL : okL g copy slot = true) : saysR g x copy slot = match sectorO x (logAt g copy slot) with | none => none | some s => match readR g s.pay with | some r => if r.seq = s.stamp then some r else none | none => none := by
 unfold saysR sectorO
 rw [hg, hL]
 by_cases h1 : x.err = 0 <;> by_cases h2 : openE x.bytes = 0 <;> by_cases h3 : secAddr x.bytes = logAt g copy slot <;> simp [h1, h2, h3] <;> rfl
def oneO (o : Option Rc) (a : An) (seq at_ of_ left : Int) : Bool := match o with | some r => isOne r a seq at_ of_ left | none => false
def lookT (p q : Option Rc) (b1 b2 : Bool) : Rc × List Int × Int :=
 if b1 && b2 then (p.getD zeroC, [], 1) else if b1 then (p.getD zeroC, [1], 1) else if b2 then (q.getD zeroC, [0], 1) else if p.isSome || q.isSome then (zeroC, [], 2) else (zeroC, [], 3)
def lookR (g : Geo) (a : An) (x y : Gt) (slot seq at_ of_ left : Int) : Rc × List Int × Int :=
 lookT (saysR g x 0 slot) (saysR g y 1 slot) (oneO (saysR g x 0 slot) a seq at_ of_ left) (oneO (saysR g y 1 slot) a seq at_ of_ left)
theorem look0_sub (c : Ctx) (u : Value) (how e : Int) (h : Rd (.tp [.ag [.v (.int .i64 0), .v (.int .i64 0), .v (.int .i64 0), .v (.int .i64 0), .v (.int .i64 0), .v (.int .i64 0), .v (.int .i64 0), .v (.slice none 0 0)], .v (.slice none 0 0), .v (.int .i64 how), .v (.int .i64 e)]) c u) : Rd (.tp [.ag (rcC zeroC), iA [], .v (.int .i64 how), .v (.int .i64 e)]) c u := by
 refine tp_sub ?_ c u h
 exact ⟨ag_sub ⟨fun _ _ h => h, fun _ _ h => h, fun _ _ h => h, fun _ _ h => h, fun _ _ h => h, fun _ _ h => h, fun _ _ h => h, nil_sl _ _, trivial⟩, nil_sl _ _, fun _ _ h => h, fun _ _ h => h, trivial⟩
theorem one_sub {x : Int} (c : Ctx) (u : Value) (h : Rd (.sl 1 1 fun i => [[AV.v (.int .i64 x)]].getD i []) c u) : Rd (iA [x]) c u :=
 Rd.congr (n := 1) (n' := [x].length) rfl (fun i hi => by
  have : i = 0 := by simp at hi; omega
  subst this
  rfl) h
theorem lookF0 (r : Rc) (c : Ctx) (u : Value) (h : Rd (.tp [.ag (rcC r), .v (.slice none 0 0), .v (.int .i64 1), .v (.int .i64 0)]) c u) : Rd (.tp [.ag (rcC r), iA [], .v (.int .i64 1), .v (.int .i64 0)]) c u   := by
 refine tp_sub ?_ c u h
 exact ⟨fun _ _ h => h, nil_sl _ _, fun _ _ h => h, fun _ _ h => h, trivial⟩
theorem lookF1 (r : Rc) (x : Int) (c : Ctx) (u : Value) (h : Rd (.tp [.ag (rcC r), .sl 1 1 fun i => [[AV.v (.int .i64 x)]].getD i [], .v (.int .i64 1), .v (.int .i64 0)]) c u) : Rd (.tp [.ag (rcC r), iA [x], .v (.int .i64 1), .v (.int .i64 0)]) c u   := by
 refine tp_sub ?_ c u h
 exact ⟨fun _ _ h => h, one_sub, fun _ _ h => h, fun _ _ h => h, trivial⟩
set_option maxRecDepth 100000 in
theorem look_fn (g : Geo) (a : An) (x y : Gt) (slot seq at_ of_ left : Int) (hl : a.label.size ≤ 1000000) (hh : a.homes.length ≤ 1000000) (hx : x.bytes.length ≤ 100000) (hy : y.bytes.length ≤ 100000) :
  Fn Tryz.prog 232 [.ag (geoC g), .ag (anC a), .ag (gotC x), .ag (gotC y), .v (.int .i64 slot), .v (.int .i64 seq), .v (.int .i64 at_), .v (.int .i64 of_), .v (.int .i64 left)]
   fun r => r = if okG g && anOk g a && inB slot 0 (g.sl - 1) then .tp [.ag (rcC (lookR g a x y slot seq at_ of_ left).1), iA (lookR g a x y slot seq at_ of_ left).2.1, .v (.int .i64 (lookR g a x y slot seq at_ of_ left).2.2), .v (.int .i64 0)] else .tp [.ag (rcC zeroC), iA [], .v (.int .i64 0), .v (.int .i64 1)] := by
 have s1 := acheck_fn g a hl hh
 cases hA : okG g && anOk g a with
 | false =>
  rw [hA] at s1
  refine Fn.of tys_ok Tryz.func232 rfl rfl (Nat.le_of_ble_eq_true rfl) ?_
  conv => whnf
  refine Fn.closed (s1) rfl ?_
  rintro _ rfl
  conv => whnf
  exact ⟨_, fun c u h => look0_sub c u 0 1 h, rfl⟩
 | true =>
  rw [hA] at s1
  have s2 := says_fn g x 0 slot hx
  have s3 := says_fn g y 1 slot hy
  unfold lookR
  generalize saysR g x 0 slot = p at s2 ⊢
  generalize saysR g y 1 slot = q at s3 ⊢
  have i1 : ∀ r, p = some r → Fn Tryz.prog 238 [.ag (rcC r), .ag (anC a), .v (.int .i64 seq), .v (.int .i64 at_), .v (.int .i64 of_), .v (.int .i64 left)] fun x => x = .v (.bool (oneO p a seq at_ of_ left)) := by
   rintro r rfl; exact is_fn r a seq at_ of_ left
  have i2 : ∀ r, q = some r → Fn Tryz.prog 238 [.ag (rcC r), .ag (anC a), .v (.int .i64 seq), .v (.int .i64 at_), .v (.int .i64 of_), .v (.int .i64 left)] fun x => x = .v (.bool (oneO q a seq at_ of_ left)) := by
   rintro r rfl; exact is_fn r a seq at_ of_ left
  have n1 : p = none → oneO p a seq at_ of_ left = false := by rintro rfl; rfl
  have n2 : q = none → oneO q a seq at_ of_ left = false := by rintro rfl; rfl
  generalize oneO p a seq at_ of_ left = b1 at i1 n1 ⊢
  generalize oneO q a seq at_ of_ left = b2 at i2 n2 ⊢
  by_cases hs : 0 ≤ slot ∧ slot < g.sl
  ·rw [show inB slot 0 (g.sl - 1) = true from inB_iff.2 (by omega)]
   rcases p with _ | p <;> rcases q with _ | q <;> cases b1 <;> cases b2
   all_goals first
    | exact absurd (n1 rfl) (by decide)
    | exact absurd (n2 rfl) (by decide)
    | skip
   all_goals
    refine Fn.of tys_ok Tryz.func232 rfl rfl (Nat.le_of_ble_eq_true rfl) ?_
    conv => whnf
    refine Fn.closed (s1) rfl ?_
    rintro _ rfl
    conv => whnf
    refine boolI (fun t1 => ?_) (fun t1 => ?_) <;> (repeat rw [Int.toNat_natCast] at t1) <;> conv => whnf
    ·exfalso; omega
    refine boolI (fun t2 => ?_) (fun t2 => ?_) <;> (repeat rw [Int.toNat_natCast] at t2) <;> conv => whnf
    ·exfalso; omega
    refine aLoop.rounds 3 ?_
    conv => whnf
    repeat' (first | (refine aSeq.go ?_; conv => whnf) | (refine boolI (fun _ => ?_) (fun _ => ?_) <;> conv => whnf) | (refine Fn.closed (s2) rfl ?_; rintro _ rfl; conv => whnf) | (refine Fn.closed (s3) rfl ?_; rintro _ rfl; conv => whnf) | (refine Fn.closed (i1 _ rfl) rfl ?_; rintro _ rfl; conv => whnf) | (refine Fn.closed (i2 _ rfl) rfl ?_; rintro _ rfl; conv => whnf) | (refine And.intro (by first | omega | exact of_decide_eq_true rfl) ?_; conv => whnf) | fail)
    first
     | exact ⟨_, fun c u h => look0_sub c u 2 0 h, rfl⟩
     | exact ⟨_, fun c u h => look0_sub c u 3 0 h, rfl⟩
     | exact ⟨_, fun c u h => lookF0 _ c u h, rfl⟩
     | exact ⟨_, fun c u h => lookF1 _ _ c u h, rfl⟩
  ·rw [show inB slot 0 (g.sl - 1) = false by rw [Bool.eq_false_iff]; intro h; have := inB_iff.1 h; omega]
   refine Fn.of tys_ok Tryz.func232 rfl rfl (Nat.le_of_ble_eq_true rfl) ?_
   conv => whnf
   refine Fn.closed (s1) rfl ?_
   rintro _ rfl
   conv => whnf
   refine boolI (fun t1 => ?_) (fun t1 => ?_) <;> (repeat rw [Int.toNat_natCast] at t1) <;> conv => whnf
   ·exact ⟨_, fun c u h => look0_sub c u 0 1 h, rfl⟩
   refine boolI (fun t2 => ?_) (fun t2 => ?_) <;> (repeat rw [Int.toNat_natCast] at t2) <;> conv => whnf
   ·exact ⟨_, fun c u h => look0_sub c u 0 1 h, rfl⟩
   ·exfalso; omega
end Go.Proofs.YtldngmdpiifamaaGreatDoor.A
end
section
namespace Go.Proofs.YtldngmdpiifamaaGreatDoor

theorem take_all {l m : List UInt8} {n : Nat} (h : l.length = n) : (l ++ m).take n = l := by subst h; simp
theorem drop_all {l m : List UInt8} {n : Nat} (h : l.length = n) : (l ++ m).drop n = m := by subst h; simp
theorem sealHead_len (a s : Int) (p : List UInt8) : (sealHead a s p).length = p.length + 7 := by
 simp only [sealHead, List.length_append, List.length_cons, leB_len]
theorem sealB_len (a s : Int) (p : List UInt8) : (sealB a s p).length = p.length + 11 := by
 simp only [sealB, List.length_append, sealHead_len, leB_len]
theorem seal_open {a s : Int} {p : List UInt8} (h : okS a s p) : openE (sealB a s p) = 0 ∧ secAddr (sealB a s p) = a ∧ secStamp (sealB a s p) = s ∧ secPay (sealB a s p) = p := by
 obtain ⟨h1, h2, h3, h4, h5⟩ := h
 have hl := sealB_len a s p
 have hs := sumC_le (sealHead a s p)
 have e1 : sealB a s p = sealHead a s p ++ leB 4 (sumC (sealHead a s p)) := rfl
 have e2 : sealB a s p = (UInt8.ofNat p.length :: p) ++ (leB 2 a.toNat ++ (leB 4 s.toNat ++ leB 4 (sumC (sealHead a s p)))) := by rw [e1]; simp only [sealHead, List.append_assoc]
 have e3 : sealB a s p = ((UInt8.ofNat p.length :: p) ++ leB 2 a.toNat) ++ (leB 4 s.toNat ++ leB 4 (sumC (sealHead a s p))) := by rw [e2, List.append_assoc]
 have hpn : partN (sealB a s p) = p.length := by
  rw [e2]
  show (UInt8.ofNat p.length).toNat = p.length
  rw [UInt8.toNat_ofNat_of_lt']
  exact Nat.lt_of_le_of_lt h5 (by decide)
 refine ⟨?_, ?_, ?_, ?_⟩
 ·unfold openE
  rw [if_neg (by omega), if_neg, if_pos]
  ·refine ⟨?_, by omega⟩
   simp only [partOk, decide_eq_true_eq]
   omega
  ·rw [hl, show p.length + 11 - 4 = p.length + 7 by omega, e1, drop_all (sealHead_len a s p), take_all (sealHead_len a s p), leN_leB _ _ (by have : (256 : Nat) ^ 4 = 4294967296 := rfl; omega)]
   simp
 ·unfold secAddr
  rw [hl, show p.length + 11 - 10 = p.length + 1 by omega, e2, drop_all (by simp), take_all (leB_len 2 _), leN_leB _ _ (by have : (256 : Nat) ^ 2 = 65536 := rfl; omega)]
  omega
 ·unfold secStamp
  rw [hl, show p.length + 11 - 8 = p.length + 3 by omega, e3, drop_all (by simp [leB_len]), take_all (leB_len 4 _), leN_leB _ _ (by have : (256 : Nat) ^ 4 = 4294967296 := rfl; omega)]
  omega
 ·unfold secPay
  rw [hl, show p.length + 11 - 11 = p.length by omega, e2]
  simp
end Go.Proofs.YtldngmdpiifamaaGreatDoor
end
section
namespace Go.Proofs.YtldngmdpiifamaaGreatDoor.A
open Go.RowKit
def modU (x : Int) (n : Int) : Int := IntKind.i64.wrap ((IntKind.u64.wrap x).tmod n)
theorem modU_in {x n : Int} (h : 0 < n) (h2 : n ≤ 4611686018427387904) : 0 ≤ modU x n ∧ modU x n < n := by
 have h0 : 0 ≤ IntKind.u64.wrap x := by rw [IntKind.wrap_u64]; omega
 have h1 := Int.tmod_nonneg n h0
 have h3 := Int.tmod_lt_of_pos (IntKind.u64.wrap x) h
 unfold modU
 rw [wi (by omega)]
 exact ⟨h1, h3⟩
def someG (z d sp sl an : Int) : Geo := ⟨1 + modU z 4, 1 + modU d 4, modU sp 3, 14 + modU sl 17, 1 + modU an 3⟩
theorem someG_ok (z d sp sl an : Int) : okG (someG z d sp sl an) = true := by
 have h1 := modU_in (x := z) (n := 4) (by decide) (by decide)
 have h2 := modU_in (x := d) (n := 4) (by decide) (by decide)
 have h3 := modU_in (x := sp) (n := 3) (by decide) (by decide)
 have h4 := modU_in (x := sl) (n := 17) (by decide) (by decide)
 have h5 := modU_in (x := an) (n := 3) (by decide) (by decide)
 refine okG_iff.2 ?_
 simp only [someG]
 omega
theorem some_fn (z d sp sl an : Int) : Fn Tryz.prog 35 [.v (.int .i64 z), .v (.int .i64 d), .v (.int .i64 sp), .v (.int .i64 sl), .v (.int .i64 an)] fun r => r = .ag (geoC (someG z d sp sl an)) := by
 have h1 := modU_in (x := z) (n := 4) (by decide) (by decide)
 have h2 := modU_in (x := d) (n := 4) (by decide) (by decide)
 have h4 := modU_in (x := sl) (n := 17) (by decide) (by decide)
 have h5 := modU_in (x := an) (n := 3) (by decide) (by decide)
 refine Fn.of tys_ok Tryz.func35 rfl rfl (Nat.le_of_ble_eq_true rfl) ?_
 conv => whnf
 repeat' (refine And.intro (by decide) ?_; conv => whnf)
 refine ⟨_, fun _ _ h => h, ?_⟩
 simp only [geoC, someG]
 rw [← wi (n := 1 + modU z 4) (by omega), ← wi (n := 1 + modU d 4) (by omega), ← wi (n := 14 + modU sl 17) (by omega), ← wi (n := 1 + modU an 3) (by omega)]
 rfl
def firstA (g : Geo) (s : ByteArray) : An := ⟨1, 0, 0, 1, 0, s, List.replicate g.z.toNat ⟨(List.range (g.d + 1).toNat).map Int.ofNat, g.d + 1, 0⟩⟩
def rangeR (n : Nat) : List (List AV) := (List.range n).map fun i => [.v (.int .i64 (i : Nat))]
theorem rangeR_succ (n : Nat) : rangeR (n + 1) = rangeR n ++ [[.v (.int .i64 (n : Nat))]] := by simp [rangeR, List.range_succ]
theorem rangeR_get {n i : Nat} (h : i < n) : (rangeR n).getD i [] = [.v (.int .i64 (i : Nat))] := getD_range h
def home0 (g : Geo) : List AV := [.sl 1 (g.d + 1).toNat fun i => (rangeR (g.d + 1).toNat).getD i [], .v (.int .i64 (g.d + 1)), .v (.int .i64 0)]
theorem home0_sub (g : Geo) : SubL (home0 g) (hmC ⟨(List.range (g.d + 1).toNat).map Int.ofNat, g.d + 1, 0⟩) :=
 ⟨fun _ _ h => Rd.congr (by simp) (fun i hi => by rw [rangeR_get hi, getD_range hi]; rfl) h, fun _ _ h => h, fun _ _ h => h, trivial⟩
theorem first_fn (g : Geo) (s : ByteArray) (hg : okG g = true) : Fn Tryz.prog 41 [.ag (geoC g), .v (.string s)] fun r => r = .ag (anC (firstA g s)) := by
 obtain ⟨h1, h2, h3, h4, h5⟩ := okG_iff.1 hg
 have w1 : IntKind.i64.wrap (g.d + 1) = g.d + 1 := wi (by omega)
 refine Fn.of tys_ok Tryz.func41 rfl rfl (Nat.le_of_ble_eq_true rfl) ?_
 conv => whnf
 refine aLoop.rule Nat (fun k => ([(2, .bp 0 0), (4, .bp 1 0), (5, .bp 2 0), (6, .v (.int .i64 k))], [.box 23 (geoC g), .box 40 [.v (.int .i64 0), .v (.int .i64 0), .v (.int .i64 0), .v (.int .i64 0), .v (.int .i64 0), .v (.string ⟨#[]⟩), .v (.slice none 0 0)], .box 40 [.v (.int .i64 1), .v (.int .i64 0), .v (.int .i64 0), .v (.int .i64 1), .v (.int .i64 0), .v (.string s), .ow 3 k], .row 132 3 (List.replicate k (home0 g))])) (fun k => k ≤ g.z.toNat) (fun k => g.z.toNat - k) 0 (Nat.zero_le _) ⟨[(1002006, 132, 3)], ⟨rfl, rfl, trivial⟩, ⟨rfl, rfl, rfl, rfl, trivial⟩, ⟨rfl, rfl, rfl, rfl, trivial⟩, rfl, rfl, rfl⟩ ?_
 intro k hk
 conv => whnf
 refine boolI (fun t1 => ?_) (fun t1 => ?_) <;> (repeat rw [Int.toNat_natCast] at t1) <;> conv => whnf
 ·refine aLoop.rule Nat (fun j => ([(2, .bp 0 0), (4, .bp 1 0), (5, .bp 2 0), (6, .v (.int .i64 k)), (7, .bp 4 0), (8, .v (.int .i64 j))], [.box 23 (geoC g), .box 40 [.v (.int .i64 0), .v (.int .i64 0), .v (.int .i64 0), .v (.int .i64 0), .v (.int .i64 0), .v (.string ⟨#[]⟩), .v (.slice none 0 0)], .box 40 [.v (.int .i64 1), .v (.int .i64 0), .v (.int .i64 0), .v (.int .i64 1), .v (.int .i64 0), .v (.string s), .ow 3 k], .row 132 3 (List.replicate k (home0 g)), .box 132 [.ow 5 j, .v (.int .i64 (g.d + 1)), .v (.int .i64 0)], .row 3 1 (rangeR j)])) (fun j => j ≤ (g.d + 1).toNat) (fun j => (g.d + 1).toNat - j) 0 (Nat.zero_le _) ⟨[(1004000, 3, 1)], ⟨rfl, rfl, trivial⟩, ⟨rfl, rfl, rfl, rfl, rfl, rfl, trivial⟩, ⟨rfl, rfl, rfl, rfl, by rw [w1]; rfl, rfl, trivial⟩, rfl, rfl, rfl⟩ ?_
  intro j hj
  conv => whnf
  refine boolI (fun t2 => ?_) (fun t2 => ?_) <;> (repeat rw [Int.toNat_natCast] at t2) <;> conv => whnf
  ·refine And.intro rfl ?_
   conv => whnf
   refine And.intro ⟨by simp [rangeR], by omega⟩ ?_
   conv => whnf
   exact ⟨j + 1, by omega, by omega, (Wk.plain (by repeat' first | exact trivial | exact rfl | refine And.intro ?_ ?_ | exact wsucc (by omega) | exact congrArg (AB.row _ _) (rangeR_succ j)) (by repeat' first | exact trivial | exact rfl | refine And.intro ?_ ?_ | exact wsucc (by omega) | exact congrArg (AB.row _ _) (rangeR_succ j)) rfl rfl rfl)⟩
  ·have ej : j = (g.d + 1).toNat := by omega
   refine And.intro (by simp [rangeR]) ?_
   conv => whnf
   refine And.intro rfl ?_
   conv => whnf
   refine And.intro ⟨by simp, by omega⟩ ?_
   conv => whnf
   have er : AB.row 132 3 (List.replicate (k + 1) (home0 g)) = .row 132 3 (List.replicate k (home0 g) ++ [[AV.sl 1 j fun i => (rangeR j).getD i [], .v (.int .i64 (g.d + 1)), .v (.int .i64 0)]]) := by
    rw [List.replicate_succ', home0, ← ej]
   exact ⟨k + 1, by omega, by omega, (Wk.plain (by repeat' first | exact trivial | exact rfl | refine And.intro ?_ ?_ | exact wsucc (by omega) | exact er) (by repeat' first | exact trivial | exact rfl | refine And.intro ?_ ?_ | exact wsucc (by omega) | exact er) rfl rfl rfl)⟩
 ·refine And.intro (by simp) ?_
  conv => whnf
  have ek : k = g.z.toNat := by omega
  refine ⟨.ag (anC (firstA g s)), fun c u h => ?_, rfl⟩
  refine ag_sub ?_ c u h
  refine ⟨fun _ _ h => h, fun _ _ h => h, fun _ _ h => h, fun _ _ h => h, fun _ _ h => h, fun _ _ h => h, fun c u h => Rd.sub (by simp [firstA, ek]) (fun i hi => ?_) h, trivial⟩
  rw [firstA, List.getD_eq_getElem?_getD, List.getD_eq_getElem?_getD, List.getElem?_replicate_of_lt hi, List.getElem?_replicate_of_lt (by omega)]
  exact home0_sub g
theorem says_cell {g : Geo} {r : Rc} {copy slot : Int} (hg : okG g = true) (hok : okR g r = true) (hl : okL g copy slot = true) : saysR g ⟨0, cellB g r copy slot⟩ copy slot = some r := by
 have hb := logAt_bounds hg hl
 have hs := okR_seq hok
 have hn := recB_short hok
 obtain ⟨h1, h2, h3, h4⟩ := seal_open (a := logAt g copy slot) (s := r.seq) (p := recB r) ⟨hb.1, hb.2, hs.1, hs.2, by omega⟩
 unfold saysR
 rw [hg, hl]
 simp only [cellB, h1, h2, h3, h4, readR_recB hok]
 rfl
def an0 : An := ⟨0, 0, 0, 0, 0, ⟨#[]⟩, []⟩
def readAE (g : Geo) (b : List UInt8) : Int := if okG g = false then 1 else if (readA g b).isSome then 0 else 4
theorem an0_sub : SubL [.v (.int .i64 0), .v (.int .i64 0), .v (.int .i64 0), .v (.int .i64 0), .v (.int .i64 0), .v (.string ⟨#[]⟩), .v (.slice none 0 0)] (anC an0) :=
 ⟨fun _ _ h => h, fun _ _ h => h, fun _ _ h => h, fun _ _ h => h, fun _ _ h => h, fun _ _ h => h, nil_sl 3 _, trivial⟩
theorem an0_tp (e : Int) : ∀ (c : Ctx) (v : Value), Rd (.tp [.ag [.v (.int .i64 0), .v (.int .i64 0), .v (.int .i64 0), .v (.int .i64 0), .v (.int .i64 0), .v (.string ⟨#[]⟩), .v (.slice none 0 0)], .v (.int .i64 e)]) c v → Rd (.tp [.ag (anC an0), .v (.int .i64 e)]) c v :=
 tp_sub (m := [.ag (anC an0), .v (.int .i64 e)]) ⟨ag_sub an0_sub, fun _ _ h => h, trivial⟩
set_option maxRecDepth 100000 in
theorem aread_fn (g : Geo) (b : List UInt8) (hl : b.length ≤ 100000) : Fn Tryz.prog 209 [.ag (geoC g), bA b] fun r => r = .tp [.ag (anC (if okG g then (readA g b).getD an0 else an0)), .v (.int .i64 (readAE g b))] := by
 have hG : Fn Tryz.prog 46 [.ag (geoC g)] fun r => r = .v (errV (okG g)) := gcheck_fn g.z g.d g.sp g.sl g.an
 cases hg : okG g with
 | false =>
  rw [hg] at hG
  rw [show readAE g b = 1 by rw [readAE, if_pos hg]]
  refine Fn.of tys_ok Tryz.func209 rfl rfl (Nat.le_of_ble_eq_true rfl) ?_
  conv => whnf
  refine Fn.closed (hG) rfl ?_
  rintro _ rfl
  conv => whnf
  exact ⟨_, an0_tp 1, rfl⟩
 | true =>
  rw [hg] at hG
  obtain ⟨g1, g2, g3, g4, g5⟩ := okG_iff.1 hg
  have hE : ∀ (h : readA g b = none), (if true = true then (readA g b).getD an0 else an0) = an0 ∧ readAE g b = 4 := fun h => ⟨by rw [h]; rfl, by rw [readAE, if_neg (by rw [hg]; decide), h]; rfl⟩
  by_cases h17 : b.length < 17
  ·have hN : readA g b = none := by rw [readA, if_pos h17]
   have hu := unrow_no b szA (by decide) (by omega) (by decide) h17
   rw [(hE hN).1, (hE hN).2]
   refine Fn.of tys_ok Tryz.func209 rfl rfl (Nat.le_of_ble_eq_true rfl) ?_
   conv => whnf
   refine Fn.closed (hG) rfl ?_
   rintro _ rfl
   conv => whnf
   refine ACalls.shut hu.go ?_
   conv => whnf
   refine And.intro rfl ?_
   conv => whnf
   refine ACalls.sub [bA b, iA szA] ⟨fun _ _ h => h, (lit_ints (l := szA) rfl).1, trivial⟩ ?_
   refine Fn.closed (hu) rfl ?_
   rintro _ rfl
   conv => whnf
   exact ⟨_, an0_tp 4, rfl⟩
  ·have hu := unrowF_fn b szA (by decide) (by omega) (by decide) (by show 17 ≤ _; omega)
   rw [show tot szA = 17 from rfl] at hu
   have hr := lread_fn (b.drop 17) (by rw [List.length_drop]; omega)
   cases hL : labR (b.drop 17) with
   | none =>
    have hN : readA g b = none := by rw [readA, if_neg h17, hL]
    rw [labRV, hL] at hr
    rw [(hE hN).1, (hE hN).2]
    refine Fn.of tys_ok Tryz.func209 rfl rfl (Nat.le_of_ble_eq_true rfl) ?_
    conv => whnf
    refine Fn.closed (hG) rfl ?_
    rintro _ rfl
    conv => whnf
    refine ACalls.shut hu.go ?_
    conv => whnf
    refine And.intro rfl ?_
    conv => whnf
    refine ACalls.sub [bA b, iA szA] ⟨fun _ _ h => h, (lit_ints (l := szA) rfl).1, trivial⟩ ?_
    refine Fn.closed (hu) rfl ?_
    rintro _ rfl
    conv => whnf
    refine Fn.closed (hr) rfl ?_
    rintro _ rfl
    conv => whnf
    exact ⟨_, an0_tp 4, rfl⟩
   | some q =>
    obtain ⟨s, u⟩ := q
    obtain ⟨u1, u2, u3, u4⟩ := labR_some hL
    rw [labRV, hL] at hr
    simp only at hr
    have hlu : 17 + u ≤ b.length := by rw [List.length_drop] at u1; omega
    have hh := homes_fn g (b.drop (17 + u)) hg (by rw [List.length_drop]; omega)
    have hs24 := labE_len u4
    have hss : s.size = s.data.toList.length := rfl
    have hnl : (nums szA b).length = 5 := by rw [nums_len]; rfl
    have hdl : (b.drop (17 + u)).length = b.length - (17 + u) := List.length_drop ..
    have hLs : s.size ≤ 1000000 := by omega
    obtain ⟨A, hA⟩ : ∃ A, A = anOf (g.d.toNat + 1) g.z.toNat b s u := ⟨_, rfl⟩
    have hLA : A.label.size ≤ 1000000 := by rw [hA]; exact hLs
    by_cases hs : g.z.toNat * (g.d.toNat + 6) ≤ (b.drop (17 + u)).length
    ·rw [if_pos hs, if_pos hs] at hh
     have hHA : A.homes.length ≤ 1000000 := by
      rw [hA]; show (hmsOf (g.d.toNat + 1) g.z.toNat (b.drop (17 + u))).length ≤ _
      rw [hmsOf_len]; omega
     have hB := abytes_fn g A hLA hHA
     rw [hg, Bool.true_and] at hB
     have hR0 : readA g b = if b.length ≠ 17 + u + g.z.toNat * (g.d.toNat + 6) then none else if anOk g A then some A else none := by rw [readA, if_neg h17, hL, hA]
     cases hok : anOk g A with
     | false =>
      have hN : readA g b = none := by rw [hR0, hok]; split <;> rfl
      rw [hok, if_neg (by decide)] at hB
      rw [(hE hN).1, (hE hN).2]
      subst hA
      refine Fn.of tys_ok Tryz.func209 rfl rfl (Nat.le_of_ble_eq_true rfl) ?_
      conv => whnf
      refine Fn.closed (hG) rfl ?_
      rintro _ rfl
      conv => whnf
      refine ACalls.shut hu.go ?_
      conv => whnf
      refine And.intro rfl ?_
      conv => whnf
      refine ACalls.sub [bA b, iA szA] ⟨fun _ _ h => h, (lit_ints (l := szA) rfl).1, trivial⟩ ?_
      refine Fn.closed (hu) rfl ?_
      rintro _ rfl
      conv => whnf
      refine Fn.closed (hr) rfl ?_
      rintro _ rfl
      conv => whnf
      apply aDraw.treeK (0) tys_ok mixed (.one 0 (.one 1 (.one 2 (.one 3 (.one 4 (.one 5 (.one 6 (.one 7 (.one 8 (.one 9 .fin)))))))))) (by kernel_rfl)
      conv => whnf
      try (refine And.intro (by first | omega | (simp; done)) ?_; conv => whnf)
      (refine ACalls.sub [.ag (geoC g), bA (b.drop (17 + u))] ⟨fun _ _ h => h, fun c v h => (by rw [← List.drop_drop]; exact drop_sub (b := b.drop 17) (by rw [List.length_drop]; omega) c v h), trivial⟩ ?_; refine Fn.closed hh rfl ?_; rintro _ rfl)
      conv => whnf
      apply aDraw.treeK (0) tys_ok mixed (.one 0 (.one 1 (.one 2 (.one 3 (.one 4 (.one 5 (.one 6 (.one 7 (.one 8 (.one 9 (.one 10 (.one 11 (.one 12 (.one 13 (.one 14 (.one 15 (.one 16 (.one 17 (.one 18 (.one 19 .fin)))))))))))))))))))) (by kernel_rfl)
      conv => whnf
      try (refine And.intro (by first | omega | (simp; done)) ?_; conv => whnf)
      try (refine And.intro (by first | omega | (simp; done)) ?_; conv => whnf)
      try (refine And.intro (by first | omega | (simp; done)) ?_; conv => whnf)
      try (refine And.intro (by first | omega | (simp; done)) ?_; conv => whnf)
      try (refine And.intro (by first | omega | (simp; done)) ?_; conv => whnf)
      try (refine And.intro ⟨rfl, by first | rfl | (simp; done) | (simp; omega), by first | omega | (simp; omega)⟩ ?_; conv => whnf)
      refine Fn.closed (hB) rfl ?_
      rintro _ rfl
      conv => whnf
      exact ⟨_, an0_tp 4, rfl⟩
     | true =>
      rw [hok, if_pos rfl] at hB
      have hab : anB A = b.take (17 + u + g.z.toNat * (g.d.toNat + 6)) := by
       rw [hA, anB_anOf (g.d.toNat + 1) g.z.toNat b s u (by omega) hL (by show 17 + u + (g.d.toNat + 6) * g.z.toNat ≤ _; rw [Nat.mul_comm]; omega)]; show List.take (17 + u + (g.d.toNat + 6) * g.z.toNat) b = _; rw [Nat.mul_comm]
      have hq := equal_fn (anB A) b
      by_cases hlen : b.length = 17 + u + g.z.toNat * (g.d.toNat + 6)
      ·have hbb : anB A = b := by rw [hab, ← hlen, List.take_length]
       have hY : readA g b = some A := by rw [hR0, if_neg (by omega), hok]; rfl
       have hT := atwin_fn A (by have := hHA; rw [hA] at this ⊢; show (hmsOf (g.d.toNat + 1) g.z.toNat (b.drop (17 + u))).length ≤ _; rw [hmsOf_len]; omega) (fun x hx => by have := (hm_fit hg ((anBk_len hg hok 0 (Nat.zero_le _)).2.2.2.2 x hx)).1; omega)
       rw [show readAE g b = 0 by rw [readAE, if_neg (by rw [hg]; decide), hY]; rfl, hY]
       rw [decide_eq_true hbb] at hq
       subst hA
       refine Fn.of tys_ok Tryz.func209 rfl rfl (Nat.le_of_ble_eq_true rfl) ?_
       conv => whnf
       refine Fn.closed (hG) rfl ?_
       rintro _ rfl
       conv => whnf
       refine ACalls.shut hu.go ?_
       conv => whnf
       refine And.intro rfl ?_
       conv => whnf
       refine ACalls.sub [bA b, iA szA] ⟨fun _ _ h => h, (lit_ints (l := szA) rfl).1, trivial⟩ ?_
       refine Fn.closed (hu) rfl ?_
       rintro _ rfl
       conv => whnf
       refine Fn.closed (hr) rfl ?_
       rintro _ rfl
       conv => whnf
       apply aDraw.treeK (0) tys_ok mixed (.one 0 (.one 1 (.one 2 (.one 3 (.one 4 (.one 5 (.one 6 (.one 7 (.one 8 (.one 9 .fin)))))))))) (by kernel_rfl)
       conv => whnf
       try (refine And.intro (by first | omega | (simp; done)) ?_; conv => whnf)
       (refine ACalls.sub [.ag (geoC g), bA (b.drop (17 + u))] ⟨fun _ _ h => h, fun c v h => (by rw [← List.drop_drop]; exact drop_sub (b := b.drop 17) (by rw [List.length_drop]; omega) c v h), trivial⟩ ?_; refine Fn.closed hh rfl ?_; rintro _ rfl)
       conv => whnf
       apply aDraw.treeK (0) tys_ok mixed (.one 0 (.one 1 (.one 2 (.one 3 (.one 4 (.one 5 (.one 6 (.one 7 (.one 8 (.one 9 (.one 10 (.one 11 (.one 12 (.one 13 (.one 14 (.one 15 (.one 16 (.one 17 (.one 18 (.one 19 .fin)))))))))))))))))))) (by kernel_rfl)
       conv => whnf
       try (refine And.intro (by first | omega | (simp; done)) ?_; conv => whnf)
       try (refine And.intro (by first | omega | (simp; done)) ?_; conv => whnf)
       try (refine And.intro (by first | omega | (simp; done)) ?_; conv => whnf)
       try (refine And.intro (by first | omega | (simp; done)) ?_; conv => whnf)
       try (refine And.intro (by first | omega | (simp; done)) ?_; conv => whnf)
       try (refine And.intro ⟨rfl, by first | rfl | (simp; done) | (simp; omega), by first | omega | (simp; omega)⟩ ?_; conv => whnf)
       refine Fn.closed (hB) rfl ?_
       rintro _ rfl
       conv => whnf
       refine Fn.closed (hq) rfl ?_
       rintro _ rfl
       conv => whnf
       refine Fn.closed (hT) rfl ?_
       rintro _ rfl
       conv => whnf
       exact ⟨_, fun _ _ h => h, rfl⟩
      ·have hbb : anB A ≠ b := fun h => hlen (by rw [← h, hab, List.length_take]; omega)
       have hN : readA g b = none := by rw [hR0, if_pos hlen]
       rw [decide_eq_false hbb] at hq
       rw [(hE hN).1, (hE hN).2]
       subst hA
       refine Fn.of tys_ok Tryz.func209 rfl rfl (Nat.le_of_ble_eq_true rfl) ?_
       conv => whnf
       refine Fn.closed (hG) rfl ?_
       rintro _ rfl
       conv => whnf
       refine ACalls.shut hu.go ?_
       conv => whnf
       refine And.intro rfl ?_
       conv => whnf
       refine ACalls.sub [bA b, iA szA] ⟨fun _ _ h => h, (lit_ints (l := szA) rfl).1, trivial⟩ ?_
       refine Fn.closed (hu) rfl ?_
       rintro _ rfl
       conv => whnf
       refine Fn.closed (hr) rfl ?_
       rintro _ rfl
       conv => whnf
       apply aDraw.treeK (0) tys_ok mixed (.one 0 (.one 1 (.one 2 (.one 3 (.one 4 (.one 5 (.one 6 (.one 7 (.one 8 (.one 9 .fin)))))))))) (by kernel_rfl)
       conv => whnf
       try (refine And.intro (by first | omega | (simp; done)) ?_; conv => whnf)
       (refine ACalls.sub [.ag (geoC g), bA (b.drop (17 + u))] ⟨fun _ _ h => h, fun c v h => (by rw [← List.drop_drop]; exact drop_sub (b := b.drop 17) (by rw [List.length_drop]; omega) c v h), trivial⟩ ?_; refine Fn.closed hh rfl ?_; rintro _ rfl)
       conv => whnf
       apply aDraw.treeK (0) tys_ok mixed (.one 0 (.one 1 (.one 2 (.one 3 (.one 4 (.one 5 (.one 6 (.one 7 (.one 8 (.one 9 (.one 10 (.one 11 (.one 12 (.one 13 (.one 14 (.one 15 (.one 16 (.one 17 (.one 18 (.one 19 .fin)))))))))))))))))))) (by kernel_rfl)
       conv => whnf
       try (refine And.intro (by first | omega | (simp; done)) ?_; conv => whnf)
       try (refine And.intro (by first | omega | (simp; done)) ?_; conv => whnf)
       try (refine And.intro (by first | omega | (simp; done)) ?_; conv => whnf)
       try (refine And.intro (by first | omega | (simp; done)) ?_; conv => whnf)
       try (refine And.intro (by first | omega | (simp; done)) ?_; conv => whnf)
       try (refine And.intro ⟨rfl, by first | rfl | (simp; done) | (simp; omega), by first | omega | (simp; omega)⟩ ?_; conv => whnf)
       refine Fn.closed (hB) rfl ?_
       rintro _ rfl
       conv => whnf
       refine Fn.closed (hq) rfl ?_
       rintro _ rfl
       conv => whnf
       exact ⟨_, an0_tp 4, rfl⟩
    ·rw [if_neg hs, if_neg hs] at hh
     have hB := abytes_fn g { anOf (g.d.toNat + 1) g.z.toNat b s u with homes := [] } hLs (by simp)
     rw [hg, Bool.true_and] at hB
     have hN : readA g b = none := by rw [readA, if_neg h17, hL]; exact if_pos (by omega)
     rw [(hE hN).1, (hE hN).2]
     refine Fn.of tys_ok Tryz.func209 rfl rfl (Nat.le_of_ble_eq_true rfl) ?_
     conv => whnf
     refine Fn.closed (hG) rfl ?_
     rintro _ rfl
     conv => whnf
     refine ACalls.shut hu.go ?_
     conv => whnf
     refine And.intro rfl ?_
     conv => whnf
     refine ACalls.sub [bA b, iA szA] ⟨fun _ _ h => h, (lit_ints (l := szA) rfl).1, trivial⟩ ?_
     refine Fn.closed (hu) rfl ?_
     rintro _ rfl
     conv => whnf
     refine Fn.closed (hr) rfl ?_
     rintro _ rfl
     conv => whnf
     apply aDraw.treeK (0) tys_ok mixed (.one 0 (.one 1 (.one 2 (.one 3 (.one 4 (.one 5 (.one 6 (.one 7 (.one 8 (.one 9 .fin)))))))))) (by kernel_rfl)
     conv => whnf
     try (refine And.intro (by first | omega | (simp; done)) ?_; conv => whnf)
     (refine ACalls.sub [.ag (geoC g), bA (b.drop (17 + u))] ⟨fun _ _ h => h, fun c v h => (by rw [← List.drop_drop]; exact drop_sub (b := b.drop 17) (by rw [List.length_drop]; omega) c v h), trivial⟩ ?_; refine Fn.closed hh rfl ?_; rintro _ rfl)
     conv => whnf
     apply aDraw.treeK (0) tys_ok mixed (.one 0 (.one 1 (.one 2 (.one 3 (.one 4 (.one 5 (.one 6 (.one 7 (.one 8 (.one 9 (.one 10 (.one 11 (.one 12 (.one 13 (.one 14 (.one 15 (.one 16 (.one 17 (.one 18 (.one 19 .fin)))))))))))))))))))) (by kernel_rfl)
     conv => whnf
     try (refine And.intro (by first | omega | (simp; done)) ?_; conv => whnf)
     try (refine And.intro (by first | omega | (simp; done)) ?_; conv => whnf)
     try (refine And.intro (by first | omega | (simp; done)) ?_; conv => whnf)
     try (refine And.intro (by first | omega | (simp; done)) ?_; conv => whnf)
     try (refine And.intro (by first | omega | (simp; done)) ?_; conv => whnf)
     try (refine And.intro ⟨rfl, by first | rfl | (simp; done) | (simp; omega), by first | omega | (simp; omega)⟩ ?_; conv => whnf)
     refine Fn.closed (hB) rfl ?_
     rintro _ rfl
     conv => whnf
     exact ⟨_, an0_tp 4, rfl⟩
def zero8 : List UInt8 := [0, 0, 0, 0, 0, 0, 0, 0]
def ent0 : Ent := ⟨0, (sumC zero8 : Nat), false⟩
def tab0 (g : Geo) : List Ent := List.replicate (g.d + 1).toNat ent0
theorem entry_fn (stamp : Int) (b : List UInt8) : Fn Tryz.prog 149 [.v (.int .i64 stamp), bA b] fun r => r = .ag (entC ⟨stamp, (sumC b : Nat), false⟩) := by
 refine Fn.of tys_ok Tryz.func149 rfl rfl (Nat.le_of_ble_eq_true rfl) ?_
 conv => whnf
 repeat' (first | (refine aSeq.go ?_; conv => whnf) | (refine boolI (fun _ => ?_) (fun _ => ?_) <;> conv => whnf) | (refine Fn.closed (rsum_br b) rfl ?_; rintro _ rfl; conv => whnf) | (refine And.intro (by first | omega | exact of_decide_eq_true rfl) ?_; conv => whnf) | fail)
 exact ⟨_, fun _ _ h => h, rfl⟩
def bv (l : List Ent) : Nat → AV
 | 0 => .v (.slice none 0 0)
 | k + 1 => bA (tblB (l.take (k + 1)))
theorem tabB_fn (l : List Ent) (hl : l.length ≤ 1000) (hb : ∀ e ∈ l, (0 ≤ e.stamp ∧ e.stamp ≤ 4294967295) ∧ 0 ≤ e.sum ∧ e.sum ≤ 4294967295) : Fn Tryz.prog 81 [.ag [entsA l]] fun r => r = bA (tblB l) := by
 refine Fn.of tys_ok Tryz.func81 rfl rfl (Nat.le_of_ble_eq_true rfl) ?_
 conv => whnf
 refine aLoop.rule Nat (fun k => ([(1, .bp 0 0), (3, bv l k), (4, .v (.int .i64 k))], [.box 147 [entsA l]])) (fun k => k ≤ l.length) (fun k => l.length - k) 0 (Nat.zero_le _) ⟨[], trivial, ⟨rfl, rfl, rfl, trivial⟩, ⟨rfl, trivial⟩, rfl, rfl, rfl⟩ ?_
 intro k hk
 conv => whnf
 refine boolI (fun c1 => ?_) (fun c1 => ?_) <;> (repeat rw [Int.toNat_natCast] at c1) <;> conv => whnf
 ·have he := hb _ (getD_mem (d := ⟨0, 0, false⟩) c1)
  refine aSeq.go ?_
  conv => whnf
  refine ⟨by first | omega | (refine ⟨rfl, ?_, ?_⟩ <;> first | omega | (simp only [List.length_map]; done) | (simp only [List.length_map]; omega)) | (simp only [List.length_map]; omega), ?_⟩
  conv => whnf
  have hlt : (tblB (l.take k)).length ≤ 9000 := by rw [tblB_len, List.length_take]; omega
  have p1 := rput_int (tblB (l.take k)) (l.getD k ⟨0, 0, false⟩).stamp 4 (by omega) he.1 (by decide)
  have p2 := rput_int (tblB (l.take k) ++ leB 4 (l.getD k ⟨0, 0, false⟩).stamp.toNat) (l.getD k ⟨0, 0, false⟩).sum 4 (by rw [List.length_append, leB_len]; omega) he.2 (by decide)
  have p3 := rput_int (tblB (l.take k) ++ leB 4 (l.getD k ⟨0, 0, false⟩).stamp.toNat ++ leB 4 (l.getD k ⟨0, 0, false⟩).sum.toNat) (lostN (l.getD k ⟨0, 0, false⟩).lost) 1 (by rw [List.length_append, List.length_append, leB_len, leB_len]; omega) (by unfold lostN; split <;> omega) (by decide)
  have hst : bv l (k + 1) = bA (tblB (l.take k) ++ leB 4 (l.getD k ⟨0, 0, false⟩).stamp.toNat ++ leB 4 (l.getD k ⟨0, 0, false⟩).sum.toNat ++ leB 1 (lostN (l.getD k ⟨0, 0, false⟩).lost).toNat) := by
   rw [bv, tblB_step c1, entB]
   rw [List.getD_eq_getElem?_getD, List.getElem?_eq_getElem c1]
   simp [rowB, List.append_assoc]
  obtain ⟨L, hLe⟩ : ∃ L, (l.getD k ⟨0, 0, false⟩).lost = L := ⟨_, rfl⟩
  rw [hLe] at p3 hst
  rcases k with _ | k
  all_goals
   refine aDraw.of tys_ok mixed [0, 1, 2, 4, 5, 3, 6, 7] (by kernel_rfl) ?_
   conv => whnf
   refine ACalls.sub _ ?_ (Fn.closed (p1) rfl ?_)
   ·repeat' (first | exact trivial | exact fun _ _ h => h | exact nil_sl _ _ | refine And.intro ?_ ?_ | refine ag_sub ?_)
   rintro _ rfl
   conv => whnf
   refine ACalls.sub _ ?_ (Fn.closed (p2) rfl ?_)
   ·repeat' (first | exact trivial | exact fun _ _ h => h | exact nil_sl _ _ | refine And.intro ?_ ?_ | refine ag_sub ?_)
   rintro _ rfl
   conv => whnf
   refine aSeq.go ?_
   conv => whnf
   rw [Int.toNat_natCast, hLe]
   cases L
  all_goals
   conv => whnf
   refine Fn.closed (p3) rfl ?_
   rintro _ rfl
   conv => whnf
   refine ⟨_, by omega, by omega, [], trivial, ⟨rfl, hst.symm, wsucc (by omega), trivial⟩, ⟨rfl, trivial⟩, rfl, rfl, rfl⟩
 ·have ek : k = l.length := by omega
  rcases k with _ | k
  ·have e : l = [] := List.length_eq_zero_iff.1 ek.symm
   subst e
   conv => whnf
   exact ⟨bA (tblB []), nil_sl 1 _, rfl⟩
  ·conv => whnf
   exact ⟨_, fun _ _ h => h, by rw [ek, List.take_length]; rfl⟩
theorem tab0_fn (g : Geo) (hg : okG g = true) : Fn Tryz.prog 82 [.ag (geoC g)] fun r => r = .ag [entsA (tab0 g)] := by
 obtain ⟨h1, h2, h3, h4, h5⟩ := okG_iff.1 hg
 refine Fn.of tys_ok Tryz.func82 rfl rfl (Nat.le_of_ble_eq_true rfl) ?_
 conv => whnf
 have w1 : IntKind.i64.wrap (g.d + 1) = g.d + 1 := by rw [IntKind.wrap_i64]; omega
 refine aLoop.rule Nat (fun k => ([(1, .bp 0 0), (2, .bp 1 0), (3, .bp 2 0), (4, .v (.int .i64 k))], [.box 23 (geoC g), .box 147 [.v (.slice none 0 0)], .box 147 [.ow 3 k], .row 200 3 ((List.replicate k ent0).map entC)])) (fun k => (k : Int) ≤ g.d + 1) (fun k => (g.d + 1 - k).toNat) 0 (show (0 : Int) ≤ g.d + 1 by omega) ⟨[(1002000, 200, 3)], ⟨rfl, rfl, trivial⟩, ⟨rfl, rfl, rfl, rfl, trivial⟩, ⟨rfl, rfl, rfl, rfl, trivial⟩, rfl, rfl, rfl⟩ ?_
 intro k hk
 conv => whnf
 refine boolI (fun c1 => ?_) (fun c1 => ?_) <;> (repeat rw [Int.toNat_natCast] at c1) <;> conv => whnf
 ·refine aDraw.of tys_ok mixed [0, 1, 2, 3, 4, 5, 6, 7] (by kernel_rfl) ?_
  conv => whnf
  repeat' (refine And.intro (by first | omega | exact of_decide_eq_true rfl) ?_; conv => whnf)
  have e0 := entry_fn 0 zero8
  refine ACalls.shut (e0).go ?_
  conv => whnf
  repeat' (refine And.intro (by first | rfl | omega | (simp; done) | (simp only [List.length_map]; omega)) ?_; conv => whnf)
  refine ACalls.sub _ ?_ (Fn.closed (e0) rfl ?_)
  ·repeat' (first | exact trivial | exact fun _ _ h => h | exact nil_sl _ _ | exact bytes_sub zero8 rfl rfl | refine And.intro ?_ ?_ | refine ag_sub ?_)
  rintro _ rfl
  conv => whnf
  repeat' (first | (refine And.intro (by first | rfl | omega) ?_; conv => whnf) | fail)
  refine And.intro ⟨by rw [List.length_map, List.length_replicate], by omega⟩ ?_
  conv => whnf
  exact ⟨k + 1, by omega, by omega, [], trivial, ⟨rfl, rfl, rfl, wsucc (by omega), trivial⟩, ⟨rfl, rfl, rfl, by rw [List.replicate_succ', List.map_append]; rfl, trivial⟩, rfl, rfl, rfl⟩
 ·refine And.intro (by rw [List.length_map, List.length_replicate]) ?_
  conv => whnf
  have ek : k = (g.d + 1).toNat := by omega
  refine ⟨.ag [entsA (tab0 g)], ag_sub ⟨row_sub (tab0 g) ?_ ?_, trivial⟩, rfl⟩
  ·rw [tab0, List.length_replicate, ek]
  ·rw [tab0, ek]
theorem firstA_fit (g : Geo) (s : ByteArray) {n : Nat} (hn : n = g.z.toNat) : SubL [.v (.int .i64 1), .v (.int .i64 0), .v (.int .i64 0), .v (.int .i64 1), .v (.int .i64 0), .v (.string s), .sl 3 n fun i => (List.replicate n (home0 g)).getD i []] (anC (firstA g s)) := by
 refine ⟨fun _ _ h => h, fun _ _ h => h, fun _ _ h => h, fun _ _ h => h, fun _ _ h => h, fun _ _ h => h, fun c u h => Rd.sub (by simp [firstA, hn]) (fun i hi => ?_) h, trivial⟩
 rw [firstA, List.getD_eq_getElem?_getD, List.getD_eq_getElem?_getD, List.getElem?_replicate_of_lt hi, List.getElem?_replicate_of_lt (by omega)]
 exact home0_sub g
set_option maxRecDepth 100000 in
theorem afirst_fn (g : Geo) (s : ByteArray) (hs : s.size ≤ 1000000) : Fn Tryz.prog 63 [.ag (geoC g), .v (.string s)] fun r => r = .tp [.ag (anC (if okG g then if labE s.data.toList = 0 then firstA g s else an0 else an0)), .v (.int .i64 (if okG g then labE s.data.toList else 1))] := by
 have hG : Fn Tryz.prog 46 [.ag (geoC g)] fun r => r = .v (errV (okG g)) := gcheck_fn g.z g.d g.sp g.sl g.an
 cases hg : okG g with
 | false =>
  rw [hg] at hG
  refine Fn.of tys_ok Tryz.func63 rfl rfl (Nat.le_of_ble_eq_true rfl) ?_
  conv => whnf
  refine Fn.closed (hG) rfl ?_
  rintro _ rfl
  conv => whnf
  exact ⟨_, an0_tp 1, rfl⟩
 | true =>
  rw [hg] at hG
  obtain ⟨h1, h2, h3, h4, h5⟩ := okG_iff.1 hg
  have hL := lcheckA_fn s hs
  by_cases hl : labE s.data.toList = 0
  ·rw [hl] at hL
   rw [if_pos rfl, if_pos hl, if_pos rfl, hl]
   have w1 : IntKind.i64.wrap (g.d + 1) = g.d + 1 := wi (by omega)
   refine Fn.of tys_ok Tryz.func63 rfl rfl (Nat.le_of_ble_eq_true rfl) ?_
   conv => whnf
   refine Fn.closed (hG) rfl ?_
   rintro _ rfl
   conv => whnf
   refine Fn.closed (hL) rfl ?_
   rintro _ rfl
   conv => whnf
   refine aLoop.rule Nat (fun k => ([(2, .bp 0 0), (4, .bp 1 0), (7, .bp 2 0), (23, .v (.int .i64 g.z)), (24, .v (.int .i64 k))], [.box 23 (geoC g), .box 40 [.v (.int .i64 0), .v (.int .i64 0), .v (.int .i64 0), .v (.int .i64 0), .v (.int .i64 0), .v (.string ⟨#[]⟩), .v (.slice none 0 0)], .box 40 [.v (.int .i64 1), .v (.int .i64 0), .v (.int .i64 0), .v (.int .i64 1), .v (.int .i64 0), .v (.string s), .ow 3 k], .row 132 3 (List.replicate k (home0 g))])) (fun k => k ≤ g.z.toNat) (fun k => g.z.toNat - k) 0 (Nat.zero_le _) ⟨[(1002006, 132, 3)], ⟨rfl, rfl, trivial⟩, ⟨rfl, rfl, rfl, rfl, rfl, trivial⟩, ⟨rfl, rfl, rfl, rfl, trivial⟩, rfl, rfl, rfl⟩ ?_
   intro k hk
   conv => whnf
   refine boolI (fun t1 => ?_) (fun t1 => ?_) <;> (repeat rw [Int.toNat_natCast] at t1) <;> conv => whnf
   ·refine aLoop.rule Nat (fun j => ([(2, .bp 0 0), (4, .bp 1 0), (7, .bp 2 0), (8, .bp 4 0), (23, .v (.int .i64 g.z)), (24, .v (.int .i64 k)), (32, .v (.int .i64 (g.d + 1))), (33, .v (.int .i64 j))], [.box 23 (geoC g), .box 40 [.v (.int .i64 0), .v (.int .i64 0), .v (.int .i64 0), .v (.int .i64 0), .v (.int .i64 0), .v (.string ⟨#[]⟩), .v (.slice none 0 0)], .box 40 [.v (.int .i64 1), .v (.int .i64 0), .v (.int .i64 0), .v (.int .i64 1), .v (.int .i64 0), .v (.string s), .ow 3 k], .row 132 3 (List.replicate k (home0 g)), .box 132 [.ow 5 j, .v (.int .i64 (g.d + 1)), .v (.int .i64 0)], .row 3 1 (rangeR j)])) (fun j => j ≤ (g.d + 1).toNat) (fun j => (g.d + 1).toNat - j) 0 (Nat.zero_le _) ⟨[(1004000, 3, 1)], ⟨rfl, rfl, trivial⟩, ⟨rfl, rfl, rfl, rfl, rfl, rfl, congrArg (fun x => AV.v (Value.int IntKind.i64 x)) w1, rfl, trivial⟩, ⟨rfl, rfl, rfl, rfl, by rw [w1]; rfl, rfl, trivial⟩, rfl, rfl, rfl⟩ ?_
    intro j hj
    conv => whnf
    refine boolI (fun t2 => ?_) (fun t2 => ?_) <;> (repeat rw [Int.toNat_natCast] at t2) <;> conv => whnf
    ·refine And.intro rfl ?_
     conv => whnf
     refine And.intro ⟨by simp [rangeR], by omega⟩ ?_
     conv => whnf
     exact ⟨j + 1, by omega, by omega, (Wk.plain (by repeat' first | exact trivial | exact rfl | refine And.intro ?_ ?_ | exact wsucc (by omega) | exact congrArg (AB.row _ _) (rangeR_succ j)) (by repeat' first | exact trivial | exact rfl | refine And.intro ?_ ?_ | exact wsucc (by omega) | exact congrArg (AB.row _ _) (rangeR_succ j)) rfl rfl rfl)⟩
    ·have ej : j = (g.d + 1).toNat := by omega
     refine And.intro (by simp [rangeR]) ?_
     conv => whnf
     refine And.intro rfl ?_
     conv => whnf
     refine And.intro ⟨by simp, by omega⟩ ?_
     conv => whnf
     have er : AB.row 132 3 (List.replicate (k + 1) (home0 g)) = .row 132 3 (List.replicate k (home0 g) ++ [[AV.sl 1 j fun i => (rangeR j).getD i [], .v (.int .i64 (g.d + 1)), .v (.int .i64 0)]]) := by
      rw [List.replicate_succ', home0, ← ej]
     exact ⟨k + 1, by omega, by omega, (Wk.plain (by repeat' first | exact trivial | exact rfl | refine And.intro ?_ ?_ | exact wsucc (by omega) | exact er) (by repeat' first | exact trivial | exact rfl | refine And.intro ?_ ?_ | exact wsucc (by omega) | exact er) rfl rfl rfl)⟩
   ·refine And.intro (by simp) ?_
    conv => whnf
    exact ⟨.tp [.ag (anC (firstA g s)), .v (.int .i64 0)], tp_sub ⟨ag_sub (firstA_fit g s (by omega)), fun _ _ h => h, trivial⟩, rfl⟩
  ·obtain ⟨e0, he0⟩ : ∃ e0, labE s.data.toList = e0 := ⟨_, rfl⟩
   rw [he0] at hL hl
   rw [if_pos rfl, if_neg (by rw [he0]; exact hl), if_pos rfl, he0]
   have hb : (e0 != 0) = true := bne_iff_ne.2 hl
   refine Fn.of tys_ok Tryz.func63 rfl rfl (Nat.le_of_ble_eq_true rfl) ?_
   conv => whnf
   refine Fn.closed (hG) rfl ?_
   rintro _ rfl
   conv => whnf
   refine Fn.closed (hL) rfl ?_
   rintro _ rfl
   conv => whnf
   rw [hb]
   conv => whnf
   exact ⟨_, an0_tp e0, rfl⟩
theorem rep_ents (n : Nat) : List.replicate n (entC ent0) = (List.replicate n ent0).map entC := by simp
theorem getD_rep {α : Type} {n i : Nat} {a d : α} (h : i < n) : (List.replicate n a).getD i d = a := by rw [List.getD_eq_getElem?_getD, List.getElem?_replicate_of_lt h]; rfl
theorem zero8_get {i : Nat} (h : i < 8) : zero8.getD i 0 = 0 := by
 have : i = 0 ∨ i = 1 ∨ i = 2 ∨ i = 3 ∨ i = 4 ∨ i = 5 ∨ i = 6 ∨ i = 7 := by omega
 rcases this with rfl | rfl | rfl | rfl | rfl | rfl | rfl | rfl <;> rfl
set_option maxRecDepth 100000 in
theorem tfirst_fn (g : Geo) (hg : okG g = true) : Fn Tryz.prog 70 [.ag (geoC g)] fun r => r = .tp [.ag [entsA (tab0 g)], .v (.int .i64 0)] := by
 have hG : Fn Tryz.prog 46 [.ag (geoC g)] fun r => r = .v (errV (okG g)) := gcheck_fn g.z g.d g.sp g.sl g.an
 rw [hg] at hG
 obtain ⟨h1, h2, h3, h4, h5⟩ := okG_iff.1 hg
 have w1 : IntKind.i64.wrap (g.d + 1) = ((g.d + 1).toNat : Int) := by rw [wi (by omega)]; omega
 have hS := sumOf_fn zero8
 refine Fn.of tys_ok Tryz.func70 rfl rfl (Nat.le_of_ble_eq_true rfl) ?_
 conv => whnf
 refine Fn.closed (hG) rfl ?_
 rintro _ rfl
 conv => whnf
 refine And.intro ⟨rfl, by decide, by decide⟩ ?_
 conv => whnf
 refine ACalls.shut hS.go ?_
 conv => whnf
 refine And.intro rfl ?_
 conv => whnf
 refine ACalls.sub [bA zero8] ⟨fun c v h => Rd.congr rfl (fun i hi => ?_) h, trivial⟩ ?_
 ·have hi' : i < 8 := hi
  rw [getD_rep (by exact hi'), zero8_get hi']; rfl
 refine Fn.closed (hS) rfl ?_
 rintro _ rfl
 conv => whnf
 rw [w1]
 have hr := repE_own (g.d + 1).toNat (by omega) 0 (sumC zero8 : Nat) false (fun i => [entC ent0].getD i []) rfl
 refine ACalls.shut hr.go ?_
 conv => whnf
 refine And.intro rfl ?_
 conv => whnf
 refine ACalls.beside hr rfl ?_
 rintro _ _ ⟨rfl, rfl⟩
 conv => whnf
 refine And.intro (by simp) ?_
 conv => whnf
 exact ⟨.tp [.ag [entsA (tab0 g)], .v (.int .i64 0)], tp_sub ⟨ag_sub ⟨row_sub (f := entC) (tab0 g) (by simp [tab0]) (rep_ents _), trivial⟩, fun _ _ h => h, trivial⟩, rfl⟩
structure Stt where
 a : An
 txns : List Tx
 only : Bool
 cursor : Int
 found : Int
 fixed : Int
 moved : Int
 lost : List Int
 deriving DecidableEq
def stC (s : Stt) : List AV := [.v (.int .i64 s.a.gen), .v (.int .i64 s.a.epoch), .v (.int .i64 s.a.pos), .v (.int .i64 s.a.seq), .v (.int .i64 s.a.last), .v (.string s.a.label), hmsA s.a.homes, txsA s.txns, .v (.bool s.only), .v (.int .i64 s.cursor), .v (.int .i64 s.found), .v (.int .i64 s.fixed), .v (.int .i64 s.moved), iA s.lost]
def st0 : Stt := ⟨an0, [], false, 0, 0, 0, 0, []⟩
@[reducible] def bwC (g : Geo) (x : AV) (s : Stt) : List AV := [.v (.int .i64 g.z), .v (.int .i64 g.d), .v (.int .i64 g.sp), .v (.int .i64 g.sl), .v (.int .i64 g.an), x, .v (.int .i64 s.a.gen), .v (.int .i64 s.a.epoch), .v (.int .i64 s.a.pos), .v (.int .i64 s.a.seq), .v (.int .i64 s.a.last), .v (.string s.a.label), hmsA s.a.homes, txsA s.txns, .v (.bool s.only), .v (.int .i64 s.cursor), .v (.int .i64 s.found), .v (.int .i64 s.fixed), .v (.int .i64 s.moved), iA s.lost]
@[reducible] def bwH (g : Geo) (s : Stt) (d : Dk) : List AB := [.box 116 (bwC g (.bp 1 0) s), .box 164 (dkX (.ow 2 d.cells.length) (.ow 3 d.cache.length) d.reqs d.left), .row 87 3 (d.cells.map celC), .row 130 2 (d.cache.map wrC)]
@[reducible] def bwG (g : Geo) (s : Stt) (d : Dk) : List AB := [.box 116 (bwC g (.bp 1 0) s), .box 164 (dkX (.ow 2 d.cells.length) (.ow 4 d.cache.length) d.reqs d.left), .row 87 3 (d.cells.map celC), .dead, .row 130 2 (d.cache.map wrC)]
theorem bwG_of (g : Geo) (s : Stt) (d : Dk) : ConvH (bwH g s d) (bwG g s d) := ConvH.move (H := bwH g s d) 1 3 (by decide) rfl rfl
theorem lt123 {m : Nat} (h : Nat.ble 4 m = true) : ∀ z ∈ [1, 2, 3], z < m := fun z hz => by
 have := Nat.le_of_ble_eq_true h
 simp at hz
 omega
theorem lt0123 {m : Nat} (h : Nat.ble 4 m = true) : ∀ z ∈ [0, 1, 2, 3], z < m := fun z hz => by
 have := Nat.le_of_ble_eq_true h
 simp at hz
 omega
set_option maxRecDepth 100000 in
theorem got_fn (g : Geo) (s : Stt) (d : Dk) (a : Int) (h : DkOk d) (ha : 0 ≤ a ∧ a < d.cells.length) :
  ACalls Tryz.prog false 167 [.bp 0 0, .v (.int .i64 a)] (bwH g s d) fun r H => r = .ag (gotC ⟨(d.read a).2.2, (d.read a).2.1⟩) ∧ H = bwH g s (d.read a).1 := by
 have hr := dread_fn bclone_fn d a h.l ha h.m (fun c hc => by have := (h.c c hc).2.1; omega) (fun w hw => by have := (h.w w hw).2; omega)
 refine ACalls.ofR tys_ok Tryz.func167 rfl rfl (Nat.le_of_ble_eq_true rfl) ?_
 conv => whnf
 refine ACalls.frame [1, 2, 3] hr rfl rfl rfl rfl (by decide) (lt123 rfl) ⟨rfl, rfl, rfl, trivial⟩ ?_
 rintro _ _ ⟨rfl, rfl⟩
 conv => whnf
 exact ⟨_, .ag (gotC ⟨(d.read a).2.2, (d.read a).2.1⟩), bwH g s (d.read a).1, fun _ _ h => h, WkN.r (s := [0, 1, 2, 3]) ⟨⟨rfl, trivial⟩, ⟨rfl, rfl, rfl, rfl, trivial⟩, rfl, rfl, rfl, rfl, rfl⟩, rfl, rfl⟩
set_option maxRecDepth 100000 in
theorem cell_fn (g : Geo) (s : Stt) (d : Dk) (a : Int) (b : List UInt8) (h : DkOk d) (ha : 0 ≤ a ∧ a < d.cells.length) (hb : b.length ≤ 200) :
  ACalls Tryz.prog false 145 [.bp 0 0, .v (.int .i64 a), bA b] (bwH g s d) fun r H => r = .tp [.v (.bool (decide ((d.write a b).2 = 0))), .v (.int .i64 (if (d.write a b).2 = 8 then 8 else 0))] ∧ H = bwH g s (d.write a b).1 := by
 have hr := dwrite_fn bclone_fn d a b h.l ha h.m (by omega)
 have he : (d.write a b).2 = 8 ∨ (d.write a b).2 = 7 ∨ (d.write a b).2 = 0 := by
  unfold Dk.write; split
  ·exact .inl rfl
  ·split
   ·exact .inr (.inl rfl)
   ·exact .inr (.inr rfl)
 generalize d.write a b = q at hr he ⊢
 obtain ⟨d', e⟩ := q
 simp only at hr he ⊢
 refine ACalls.ofR tys_ok Tryz.func145 rfl rfl (Nat.le_of_ble_eq_true rfl) ?_
 conv => whnf
 refine ACalls.frame [1, 2, 3] hr rfl rfl rfl rfl (by decide) (lt123 rfl) ⟨rfl, rfl, rfl, trivial⟩ ?_
 rintro _ _ ⟨rfl, rfl⟩
 rcases he with rfl | rfl | rfl
 all_goals
  conv => whnf
  exact ⟨_, _, bwH g s d', fun _ _ h => h, WkN.r (s := [0, 1, 2, 3]) ⟨⟨rfl, trivial⟩, ⟨rfl, rfl, rfl, rfl, trivial⟩, rfl, rfl, rfl, rfl, rfl⟩, rfl, rfl⟩
@[reducible] def bwE (g : Geo) (s : Stt) (d : Dk) (l : List AB) : List AB := .box 116 (bwC g (.bp 1 0) s) :: .box 164 (dkX (.ow 2 d.cells.length) (.ow 3 d.cache.length) d.reqs d.left) :: .row 87 3 (d.cells.map celC) :: .row 130 2 (d.cache.map wrC) :: l
def gotsD (d : Dk) (ats : List Int) : List Gt := ats.map (gotG d)
def anAts (g : Geo) : List Int := (List.range g.an.toNat).map Int.ofNat
theorem read_live {d : Dk} {k : Nat} (a : Int) (h : ¬ (d.adv k).left = 0) : (d.adv k).read a = (d.adv (k + 1), d.got a) := by
 rw [Dk.read, if_neg h, adv_succ k d h, adv_got]
theorem read_dead {d : Dk} {k : Nat} (a : Int) (h : (d.adv k).left = 0) : (d.adv k).read a = (d.adv k, [], 8) := by rw [Dk.read, if_pos h]
theorem gotsD_snoc {d : Dk} {ats : List Int} {k : Nat} (h : k < ats.length) : (gotsD d (ats.take (k + 1))).map gotC = (gotsD d (ats.take k)).map gotC ++ [gotC (gotG d (ats.getD k 0))] := by
 rw [gotsD, gotsD, List.take_succ_eq_append_getElem h, List.map_append, List.map_append, List.getD_eq_getElem?_getD, List.getElem?_eq_getElem h]; rfl
theorem anAts_len (g : Geo) : (anAts g).length = g.an.toNat := by simp [anAts]
theorem anAts_get {g : Geo} {k : Nat} (h : k < g.an.toNat) : (anAts g).getD k 0 = k := by
 rw [anAts, map_getD (d := 0) (by simpa using h), List.getD_eq_getElem?_getD, List.getElem?_range h]; rfl
theorem gotsD_len (d : Dk) (ats : List Int) : (gotsD d ats).length = ats.length := by simp [gotsD]
set_option maxRecDepth 100000 in
theorem anchors_fn (g : Geo) (s : Stt) (d : Dk) (hg : okG g = true) (h : DkOk d) (hn : g.an ≤ d.cells.length) :
  ACalls Tryz.prog false 111 [.bp 0 0] (bwH g s d) fun r H =>
   (d.live g.an.toNat → r = .tp [.ow 4 g.an.toNat, .v (.bool false)] ∧ H = bwE g s (d.adv g.an.toNat) [.row 187 2 ((gotsD d (anAts g)).map gotC)]) ∧
   (¬ d.live g.an.toNat → r = .tp [.v (.slice none 0 0), .v (.bool true)] ∧ H = bwH g s (d.adv g.an.toNat)) := by
 obtain ⟨g1, g2, g3, g4, g5⟩ := okG_iff.1 hg
 have hl := h.l
 refine ACalls.ofR tys_ok Tryz.func111 rfl rfl (Nat.le_of_ble_eq_true rfl) ?_
 conv => whnf
 refine aLoop.ruleRR Nat (fun k => ([(0, .bp 0 0), (2, .ow 4 k), (12, .v (.int .i64 g.an)), (13, .v (.int .i64 k))], bwE g s (d.adv k) [.row 187 2 ((gotsD d ((anAts g).take k)).map gotC)])) (fun k => k ≤ g.an.toNat ∧ d.live k) (fun k => g.an.toNat - k) 0 ⟨Nat.zero_le _, by unfold Dk.live; omega⟩
  ⟨_, _, ConvF.refl _ _, [(2, 187, 2)], ⟨rfl, rfl, trivial⟩, [0, 1, 2, 3, 4], ⟨⟨rfl, rfl, rfl, rfl, trivial⟩, ⟨rfl, rfl, rfl, rfl, rfl, trivial⟩, rfl, rfl, rfl, rfl, rfl⟩⟩ ?_
 rintro k ⟨hk, hlv⟩
 have hd := h.adv k
 have hs := adv_same k d
 have hL := adv_live k d hl.1 hlv
 conv => whnf
 refine boolI (fun h6 => ?_) (fun h6 => ?_) <;> (repeat rw [Int.toNat_natCast] at h6) <;> conv => whnf
 ·have hk' : k < g.an.toNat := by omega
  have ha := ganchor_fn g k hg (by omega)
  have hgot := got_fn g s (d.adv k) k hd (by rw [hs.1]; omega)
  refine Fn.closed (ha) rfl ?_
  rintro _ rfl
  conv => whnf
  by_cases h0 : (d.adv k).left = 0
  ·rw [read_dead _ h0] at hgot
   refine ACalls.frame [0, 1, 2, 3] hgot rfl rfl rfl rfl (by decide) (lt0123 rfl) ⟨rfl, rfl, rfl, rfl, trivial⟩ ?_
   rintro _ _ ⟨rfl, rfl⟩
   conv => whnf
   have hnl : ¬ d.live g.an.toNat := by have := hL.1 h0; unfold Dk.live at *; omega
   have hst := adv_stop k g.an.toNat d h0 hk
   exact ⟨_, .tp [.v (.slice none 0 0), .v (.bool true)], bwH g s (d.adv k), fun _ _ h => h, WkN.r (s := [0, 1, 2, 3]) ⟨⟨rfl, trivial⟩, ⟨rfl, rfl, rfl, rfl, trivial⟩, rfl, rfl, rfl, rfl, rfl⟩, fun hh => absurd hh hnl, fun _ => ⟨rfl, by rw [hst]⟩⟩
  ·rw [read_live _ h0] at hgot
   have hlv' : d.live (k + 1) := by
    by_cases e : d.live (k + 1)
    ·exact e
    ·exact absurd (hL.2 e) h0
   have he : ¬ (d.got (k : Int)).2 = 8 := by have := got_err d (k : Int); omega
   have hG : gotG d ((anAts g).getD k 0) = ⟨(d.got (k : Int)).2, (d.got (k : Int)).1⟩ := by rw [anAts_get hk']; rfl
   generalize d.got (k : Int) = q at hgot he hG
   obtain ⟨bs, e⟩ := q
   refine ACalls.frame [0, 1, 2, 3] hgot rfl rfl rfl rfl (by decide) (lt0123 rfl) ⟨rfl, rfl, rfl, rfl, trivial⟩ ?_
   rintro _ _ ⟨rfl, rfl⟩
   conv => whnf
   refine boolK_intro (fun h8 => absurd (by simpa using h8) he) (fun _ => ?_)
   conv => whnf
   refine And.intro rfl ?_
   conv => whnf
   refine And.intro ⟨by simp [gotsD_len, anAts_len]; omega, by omega⟩ ?_
   conv => whnf
   exact ⟨k + 1, ⟨hk', hlv'⟩, by omega, WkN.r (s := [0, 1, 2, 3, 4]) ⟨⟨rfl, rfl, rfl, wsucc (by omega), trivial⟩, ⟨rfl, rfl, rfl, rfl, congrArg (fun l => some (AB.row _ _ l)) (by rw [gotsD_snoc (by rw [anAts_len]; exact hk'), hG]; rfl), trivial⟩, rfl, rfl, rfl, rfl, rfl⟩⟩
 ·have ek : k = g.an.toNat := by omega
  subst ek
  exact ⟨_, .tp [.ow 4 g.an.toNat, .v (.bool false)], bwE g s (d.adv g.an.toNat) [.row 187 2 ((gotsD d (anAts g)).map gotC)], fun _ _ h => h, WkN.r (s := [0, 1, 2, 3, 4]) ⟨⟨rfl, trivial⟩, ⟨rfl, rfl, rfl, rfl, by rw [show (anAts g).take g.an.toNat = anAts g from List.take_of_length_le (by rw [anAts_len]; exact Nat.le_refl _)]; rfl, trivial⟩, rfl, rfl, rfl, rfl, rfl⟩, fun _ => ⟨rfl, rfl⟩, fun hh => absurd hlv hh⟩
def logAts (g : Geo) (copy : Int) : List Int := (List.range g.sl.toNat).map fun i => logAt g copy (i : Nat)
theorem logAts_len (g : Geo) (c : Int) : (logAts g c).length = g.sl.toNat := by simp [logAts]
theorem logAts_get {g : Geo} {c : Int} {k : Nat} (h : k < g.sl.toNat) : (logAts g c).getD k 0 = logAt g c k := by
 rw [logAts, map_getD (d := 0) (by simpa using h), List.getD_eq_getElem?_getD, List.getElem?_range h]; rfl
theorem cells_ge {g : Geo} (hg : okG g = true) : g.an + 2 * g.sl + 2 * g.z ≤ cellsN g := by
 obtain ⟨g1, g2, g3, g4, g5⟩ := okG_iff.1 hg
 have hp := per_bd hg
 have : 0 ≤ g.z * perG g := Int.mul_nonneg (by omega) (by omega)
 unfold cellsN
 omega
theorem logAt_in {g : Geo} {n : Nat} (hg : okG g = true) (hn : (n : Int) = cellsN g) {c s : Int} (hc : c = 0 ∨ c = 1) (hs : 0 ≤ s ∧ s < g.sl) : 0 ≤ logAt g c s ∧ logAt g c s < n := by
 obtain ⟨g1, g2, g3, g4, g5⟩ := okG_iff.1 hg
 have := cells_ge hg
 unfold logAt
 rcases hc with rfl | rfl <;> omega
theorem log_at (g : Geo) (c s : Int) (hg : okG g = true) (hc : c = 0 ∨ c = 1) (hs : 0 ≤ s ∧ s < g.sl) : Fn Tryz.prog 68 [.ag (geoC g), .v (.int .i64 c), .v (.int .i64 s)] fun r => r = .tp [.v (.int .i64 (logAt g c s)), .v (.int .i64 0)] := by
 have h := log_fn g c s
 have hl : okL g c s = true := by simp only [okL, Bool.and_eq_true, inB_iff]; omega
 rwa [hg, hl] at h
set_option maxRecDepth 100000 in
theorem blog_fn (g : Geo) (s : Stt) (d : Dk) (hg : okG g = true) (h : DkOk d) (hn : (d.cells.length : Int) = cellsN g) :
  ACalls Tryz.prog false 113 [.bp 0 0] (bwH g s d) fun r H =>
   (d.live (2 * g.sl.toNat) → r = .tp [.ow 4 g.sl.toNat, .ow 5 g.sl.toNat, .v (.bool false)] ∧ H = bwE g s (d.adv (2 * g.sl.toNat)) [.row 187 2 ((gotsD d (logAts g 0)).map gotC), .row 187 2 ((gotsD d (logAts g 1)).map gotC)]) ∧
   (¬ d.live (2 * g.sl.toNat) → r = .tp [.v (.slice none 0 0), .v (.slice none 0 0), .v (.bool true)] ∧ H = bwH g s (d.adv (2 * g.sl.toNat))) := by
 obtain ⟨g1, g2, g3, g4, g5⟩ := okG_iff.1 hg
 have hl := h.l
 refine ACalls.ofR tys_ok Tryz.func113 rfl rfl (Nat.le_of_ble_eq_true rfl) ?_
 conv => whnf
 refine aLoop.ruleRR Nat (fun k => ([(0, .bp 0 0), (2, .ow 4 k), (3, .ow 5 k), (14, .v (.int .i64 g.sl)), (15, .v (.int .i64 k))], bwE g s (d.adv (2 * k)) [.row 187 2 ((gotsD d ((logAts g 0).take k)).map gotC), .row 187 2 ((gotsD d ((logAts g 1).take k)).map gotC)])) (fun k => k ≤ g.sl.toNat ∧ d.live (2 * k)) (fun k => g.sl.toNat - k) 0 ⟨Nat.zero_le _, by unfold Dk.live; omega⟩
  ⟨_, _, ConvF.refl _ _, [(2, 187, 2), (3, 187, 2)], ⟨rfl, rfl, rfl, rfl, trivial⟩, [0, 1, 2, 3, 4, 5], ⟨⟨rfl, rfl, rfl, rfl, rfl, trivial⟩, ⟨rfl, rfl, rfl, rfl, rfl, rfl, trivial⟩, rfl, rfl, rfl, rfl, rfl⟩⟩ ?_
 rintro k ⟨hk, hlv⟩
 have hd := h.adv (2 * k)
 have hs := adv_same (2 * k) d
 have hL := adv_live (2 * k) d hl.1 hlv
 conv => whnf
 refine boolI (fun h6 => ?_) (fun h6 => ?_) <;> (repeat rw [Int.toNat_natCast] at h6) <;> conv => whnf
 ·have hk' : k < g.sl.toNat := by omega
  have ha := log_at g 0 k hg (.inl rfl) (by omega)
  have ha1 := log_at g 1 k hg (.inr rfl) (by omega)
  have hgot := got_fn g s (d.adv (2 * k)) (logAt g 0 k) hd (logAt_in hg (by rw [hs.1]; exact hn) (.inl rfl) (by omega))
  have stop : (d.adv (2 * k)).left = 0 → ¬ d.live (2 * g.sl.toNat) ∧ d.adv (2 * g.sl.toNat) = d.adv (2 * k) := fun h0 => ⟨by have := hL.1 h0; unfold Dk.live at *; omega, adv_stop _ _ d h0 (by omega)⟩
  refine aLoop.rounds 3 ?_
  conv => whnf
  refine aSeq.go ?_
  conv => whnf
  refine Fn.closed (ha) rfl ?_
  rintro _ rfl
  conv => whnf
  by_cases h0 : (d.adv (2 * k)).left = 0
  ·rw [read_dead _ h0] at hgot
   refine ACalls.frame [0, 1, 2, 3] hgot rfl rfl rfl rfl (by decide) (lt0123 rfl) ⟨rfl, rfl, rfl, rfl, trivial⟩ ?_
   rintro _ _ ⟨rfl, rfl⟩
   conv => whnf
   exact ⟨_, .tp [.v (.slice none 0 0), .v (.slice none 0 0), .v (.bool true)], bwH g s (d.adv (2 * k)), fun _ _ h => h, WkN.r (s := [0, 1, 2, 3]) ⟨⟨rfl, trivial⟩, ⟨rfl, rfl, rfl, rfl, trivial⟩, rfl, rfl, rfl, rfl, rfl⟩, fun hh => absurd hh (stop h0).1, fun _ => ⟨rfl, by rw [(stop h0).2]⟩⟩
  ·rw [read_live _ h0] at hgot
   have hlv' : d.live (2 * k + 1) := by
    by_cases e : d.live (2 * k + 1)
    ·exact e
    ·exact absurd (hL.2 e) h0
   have hd1 := h.adv (2 * k + 1)
   have hs1 := adv_same (2 * k + 1) d
   have hL1 := adv_live (2 * k + 1) d hl.1 hlv'
   have hgot1 := got_fn g s (d.adv (2 * k + 1)) (logAt g 1 k) hd1 (logAt_in hg (by rw [hs1.1]; exact hn) (.inr rfl) (by omega))
   have stop1 : (d.adv (2 * k + 1)).left = 0 → ¬ d.live (2 * g.sl.toNat) ∧ d.adv (2 * g.sl.toNat) = d.adv (2 * k + 1) := fun h0 => ⟨by have := hL1.1 h0; unfold Dk.live at *; omega, adv_stop _ _ d h0 (by omega)⟩
   have he : ¬ (d.got (logAt g 0 k)).2 = 8 := by have := got_err d (logAt g 0 k); omega
   have hG : gotG d ((logAts g 0).getD k 0) = ⟨(d.got (logAt g 0 k)).2, (d.got (logAt g 0 k)).1⟩ := by rw [logAts_get hk']; rfl
   generalize d.got (logAt g 0 k) = q at hgot he hG
   obtain ⟨bs, e⟩ := q
   refine ACalls.frame [0, 1, 2, 3] hgot rfl rfl rfl rfl (by decide) (lt0123 rfl) ⟨rfl, rfl, rfl, rfl, trivial⟩ ?_
   rintro _ _ ⟨rfl, rfl⟩
   conv => whnf
   refine boolK_intro (fun h8 => absurd (by simpa using h8) he) (fun _ => ?_)
   conv => whnf
   refine And.intro rfl ?_
   conv => whnf
   refine And.intro ⟨by simp [gotsD_len, logAts_len]; omega, by omega⟩ ?_
   conv => whnf
   repeat' (first | (refine aSeq.go ?_; conv => whnf) | fail)
   refine Fn.closed (ha1) rfl ?_
   rintro _ rfl
   conv => whnf
   by_cases h1 : (d.adv (2 * k + 1)).left = 0
   ·rw [read_dead _ h1] at hgot1
    refine ACalls.frame [0, 1, 2, 3] hgot1 rfl rfl rfl rfl (by decide) (lt0123 rfl) ⟨rfl, rfl, rfl, rfl, trivial⟩ ?_
    rintro _ _ ⟨rfl, rfl⟩
    conv => whnf
    exact ⟨_, .tp [.v (.slice none 0 0), .v (.slice none 0 0), .v (.bool true)], bwH g s (d.adv (2 * k + 1)), fun _ _ h => h, WkN.r (s := [0, 1, 2, 3]) ⟨⟨rfl, trivial⟩, ⟨rfl, rfl, rfl, rfl, trivial⟩, rfl, rfl, rfl, rfl, rfl⟩, fun hh => absurd hh (stop1 h1).1, fun _ => ⟨rfl, by rw [(stop1 h1).2]⟩⟩
   ·rw [read_live _ h1] at hgot1
    have hlv1 : d.live (2 * (k + 1)) := by
     by_cases e : d.live (2 * k + 1 + 1)
     ·exact e
     ·exact absurd (hL1.2 e) h1
    have he1 : ¬ (d.got (logAt g 1 k)).2 = 8 := by have := got_err d (logAt g 1 k); omega
    have hG1 : gotG d ((logAts g 1).getD k 0) = ⟨(d.got (logAt g 1 k)).2, (d.got (logAt g 1 k)).1⟩ := by rw [logAts_get hk']; rfl
    generalize d.got (logAt g 1 k) = q1 at hgot1 he1 hG1
    obtain ⟨bs1, e1⟩ := q1
    refine ACalls.frame [0, 1, 2, 3] hgot1 rfl rfl rfl rfl (by decide) (lt0123 rfl) ⟨rfl, rfl, rfl, rfl, trivial⟩ ?_
    rintro _ _ ⟨rfl, rfl⟩
    conv => whnf
    refine boolK_intro (fun h8 => absurd (by simpa using h8) he1) (fun _ => ?_)
    conv => whnf
    refine And.intro rfl ?_
    conv => whnf
    refine And.intro ⟨by simp [gotsD_len, logAts_len]; omega, by omega⟩ ?_
    conv => whnf
    repeat' (first | (refine aSeq.go ?_; conv => whnf) | fail)
    exact ⟨k + 1, ⟨hk', hlv1⟩, by omega, WkN.r (s := [0, 1, 2, 3, 4, 5]) ⟨⟨rfl, rfl, rfl, rfl, wsucc (by omega), trivial⟩, ⟨rfl, rfl, rfl, rfl, congrArg (fun l => some (AB.row _ _ l)) (by rw [gotsD_snoc (by rw [logAts_len]; exact hk'), hG]; rfl), congrArg (fun l => some (AB.row _ _ l)) (by rw [gotsD_snoc (by rw [logAts_len]; exact hk'), hG1]; rfl), trivial⟩, rfl, rfl, rfl, rfl, rfl⟩⟩
 ·have ek : k = g.sl.toNat := by omega
  subst ek
  exact ⟨_, .tp [.ow 4 g.sl.toNat, .ow 5 g.sl.toNat, .v (.bool false)], bwE g s (d.adv (2 * g.sl.toNat)) [.row 187 2 ((gotsD d (logAts g 0)).map gotC), .row 187 2 ((gotsD d (logAts g 1)).map gotC)], fun _ _ h => h, WkN.r (s := [0, 1, 2, 3, 4, 5]) ⟨⟨rfl, trivial⟩, ⟨rfl, rfl, rfl, rfl, by rw [show (logAts g 0).take g.sl.toNat = logAts g 0 from List.take_of_length_le (by rw [logAts_len]; exact Nat.le_refl _)]; rfl, by rw [show (logAts g 1).take g.sl.toNat = logAts g 1 from List.take_of_length_le (by rw [logAts_len]; exact Nat.le_refl _)]; rfl, trivial⟩, rfl, rfl, rfl, rfl, rfl⟩, fun _ => ⟨rfl, rfl⟩, fun hh => absurd hlv hh⟩
def WrIn (n : Nat) (w : Wr) : Prop := (0 ≤ w.addr ∧ w.addr < n) ∧ w.bytes.length ≤ 200
theorem writes_ok {d : Dk} (h : DkOk d) {l : List Wr} (hl : ∀ w ∈ l, WrIn d.cells.length w) (k : Nat) : DkOk (d.writes (l.take k)).1 ∧ (d.writes (l.take k)).1.cells.length = d.cells.length :=
 writes_inv (P := fun x => DkOk x ∧ x.cells.length = d.cells.length) l (fun x hx w hw => ⟨hx.1.write (by rw [hx.2]; exact (hl w hw).1) (hl w hw).2, by rw [write_n, hx.2]⟩) ⟨h, rfl⟩ k
theorem write_err (d : Dk) (a : Int) (b : List UInt8) : (d.write a b).2 = 8 ∨ (d.write a b).2 = 7 ∨ (d.write a b).2 = 0 := by
 unfold Dk.write; split
 ·exact .inl rfl
 ·split
  ·exact .inr (.inl rfl)
  ·exact .inr (.inr rfl)
theorem wr_next {d : Dk} {l : List Wr} {k : Nat} (hk : k < l.length) (h : (d.writes (l.take k)).2.2 = false) :
  d.writes (l.take (k + 1)) = (((d.writes (l.take k)).1.write (l.getD k ⟨0, []⟩).addr (l.getD k ⟨0, []⟩).bytes).1, (d.writes (l.take k)).2.1 + (if ((d.writes (l.take k)).1.write (l.getD k ⟨0, []⟩).addr (l.getD k ⟨0, []⟩).bytes).2 = 0 then 1 else 0), decide (((d.writes (l.take k)).1.write (l.getD k ⟨0, []⟩).addr (l.getD k ⟨0, []⟩).bytes).2 = 8)) := by
 rw [writes_succ d hk]
 unfold wrStep
 rw [if_neg (by rw [h]; decide)]
 simp only
 by_cases h8 : ((d.writes (l.take k)).1.write (l.getD k ⟨0, []⟩).addr (l.getD k ⟨0, []⟩).bytes).2 = 8
 ·rw [if_pos h8, h8]; simp
 ·rw [if_neg h8, decide_eq_false h8]
theorem putAll_dead {d : Dk} {l : List Wr} (h : (d.writes l).2.2 = true) : d.putAll l = ((d.writes l).1, (d.writes l).2.1, true) := by
 unfold Dk.putAll
 generalize d.writes l = q at h ⊢
 obtain ⟨a, b, c⟩ := q
 simp only at h ⊢
 rw [if_pos h]
theorem putAll_live {d : Dk} {l : List Wr} (h : (d.writes l).2.2 = false) : d.putAll l = if (d.writes l).1.left = 0 then ((d.writes l).1, (d.writes l).2.1, true) else ((d.writes l).1.flush, (d.writes l).2.1, false) := by
 unfold Dk.putAll
 generalize d.writes l = q at h ⊢
 obtain ⟨a, b, c⟩ := q
 simp only at h ⊢
 rw [if_neg (by rw [h]; decide)]
theorem putAll_ok {d : Dk} (h : DkOk d) {l : List Wr} (hl : ∀ w ∈ l, WrIn d.cells.length w) : DkOk (d.putAll l).1 ∧ (d.putAll l).1.cells.length = d.cells.length := by
 have hw := writes_ok h hl l.length
 rw [List.take_length] at hw
 cases hd : (d.writes l).2.2 with
 | true => rw [putAll_dead hd]; exact hw
 | false =>
  rw [putAll_live hd]
  split
  ·exact hw
  ·exact ⟨hw.1.flush, by rw [flush_n, hw.2]⟩
def Dk.mend (d : Dk) (l : List Wr) : Dk × Bool := if l = [] then (d, false) else ((d.putAll l).1, (d.putAll l).2.2)
set_option maxRecDepth 100000 in
theorem mends_fn (g : Geo) (s : Stt) (d : Dk) (l : List Wr) (h : DkOk d) (hl : ∀ w ∈ l, WrIn d.cells.length w) (hn : l.length ≤ 1000000) :
  ACalls Tryz.prog false 115 [.bp 0 0, wrsA l] (bwH g s d) fun r H => r = .v (.int .i64 (if (d.mend l).2 then 8 else 0)) ∧ H = bwG g s (d.mend l).1 := by
 refine ACalls.ofR tys_ok Tryz.func115 rfl rfl (Nat.le_of_ble_eq_true rfl) ?_
 conv => whnf
 refine aLoop.ruleRR Nat (fun k => ([(0, .bp 0 0), (1, wrsA l), (9, wrsA l), (10, .v (.int .i64 l.length)), (11, .v (.int .i64 k))], bwE g s (d.writes (l.take k)).1 [])) (fun k => k ≤ l.length ∧ (d.writes (l.take k)).2.2 = false) (fun k => l.length - k) 0 ⟨Nat.zero_le _, rfl⟩
  (WkN.r (s := [0, 1, 2, 3]) ⟨⟨rfl, rfl, rfl, rfl, rfl, trivial⟩, ⟨rfl, rfl, rfl, rfl, trivial⟩, rfl, rfl, rfl, rfl, rfl⟩) ?_
 rintro k ⟨hk, hlv⟩
 have hd := writes_ok h hl k
 conv => whnf
 refine boolI (fun h6 => ?_) (fun h6 => ?_) <;> (repeat rw [Int.toNat_natCast] at h6) <;> conv => whnf
 ·have hk' : k < l.length := by omega
  have hm := hl _ (getD_mem (d := (⟨0, []⟩ : Wr)) hk')
  have hx := wr_next hk' hlv
  generalize hX : (d.writes (l.take k)).1 = X at hd hx ⊢
  have hc := cell_fn g s X (l.getD k ⟨0, []⟩).addr (l.getD k ⟨0, []⟩).bytes hd.1 (by rw [hd.2]; exact hm.1) hm.2
  refine And.intro ⟨by omega, by omega⟩ ?_
  conv => whnf
  rw [Int.toNat_natCast]
  generalize hW : l.getD k ⟨0, []⟩ = W at hc hx hm ⊢
  have hE := write_err X W.addr W.bytes
  generalize hQ : X.write W.addr W.bytes = Q at hc hx hE
  obtain ⟨D, e⟩ := Q
  simp only at hx hE hc
  conv => whnf
  refine ACalls.frame [0, 1, 2, 3] hc rfl rfl rfl rfl (by decide) (lt0123 rfl) ⟨rfl, rfl, rfl, rfl, trivial⟩ ?_
  rintro _ _ ⟨rfl, rfl⟩
  rcases hE with rfl | hE
  ·rw [if_pos rfl]
   conv => whnf
   have hdd : (d.writes (l.take (k + 1))).2.2 = true := by rw [hx]; rfl
   have hdl : d.writes l = d.writes (l.take (k + 1)) := writes_dead d hk' hdd
   have hne : l ≠ [] := fun e => by rw [e] at hk'; simp at hk'
   have hp : d.mend l = (D, true) := by
    rw [Dk.mend, if_neg hne, putAll_dead (by rw [hdl]; exact hdd), hdl, hx]
   rw [hp]
   exact ⟨_, .v (.int .i64 8), bwG g s D, fun _ _ h => h, WkN.rc (ConvF.ofH (ConvH.move 1 3 (by decide) rfl rfl)) (s := [0, 1, 2, 3, 5]) ⟨⟨rfl, trivial⟩, ⟨rfl, rfl, rfl, trivial, rfl, trivial⟩, rfl, rfl, rfl, rfl, rfl⟩, rfl, rfl⟩
  ·rw [if_neg (by omega)]
   conv => whnf
   have h1 : (d.writes (l.take (k + 1))).1 = D := by rw [hx]
   have h2 : (d.writes (l.take (k + 1))).2.2 = false := by rw [hx]; exact decide_eq_false (by omega)
   refine ⟨k + 1, ⟨hk', h2⟩, by omega, ?_⟩
   rw [h1]
   exact WkN.r (s := [0, 1, 2, 3]) ⟨⟨rfl, rfl, rfl, rfl, wsucc (by omega), trivial⟩, ⟨rfl, rfl, rfl, rfl, trivial⟩, rfl, rfl, rfl, rfl, rfl⟩
 ·have ek : k = l.length := by omega
  subst ek
  rw [List.take_length] at hlv hd
  rw [List.take_length]
  by_cases h0 : l = []
  ·have e : d.mend l = (d, false) := by rw [Dk.mend, if_pos h0]
   have e2 : d.writes l = (d, 0, false) := by rw [h0]; rfl
   rw [e, e2]
   rw [show ((l.length : Int) == 0) = true by rw [h0]; rfl]
   conv => whnf
   exact ⟨_, .v (.int .i64 0), bwG g s d, fun _ _ h => h, WkN.rc (ConvF.ofH (bwG_of g s d)) (s := [0, 1, 2, 3, 4]) ⟨⟨rfl, trivial⟩, ⟨rfl, rfl, rfl, trivial, rfl, trivial⟩, rfl, rfl, rfl, rfl, rfl⟩, rfl, rfl⟩
  ·rw [show ((l.length : Int) == 0) = false by rw [beq_eq_false_iff_ne]; intro e; exact h0 (List.length_eq_zero_iff.1 (by omega))]
   have hp : d.mend l = (if (d.writes l).1.left = 0 then ((d.writes l).1, true) else ((d.writes l).1.flush, false)) := by
    rw [Dk.mend, if_neg h0, putAll_live hlv]
    split <;> rfl
   generalize (d.writes l).1 = X at hp hd ⊢
   have hf := dflush_any X hd.1.l hd.1.m (fun w hw => (hd.1.w w hw).1)
   rw [hp]
   conv => whnf
   refine ACalls.frame [1, 2, 3] hf rfl rfl rfl rfl (by decide) (lt123 rfl) ⟨rfl, rfl, rfl, trivial⟩ ?_
   rintro _ _ ⟨rfl, rfl⟩
   by_cases hX : X.left = 0
   all_goals
    simp only [hX, if_true, if_false]
    conv => whnf
    exact ⟨_, _, bwG g s _, fun _ _ h => h, WkN.r (s := [0, 1, 2, 3, 4]) ⟨⟨rfl, trivial⟩, ⟨rfl, rfl, rfl, trivial, rfl, trivial⟩, rfl, rfl, rfl, rfl, rfl⟩, rfl, rfl⟩
def anCells (g : Geo) (a : An) : List Wr := (List.range g.an.toNat).map fun i => ⟨(i : Nat), anCell a (i : Nat)⟩
theorem anCells_len (g : Geo) (a : An) : (anCells g a).length = g.an.toNat := by simp [anCells]
theorem anCells_get {g : Geo} {a : An} {k : Nat} (h : k < g.an.toNat) : (anCells g a).getD k ⟨0, []⟩ = ⟨(k : Nat), anCell a (k : Nat)⟩ := by
 rw [anCells, map_getD (d := 0) (by simpa using h), List.getD_eq_getElem?_getD, List.getElem?_range h]; rfl
set_option maxRecDepth 100000 in
theorem banchors_fn (g : Geo) (s : Stt) (d : Dk) (a : An) (hg : okG g = true) (ha : anOk g a = true) (h : DkOk d) (hl : ∀ w ∈ anCells g a, WrIn d.cells.length w) :
  ACalls Tryz.prog false 77 [.bp 0 0, .ag (anC a)] (bwH g s d) fun r H => r = .tp [.v (.int .i64 (if (d.putAll (anCells g a)).2.2 then 0 else ((d.putAll (anCells g a)).2.1 : Nat))), .v (.int .i64 (if (d.putAll (anCells g a)).2.2 then 8 else 0))] ∧ H = bwG g s (d.putAll (anCells g a)).1 := by
 obtain ⟨g1, g2, g3, g4, g5⟩ := okG_iff.1 hg
 have hlen := anCells_len g a
 refine ACalls.ofR tys_ok Tryz.func77 rfl rfl (Nat.le_of_ble_eq_true rfl) ?_
 conv => whnf
 refine aLoop.ruleRR Nat (fun k => ([(0, .bp 0 0), (3, .bp 4 0), (6, .v (.int .i64 (d.writes ((anCells g a).take k)).2.1)), (19, .v (.int .i64 g.an)), (20, .v (.int .i64 k))], bwE g s (d.writes ((anCells g a).take k)).1 [.box 40 (anC a)])) (fun k => k ≤ (anCells g a).length ∧ (d.writes ((anCells g a).take k)).2.2 = false ∧ (d.writes ((anCells g a).take k)).2.1 ≤ k) (fun k => (anCells g a).length - k) 0 ⟨Nat.zero_le _, rfl, Nat.le_refl _⟩
  (WkN.r (s := [0, 1, 2, 3, 4]) ⟨⟨rfl, rfl, rfl, rfl, rfl, trivial⟩, ⟨rfl, rfl, rfl, rfl, rfl, trivial⟩, rfl, rfl, rfl, rfl, rfl⟩) ?_
 rintro k ⟨hk, hlv, hnk⟩
 have hd := writes_ok h hl k
 conv => whnf
 refine boolI (fun h6 => ?_) (fun h6 => ?_) <;> (repeat rw [Int.toNat_natCast] at h6) <;> conv => whnf
 ·have hk' : k < (anCells g a).length := by omega
  have hm := hl _ (getD_mem (d := (⟨0, []⟩ : Wr)) hk')
  have hx := wr_next hk' hlv
  rw [anCells_get (by omega)] at hx hm
  generalize hX : (d.writes ((anCells g a).take k)).1 = X at hd hx ⊢
  generalize hN : (d.writes ((anCells g a).take k)).2.1 = N at hx hnk ⊢
  have hga := ganchor_fn g k hg (by omega)
  have hnc := ncell_fn g a k hg ha (by omega)
  have hc := cell_fn g s X k (anCell a k) hd.1 (by rw [hd.2]; exact hm.1) hm.2
  repeat' (first | (refine aSeq.go ?_; conv => whnf) | fail)
  refine Fn.closed (hga) rfl ?_
  rintro _ rfl
  conv => whnf
  apply aDraw.treeK (0) tys_ok mixed (.one 0 (.one 1 (.one 2 (.one 3 (.one 4 (.one 5 (.one 6 (.one 7 (.one 8 (.one 9 (.one 10 (.one 11 .fin)))))))))))) (by kernel_rfl)
  conv => whnf
  refine Fn.closed (hnc) rfl ?_
  rintro _ rfl
  conv => whnf
  have hE := write_err X k (anCell a k)
  generalize hQ : X.write k (anCell a k) = Q at hc hx hE
  obtain ⟨D, e⟩ := Q
  simp only at hx hE hc
  refine ACalls.frame [0, 1, 2, 3] hc rfl rfl rfl rfl (by decide) (lt0123 rfl) ⟨rfl, rfl, rfl, rfl, trivial⟩ ?_
  rintro _ _ ⟨rfl, rfl⟩
  rcases hE with rfl | hE
  ·rw [if_pos rfl]
   conv => whnf
   have hdd : (d.writes ((anCells g a).take (k + 1))).2.2 = true := by rw [hx]; rfl
   have hdl : d.writes (anCells g a) = d.writes ((anCells g a).take (k + 1)) := writes_dead d hk' hdd
   have hp : (d.putAll (anCells g a)).1 = D ∧ (d.putAll (anCells g a)).2.2 = true := by
    rw [putAll_dead (by rw [hdl]; exact hdd), hdl, hx]; exact ⟨rfl, rfl⟩
   rw [hp.1, hp.2]
   exact ⟨_, .tp [.v (.int .i64 0), .v (.int .i64 8)], bwG g s D, fun _ _ h => h, WkN.rc (ConvF.ofH (ConvH.move 1 3 (by decide) rfl rfl)) (s := [0, 1, 2, 3, 5]) ⟨⟨rfl, trivial⟩, ⟨rfl, rfl, rfl, trivial, rfl, trivial⟩, rfl, rfl, rfl, rfl, rfl⟩, rfl, rfl⟩
  ·rw [if_neg (by omega)]
   have h1 : (d.writes ((anCells g a).take (k + 1))).1 = D := by rw [hx]
   have h2 : (d.writes ((anCells g a).take (k + 1))).2.2 = false := by rw [hx]; exact decide_eq_false (by omega)
   have h3 : (d.writes ((anCells g a).take (k + 1))).2.1 = N + if e = 0 then 1 else 0 := by rw [hx]
   rcases hE with rfl | rfl
   all_goals
    conv => whnf
    repeat' (first | (refine aSeq.go ?_; conv => whnf) | fail)
    refine ⟨k + 1, ⟨hk', h2, by rw [h3]; simp; omega⟩, by omega, ?_⟩
    rw [h1, h3]
   ·exact WkN.r (s := [0, 1, 2, 3, 4]) ⟨⟨rfl, rfl, rfl, rfl, wsucc (by omega), trivial⟩, ⟨rfl, rfl, rfl, rfl, rfl, trivial⟩, rfl, rfl, rfl, rfl, rfl⟩
   ·exact WkN.r (s := [0, 1, 2, 3, 4]) ⟨⟨rfl, rfl, wsucc (by omega), rfl, wsucc (by omega), trivial⟩, ⟨rfl, rfl, rfl, rfl, rfl, trivial⟩, rfl, rfl, rfl, rfl, rfl⟩
 ·have ek : k = (anCells g a).length := by omega
  subst ek
  rw [List.take_length] at hlv hd hnk
  rw [List.take_length]
  have hp := putAll_live hlv
  generalize (d.writes (anCells g a)).1 = X at hp hd ⊢
  generalize (d.writes (anCells g a)).2.1 = N at hp ⊢
  have hf := dflush_any X hd.1.l hd.1.m (fun w hw => (hd.1.w w hw).1)
  rw [hp]
  refine ACalls.frame [1, 2, 3] hf rfl rfl rfl rfl (by decide) (lt123 rfl) ⟨rfl, rfl, rfl, trivial⟩ ?_
  rintro _ _ ⟨rfl, rfl⟩
  by_cases hX : X.left = 0
  ·simp only [hX, if_true, if_false]
   conv => whnf
   exact ⟨_, .tp [.v (.int .i64 0), .v (.int .i64 8)], bwG g s _, fun _ _ h => h, WkN.r (s := [0, 1, 2, 3, 5]) ⟨⟨rfl, trivial⟩, ⟨rfl, rfl, rfl, trivial, rfl, trivial⟩, rfl, rfl, rfl, rfl, rfl⟩, rfl, rfl⟩
  ·simp only [hX, if_true, if_false]
   conv => whnf
   exact ⟨_, .tp [.v (.int .i64 (N : Nat)), .v (.int .i64 0)], bwG g s _, fun _ _ h => h, WkN.r (s := [0, 1, 2, 3, 5]) ⟨⟨rfl, trivial⟩, ⟨rfl, rfl, rfl, trivial, rfl, trivial⟩, rfl, rfl, rfl, rfl, rfl⟩, rfl, rfl⟩
theorem anCells_in {g : Geo} {a : An} {n : Nat} (hg : okG g = true) (ha : anOk g a = true) (hn : (n : Int) = cellsN g) : ∀ w ∈ anCells g a, WrIn n w := by
 obtain ⟨g1, g2, g3, g4, g5⟩ := okG_iff.1 hg
 have hc := cells_ge hg
 intro w hw
 simp only [anCells, List.mem_map, List.mem_range] at hw
 obtain ⟨i, hi, rfl⟩ := hw
 refine ⟨⟨by show (0 : Int) ≤ (i : Nat); omega, by show ((i : Nat) : Int) < n; omega⟩, ?_⟩
 show (sealB (i : Nat) a.gen (anB a)).length ≤ 200
 rw [sealB_len]
 have := anB_short hg ha
 omega
theorem look_is {g : Geo} {a : An} {x y : Gt} {slot seq at_ of_ left : Int} {q : Rc × List Int × Int} (hl : a.label.size ≤ 1000000) (hh : a.homes.length ≤ 1000000) (hx : x.bytes.length ≤ 100000) (hy : y.bytes.length ≤ 100000) (hg : okG g = true) (ha : anOk g a = true) (hs : inB slot 0 (g.sl - 1) = true)
  (h : lookR g a x y slot seq at_ of_ left = q) :
  Fn Tryz.prog 232 [.ag (geoC g), .ag (anC a), .ag (gotC x), .ag (gotC y), .v (.int .i64 slot), .v (.int .i64 seq), .v (.int .i64 at_), .v (.int .i64 of_), .v (.int .i64 left)]
   fun r => r = .tp [.ag (rcC q.1), iA q.2.1, .v (.int .i64 q.2.2), .v (.int .i64 0)] := by
 have s := look_fn g a x y slot seq at_ of_ left hl hh hx hy
 rw [hg, ha, hs, h] at s
 exact s
theorem firstA_ok {g : Geo} {s : ByteArray} (hg : okG g = true) (hs : labE s.data.toList = 0) : anOk g (firstA g s) = true := by
 obtain ⟨h1, h2, h3, h4, h5⟩ := okG_iff.1 hg
 have hp : plOk ((List.range (g.d + 1).toNat).map Int.ofNat) (g.d + 1) = true := by
  rcases (show g.d = 1 ∨ g.d = 2 ∨ g.d = 3 ∨ g.d = 4 by omega) with h | h | h | h <;> rw [h] <;> decide
 have hh : hmOk g ⟨(List.range (g.d + 1).toNat).map Int.ofNat, g.d + 1, 0⟩ = true := by
  simp [hmOk, hp, inB]
  omega
 simp [anOk, firstA, hs, inB]
 exact ⟨by omega, by omega, .inr hh⟩
def fmtS (cs : List Cel) (w : Wr) : List Cel := cs.set w.addr.toNat { cs.getD w.addr.toNat cz with bytes := w.bytes }
def fmtL (cs : List Cel) (l : List Wr) : List Cel := l.foldl fmtS cs
theorem fmtS_len (cs : List Cel) (w : Wr) : (fmtS cs w).length = cs.length := by simp [fmtS]
theorem fmtL_len (l : List Wr) : ∀ cs : List Cel, (fmtL cs l).length = cs.length := by
 induction l with
 | nil => intro cs; rfl
 | cons w l ih => intro cs; show (fmtL (fmtS cs w) l).length = _; rw [ih, fmtS_len]
theorem fmtL_succ (cs : List Cel) {l : List Wr} {k : Nat} (h : k < l.length) : fmtL cs (l.take (k + 1)) = fmtS (fmtL cs (l.take k)) (l.getD k ⟨0, []⟩) := by
 unfold fmtL
 rw [List.take_add_one, List.foldl_append, List.getElem?_eq_getElem h]
 simp [List.getD_eq_getElem?_getD, List.getElem?_eq_getElem h]
theorem fmtS_map (cs : List Cel) (w : Wr) : (fmtS cs w).map celC = (cs.map celC).set w.addr.toNat (celC { cs.getD w.addr.toNat cz with bytes := w.bytes }) := by rw [fmtS, List.map_set]
def fmt0 (g : Geo) : List Cel := List.replicate (cellsN g).toNat cz
def logW (g : Geo) (c : Int) : List Wr := (List.range g.sl.toNat).map fun i => ⟨logAt g c (i : Nat), cellB g zeroC c (i : Nat)⟩
def tabW (g : Geo) (z : Int) : List Wr := (List.range 2).map fun k => ⟨tabAt g z (k : Nat), sealB (tabAt g z (k : Nat)) 0 (tblB (tab0 g))⟩
def slotW (g : Geo) (z : Int) : List Wr := (List.range (perG g).toNat).map fun i => ⟨slotAt g z (i : Nat), sealB (slotAt g z (i : Nat)) 0 zero8⟩
def fmt1 (g : Geo) (s : ByteArray) : List Cel := fmtL (fmt0 g) (anCells g (firstA g s))
def fmt2 (g : Geo) (s : ByteArray) : Nat → List Cel
 | 0 => fmt1 g s
 | c + 1 => fmtL (fmt2 g s c) (logW g (c : Nat))
def fmt3 (g : Geo) (s : ByteArray) : Nat → List Cel
 | 0 => fmt2 g s 2
 | z + 1 => fmtL (fmtL (fmt3 g s z) (tabW g (z : Nat))) (slotW g (z : Nat))
def fmtD (g : Geo) (s : ByteArray) : Dk := ⟨fmt3 g s g.z.toNat, [], 0, -1⟩
theorem fmt0_len (g : Geo) : (fmt0 g).length = (cellsN g).toNat := by simp [fmt0]
theorem fmt1_len (g : Geo) (s : ByteArray) : (fmt1 g s).length = (cellsN g).toNat := by rw [fmt1, fmtL_len, fmt0_len]
theorem fmt2_len (g : Geo) (s : ByteArray) : ∀ c, (fmt2 g s c).length = (cellsN g).toNat
 | 0 => fmt1_len g s
 | c + 1 => by rw [fmt2, fmtL_len, fmt2_len g s c]
theorem fmt3_len (g : Geo) (s : ByteArray) : ∀ z, (fmt3 g s z).length = (cellsN g).toNat
 | 0 => fmt2_len g s 2
 | z + 1 => by rw [fmt3, fmtL_len, fmtL_len, fmt3_len g s z]
theorem range_get {α : Type} {f : Nat → α} {n k : Nat} {d : α} (h : k < n) : ((List.range n).map f).getD k d = f k := by
 rw [map_getD (d := 0) (by simpa using h), List.getD_eq_getElem?_getD, List.getElem?_range h]; rfl
theorem okR_zeroC {g : Geo} (hg : okG g = true) : okR g zeroC = true := by
 simp [okR, hg, behOk, zeroC, noneB]
theorem fmtL_app (cs : List Cel) (l m : List Wr) : fmtL cs (l ++ m) = fmtL (fmtL cs l) m := by unfold fmtL; rw [List.foldl_append]
theorem getD_set_cel (cs : List Cel) (i a : Nat) (x : Cel) (ha : a < cs.length) : (cs.set i x).getD a cz = if i = a then x else cs.getD a cz := by
 rw [List.getD_eq_getElem?_getD, List.getElem?_set]
 by_cases h : i = a
 ·subst h; rw [if_pos rfl, if_pos rfl, if_pos ha]; rfl
 ·rw [if_neg h, if_neg h, ← List.getD_eq_getElem?_getD]
theorem fmtS_get (cs : List Cel) (w : Wr) (a : Nat) (ha : a < cs.length) : (fmtS cs w).getD a cz = if w.addr.toNat = a then { cs.getD a cz with bytes := w.bytes } else cs.getD a cz := by
 unfold fmtS
 rw [getD_set_cel _ _ _ _ ha]
 split
 ·rename_i h; rw [h]
 ·rfl
theorem fmtL_keep {F : List UInt8} : ∀ (l : List Wr) (cs : List Cel) (a : Nat), a < cs.length → (∀ w ∈ l, w.addr.toNat = a → w.bytes = F) → ((∃ w ∈ l, w.addr.toNat = a) ∨ (cs.getD a cz).bytes = F) → (fmtL cs l).getD a cz = { cs.getD a cz with bytes := F }
 | [], cs, a, _, _, h => by
  rcases h with ⟨w, hw, _⟩ | h
  ·cases hw
  ·show cs.getD a cz = _
   rw [← h]
 | w :: l, cs, a, ha, hF, h => by
  have hs := fmtS_get cs w a ha
  have ha' : a < (fmtS cs w).length := by rw [fmtS_len]; exact ha
  have ih := fmtL_keep (F := F) l (fmtS cs w) a ha' (fun x hx => hF x (List.mem_cons_of_mem _ hx))
  show (fmtL (fmtS cs w) l).getD a cz = _
  by_cases e : w.addr.toNat = a
  ·rw [if_pos e, hF w (by simp) e] at hs
   rw [ih (.inr (by rw [hs])), hs]
  ·rw [if_neg e] at hs
   rw [ih ?_, hs]
   rcases h with ⟨x, hx, hxa⟩ | h
   ·rcases List.mem_cons.1 hx with rfl | hx
    ·exact absurd hxa e
    ·exact .inl ⟨x, hx, hxa⟩
   ·exact .inr (by rw [hs]; exact h)
theorem fmtL_miss : ∀ (l : List Wr) (cs : List Cel) (a : Nat), a < cs.length → (∀ w ∈ l, w.addr.toNat ≠ a) → (fmtL cs l).getD a cz = cs.getD a cz
 | [], _, _, _, _ => rfl
 | w :: l, cs, a, ha, h => by
  have hs := fmtS_get cs w a ha
  rw [if_neg (h w (by simp))] at hs
  show (fmtL (fmtS cs w) l).getD a cz = _
  rw [fmtL_miss l (fmtS cs w) a (by rw [fmtS_len]; exact ha) (fun x hx => h x (List.mem_cons_of_mem _ hx)), hs]
def zoneW (g : Geo) : Nat → List Wr
 | 0 => []
 | z + 1 => zoneW g z ++ (tabW g (z : Nat) ++ slotW g (z : Nat))
def fmtW (g : Geo) (s : ByteArray) : List Wr := anCells g (firstA g s) ++ (logW g 0 ++ (logW g 1 ++ zoneW g g.z.toNat))
theorem fmt3_W (g : Geo) (s : ByteArray) : ∀ z, fmt3 g s z = fmtL (fmt0 g) (anCells g (firstA g s) ++ (logW g 0 ++ (logW g 1 ++ zoneW g z)))
 | 0 => by
  show fmtL (fmtL (fmt1 g s) (logW g 0)) (logW g 1) = _
  rw [fmt1, ← fmtL_app, ← fmtL_app, zoneW, List.append_nil]
 | z + 1 => by
  rw [fmt3, fmt3_W g s z, ← fmtL_app, ← fmtL_app, zoneW]
  simp only [List.append_assoc]
def fmtF (g : Geo) (s : ByteArray) (a : Int) : List UInt8 :=
 if a < g.an then anCell (firstA g s) a else if a < g.an + g.sl then cellB g zeroC 0 (a - g.an) else if a < g.an + 2 * g.sl then cellB g zeroC 1 (a - g.an - g.sl)
 else if a < g.an + 2 * g.sl + 2 * g.z then sealB a 0 (tblB (tab0 g)) else sealB a 0 zero8
theorem zoneW_mem {g : Geo} (hg : okG g = true) : ∀ (n : Nat) (w : Wr), (n : Int) ≤ g.z → (w ∈ zoneW g n ↔ (∃ z k : Nat, z < n ∧ k < 2 ∧ w = ⟨tabAt g z k, sealB (tabAt g z k) 0 (tblB (tab0 g))⟩) ∨ ∃ z i : Nat, z < n ∧ i < (perG g).toNat ∧ w = ⟨slotAt g z i, sealB (slotAt g z i) 0 zero8⟩)
 | 0, w, _ => by simp [zoneW]
 | n + 1, w, h => by
  rw [zoneW, List.mem_append, List.mem_append, zoneW_mem hg n w (by omega)]
  simp only [tabW, slotW, List.mem_map, List.mem_range]
  constructor
  ·rintro ((⟨z, k, h1, h2, h3⟩ | ⟨z, i, h1, h2, h3⟩) | ⟨k, h1, h2⟩ | ⟨i, h1, h2⟩)
   ·exact .inl ⟨z, k, by omega, h2, h3⟩
   ·exact .inr ⟨z, i, by omega, h2, h3⟩
   ·exact .inl ⟨n, k, by omega, h1, h2.symm⟩
   ·exact .inr ⟨n, i, by omega, h1, h2.symm⟩
  ·rintro (⟨z, k, h1, h2, h3⟩ | ⟨z, i, h1, h2, h3⟩)
   ·by_cases e : z = n
    ·subst e; exact .inr (.inl ⟨k, h2, h3.symm⟩)
    ·exact .inl (.inl ⟨z, k, by omega, h2, h3⟩)
   ·by_cases e : z = n
    ·subst e; exact .inr (.inr ⟨i, h2, h3.symm⟩)
    ·exact .inl (.inr ⟨z, i, by omega, h2, h3⟩)
theorem fmtF_an {g : Geo} {s : ByteArray} {a : Int} (h : a < g.an) : fmtF g s a = anCell (firstA g s) a := if_pos h
theorem fmtF_log {g : Geo} {s : ByteArray} {c : Int} {i : Nat} (hc : c = 0 ∨ c = 1) (hi : (i : Int) < g.sl) : fmtF g s (logAt g c i) = cellB g zeroC c i := by
 unfold fmtF logAt
 rcases hc with rfl | rfl
 ·rw [if_neg (by omega), if_pos (by omega)]; congr 1; omega
 ·rw [if_neg (by omega), if_neg (by omega), if_pos (by omega)]; congr 1; omega
theorem fmtF_tab {g : Geo} {s : ByteArray} {z k : Nat} (h0 : 0 ≤ g.sl) (hz : (z : Int) < g.z) (hk : k < 2) : fmtF g s (tabAt g z k) = sealB (tabAt g z k) 0 (tblB (tab0 g)) := by
 unfold fmtF
 have : tabAt g z k = g.an + 2 * g.sl + 2 * z + k := rfl
 rw [if_neg (by omega), if_neg (by omega), if_neg (by omega), if_pos (by omega)]
theorem fmtF_slot {g : Geo} {s : ByteArray} {z i : Nat} (h0 : 0 ≤ g.sl) (h1 : 0 ≤ g.z) (h2 : 0 ≤ perG g) : fmtF g s (slotAt g z i) = sealB (slotAt g z i) 0 zero8 := by
 unfold fmtF
 have : slotAt g z i = g.an + 2 * g.sl + 2 * g.z + z * perG g + i := rfl
 have : 0 ≤ (z : Int) * perG g := Int.mul_nonneg (by omega) h2
 rw [if_neg (by omega), if_neg (by omega), if_neg (by omega), if_neg (by omega)]
theorem perG_pos {g : Geo} (hg : okG g = true) : 0 < perG g := by
 obtain ⟨g1, g2, g3, g4, g5⟩ := okG_iff.1 hg
 unfold perG; omega
theorem fmtW_all {g : Geo} {s : ByteArray} (hg : okG g = true) : ∀ w ∈ fmtW g s, 0 ≤ w.addr ∧ w.bytes = fmtF g s w.addr := by
 obtain ⟨g1, g2, g3, g4, g5⟩ := okG_iff.1 hg
 have hp := perG_pos hg
 intro w hw
 simp only [fmtW, List.mem_append, zoneW_mem hg g.z.toNat w (by omega)] at hw
 rcases hw with hw | hw | hw | ⟨z, k, h1, h2, rfl⟩ | ⟨z, i, h1, h2, rfl⟩
 ·simp only [anCells, List.mem_map, List.mem_range] at hw
  obtain ⟨i, hi, rfl⟩ := hw
  exact ⟨by show (0 : Int) ≤ (i : Nat); omega, (fmtF_an (by show ((i : Nat) : Int) < g.an; omega)).symm⟩
 ·simp only [logW, List.mem_map, List.mem_range] at hw
  obtain ⟨i, hi, rfl⟩ := hw
  exact ⟨by show 0 ≤ logAt g 0 i; unfold logAt; omega, (fmtF_log (.inl rfl) (by omega)).symm⟩
 ·simp only [logW, List.mem_map, List.mem_range] at hw
  obtain ⟨i, hi, rfl⟩ := hw
  exact ⟨by show 0 ≤ logAt g 1 i; unfold logAt; omega, (fmtF_log (.inr rfl) (by omega)).symm⟩
 ·exact ⟨by show 0 ≤ tabAt g z k; unfold tabAt; omega, (fmtF_tab (by omega) (by omega) h2).symm⟩
 ·have : 0 ≤ (z : Int) * perG g := Int.mul_nonneg (by omega) (by omega)
  exact ⟨by show 0 ≤ slotAt g z i; unfold slotAt; omega, (fmtF_slot (by omega) (by omega) (by omega)).symm⟩
theorem fmtW_hit {g : Geo} {s : ByteArray} (hg : okG g = true) {a : Int} (h0 : 0 ≤ a) (h : a < cellsN g) : ∃ w ∈ fmtW g s, w.addr = a := by
 obtain ⟨g1, g2, g3, g4, g5⟩ := okG_iff.1 hg
 have hp := perG_pos hg
 by_cases h1 : a < g.an
 ·refine ⟨⟨a, anCell (firstA g s) a⟩, ?_, rfl⟩
  simp only [fmtW, List.mem_append, anCells, List.mem_map, List.mem_range]
  exact .inl ⟨a.toNat, by omega, by rw [Int.toNat_of_nonneg h0]⟩
 ·have hlog : ∀ (c : Int) (i : Nat), (c = 0 ∨ c = 1) → (i : Int) < g.sl → ∃ w ∈ fmtW g s, w.addr = logAt g c i := fun c i hc hi => by
   refine ⟨⟨logAt g c i, cellB g zeroC c i⟩, ?_, rfl⟩
   simp only [fmtW, List.mem_append, logW, List.mem_map, List.mem_range]
   rcases hc with rfl | rfl
   ·exact .inr (.inl ⟨i, by omega, rfl⟩)
   ·exact .inr (.inr (.inl ⟨i, by omega, rfl⟩))
  by_cases h2 : a < g.an + g.sl
  ·obtain ⟨w, hw, e⟩ := hlog 0 (a - g.an).toNat (.inl rfl) (by omega)
   exact ⟨w, hw, by rw [e]; unfold logAt; omega⟩
  ·by_cases h3 : a < g.an + 2 * g.sl
   ·obtain ⟨w, hw, e⟩ := hlog 1 (a - g.an - g.sl).toNat (.inr rfl) (by omega)
    exact ⟨w, hw, by rw [e]; unfold logAt; omega⟩
   ·by_cases h4 : a < g.an + 2 * g.sl + 2 * g.z
    ·refine ⟨⟨tabAt g (((a - (g.an + 2 * g.sl)).toNat / 2 : Nat)) ((a - (g.an + 2 * g.sl)).toNat % 2 : Nat), sealB (tabAt g (((a - (g.an + 2 * g.sl)).toNat / 2 : Nat)) ((a - (g.an + 2 * g.sl)).toNat % 2 : Nat)) 0 (tblB (tab0 g))⟩, ?_, by show tabAt g _ _ = a; unfold tabAt; omega⟩
     simp only [fmtW, List.mem_append, zoneW_mem hg g.z.toNat _ (by omega)]
     exact .inr (.inr (.inr (.inl ⟨_, _, by omega, by omega, rfl⟩)))
    ·have hq : a - (g.an + 2 * g.sl + 2 * g.z) = ((a - (g.an + 2 * g.sl + 2 * g.z)).toNat : Int) := by omega
     generalize hX : (a - (g.an + 2 * g.sl + 2 * g.z)).toNat = X at hq
     have hP : perG g = ((perG g).toNat : Int) := by omega
     have hX2 : X < g.z.toNat * (perG g).toNat := by
      have : (X : Int) < g.z * perG g := by unfold cellsN at h; omega
      rw [hP, show g.z = (g.z.toNat : Int) by omega] at this
      exact_mod_cast this
     generalize hPn : (perG g).toNat = p at hP hX2
     have hp0 : 0 < p := by omega
     have hdm : (X / p) * p + X % p = X := Nat.div_add_mod' X p
     refine ⟨⟨slotAt g ((X / p : Nat)) ((X % p : Nat)), sealB (slotAt g ((X / p : Nat)) ((X % p : Nat))) 0 zero8⟩, ?_, ?_⟩
     ·simp only [fmtW, List.mem_append, zoneW_mem hg g.z.toNat _ (by omega)]
      exact .inr (.inr (.inr (.inr ⟨X / p, X % p, Nat.div_lt_of_lt_mul (by rw [Nat.mul_comm]; exact hX2), by rw [hPn]; exact Nat.mod_lt _ hp0, rfl⟩)))
     ·show slotAt g _ _ = a
      unfold slotAt
      rw [hP]
      have : ((X / p : Nat) : Int) * (p : Int) + ((X % p : Nat) : Int) = (X : Int) := by exact_mod_cast hdm
      omega
theorem fmt_cell {g : Geo} {s : ByteArray} (hg : okG g = true) {a : Int} (h0 : 0 ≤ a) (h : a < cellsN g) : (fmtD g s).cells.getD a.toNat cz = ⟨0, fmtF g s a, []⟩ := by
 have hl : a.toNat < (fmt0 g).length := by rw [fmt0_len]; omega
 obtain ⟨w, hw, e⟩ := fmtW_hit (s := s) hg h0 h
 have hall := fmtW_all (s := s) hg
 show (fmt3 g s g.z.toNat).getD a.toNat cz = _
 rw [fmt3_W]
 refine (fmtL_keep (F := fmtF g s a) (fmtW g s) (fmt0 g) a.toNat hl (fun x hx hxa => ?_) (.inl ⟨w, hw, by rw [e]⟩)).trans ?_
 ·have := hall x hx
  rw [this.2]
  congr 1
  omega
 ·have : (fmt0 g).getD a.toNat cz = cz := by
   unfold fmt0
   rw [List.getD_eq_getElem?_getD, List.getElem?_replicate]
   split <;> rfl
  rw [this]
  rfl
structure Holds (d : Dk) (n : Int) (F : Int → List UInt8) : Prop where
 len : (d.cells.length : Int) = n
 cache : d.cache = []
 cell : ∀ a : Int, 0 ≤ a → a < n → (d.cells.getD a.toNat cz).state = 0 ∧ (d.cells.getD a.toNat cz).bytes = F a
theorem Holds.got {d : Dk} {n : Int} {F : Int → List UInt8} (h : Holds d n F) {a : Int} (h0 : 0 ≤ a) (h1 : a < n) : gotG d a = ⟨0, F a⟩ := by
 obtain ⟨e1, e2⟩ := h.cell a h0 h1
 have hg : d.got a = ((d.cells.getD a.toNat cz).bytes, 0) := by
  unfold Dk.got
  rw [h.cache]
  simp only [lastW_nil]
  rw [show (d.cells.getD a.toNat ⟨0, [], []⟩) = d.cells.getD a.toNat cz from rfl, if_pos e1]
 rw [gotG, hg, e2]
theorem fmt_holds {g : Geo} {s : ByteArray} (hg : okG g = true) : Holds (fmtD g s) (cellsN g) (fmtF g s) := by
 have hc := cells_ge hg
 obtain ⟨g1, g2, g3, g4, g5⟩ := okG_iff.1 hg
 refine ⟨?_, rfl, fun a h0 h1 => by rw [fmt_cell hg h0 h1]; exact ⟨rfl, rfl⟩⟩
 show ((fmt3 g s g.z.toNat).length : Int) = _
 rw [fmt3_len]
 omega
def saysN (g : Geo) (x : Gt) (addr : Int) : Option An :=
 if x.err = 0 ∧ openE x.bytes = 0 ∧ secAddr x.bytes = addr then
  match readA g (secPay x.bytes) with
  | some a => if a.gen = secStamp x.bytes then some a else none
  | none => none
 else none
theorem an0_tpv (e : Value) : ∀ (c : Ctx) (v : Value), Rd (.tp [.ag [.v (.int .i64 0), .v (.int .i64 0), .v (.int .i64 0), .v (.int .i64 0), .v (.int .i64 0), .v (.string ⟨#[]⟩), .v (.slice none 0 0)], .v e]) c v → Rd (.tp [.ag (anC an0), .v e]) c v :=
 tp_sub (m := [.ag (anC an0), .v e]) ⟨ag_sub an0_sub, fun _ _ h => h, trivial⟩
theorem secPay_len (b : List UInt8) : (secPay b).length ≤ b.length := by simp [secPay]; omega
set_option maxRecDepth 100000 in
theorem nsays_fn (g : Geo) (x : Gt) (addr : Int) (hg : okG g = true) (hx : x.bytes.length ≤ 100000) (ha : 0 ≤ addr ∧ addr ≤ 65535) : Fn Tryz.prog 168 [.ag (geoC g), .ag (gotC x), .v (.int .i64 addr)] fun r => r = .tp [.ag (anC ((saysN g x addr).getD an0)), .v (.bool (saysN g x addr).isSome)] := by
 have hG : Fn Tryz.prog 46 [.ag (geoC g)] fun r => r = .v (errV (okG g)) := gcheck_fn g.z g.d g.sp g.sl g.an
 rw [hg] at hG
 have ho := sopen_fn x.bytes hx
 by_cases h1 : x.err = 0
 ·by_cases h2 : openE x.bytes = 0
  ·rw [if_pos h2, h2] at ho
   by_cases h3 : secAddr x.bytes = addr
   ·have hr := aread_fn g (secPay x.bytes) (by have := secPay_len x.bytes; omega)
    have hS : saysN g x addr = match readA g (secPay x.bytes) with | some a => if a.gen = secStamp x.bytes then some a else none | none => none := by rw [saysN, if_pos ⟨h1, h2, h3⟩]
    simp only [readAE, hg, if_true, Bool.true_eq_false, if_false] at hr
    cases hR : readA g (secPay x.bytes) with
    | none =>
     rw [hR] at hr hS
     rw [hS]
     refine Fn.of tys_ok Tryz.func168 rfl rfl (Nat.le_of_ble_eq_true rfl) ?_
     conv => whnf
     repeat' (first | (refine boolK_intro (fun h => ?_) (fun h => ?_) <;> (try simp at h) <;> conv => whnf) | (refine aDraw.seq tys_ok mixed (by kernel_rfl) ?_; conv => whnf) | (refine aSeq.go ?_; conv => whnf) | (refine Fn.closed (hG) rfl ?_; rintro _ rfl; conv => whnf) | (refine Fn.closed (ho) rfl ?_; rintro _ rfl; conv => whnf) | (refine Fn.closed (hr) rfl ?_; rintro _ rfl; conv => whnf) | (refine And.intro (by omega) ?_; conv => whnf))
     all_goals first | exact ⟨_, an0_tpv _, rfl⟩ | (exfalso; first | omega | (simp_all; done) | (simp_all; omega))
    | some a =>
     rw [hR] at hr hS
     by_cases h4 : a.gen = secStamp x.bytes
     ·have hS : saysN g x addr = some a := hS.trans (if_pos h4)
      rw [hS]
      refine Fn.of tys_ok Tryz.func168 rfl rfl (Nat.le_of_ble_eq_true rfl) ?_
      conv => whnf
      repeat' (first | (refine boolK_intro (fun h => ?_) (fun h => ?_) <;> (try simp at h) <;> conv => whnf) | (refine aDraw.seq tys_ok mixed (by kernel_rfl) ?_; conv => whnf) | (refine aSeq.go ?_; conv => whnf) | (refine Fn.closed (hG) rfl ?_; rintro _ rfl; conv => whnf) | (refine Fn.closed (ho) rfl ?_; rintro _ rfl; conv => whnf) | (refine Fn.closed (hr) rfl ?_; rintro _ rfl; conv => whnf) | (refine And.intro (by omega) ?_; conv => whnf))
      all_goals first | exact ⟨_, fun _ _ h => h, rfl⟩ | (exfalso; first | omega | (simp_all; done) | (simp_all; omega))
     ·have hS : saysN g x addr = none := hS.trans (if_neg h4)
      rw [hS]
      refine Fn.of tys_ok Tryz.func168 rfl rfl (Nat.le_of_ble_eq_true rfl) ?_
      conv => whnf
      repeat' (first | (refine boolK_intro (fun h => ?_) (fun h => ?_) <;> (try simp at h) <;> conv => whnf) | (refine aDraw.seq tys_ok mixed (by kernel_rfl) ?_; conv => whnf) | (refine aSeq.go ?_; conv => whnf) | (refine Fn.closed (hG) rfl ?_; rintro _ rfl; conv => whnf) | (refine Fn.closed (ho) rfl ?_; rintro _ rfl; conv => whnf) | (refine Fn.closed (hr) rfl ?_; rintro _ rfl; conv => whnf) | (refine And.intro (by omega) ?_; conv => whnf))
      all_goals first | exact ⟨_, an0_tpv _, rfl⟩ | (exfalso; first | omega | (simp_all; done) | (simp_all; omega))
   ·have hS : saysN g x addr = none := by rw [saysN, if_neg (fun h => h3 h.2.2)]
    rw [hS]
    refine Fn.of tys_ok Tryz.func168 rfl rfl (Nat.le_of_ble_eq_true rfl) ?_
    conv => whnf
    repeat' (first | (refine boolK_intro (fun h => ?_) (fun h => ?_) <;> (try simp at h) <;> conv => whnf) | (refine aDraw.seq tys_ok mixed (by kernel_rfl) ?_; conv => whnf) | (refine aSeq.go ?_; conv => whnf) | (refine Fn.closed (hG) rfl ?_; rintro _ rfl; conv => whnf) | (refine Fn.closed (ho) rfl ?_; rintro _ rfl; conv => whnf) | (refine And.intro (by omega) ?_; conv => whnf))
    all_goals first | exact ⟨_, an0_tpv _, rfl⟩ | (exfalso; first | omega | (simp_all; done) | (simp_all; omega))
  ·have hS : saysN g x addr = none := by rw [saysN, if_neg (fun h => h2 h.2.1)]
   rw [if_neg h2] at ho
   obtain ⟨e, he⟩ : ∃ e, openE x.bytes = e := ⟨_, rfl⟩
   rw [he] at ho h2
   rw [hS]
   refine Fn.of tys_ok Tryz.func168 rfl rfl (Nat.le_of_ble_eq_true rfl) ?_
   conv => whnf
   repeat' (first | (refine boolK_intro (fun h => ?_) (fun h => ?_) <;> (try simp at h) <;> conv => whnf) | (refine aDraw.seq tys_ok mixed (by kernel_rfl) ?_; conv => whnf) | (refine aSeq.go ?_; conv => whnf) | (refine Fn.closed (hG) rfl ?_; rintro _ rfl; conv => whnf) | (refine Fn.closed (ho) rfl ?_; rintro _ rfl; conv => whnf) | (refine And.intro (by omega) ?_; conv => whnf))
   all_goals first | exact ⟨_, an0_tpv _, rfl⟩ | (exfalso; first | omega | (simp_all; done) | (simp_all; omega))
 ·have hS : saysN g x addr = none := by rw [saysN, if_neg (fun h => h1 h.1)]
  rw [hS]
  refine Fn.of tys_ok Tryz.func168 rfl rfl (Nat.le_of_ble_eq_true rfl) ?_
  conv => whnf
  repeat' (first | (refine boolK_intro (fun h => ?_) (fun h => ?_) <;> (try simp at h) <;> conv => whnf) | (refine aDraw.seq tys_ok mixed (by kernel_rfl) ?_; conv => whnf) | (refine aSeq.go ?_; conv => whnf) | (refine Fn.closed (hG) rfl ?_; rintro _ rfl; conv => whnf) | (refine And.intro (by omega) ?_; conv => whnf))
  all_goals first | exact ⟨_, an0_tpv _, rfl⟩ | (exfalso; first | omega | (simp_all; done) | (simp_all; omega))
theorem ConvH.subBox {H : List AB} (k : Nat) {t : TypeId} {cs cs' : List AV} (hk : H[k]? = some (.box t cs)) (h : SubL cs cs') : ConvH H (H.set k (.box t cs')) := fun _ _ c hs =>
 ⟨c, rfl, hs.recell hk rfl fun ⟨g, xs, h1, h2, h3, h4⟩ => ⟨g, xs, h1, h2, h.rdl h3, h4⟩, Ext.refl c⟩
def pickS (g : Geo) (l : List Gt) (st : Option (An × Nat)) (i : Nat) : Option (An × Nat) :=
 match saysN g (l.getD i ⟨0, []⟩) (i : Nat) with
 | none => st
 | some b => match st with
  | none => some (b, i)
  | some (a, j) => if a.gen < b.gen then some (b, i) else some (a, j)
def pickK (g : Geo) (l : List Gt) (k : Nat) : Option (An × Nat) := (List.range k).foldl (pickS g l) none
def pickN (g : Geo) (l : List Gt) : Option (An × Nat) := pickK g l l.length
theorem pickK_succ (g : Geo) (l : List Gt) (k : Nat) : pickK g l (k + 1) = pickS g l (pickK g l k) k := by rw [pickK, List.range_succ, List.foldl_append]; rfl
def pkA (p : Option (An × Nat)) : An := match p with | some (a, _) => a | none => an0
def pkN (p : Option (An × Nat)) : Nat := match p with | some (_, i) => i | none => 0
def pkE (p : Option (An × Nat)) : Int := match p with | some _ => 0 | none => 11
set_option maxRecDepth 100000 in
theorem pick_fn (g : Geo) (l : List Gt) (hg : okG g = true) (hl : (l.length : Int) = g.an) (hb : ∀ x ∈ l, x.bytes.length ≤ 100000) : Fn Tryz.prog 112 [.ag (geoC g), gotsA l] fun r => r = .tp [.ag (anC (pkA (pickN g l))), .v (.int .i64 (pkN (pickN g l) : Nat)), .v (.int .i64 (pkE (pickN g l)))] := by
 have hG : Fn Tryz.prog 46 [.ag (geoC g)] fun r => r = .v (errV (okG g)) := gcheck_fn g.z g.d g.sp g.sl g.an
 rw [hg] at hG
 obtain ⟨g1, g2, g3, g4, g5⟩ := okG_iff.1 hg
 refine Fn.of tys_ok Tryz.func112 rfl rfl (Nat.le_of_ble_eq_true rfl) ?_
 conv => whnf
 refine Fn.closed (hG) rfl ?_
 rintro _ rfl
 conv => whnf
 refine boolI (fun hq => absurd hl hq) (fun _ => ?_)
 conv => whnf
 refine aLoop.ruleRR Nat (fun k => ([(1, gotsA l), (2, .bp 0 0), (4, .bp 1 0), (5, .v (.int .i64 (pkN (pickK g l k) : Nat))), (6, .v (.int .i64 (pkE (pickK g l k)))), (25, gotsA l), (26, .v (.int .i64 l.length)), (27, .v (.int .i64 k))], [.box 23 (geoC g), .box 40 (anC (pkA (pickK g l k)))])) (fun k => k ≤ l.length) (fun k => l.length - k) 0 (Nat.zero_le _)
  (WkN.rc (ConvF.ofH (ConvH.subBox 1 rfl an0_sub)) (s := [0, 1]) ⟨⟨rfl, rfl, rfl, rfl, rfl, rfl, rfl, rfl, trivial⟩, ⟨rfl, rfl, trivial⟩, rfl, rfl, rfl, rfl, rfl⟩) ?_
 intro k hk
 have hsucc := pickK_succ g l k
 conv => whnf
 refine boolI (fun h6 => ?_) (fun h6 => ?_) <;> (repeat rw [Int.toNat_natCast] at h6) <;> conv => whnf
 ·have hk' : k < l.length := by omega
  have hx := hb _ (getD_mem (d := (⟨0, []⟩ : Gt)) hk')
  have h1 := ganchor_fn g k hg (by omega)
  have h2 := nsays_fn g (l.getD k ⟨0, []⟩) k hg hx (by omega)
  rw [pickS] at hsucc
  repeat' (first | (refine aSeq.go ?_; conv => whnf) | fail)
  refine And.intro ⟨by omega, by omega⟩ ?_
  conv => whnf
  repeat' (first | (refine aSeq.go ?_; conv => whnf) | fail)
  refine Fn.closed (h1) rfl ?_
  rintro _ rfl
  conv => whnf
  rw [Int.toNat_natCast]
  refine Fn.closed (h2) rfl ?_
  rintro _ rfl
  conv => whnf
  generalize saysN g (l.getD k ⟨0, []⟩) (k : Nat) = S at hsucc ⊢
  generalize pickK g l k = P at hsucc ⊢
  cases S with
  | none =>
   conv => whnf
   repeat' (first | (refine aSeq.go ?_; conv => whnf) | fail)
   refine ⟨k + 1, hk', by omega, ?_⟩
   rw [show pickK g l (k + 1) = P from hsucc]
   exact WkN.r (s := [0, 1]) ⟨⟨rfl, rfl, rfl, rfl, rfl, rfl, rfl, wsucc (by omega), trivial⟩, ⟨rfl, rfl, trivial⟩, rfl, rfl, rfl, rfl, rfl⟩
  | some b =>
   cases P with
   | none =>
    conv => whnf
    repeat' (first | (refine aSeq.go ?_; conv => whnf) | fail)
    refine ⟨k + 1, hk', by omega, ?_⟩
    rw [show pickK g l (k + 1) = some (b, k) from hsucc]
    exact WkN.r (s := [0, 1]) ⟨⟨rfl, rfl, rfl, rfl, rfl, rfl, rfl, wsucc (by omega), trivial⟩, ⟨rfl, rfl, trivial⟩, rfl, rfl, rfl, rfl, rfl⟩
   | some q =>
    obtain ⟨a, j⟩ := q
    by_cases h5 : a.gen < b.gen
    ·have e : pickK g l (k + 1) = some (b, k) := hsucc.trans (if_pos h5)
     conv => whnf
     refine boolI (fun h7 => ?_) (fun h7 => absurd h5 (Int.not_lt.2 (show b.gen ≤ a.gen from h7)))
     conv => whnf
     repeat' (first | (refine aSeq.go ?_; conv => whnf) | fail)
     refine ⟨k + 1, hk', by omega, ?_⟩
     rw [e]
     exact WkN.r (s := [0, 1]) ⟨⟨rfl, rfl, rfl, rfl, rfl, rfl, rfl, wsucc (by omega), trivial⟩, ⟨rfl, rfl, trivial⟩, rfl, rfl, rfl, rfl, rfl⟩
    ·have e : pickK g l (k + 1) = some (a, j) := hsucc.trans (if_neg h5)
     conv => whnf
     refine boolI (fun h7 => absurd (show a.gen < b.gen from h7) h5) (fun h7 => ?_)
     conv => whnf
     repeat' (first | (refine aSeq.go ?_; conv => whnf) | fail)
     refine ⟨k + 1, hk', by omega, ?_⟩
     rw [e]
     exact WkN.r (s := [0, 1]) ⟨⟨rfl, rfl, rfl, rfl, rfl, rfl, rfl, wsucc (by omega), trivial⟩, ⟨rfl, rfl, trivial⟩, rfl, rfl, rfl, rfl, rfl⟩
 ·have ek : k = l.length := by omega
  subst ek
  exact ⟨_, fun _ _ h => h, rfl⟩
end Go.Proofs.YtldngmdpiifamaaGreatDoor.A
end
