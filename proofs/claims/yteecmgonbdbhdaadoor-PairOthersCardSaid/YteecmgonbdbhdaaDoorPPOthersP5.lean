/-
Several texts in one.
-/
import Derived.Test.YteecmgonbdbhdaaDoorPPOthersP4
import Derived.Test.YteecmgonbdbhdaaDoorPPOthersP1
import Derived.Lib.LaidIn
import Derived.Lib.LaidU8T
import Derived.LaidHandle
import Derived.MakeChecks
import Derived.Handed

/-
Arguments opened: the program's types.
-/
section
namespace Go.Proofs.YteecmgonbdbhdaaDoor.A
open Go.RowKit Go.ChangeShapes Go.WideShapes Go.ChangeAt Go.Deep

section
variable {H : Type} {enc : TypeId × Value → H} {w : World}
theorem oI : OpenE enc w 3 1 gInt := oe_int Tryd.underlying3 (by kernel_rfl)
theorem oErr : OpenE enc w 27 1 gInt := oe_int Tryd.underlying27 (by kernel_rfl)
theorem oBool : OpenE enc w 4 1 gBool := oe_bool Tryd.underlying4 (by kernel_rfl)
theorem oStr : OpenE enc w 9 1 gStr := oe_str Tryd.underlying9 (by kernel_rfl)
def gBy (L : List AV) : Prop := ∃ b : List UInt8, L = [bA b]
theorem oBy : OpenE enc w 28 1 gBy :=
  (oe_sl (α := UInt8) (sz := 1) (f := fun k => [.v (.int .u8 k.toNat)]) (d := 0) Tryd.underlying28 (by kernel_rfl) (by decide) ((oe_u8 Tryd.underlying5 (by kernel_rfl)).mono fun _ h => h)).mono fun L ⟨l, h⟩ => ⟨l, h⟩
def gIs (L : List AV) : Prop := ∃ b : List Int, L = [iA b]
theorem oIs : OpenE enc w 41 1 gIs :=
  (oe_sl (α := Int) (sz := 1) (f := fun k => [.v (.int .i64 k)]) (d := 0) Tryd.underlying41 (by kernel_rfl) (by decide) (oI.mono fun _ ⟨k, h, _⟩ => ⟨k, h⟩)).mono fun L ⟨l, h⟩ => ⟨l, h⟩
def fI : FieldE enc w := ⟨_, _, _, oI⟩
def fErr : FieldE enc w := ⟨_, _, _, oErr⟩
def fBy : FieldE enc w := ⟨_, _, _, oBy⟩
def fIs : FieldE enc w := ⟨_, _, _, oIs⟩
def fStr : FieldE enc w := ⟨_, _, _, oStr⟩
theorem oImg : OpenE enc w 32 3 fun L => ∃ x, L = imgC x :=
  (oe_struct [fI, fI, fBy] Tryd.underlying32 (by kernel_rfl) (by kernel_rfl)).mono fun L h => by
    obtain ⟨_, _, rfl, ⟨a, rfl, _⟩, _, _, rfl, ⟨b, rfl, _⟩, _, _, rfl, ⟨c, rfl⟩, rfl⟩ := h
    exact ⟨⟨a, b, c⟩, rfl⟩
def fImg : FieldE enc w := ⟨_, _, _, oImg⟩
theorem oRec : OpenE enc w 34 8 fun L => ∃ x, L = rcC x :=
  (oe_struct [fI, fI, fI, fI, fI, fImg] Tryd.underlying34 (by kernel_rfl) (by kernel_rfl)).mono fun L h => by
    obtain ⟨_, _, rfl, ⟨a, rfl, _⟩, _, _, rfl, ⟨b, rfl, _⟩, _, _, rfl, ⟨c, rfl, _⟩, _, _, rfl, ⟨d, rfl, _⟩, _, _, rfl, ⟨e, rfl, _⟩, _, _, rfl, ⟨x, rfl⟩, rfl⟩ := h
    exact ⟨⟨a, b, c, d, e, x⟩, rfl⟩
theorem oGeo : OpenE enc w 23 5 fun L => ∃ x, L = geoC x :=
  (oe_struct [fI, fI, fI, fI, fI] Tryd.underlying23 (by kernel_rfl) (by kernel_rfl)).mono fun L h => by
    obtain ⟨_, _, rfl, ⟨a, rfl, _⟩, _, _, rfl, ⟨b, rfl, _⟩, _, _, rfl, ⟨c, rfl, _⟩, _, _, rfl, ⟨d, rfl, _⟩, _, _, rfl, ⟨e, rfl, _⟩, rfl⟩ := h
    exact ⟨⟨a, b, c, d, e⟩, rfl⟩
theorem oGot : OpenE enc w 30 2 fun L => ∃ x, L = gotC x :=
  (oe_struct [fErr, fBy] Tryd.underlying30 (by kernel_rfl) (by kernel_rfl)).mono fun L h => by
    obtain ⟨_, _, rfl, ⟨a, rfl, _⟩, _, _, rfl, ⟨c, rfl⟩, rfl⟩ := h
    exact ⟨⟨a, c⟩, rfl⟩
theorem oHome : OpenE enc w 91 3 fun L => ∃ x, L = hmC x :=
  (oe_struct [fIs, fI, fI] Tryd.underlying91 (by kernel_rfl) (by kernel_rfl)).mono fun L h => by
    obtain ⟨_, _, rfl, ⟨a, rfl⟩, _, _, rfl, ⟨b, rfl, _⟩, _, _, rfl, ⟨c, rfl, _⟩, rfl⟩ := h
    exact ⟨⟨a, b, c⟩, rfl⟩
theorem oHomes : OpenE enc w 24 1 fun L => ∃ l, L = [hmsA l] :=
  (oe_sl (α := Hm) (sz := 3) (f := hmC) (d := ⟨[], 0, 0⟩) Tryd.underlying24 (by kernel_rfl) (by decide) oHome).mono fun L ⟨l, h⟩ => ⟨l, h⟩
def fHms : FieldE enc w := ⟨_, _, _, oHomes⟩
theorem oAnchor : OpenE enc w 26 7 fun L => ∃ x, L = anC x :=
  (oe_struct [fI, fI, fI, fI, fI, fStr, fHms] Tryd.underlying26 (by kernel_rfl) (by kernel_rfl)).mono fun L h => by
    obtain ⟨_, _, rfl, ⟨a, rfl, _⟩, _, _, rfl, ⟨b, rfl, _⟩, _, _, rfl, ⟨c, rfl, _⟩, _, _, rfl, ⟨d, rfl, _⟩, _, _, rfl, ⟨e, rfl, _⟩, _, _, rfl, ⟨s, rfl⟩, _, _, rfl, ⟨l, rfl⟩, rfl⟩ := h
    exact ⟨⟨a, b, c, d, e, s, l⟩, rfl⟩
theorem oGots : OpenE enc w 38 1 fun L => ∃ l, L = [gotsA l] :=
  (oe_sl (α := Gt) (sz := 2) (f := gotC) (d := ⟨0, []⟩) Tryd.underlying38 (by kernel_rfl) (by decide) oGot).mono fun L ⟨l, h⟩ => ⟨l, h⟩
theorem oImgs : OpenE enc w 53 1 fun L => ∃ l, L = [imgsA l] :=
  (oe_sl (α := Img) (sz := 3) (f := imgC) (d := ⟨0, 0, []⟩) Tryd.underlying53 (by kernel_rfl) (by decide) oImg).mono fun L ⟨l, h⟩ => ⟨l, h⟩
/-- An array of numbers. -/
def arrC (l : List Int) : List AV := l.map fun k => .v (.int .i64 k)
theorem cat_ints : ∀ (n : Nat) {L : List AV}, catG (List.replicate n gInt) L → ∃ l : List Int, l.length = n ∧ L = arrC l ∧ ∀ k ∈ l, -9223372036854775808 ≤ k ∧ k ≤ 9223372036854775807
  | 0, L, h => ⟨[], rfl, h, by simp⟩
  | n + 1, L, h => by
    obtain ⟨A, B, rfl, ⟨k, rfl, hk⟩, hB⟩ := h
    obtain ⟨l, h1, rfl, h2⟩ := cat_ints n hB
    refine ⟨k :: l, by simp [h1], rfl, fun x hx => ?_⟩
    rcases List.mem_cons.1 hx with rfl | hx
    · exact hk
    · exact h2 x hx
theorem oe_arr {t n : Nat} (ht : Tryd.prog.underlying t = some (.array n 3)) (hc : Tryd.prog.cellsOf t = n) : OpenE enc w t n fun L => ∃ l : List Int, l.length = n ∧ L = arrC l ∧ ∀ k ∈ l, -9223372036854775808 ≤ k ∧ k ≤ 9223372036854775807 := ⟨hc, fun m cs x h => by
  obtain ⟨xs, m', _, rfl, hl, hlen, hel⟩ := DataW.trod_array ht h
  have hs : ((List.replicate n (fI : FieldE enc w)).map (·.sz)).sum = n := by
    rw [List.map_replicate, List.sum_replicate_nat]
    exact Nat.mul_one n
  obtain ⟨L, h1, h2, h3, h4⟩ := oe_fields (n := m') (cs := cs) (List.replicate n (fI : FieldE enc w)) 0 (by rw [hl, hc, hs]; omega) (fun i f hi => by
    have hin : i < n := by simpa using (List.getElem?_eq_some_iff.1 hi).1
    rw [List.getElem?_replicate_of_lt hin] at hi
    have hi := (Option.some.inj hi).symm
    subst hi
    have := hel i hin
    rw [(oI (enc := enc) (w := w)).1, List.getElem?_eq_getElem (by omega)] at this
    refine ⟨_, Eq.trans ?_ this⟩
    have e : ((List.take i (List.replicate n (fI : FieldE enc w))).map (·.sz)).sum = i * 1 := by
      rw [List.take_replicate, List.map_replicate, List.sum_replicate_nat, Nat.min_eq_left (by omega)]
      rfl
    rw [e, Nat.zero_add]
    rfl)
  rw [List.map_replicate] at h1
  obtain ⟨l, q1, q2, q3⟩ := cat_ints n h1
  exact ⟨L, ⟨l, q1, q2, q3⟩, by simpa using h2, by simpa using h3, by rw [h4, hs]⟩⟩

/-- An argument of one cell; an argument of several. -/
theorem arg_one {t : Nat} {G : List AV → Prop} {v : Value} {d : DataW H} {ps : List MemPlace} (ho : OpenE enc w t 1 G) (hv : v.cells.toList = [v]) (h : DataW.Trod enc Tryd.prog w 0 (fun _ => true) true t v d ps) : ∃ L, G L ∧ RdL L (ctx0 w) [v] := by
  obtain ⟨n, hn⟩ := h
  obtain ⟨L, h1, h2, _⟩ := ho.2 n _ _ hn
  rw [hv] at h2
  exact ⟨L, h1, h2⟩
theorem arg_agg {t sz : Nat} {G : List AV → Prop} {cs : Array Value} {d : DataW H} {ps : List MemPlace} (ho : OpenE enc w t sz G) (h : DataW.Trod enc Tryd.prog w 0 (fun _ => true) true t (.agg cs) d ps) : ∃ L, G L ∧ Rd (.ag L) (ctx0 w) (.agg cs) := by
  obtain ⟨n, hn⟩ := h
  obtain ⟨L, h1, h2, _⟩ := ho.2 n _ _ hn
  refine ⟨L, h1, ?_⟩
  simp only [Rd]
  exact ⟨cs.toList, rfl, h2⟩
theorem rdL_one {a : AV} {c : Ctx} {v : Value} (h : RdL [a] c [v]) : Rd a c v := by
  simp only [RdL] at h
  obtain ⟨y, ys, e, h1, _⟩ := h
  injection e with e _
  subst e
  exact h1
end
end Go.Proofs.YteecmgonbdbhdaaDoor.A
end

/-
A world in which utf8's two tables lie as they are laid; what a laid world tells of them.
-/
section
namespace Go.Proofs.YteecmgonbdbhdaaDoor
open Go.ChangeShapes Go.WideShapes Go.ChangeAt Go.RowKit

abbrev laidL : List (String × DataW Unit) := [("unicode/utf8.acceptRanges", Rows.laid_unicode_utf8_acceptRanges), ("unicode/utf8.first", Rows.laid_unicode_utf8_first)]
noncomputable def laidWorld (os : Os) : World :=
  let w0 := World.holding Tryd.prog os ⟨#[], #[], []⟩
  let put (h : Array Obj) (g : Nat) (cs : Array Value) : Array Obj := h.modify g fun
    | .cells _ t frozen => .cells cs t frozen
    | o => o
  let h1 := put w0.heap 0 (Lib.firstTab.map fun z => Value.int .u8 z).toArray
  let h2 := put h1 1 ((List.range 16).flatMap fun i => [Value.int .u8 (Lib.accLo i), Value.int .u8 (Lib.accHi i)]).toArray
  { w0 with heap := h2 }
theorem laid_met (os : Os) (args : Array Value) : laidMetH Tryd.prog laidL ((laidWorld os).forCall (fun _ _ => 0) ⟨#[], args, []⟩).memory := by
  rw [MakeChecks.laidMetH_plain _ _ _ (by kernel_rfl)]
  exact (LaidIn.of_run (l := laidL) [1, 0] 8 (by kernel_rfl) (by kernel_rfl) (by kernel_rfl) (by kernel_rfl)).met
theorem first_data : Rows.laid_unicode_utf8_first = Lib.firstData := by kernel_rfl
theorem accept_data : (Rows.laid_unicode_utf8_acceptRanges : DataW Unit) = Lib.acceptData := by kernel_rfl
theorem laid_tabs {W : World} (h : laidMetH Tryd.prog laidL W) : A.globOk W := by
  rw [MakeChecks.laidMetH_plain _ _ _ (by kernel_rfl)] at h
  have h1 := Lib.laidMet.reads h (.head _)
  have h2 := Lib.laidMet.reads h (.tail _ (.head _))
  rw [accept_data] at h1
  rw [first_data] at h2
  exact utf8Tabs_of_readsT (U8Types.of196 Tryd.laysValid) ⟨by kernel_rfl, by kernel_rfl, by kernel_rfl, by kernel_rfl, by kernel_rfl, by kernel_rfl, by kernel_rfl⟩ h2 h1
end Go.Proofs.YteecmgonbdbhdaaDoor
end
