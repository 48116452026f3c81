/-
Arguments opened: disks.
-/
import Derived.Test.YtkdjacmabeeceaaOpen
namespace Go.Proofs.Ytkdjacmabeeceaa
open Go.ChangeShapes Go.WideShapes Go.ChangeAt Go.RowKit Go.Deep

variable {H : Type} {enc : TypeId × Value → H}
theorem u8_wf {k : Int} (h : (Lit.int .u8 k).wf = true) : ∃ x : UInt8, k = x.toNat := by
  have h2 : 0 ≤ k ∧ k < 256 := by
    simp only [Lit.wf, Bool.and_eq_true, decide_eq_true_eq] at h
    have e1 : IntKind.u8.min = 0 := by decide
    have e2 : IntKind.u8.max = 255 := by decide
    omega
  obtain ⟨j, rfl⟩ := Int.eq_ofNat_of_zero_le h2.1
  exact ⟨UInt8.ofNat j, by rw [UInt8.toNat_ofNat_of_lt' (show j < 256 by omega)]⟩
theorem open_asU8 {w : World} {t : TypeId} (ht : Try.prog.underlying t = some (.int .u8)) : OpenAs enc w t UInt8 := fun n cs x h => by
  obtain ⟨k, rfl, -, hw⟩ := DataW.trod_int ht h
  obtain ⟨y, rfl⟩ := u8_wf hw
  exact ⟨y, rfl⟩
theorem cells1 : Try.prog.cellsOf 3 = 1 := by kernel_rfl
theorem cells8 : Try.prog.cellsOf 5 = 1 := by kernel_rfl
theorem cells32 : Try.prog.cellsOf 32 = 1 := by kernel_rfl
theorem cells24 : Try.prog.cellsOf 24 = 1 := by kernel_rfl
theorem cells25 : Try.prog.cellsOf 25 = 1 := by kernel_rfl
theorem cells47 : Try.prog.cellsOf 47 = 3 := by kernel_rfl
theorem cells78 : Try.prog.cellsOf 78 = 2 := by kernel_rfl
theorem cells27 : Try.prog.cellsOf 27 = 4 := by kernel_rfl
theorem open_bytes {w : World} {n : Nat} {cs : List Value} {x : DataW H × List MemPlace} (h : DataW.trod enc Try.prog w 0 (fun _ => true) true n 32 cs = some x) : ∃ v, ∃ l : List UInt8, cs = [v] ∧ SlR w noM v l :=
  open_sl Try.underlying32 cells8 (open_asU8 Try.underlying5) h
theorem open_cel {w : World} : OpenAs enc w 47 Cel := fun n cs x h => by
  obtain ⟨xs, n', _, rfl, hl, hlen, hf⟩ := DataW.trod_struct Try.underlying47 h
  have hl3 : cs.length = 3 := hl.trans cells47
  obtain ⟨c0, c1, c2, rfl⟩ : ∃ c0 c1 c2, cs = [c0, c1, c2] := by
    match cs, hl3 with
    | [a, b, c], _ => exact ⟨a, b, c, rfl⟩
  obtain ⟨y0, y1, y2, rfl⟩ : ∃ y0 y1 y2, xs = [y0, y1, y2] := by
    match xs, hlen with
    | [a, b, c], _ => exact ⟨a, b, c, rfl⟩
  have h0 : DataW.trod enc Try.prog w 0 (fun _ => true) true n' 3 (([c0, c1, c2].drop 0).take (Try.prog.cellsOf 3)) = some y0 := hf 0 _ rfl
  have h1 : DataW.trod enc Try.prog w 0 (fun _ => true) true n' 32 (([c0, c1, c2].drop 1).take (Try.prog.cellsOf 32)) = some y1 := hf 1 _ rfl
  have h2 : DataW.trod enc Try.prog w 0 (fun _ => true) true n' 32 (([c0, c1, c2].drop 2).take (Try.prog.cellsOf 32)) = some y2 := hf 2 _ rfl
  rw [cells1] at h0
  rw [cells32] at h1 h2
  obtain ⟨k, e0, -, -⟩ := DataW.trod_int Try.underlying3 h0
  obtain ⟨v1, l1, e1, s1⟩ := open_bytes h1
  obtain ⟨v2, l2, e2, s2⟩ := open_bytes h2
  simp at e0 e1 e2
  subst e0 e1 e2
  exact ⟨⟨k, l1, l2⟩, _, _, rfl, s1, s2⟩
theorem open_wri {w : World} : OpenAs enc w 78 Wri := fun n cs x h => by
  obtain ⟨xs, n', _, rfl, hl, hlen, hf⟩ := DataW.trod_struct Try.underlying78 h
  have hl3 : cs.length = 2 := hl.trans cells78
  obtain ⟨c0, c1, rfl⟩ : ∃ c0 c1, cs = [c0, c1] := by
    match cs, hl3 with
    | [a, b], _ => exact ⟨a, b, rfl⟩
  obtain ⟨y0, y1, rfl⟩ : ∃ y0 y1, xs = [y0, y1] := by
    match xs, hlen with
    | [a, b], _ => exact ⟨a, b, rfl⟩
  have h0 : DataW.trod enc Try.prog w 0 (fun _ => true) true n' 3 (([c0, c1].drop 0).take (Try.prog.cellsOf 3)) = some y0 := hf 0 _ rfl
  have h1 : DataW.trod enc Try.prog w 0 (fun _ => true) true n' 32 (([c0, c1].drop 1).take (Try.prog.cellsOf 32)) = some y1 := hf 1 _ rfl
  rw [cells1] at h0
  rw [cells32] at h1
  obtain ⟨k, e0, -, -⟩ := DataW.trod_int Try.underlying3 h0
  obtain ⟨v1, l1, e1, s1⟩ := open_bytes h1
  simp at e0 e1
  subst e0 e1
  exact ⟨⟨k, l1⟩, _, rfl, s1⟩
theorem open_dis {w : World} : OpenAs enc w 27 Dis := fun n cs x h => by
  obtain ⟨xs, n', _, rfl, hl, hlen, hf⟩ := DataW.trod_struct Try.underlying27 h
  have hl3 : cs.length = 4 := hl.trans cells27
  obtain ⟨c0, c1, c2, c3, rfl⟩ : ∃ c0 c1 c2 c3, cs = [c0, c1, c2, c3] := by
    match cs, hl3 with
    | [a, b, c, d], _ => exact ⟨a, b, c, d, rfl⟩
  obtain ⟨y0, y1, y2, y3, rfl⟩ : ∃ y0 y1 y2 y3, xs = [y0, y1, y2, y3] := by
    match xs, hlen with
    | [a, b, c, d], _ => exact ⟨a, b, c, d, rfl⟩
  have h0 : DataW.trod enc Try.prog w 0 (fun _ => true) true n' 24 (([c0, c1, c2, c3].drop 0).take (Try.prog.cellsOf 24)) = some y0 := hf 0 _ rfl
  have h1 : DataW.trod enc Try.prog w 0 (fun _ => true) true n' 25 (([c0, c1, c2, c3].drop 1).take (Try.prog.cellsOf 25)) = some y1 := hf 1 _ rfl
  have h2 : DataW.trod enc Try.prog w 0 (fun _ => true) true n' 3 (([c0, c1, c2, c3].drop 2).take (Try.prog.cellsOf 3)) = some y2 := hf 2 _ rfl
  have h3 : DataW.trod enc Try.prog w 0 (fun _ => true) true n' 3 (([c0, c1, c2, c3].drop 3).take (Try.prog.cellsOf 3)) = some y3 := hf 3 _ rfl
  rw [cells24] at h0
  rw [cells25] at h1
  rw [cells1] at h2 h3
  obtain ⟨v0, l0, e0, s0⟩ := open_sl (α := Cel) Try.underlying24 cells47 open_cel h0
  obtain ⟨v1, l1, e1, s1⟩ := open_sl (α := Wri) Try.underlying25 cells78 open_wri h1
  obtain ⟨k2, e2, -, -⟩ := DataW.trod_int Try.underlying3 h2
  obtain ⟨k3, e3, -, -⟩ := DataW.trod_int Try.underlying3 h3
  simp at e0 e1 e2 e3
  subst e0 e1 e2 e3
  exact ⟨⟨l0, l1, k2, k3⟩, _, _, rfl, s0, s1⟩
/-- A disk handed in. -/
theorem open_disk {w : World} {cs : Array Value} {d : DataW H} {ps : List MemPlace} (h : DataW.Trod enc Try.prog w 0 (fun _ => true) true 27 (.agg cs) d ps) : ∃ x : Dis, Rv w noM (.agg cs) x := by
  obtain ⟨n, hn⟩ := h
  obtain ⟨x, hx⟩ := open_dis n _ _ hn
  exact ⟨x, cs.toList, by simp [Rp.agg], hx⟩
end Go.Proofs.Ytkdjacmabeeceaa
