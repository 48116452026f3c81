/-
The law DiskCrashes' inputs: what is done to a disk.
-/
import Derived.Test.YtkdjacmabeeceaaOpen2
import Derived.Test.YtkdjacmabeeceaaKRows
namespace Go.Proofs.Ytkdjacmabeeceaa
open Go.ChangeShapes Go.WideShapes Go.ChangeAt Go.RowKit Go.Deep

structure Deed where
  kind : Int
  addr : Int
  bytes : List UInt8
  keep : Int
instance : Rp Deed where
  sz := 4
  agg := true
  pos := by omega
  E := fun w M cs x => ∃ b, cs = [.int .i64 x.kind, .int .i64 x.addr, b, .int .i64 x.keep] ∧ SlR w M b x.bytes
  len := fun h => by obtain ⟨b, rfl, _⟩ := h; rfl
  one := fun h u hu => by
    obtain ⟨b, rfl, a, c, xs, rfl, _⟩ := h
    simp at hu; rcases hu with rfl | rfl | rfl | rfl <;> rfl
  mono := fun k h => by obtain ⟨b, rfl, h1⟩ := h; exact ⟨b, rfl, h1.mono k⟩
theorem act_at {w : World} {M : Ms} {a : Option Addr} {n c k : Nat} {l : List Deed} (h : SlR w M (.slice a n c) l) (hk : k < l.length) : ∃ b off A C, a = some ⟨b, off, none⟩ ∧ ¬ M b ∧ w.cell? ⟨b, off + k * 4, none⟩ = some (.int .i64 l[k].kind) ∧
    w.cell? ⟨b, off + k * 4 + 1, none⟩ = some (.int .i64 l[k].addr) ∧ w.cell? ⟨b, off + k * 4 + 2, none⟩ = some (.slice A l[k].bytes.length C) ∧ w.cell? ⟨b, off + k * 4 + 3, none⟩ = some (.int .i64 l[k].keep) ∧ SlR w M (.slice A l[k].bytes.length C) l[k].bytes := by
  obtain ⟨b, off, cs, rfl, hm, he, hc⟩ := h.at_ hk
  obtain ⟨vb, rfl, hb⟩ := he
  obtain ⟨A, C, rfl⟩ := hb.form
  exact ⟨b, off, A, C, rfl, hm, hc 0 _ rfl, hc 1 _ rfl, hc 2 _ rfl, hc 3 _ rfl, hb⟩
section
variable {H : Type} {enc : TypeId × Value → H}
theorem cellsA : Try.prog.cellsOf 34 = 4 := by kernel_rfl
theorem open_act {w : World} : OpenAs enc w 34 Deed := fun n cs x h => by
  obtain ⟨xs, n', _, rfl, hl, hlen, hf⟩ := DataW.trod_struct Try.underlying34 h
  have hl3 : cs.length = 4 := hl.trans cellsA
  obtain ⟨c0, c1, c2, c3, rfl⟩ : ∃ c0 c1 c2 c3, cs = [c0, c1, c2, c3] := by
    match cs, hl3 with
    | [a, b, c, d], _ => exact ⟨a, b, c, d, rfl⟩
  obtain ⟨y0, y1, y2, y3, rfl⟩ : ∃ y0 y1 y2 y3, xs = [y0, y1, y2, y3] := by
    match xs, hlen with
    | [a, b, c, d], _ => exact ⟨a, b, c, d, rfl⟩
  have h0 : DataW.trod enc Try.prog w 0 (fun _ => true) true n' 3 (([c0, c1, c2, c3].drop 0).take (Try.prog.cellsOf 3)) = some y0 := hf 0 _ rfl
  have h1 : DataW.trod enc Try.prog w 0 (fun _ => true) true n' 3 (([c0, c1, c2, c3].drop 1).take (Try.prog.cellsOf 3)) = some y1 := hf 1 _ rfl
  have h2 : DataW.trod enc Try.prog w 0 (fun _ => true) true n' 32 (([c0, c1, c2, c3].drop 2).take (Try.prog.cellsOf 32)) = some y2 := hf 2 _ rfl
  have h3 : DataW.trod enc Try.prog w 0 (fun _ => true) true n' 3 (([c0, c1, c2, c3].drop 3).take (Try.prog.cellsOf 3)) = some y3 := hf 3 _ rfl
  rw [cells1] at h0 h1 h3
  rw [cells32] at h2
  obtain ⟨k0, e0, -, -⟩ := DataW.trod_int Try.underlying3 h0
  obtain ⟨k1, e1, -, -⟩ := DataW.trod_int Try.underlying3 h1
  obtain ⟨v2, l2, e2, s2⟩ := open_bytes h2
  obtain ⟨k3, e3, -, -⟩ := DataW.trod_int Try.underlying3 h3
  simp at e0 e1 e2 e3
  subst e0 e1 e2 e3
  exact ⟨⟨k0, k1, l2, k3⟩, _, rfl, s2⟩
end
end Go.Proofs.Ytkdjacmabeeceaa
