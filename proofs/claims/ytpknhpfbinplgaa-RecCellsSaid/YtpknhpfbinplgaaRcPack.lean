/-
Package pack: a number in a type of so many bytes, its bytes.
-/
import Derived.Test.YtpknhpfbinplgaaRcGeom
namespace Go.Proofs.Ytpknhpfbinplgaa
open Go.RowKit
attribute [local go_sem ↓] Go.wp_at_zero Go.wp_at_succ

def limS (size : Int) : Int := if size = 1 then 256 else if size = 2 then 65536 else 4294967296
def szOk (size : Int) : Prop := size = 1 ∨ size = 2 ∨ size = 4
def sizedV (n size : Int) : Value := if size = 1 then .iface 5 (.int .u8 n) else if size = 2 then .iface 122 (.int .u16 n) else .iface 115 (.int .u32 n)
theorem as8 (w : World) (v : Value) : (Instr.typeAssert (.iface 5 v) 20 5 true).run Try.prog w = .ok (.tuple #[v, .bool true]) w := by kernel_rfl
theorem as8no16 (w : World) (v : Value) : (Instr.typeAssert (.iface 122 v) 20 5 true).run Try.prog w = .ok (.tuple #[.int .u8 0, .bool false]) w := by kernel_rfl
theorem as8no32 (w : World) (v : Value) : (Instr.typeAssert (.iface 115 v) 20 5 true).run Try.prog w = .ok (.tuple #[.int .u8 0, .bool false]) w := by kernel_rfl
theorem as16 (w : World) (v : Value) : (Instr.typeAssert (.iface 122 v) 20 122 true).run Try.prog w = .ok (.tuple #[v, .bool true]) w := by kernel_rfl
theorem as16no32 (w : World) (v : Value) : (Instr.typeAssert (.iface 115 v) 20 122 true).run Try.prog w = .ok (.tuple #[.int .u16 0, .bool false]) w := by kernel_rfl
theorem as32 (w : World) (v : Value) : (Instr.typeAssert (.iface 115 v) 20 115 false).run Try.prog w = .ok v w := by kernel_rfl
attribute [local go_sem] as8 as8no16 as8no32 as16 as16no32 as32
/-- A number's bytes, the least one first. -/
def leB : Nat → Nat → List UInt8
  | 0, _ => []
  | k + 1, n => UInt8.ofNat (n % 256) :: leB k (n / 256)
theorem leB_len : ∀ (k n : Nat), (leB k n).length = k
  | 0, _ => rfl
  | k + 1, n => by simp [leB, leB_len k]

theorem OwR.litB (w : World) (M : Ms) (l : List UInt8) (hl : l.length ≤ 1000) : OwR (w.alloc (.cells (l.map fun x => Value.int .u8 x.toNat).toArray 5)) M w.heap.size 5 (.slice (some ⟨w.heap.size, 0, none⟩) l.length l.length) l := by
  refine ⟨l.map fun x => Value.int .u8 x.toNat, ⟨by simp [Rp.sz], .inr ⟨w.heap.size, l.length, _, rfl, Nat.le_refl _, heap_alloc_new w _, Nat.le_refl _, by unfold maxLen; omega, by simp [Rp.sz], ?_⟩⟩, ?_⟩
  · simp only [Rp.sz, Nat.mul_one]
    exact List.take_of_length_le (by simp)
  · clear hl
    induction l with
    | nil => rfl
    | cons x l ih => exact ⟨[.int .u8 x.toNat], _, rfl, rfl, rfl, ih⟩

set_option maxHeartbeats 4000000 in
theorem sized_any (n size : Int) (w : World) (hs : szOk size) : Calls Try.prog 67 #[.int .i64 n, .int .i64 size] w fun e w' => e = .returned (if 0 ≤ n ∧ n < limS size then sizedV n size else .nilIface) ∧ w' = w := by
  by_cases h0 : 0 ≤ n
  · by_cases h1 : n < limS size
    · have w8 : size = 1 → IntKind.u8.wrap n = n := fun h => by subst h; simp [limS] at h1; rw [IntKind.wrap_u8]; omega
      have w16 : size = 2 → IntKind.u16.wrap n = n := fun h => by subst h; simp [limS] at h1; rw [IntKind.wrap_u16]; omega
      have w32 : size = 4 → IntKind.u32.wrap n = n := fun h => by subst h; simp [limS] at h1; rw [IntKind.wrap_u32]; omega
      have hE := Lib.hid (show (if 0 ≤ n ∧ n < limS size then sizedV n size else .nilIface) = sizedV n size from if_pos ⟨h0, h1⟩)
      rw [hE.out]
      rcases hs with rfl | rfl | rfl
      · have h2 : n < 256 := h1
        have w0 := w8 rfl
        clear h1 w8 w16 w32 hE
        go_enter Try.func67, Try.ntmps67
        go_wp2
        go_ret
        exact ⟨rfl, rfl⟩
      · have h2 : n < 65536 := h1
        have w0 := w16 rfl
        clear h1 w8 w16 w32 hE
        go_enter Try.func67, Try.ntmps67
        go_wp2
        go_ret
        exact ⟨rfl, rfl⟩
      · have h2 : n < 4294967296 := h1
        have w0 := w32 rfl
        clear h1 w8 w16 w32 hE
        go_enter Try.func67, Try.ntmps67
        go_wp2
        go_ret
        exact ⟨rfl, rfl⟩
    · have hE := Lib.hid (show (if 0 ≤ n ∧ n < limS size then sizedV n size else .nilIface) = .nilIface from if_neg (by omega))
      rw [hE.out]
      rcases hs with rfl | rfl | rfl
      · have h2 : ¬ n < 256 := h1
        clear h1 hE
        go_enter Try.func67, Try.ntmps67
        go_wp2
        go_ret
        exact ⟨rfl, rfl⟩
      · have h2 : ¬ n < 65536 := h1
        clear h1 hE
        go_enter Try.func67, Try.ntmps67
        go_wp2
        go_ret
        exact ⟨rfl, rfl⟩
      · have h2 : ¬ n < 4294967296 := h1
        clear h1 hE
        go_enter Try.func67, Try.ntmps67
        go_wp2
        go_ret
        exact ⟨rfl, rfl⟩
  · have hE := Lib.hid (show (if 0 ≤ n ∧ n < limS size then sizedV n size else .nilIface) = .nilIface from if_neg (by omega))
    rw [hE.out]
    clear hE
    rcases hs with rfl | rfl | rfl
    · go_enter Try.func67, Try.ntmps67
      go_wp2
      go_ret
      exact ⟨rfl, rfl⟩
    · go_enter Try.func67, Try.ntmps67
      go_wp2
      go_ret
      exact ⟨rfl, rfl⟩
    · go_enter Try.func67, Try.ntmps67
      go_wp2
      go_ret
      exact ⟨rfl, rfl⟩

set_option maxHeartbeats 4000000 in
set_option maxRecDepth 100000 in
theorem bytesOf_any (n size : Int) (w : World) (M : Ms) (hs : szOk size) (h0 : 0 ≤ n) (h1 : n < limS size) : Calls Try.prog 69 #[sizedV n size] w fun e w' => ∃ r, e = .returned r ∧ OwR w' M w.heap.size 5 r (leB size.toNat n.toNat) ∧ Below w.heap.size w w' := by
  have hB := fun o => (Below.refl w.heap.size w).alloc (Nat.le_refl _) o
  obtain ⟨m, rfl⟩ : ∃ m : Nat, n = m := ⟨n.toNat, by omega⟩
  rcases hs with rfl | rfl | rfl
  · have h2 : (m : Int) < 256 := h1
    have hL := Lib.hid (OwR.litB w M (leB 1 m) (by rw [leB_len]; omega))
    have e : (UInt8.ofNat (m % 256)).toNat = m := by simp; omega
    simp only [leB, List.map_cons, List.map_nil, e, List.length_cons, List.length_nil] at hL
    have HB := Lib.hid hB
    clear hB h1 e h0
    unfold sizedV
    simp only [if_true]
    go_enter Try.func69, Try.ntmps69
    go_wp2
    go_ret
    exact ⟨_, rfl, hL.out, HB.out _⟩
  · have h2 : (m : Int) < 65536 := h1
    have hL := Lib.hid (OwR.litB w M (leB 2 m) (by rw [leB_len]; omega))
    have e0 : ((UInt8.ofNat (m % 256)).toNat : Int) = (m : Int) % 256 := by simp
    have e1 : ((UInt8.ofNat (m / 256 % 256)).toNat : Int) = (m : Int) / 256 := by simp; omega
    simp only [leB, List.map_cons, List.map_nil, e0, e1, List.length_cons, List.length_nil] at hL
    have HB := Lib.hid hB
    clear hB h1 e0 e1 h0
    unfold sizedV
    simp only [if_true]
    rw [if_neg (by decide)]
    go_enter Try.func69, Try.ntmps69
    go_wp2
    go_ret
    exact ⟨_, rfl, hL.out, HB.out _⟩
  · have h2 : (m : Int) < 4294967296 := h1
    have hL := Lib.hid (OwR.litB w M (leB 4 m) (by rw [leB_len]; omega))
    have e0 : ((UInt8.ofNat (m % 256)).toNat : Int) = (m : Int) % 256 := by simp
    have e1 : ((UInt8.ofNat (m / 256 % 256)).toNat : Int) = (m : Int) / 256 % 256 := by simp
    have e2 : ((UInt8.ofNat (m / 256 / 256 % 256)).toNat : Int) = (m : Int) / 65536 % 256 := by simp; omega
    have e3 : ((UInt8.ofNat (m / 256 / 256 / 256 % 256)).toNat : Int) = (m : Int) / 16777216 := by simp; omega
    simp only [leB, List.map_cons, List.map_nil, e0, e1, e2, e3, List.length_cons, List.length_nil] at hL
    have HB := Lib.hid hB
    clear hB h1 e0 e1 e2 e3 h0
    unfold sizedV
    rw [if_neg (by decide), if_neg (by decide)]
    go_enter Try.func69, Try.ntmps69
    go_wp2
    go_ret
    exact ⟨_, rfl, hL.out, HB.out _⟩
end Go.Proofs.Ytpknhpfbinplgaa
