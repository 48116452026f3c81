/-
pack.Get.
-/
import Derived.Test.YtpknhpfbinplgaaRcBits
namespace Go.Proofs.Ytpknhpfbinplgaa
open Go.RowKit
attribute [local go_sem ↓] Go.wp_at_zero Go.wp_at_succ

theorem SlR.cap {α : Type} [Rp α] {w : World} {M : Ms} {a : Option Addr} {n c : Nat} {l : List α} (h : SlR w M (.slice a n c) l) : n = l.length ∧ l.length ≤ c ∧ c ≤ 9223372036854775807 := by
  obtain ⟨a', c', xs, e, h1, h2, _⟩ := h
  cases e
  exact ⟨rfl, h1, by unfold maxLen at h2; omega⟩
theorem Elems.drop_ {α : Type} {sz : Nat} {E : List Value → α → Prop} : ∀ {l : List α} {xs : List Value} (i : Nat), Elems sz E xs l → i ≤ l.length → Elems sz E (xs.drop (i * sz)) (l.drop i)
  | l, xs, 0, h, _ => by simpa using h
  | x :: l, _, i + 1, ⟨cs, ys, e, hc, he, hy⟩, hi => by
    subst e
    have e1 : (i + 1) * sz = cs.length + i * sz := by rw [hc, Nat.add_mul]; omega
    rw [e1, List.drop_append, List.drop_eq_nil_of_le (by omega), List.nil_append, List.drop_succ_cons]
    rw [show cs.length + i * sz - cs.length = i * sz by omega]
    exact Elems.drop_ i hy (by simpa using hi)
  | [], xs, i + 1, h, hi => by simp at hi
theorem SlR.drop_ {α : Type} [Rp α] {w : World} {M : Ms} {b off n c i : Nat} {l : List α} (h : SlR w M (.slice (some ⟨b, off, none⟩) n c) l) (hi : i ≤ l.length) : SlR w M (.slice (if c = i then some ⟨b, off, none⟩ else some ⟨b, off + i * Rp.sz α, none⟩) (n - i) (c - i)) (l.drop i) := by
  obtain ⟨a', c', xs, e, h1, h2, h3, h4⟩ := h
  cases e
  have hl : (l.drop i).length = l.length - i := by rw [List.length_drop]
  refine ⟨_, c - i, xs.drop (i * Rp.sz α), by rw [hl], by omega, by omega, h3.drop_ i hi, fun hne => ?_⟩
  have hci : c ≠ i := fun e => hne (by rw [List.drop_eq_nil_of_le (by omega)])
  rw [if_neg hci]
  obtain ⟨b', off', e, hm, hc⟩ := h4 (by intro e; rw [e] at hne; simp at hne)
  cases e
  refine ⟨b, off + i * Rp.sz α, rfl, hm, fun j u hu => ?_⟩
  rw [List.getElem?_drop] at hu
  have := hc _ u hu
  rwa [← Nat.add_assoc] at this
/-- The number that bytes are, the least one first. -/
def leN : List UInt8 → Nat
  | [] => 0
  | x :: l => x.toNat + 256 * leN l
theorem leN_lt : ∀ l : List UInt8, leN l < 256 ^ l.length
  | [] => by simp [leN]
  | x :: l => by
    have := leN_lt l
    have := x.toNat_lt
    simp only [leN, List.length_cons, Nat.pow_succ]
    omega
theorem leN_snoc : ∀ (l : List UInt8) (x : UInt8), leN (l ++ [x]) = leN l + 256 ^ l.length * x.toNat
  | [], x => by simp [leN]
  | y :: l, x => by
    simp only [List.cons_append, leN, leN_snoc l x, List.length_cons, Nat.pow_succ, Nat.mul_add]
    rw [← Nat.add_assoc, ← Nat.mul_assoc, Nat.mul_comm 256 (256 ^ l.length)]

theorem get_step {l : List UInt8} {k : Nat} (hk : k < l.length) (h4 : k < 4) : bits BinOp.or IntKind.i64 ((leN (l.take k) : Nat) : Int) (wrap64 ((l[k].toNat : Int) * 2 ^ (8 * k))) = ((leN (l.take (k + 1)) : Nat) : Int) := by
  have hlen : (l.take k).length = k := by rw [List.length_take]; omega
  have := leN_lt (l.take k)
  rw [hlen] at this
  rw [or_byte _ _ k this l[k].toNat_lt h4, List.take_add_one, List.getElem?_eq_getElem hk]
  show _ = ((leN (l.take k ++ [l[k]]) : Nat) : Int)
  rw [leN_snoc, hlen]

set_option maxRecDepth 100000 in
set_option maxHeartbeats 8000000 in
theorem get_any (v : Value) (l : List UInt8) (size : Int) (w : World) (M Mi : Ms) (h : SlR w Mi v l) (hs : szOk size) (hl : size ≤ l.length) (hn : l.length ≤ 1000000) :
    Calls Try.prog 55 #[v, .int .i64 size] w fun e w' => ∃ r, e = .returned (.tuple #[.int .i64 (leN (l.take size.toNat) : Nat), r, .int .i64 0]) ∧ OwR w' M w.heap.size 5 r (l.drop size.toNat) ∧ Below w.heap.size w w' := by
  obtain ⟨a, c, rfl⟩ := h.form
  have H := Lib.hid h.bare
  obtain ⟨-, hc1, hc2⟩ := h.cap
  obtain ⟨m, rfl⟩ : ∃ m : Nat, size = m := ⟨size.toNat, by rcases hs with rfl | rfl | rfl <;> rfl⟩
  have hm : ((m : Int) != 1 && ((m : Int) != 2 && (m : Int) != 4)) = false := by rcases hs with h | h | h <;> rw [h] <;> decide
  have hm4 : m ≤ 4 := by rcases hs with h | h | h <;> omega
  have hlt : ¬ (l.length : Int) < m := by omega
  have hml : m ≤ l.length := by omega
  clear h
  rcases hs with h | h | h
  · obtain rfl : m = 1 := by omega
    clear hm h hm4
    go_enter Try.func55, Try.ntmps55
    go_wp2
    go_loopg [4, 29] 4 (fun g s4 s29 wr => ∃ k : Nat, s29 = .int .i64 k ∧ k ≤ 1 ∧ 1 - k ≤ g ∧ wr = w ∧ s4 = .int .i64 (leN (l.take k) : Nat))
    case atStart => exact ⟨0, rfl, by omega, by omega, rfl, rfl⟩
    case round =>
      obtain ⟨k, rfl, hkl, hg, rfl, rfl⟩ := hrel
      by_cases hk : k < 1
      · have hkl' : k < l.length := by omega
        obtain ⟨b, off, rfl, -, x1⟩ := u8_at H.out hkl'
        have hk' : (k : Int) < 1 := by omega
        have hw1 : IntKind.i64.wrap (l[k].toNat : Int) = l[k].toNat := by have := l[k].toNat_lt; rw [IntKind.wrap_i64]; omega
        have hor := Lib.hid (get_step hkl' (by omega))
        go_wp2
        go_roundg (1 - (k + 1))
        case measure => omega
        case rel => exact ⟨k + 1, by go_num, by omega, by omega, rfl, congrArg (Value.int .i64) hor.out⟩
      · obtain rfl : k = 1 := by omega
        obtain ⟨b, off, rfl, -, -⟩ := u8_at H.out (show 0 < l.length by omega)
        have hdr := Lib.hid (H.out.drop_ hml)
        have hdl : (l.drop 1).length ≤ 1000000000 := by rw [List.length_drop]; omega
        simp only [show Rp.sz UInt8 = 1 from rfl] at hdr
        go_wp2_with fail
        · rename_i h
          rw [if_pos h] at hdr
          subst h
          have hbc := Lib.hid (bclone_any _ _ wr M noM hdr.out hdl)
          ((with_reducible refine hbc.out.mono ?_); rintro e w3 ⟨r3, rfl, ho3, hB3⟩)
          have HO := Lib.hid (And.intro ho3 hB3)
          clear ho3 hB3
          go_wp2
          go_ret3
          exact ⟨_, rfl, HO.out.1, HO.out.2⟩
        · rename_i h
          rw [if_neg h] at hdr
          have hbc := Lib.hid (bclone_any _ _ wr M noM hdr.out hdl)
          ((with_reducible refine hbc.out.mono ?_); rintro e w3 ⟨r3, rfl, ho3, hB3⟩)
          have HO := Lib.hid (And.intro ho3 hB3)
          clear ho3 hB3
          go_wp2
          go_ret3
          exact ⟨_, rfl, HO.out.1, HO.out.2⟩
  · obtain rfl : m = 2 := by omega
    clear hm h hm4
    go_enter Try.func55, Try.ntmps55
    go_wp2
    go_loopg [4, 29] 4 (fun g s4 s29 wr => ∃ k : Nat, s29 = .int .i64 k ∧ k ≤ 2 ∧ 2 - k ≤ g ∧ wr = w ∧ s4 = .int .i64 (leN (l.take k) : Nat))
    case atStart => exact ⟨0, rfl, by omega, by omega, rfl, rfl⟩
    case round =>
      obtain ⟨k, rfl, hkl, hg, rfl, rfl⟩ := hrel
      by_cases hk : k < 2
      · have hkl' : k < l.length := by omega
        obtain ⟨b, off, rfl, -, x1⟩ := u8_at H.out hkl'
        have hk' : (k : Int) < 2 := by omega
        have hw1 : IntKind.i64.wrap (l[k].toNat : Int) = l[k].toNat := by have := l[k].toNat_lt; rw [IntKind.wrap_i64]; omega
        have hor := Lib.hid (get_step hkl' (by omega))
        go_wp2
        go_roundg (2 - (k + 1))
        case measure => omega
        case rel => exact ⟨k + 1, by go_num, by omega, by omega, rfl, congrArg (Value.int .i64) hor.out⟩
      · obtain rfl : k = 2 := by omega
        obtain ⟨b, off, rfl, -, -⟩ := u8_at H.out (show 0 < l.length by omega)
        have hdr := Lib.hid (H.out.drop_ hml)
        have hdl : (l.drop 2).length ≤ 1000000000 := by rw [List.length_drop]; omega
        simp only [show Rp.sz UInt8 = 1 from rfl] at hdr
        go_wp2_with fail
        · rename_i h
          rw [if_pos h] at hdr
          subst h
          have hbc := Lib.hid (bclone_any _ _ wr M noM hdr.out hdl)
          ((with_reducible refine hbc.out.mono ?_); rintro e w3 ⟨r3, rfl, ho3, hB3⟩)
          have HO := Lib.hid (And.intro ho3 hB3)
          clear ho3 hB3
          go_wp2
          go_ret3
          exact ⟨_, rfl, HO.out.1, HO.out.2⟩
        · rename_i h
          rw [if_neg h] at hdr
          have hbc := Lib.hid (bclone_any _ _ wr M noM hdr.out hdl)
          ((with_reducible refine hbc.out.mono ?_); rintro e w3 ⟨r3, rfl, ho3, hB3⟩)
          have HO := Lib.hid (And.intro ho3 hB3)
          clear ho3 hB3
          go_wp2
          go_ret3
          exact ⟨_, rfl, HO.out.1, HO.out.2⟩
  · obtain rfl : m = 4 := by omega
    clear hm h hm4
    go_enter Try.func55, Try.ntmps55
    go_wp2
    go_loopg [4, 29] 4 (fun g s4 s29 wr => ∃ k : Nat, s29 = .int .i64 k ∧ k ≤ 4 ∧ 4 - k ≤ g ∧ wr = w ∧ s4 = .int .i64 (leN (l.take k) : Nat))
    case atStart => exact ⟨0, rfl, by omega, by omega, rfl, rfl⟩
    case round =>
      obtain ⟨k, rfl, hkl, hg, rfl, rfl⟩ := hrel
      by_cases hk : k < 4
      · have hkl' : k < l.length := by omega
        obtain ⟨b, off, rfl, -, x1⟩ := u8_at H.out hkl'
        have hk' : (k : Int) < 4 := by omega
        have hw1 : IntKind.i64.wrap (l[k].toNat : Int) = l[k].toNat := by have := l[k].toNat_lt; rw [IntKind.wrap_i64]; omega
        have hor := Lib.hid (get_step hkl' (by omega))
        go_wp2
        go_roundg (4 - (k + 1))
        case measure => omega
        case rel => exact ⟨k + 1, by go_num, by omega, by omega, rfl, congrArg (Value.int .i64) hor.out⟩
      · obtain rfl : k = 4 := by omega
        obtain ⟨b, off, rfl, -, -⟩ := u8_at H.out (show 0 < l.length by omega)
        have hdr := Lib.hid (H.out.drop_ hml)
        have hdl : (l.drop 4).length ≤ 1000000000 := by rw [List.length_drop]; omega
        simp only [show Rp.sz UInt8 = 1 from rfl] at hdr
        go_wp2_with fail
        · rename_i h
          rw [if_pos h] at hdr
          subst h
          have hbc := Lib.hid (bclone_any _ _ wr M noM hdr.out hdl)
          ((with_reducible refine hbc.out.mono ?_); rintro e w3 ⟨r3, rfl, ho3, hB3⟩)
          have HO := Lib.hid (And.intro ho3 hB3)
          clear ho3 hB3
          go_wp2
          go_ret3
          exact ⟨_, rfl, HO.out.1, HO.out.2⟩
        · rename_i h
          rw [if_neg h] at hdr
          have hbc := Lib.hid (bclone_any _ _ wr M noM hdr.out hdl)
          ((with_reducible refine hbc.out.mono ?_); rintro e w3 ⟨r3, rfl, ho3, hB3⟩)
          have HO := Lib.hid (And.intro ho3 hB3)
          clear ho3 hB3
          go_wp2
          go_ret3
          exact ⟨_, rfl, HO.out.1, HO.out.2⟩
end Go.Proofs.Ytpknhpfbinplgaa
