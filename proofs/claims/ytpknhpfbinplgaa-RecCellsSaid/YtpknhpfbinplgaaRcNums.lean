/-
Plain laws on the numbers that bytes begin with.
-/
import Derived.Test.YtpknhpfbinplgaaRcKit
namespace Go.Proofs.Ytpknhpfbinplgaa

/-- How many bytes numbers of these sizes take. -/
def tot : List Int → Nat
  | [] => 0
  | s :: ss => s.toNat + tot ss
/-- The numbers that bytes begin with. -/
def nums : List Int → List UInt8 → List Int
  | [], _ => []
  | s :: ss, b => ((leN (b.take s.toNat) : Nat) : Int) :: nums ss (b.drop s.toNat)
theorem tot_step : ∀ (ss : List Int) (k : Nat) (h : k < ss.length), tot (ss.take (k + 1)) = tot (ss.take k) + ss[k].toNat
  | s :: ss, 0, _ => by simp [tot]
  | s :: ss, k + 1, h => by
    have := tot_step ss k (by simpa using h)
    simp only [List.take_succ_cons, tot, List.getElem_cons_succ]
    omega
theorem tot_take_le : ∀ (ss : List Int) (k : Nat), tot (ss.take k) ≤ tot ss
  | [], _ => by simp
  | s :: ss, 0 => by simp [tot]
  | s :: ss, k + 1 => by
    have := tot_take_le ss k
    simp only [List.take_succ_cons, tot]
    omega
theorem nums_step : ∀ (ss : List Int) (b : List UInt8) (k : Nat) (h : k < ss.length), nums (ss.take (k + 1)) b = nums (ss.take k) b ++ [((leN ((b.drop (tot (ss.take k))).take ss[k].toNat) : Nat) : Int)]
  | s :: ss, b, 0, _ => by simp [nums, tot]
  | s :: ss, b, k + 1, h => by
    have := nums_step ss (b.drop s.toNat) k (by simpa using h)
    simp only [List.take_succ_cons, nums, tot, List.getElem_cons_succ, List.cons_append]
    rw [this, List.drop_drop]
theorem nums_len : ∀ (ss : List Int) (b : List UInt8), (nums ss b).length = ss.length
  | [], _ => rfl
  | s :: ss, b => by simp [nums, nums_len ss]
theorem leN_leB : ∀ (k n : Nat), n < 256 ^ k → leN (leB k n) = n
  | 0, n, h => by simp at h; simp [leB, leN, h]
  | k + 1, n, h => by
    have h2 : n / 256 < 256 ^ k := by rw [Nat.pow_succ] at h; omega
    simp only [leB, leN, leN_leB k (n / 256) h2]
    simp
    omega
theorem leB_leN : ∀ (l : List UInt8), leB l.length (leN l) = l
  | [] => rfl
  | x :: l => by
    have hx := x.toNat_lt
    have e1 : (x.toNat + 256 * leN l) % 256 = x.toNat := by omega
    have e2 : (x.toNat + 256 * leN l) / 256 = leN l := by omega
    simp only [List.length_cons, leB, leN, e1, e2, leB_leN l]
    simp
theorem lim_pow {s : Int} (h : szOk s) : limS s = ((256 ^ s.toNat : Nat) : Int) := by rcases h with rfl | rfl | rfl <;> decide
theorem tot_rowB : ∀ (ns ss : List Int), ns.length = ss.length → (rowB ns ss).length = tot ss
  | [], [], _ => rfl
  | n :: ns, s :: ss, h => by
    have := tot_rowB ns ss (by simpa using h)
    simp [rowB, tot, leB_len, this]
/-- Numbers that fit are read back, whatever stands behind them. -/
theorem nums_rowB : ∀ (ns ss : List Int) (r : List UInt8), ns.length = ss.length → (∀ k (a : k < ns.length) (b : k < ss.length), szOk ss[k] ∧ 0 ≤ ns[k] ∧ ns[k] < limS ss[k]) → nums ss (rowB ns ss ++ r) = ns
  | [], [], _, _, _ => rfl
  | n :: ns, s :: ss, r, h, hf => by
    have ih := nums_rowB ns ss r (by simpa using h) (fun k a b => hf (k + 1) (by simp; omega) (by simp; omega))
    obtain ⟨h1, h2, h3⟩ := hf 0 (by simp) (by simp)
    simp only [List.getElem_cons_zero] at h1 h2 h3
    rw [lim_pow h1] at h3
    have e1 : ((leB s.toNat n.toNat ++ rowB ns ss) ++ r).take s.toNat = leB s.toNat n.toNat := by
      rw [List.append_assoc, List.take_append_of_le_length (by rw [leB_len]; exact Nat.le_refl _), List.take_of_length_le (by rw [leB_len]; exact Nat.le_refl _)]
    have e2 : ((leB s.toNat n.toNat ++ rowB ns ss) ++ r).drop s.toNat = rowB ns ss ++ r := by
      rw [List.append_assoc, List.drop_append, List.drop_eq_nil_of_le (by rw [leB_len]; exact Nat.le_refl _), leB_len]
      simp
    simp only [rowB, nums, e1, e2, ih, leN_leB _ _ (show n.toNat < 256 ^ s.toNat by omega)]
    rw [Int.toNat_of_nonneg h2]
/-- The bytes of what was read are the bytes. -/
theorem rowB_nums : ∀ (ss : List Int) (b : List UInt8), tot ss ≤ b.length → rowB (nums ss b) ss = b.take (tot ss)
  | [], b, _ => by simp [rowB, tot, nums]
  | s :: ss, b, h => by
    simp only [tot] at h
    have ih := rowB_nums ss (b.drop s.toNat) (by rw [List.length_drop]; omega)
    have hl : (b.take s.toNat).length = s.toNat := by rw [List.length_take]; omega
    have e := leB_leN (b.take s.toNat)
    rw [hl] at e
    simp only [nums, rowB, ih, tot, Int.toNat_natCast, e]
    rw [← List.take_add]
/-- What is read fits. -/
theorem nums_fit : ∀ (ss : List Int) (b : List UInt8), (∀ s ∈ ss, szOk s) → ∀ k (a : k < (nums ss b).length) (c : k < ss.length), szOk ss[k] ∧ 0 ≤ (nums ss b)[k] ∧ (nums ss b)[k] < limS ss[k]
  | [], _, _, k, a, c => by simp at c
  | s :: ss, b, h, 0, a, c => by
    have h1 := h s (by simp)
    refine ⟨h1, by simp [nums], ?_⟩
    simp only [nums, List.getElem_cons_zero, lim_pow h1]
    have := leN_lt (b.take s.toNat)
    have h2 : 256 ^ (b.take s.toNat).length ≤ 256 ^ s.toNat := Nat.pow_le_pow_right (by omega) (by rw [List.length_take]; omega)
    omega
  | s :: ss, b, h, k + 1, a, c => by
    have := nums_fit ss (b.drop s.toNat) (fun x hx => h x (by simp [hx])) k (by simpa [nums] using a) (by simpa using c)
    simpa [nums] using this
end Go.Proofs.Ytpknhpfbinplgaa
