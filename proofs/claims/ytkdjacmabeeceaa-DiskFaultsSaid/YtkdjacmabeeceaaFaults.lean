/-
The law DiskFaults: what each kind of fault does to a cell, and what mends it.
-/
import Derived.Test.YtkdjacmabeeceaaFault
import Derived.Test.YtkdjacmabeeceaaVar
namespace Go.Proofs.Ytkdjacmabeeceaa
open Go.RowKit
attribute [local go_sem ↓] Go.wp_at_zero Go.wp_at_succ

theorem ok2 {c0 c1 : Cel} {k : List Wri} {q : Int} (h0 : 0 ≤ c0.state ∧ c0.state ≤ 2 ∧ c0.bytes.length ≤ 200 ∧ c0.old.length ≤ 200) (h1 : 0 ≤ c1.state ∧ c1.state ≤ 2 ∧ c1.bytes.length ≤ 200 ∧ c1.old.length ≤ 200)
    (hk : k.length ≤ 1) (hk' : ∀ x ∈ k, x.addr = 0 ∧ x.bytes.length ≤ 200) (hq : 0 ≤ q ∧ q ≤ 100) : OkD ⟨[c0, c1], k, q, -1⟩ := by
  refine ⟨⟨by simp, by simp, by show k.length ≤ 2000; omega, by show 0 ≤ q; omega, by show q ≤ 1048576; omega, by show (-1 : Int) ≤ -1; decide, by show (-1 : Int) ≤ 1048576; decide⟩, ?_, fun x hx => ?_⟩
  · intro c hc
    simp only [List.mem_cons, List.not_mem_nil, or_false] at hc
    rcases hc with rfl | rfl
    · exact h0
    · exact h1
  · obtain ⟨e1, e2⟩ := hk' x hx
    exact ⟨by omega, by rw [e1]; simp, e2⟩
theorem okT2 {c0 c1 : Cel} {k : List Wri} {q : Int} (h : OkD ⟨[c0, c1], k, q, -1⟩) {i : Int} (hi : i = 0 ∨ i = 1) : okT ⟨[c0, c1], k, q, -1⟩ i = true := by
  rw [okT, okD_iff.2 h]
  rcases hi with rfl | rfl <;> rfl
def gc : Cel := ⟨0, [], []⟩
def z2 (c : Cel) (k : List Wri) (q : Int) : Dis := ⟨[c, gc], k, q, -1⟩
theorem z2_ok {c : Cel} {k : List Wri} {q : Int} (h0 : 0 ≤ c.state ∧ c.state ≤ 2 ∧ c.bytes.length ≤ 200 ∧ c.old.length ≤ 200) (hk : k.length ≤ 1) (hk' : ∀ x ∈ k, x.addr = 0 ∧ x.bytes.length ≤ 200) (hq : 0 ≤ q ∧ q ≤ 100) : okT (z2 c k q) 0 = true :=
  okT2 (ok2 h0 ⟨by decide, by decide, by decide, by decide⟩ hk hk' hq) (.inl rfl)
theorem z2_ok0 {c : Cel} {q : Int} (h0 : 0 ≤ c.state ∧ c.state ≤ 2 ∧ c.bytes.length ≤ 200 ∧ c.old.length ≤ 200) (hq : 0 ≤ q ∧ q ≤ 100) : okT (z2 c [] q) 0 = true := z2_ok h0 (by simp) (by simp) hq
theorem z2_ok1 {c : Cel} {q : Int} (h0 : 0 ≤ c.state ∧ c.state ≤ 2 ∧ c.bytes.length ≤ 200 ∧ c.old.length ≤ 200) (hq : 0 ≤ q ∧ q ≤ 100) {x : List UInt8} (hx : x.length ≤ 200) : okT (z2 c [⟨0, x⟩] q) 0 = true :=
  z2_ok h0 (by simp) (by simp [hx]) hq
theorem z2_disB {c : Cel} {k : List Wri} {q : Int} (h : okT (z2 c k q) 0 = true) : disB (z2 c k q) = true := by
  rw [okT, Bool.and_eq_true] at h; exact h.1
theorem z2_write {c : Cel} {q : Int} {x : List UInt8} (h : okT (z2 c [] q) 0 = true) (hx : x.length ≤ 200) (hs : ¬ c.state = 2) (hq : q + 1 ≤ 100) : writeT (z2 c [] q) 0 x = (z2 c [⟨0, x⟩] (q + 1), 0) := by
  rw [writeT, h, decide_eq_true hx, Bool.and_self, if_pos rfl]
  have := writeD_0 (d := z2 c [] q) (k := 0) (b := x) (by show 0 < 2; omega) (by show (-1 : Int) ≠ 0; decide) hs (by show 0 < 2000; omega)
  show writeD (z2 c [] q) 0 x = _
  rw [this]
  have e : min (q + 1) 1048576 = q + 1 := by omega
  simp [reqD, z2, e]
theorem z2_stuck {c : Cel} {q : Int} {x : List UInt8} (h : okT (z2 c [] q) 0 = true) (hx : x.length ≤ 200) (hs : c.state = 2) : (writeT (z2 c [] q) 0 x).2 = 7 := by
  rw [writeT, h, decide_eq_true hx, Bool.and_self, if_pos rfl]
  have := writeD_7 (d := z2 c [] q) (k := 0) (b := x) (by show 0 < 2; omega) (by show (-1 : Int) ≠ 0; decide) (.inl hs)
  show (writeD (z2 c [] q) 0 x).2 = _
  rw [this]
theorem z2_flush {c : Cel} {q : Int} {x : List UInt8} (h : okT (z2 c [⟨0, x⟩] q) 0 = true) (hs : ¬ c.state = 2) (hq : q + 1 ≤ 100) : flushT (z2 c [⟨0, x⟩] q) = (z2 ⟨0, x, c.bytes⟩ [] (q + 1), 0) := by
  rw [flushT, z2_disB h, if_pos rfl, flushD, if_neg (by show ¬ (-1 : Int) = 0; decide)]
  have e : min (q + 1) 1048576 = q + 1 := by omega
  have e2 : runC [c, gc] [⟨0, x⟩] = [⟨0, x, c.bytes⟩, gc] := by
    show doneC [c, gc] 0 x = _
    unfold doneC
    simp [hs]
  simp [reqD, z2, e, e2]
theorem z2_read {c : Cel} {q : Int} (h : okT (z2 c [] q) 0 = true) (hq : q + 1 ≤ 100) : readT (z2 c [] q) 0 = (z2 c [] (q + 1), if c.state = 0 then (c.bytes, 0) else ([], 6)) := by
  have hn : ¬ (z2 c [] q).left = 0 := by show ¬ (-1 : Int) = 0; decide
  rw [readT, h, if_pos rfl, readD, if_neg hn]
  have e : min (q + 1) 1048576 = q + 1 := by omega
  have e2 : readV (z2 c [] q) 0 = if c.state = 0 then (c.bytes, 0) else ([], 6) := by
    unfold readV
    rw [if_neg hn]
    rfl
  show (reqD (z2 c [] q), readV (z2 c [] q) 0) = _
  rw [e2]
  simp [reqD, z2, e]
theorem z2_fault {c c' : Cel} {q : Int} {kind fr bit bs : Int} (h : okT (z2 c [] q) 0 = true) (hc : cellF (z2 c [] q) c kind fr bit bs = some c') : faultT (z2 c [] q) kind 0 fr bit bs = (z2 c' [] q, 0) := by
  rw [faultT, h, if_pos rfl, if_pos (by rfl)]
  show (match cellF (z2 c [] q) c kind fr bit bs with
      | some c' => _
      | none => _) = _
  rw [hc]
  rfl


structure FF (a b : List UInt8) (bit bs : Int) : Prop where
  new : newT 2 = (z2 gc [] 0, 0)
  w1 : writeT (z2 gc [] 0) 0 a = (z2 gc [⟨0, a⟩] 1, 0)
  f1 : flushT (z2 gc [⟨0, a⟩] 1) = (z2 ⟨0, a, []⟩ [] 2, 0)
  w2 : writeT (z2 ⟨0, a, []⟩ [] 2) 0 b = (z2 ⟨0, a, []⟩ [⟨0, b⟩] 3, 0)
  f2 : flushT (z2 ⟨0, a, []⟩ [⟨0, b⟩] 3) = (z2 ⟨0, b, a⟩ [] 4, 0)
  t0 : faultT (z2 ⟨0, b, a⟩ [] 4) 11 0 0 0 0 = (z2 ⟨1, b, a⟩ [] 4, 0)
  t1 : readT (z2 ⟨1, b, a⟩ [] 4) 0 = (z2 ⟨1, b, a⟩ [] 5, [], 6)
  t2 : writeT (z2 ⟨1, b, a⟩ [] 4) 0 a = (z2 ⟨1, b, a⟩ [⟨0, a⟩] 5, 0)
  t3 : flushT (z2 ⟨1, b, a⟩ [⟨0, a⟩] 5) = (z2 ⟨0, a, b⟩ [] 6, 0)
  t4 : readT (z2 ⟨0, a, b⟩ [] 6) 0 = (z2 ⟨0, a, b⟩ [] 7, a, 0)
  s0 : faultT (z2 ⟨0, b, a⟩ [] 4) 12 0 0 0 0 = (z2 ⟨2, b, a⟩ [] 4, 0)
  s1 : readT (z2 ⟨2, b, a⟩ [] 4) 0 = (z2 ⟨2, b, a⟩ [] 5, [], 6)
  s2 : (writeT (z2 ⟨2, b, a⟩ [] 4) 0 a).2 = 7
  o0 : faultT (z2 ⟨0, b, a⟩ [] 4) 14 0 0 0 0 = (z2 ⟨0, a, a⟩ [] 4, 0)
  o1 : readT (z2 ⟨0, a, a⟩ [] 4) 0 = (z2 ⟨0, a, a⟩ [] 5, a, 0)
  p0 : faultT (z2 ⟨0, b, a⟩ [] 4) 13 0 0 bit bs = (z2 ⟨0, flipS b bit bs, a⟩ [] 4, 0)
  p1 : faultT (z2 ⟨0, flipS b bit bs, a⟩ [] 4) 13 0 0 bit bs = (z2 ⟨0, b, a⟩ [] 4, 0)
  m0 : faultT (z2 ⟨0, b, a⟩ [] 4) 15 1 0 0 0 = (⟨[⟨0, b, a⟩, ⟨0, b, []⟩], [], 4, -1⟩, 0)
  q1 : readT (z2 ⟨0, b, a⟩ [] 4) 0 = (z2 ⟨0, b, a⟩ [] 5, b, 0)
  m1 : readT ⟨[⟨0, b, a⟩, ⟨0, b, []⟩], [], 4, -1⟩ 1 = (⟨[⟨0, b, a⟩, ⟨0, b, []⟩], [], 5, -1⟩, b, 0)
theorem ff {a b : List UInt8} {bit bs : Int} (ha : a.length ≤ 100) (hb : b.length ≤ 100) (h1 : ¬ bit < 0) (h2 : ¬ bs < 0) : FF a b bit bs := by
  have k0 : ∀ {s : Int} {x y : List UInt8}, 0 ≤ s ∧ s ≤ 2 → x.length ≤ 100 → y.length ≤ 100 → 0 ≤ (⟨s, x, y⟩ : Cel).state ∧ (⟨s, x, y⟩ : Cel).state ≤ 2 ∧ (⟨s, x, y⟩ : Cel).bytes.length ≤ 200 ∧ (⟨s, x, y⟩ : Cel).old.length ≤ 200 := fun h hx hy => ⟨h.1, h.2, Nat.le_trans hx (by omega), Nat.le_trans hy (by omega)⟩
  have ha' : a.length ≤ 200 := by omega
  have hb' : b.length ≤ 200 := by omega
  have hf : (flipS b bit bs).length ≤ 100 := by rw [flipS_length]; exact hb
  have nil : ([] : List UInt8).length ≤ 100 := by simp
  have n0 : ∀ {x y : List UInt8}, ¬ (⟨0, x, y⟩ : Cel).state = 2 := fun {x y} => by show ¬ (0 : Int) = 2; decide
  have n1 : ∀ {x y : List UInt8}, ¬ (⟨1, x, y⟩ : Cel).state = 2 := fun {x y} => by show ¬ (1 : Int) = 2; decide
  have kba := okT2 (i := 1) (c0 := ⟨0, b, a⟩) (c1 := gc) (k := []) (q := 4) (ok2 (k0 (by decide) hb ha) ⟨by decide, by decide, by decide, by decide⟩ (by simp) (by simp) (by decide)) (.inr rfl)
  have kbb := okT2 (i := 1) (c0 := ⟨0, b, a⟩) (c1 := ⟨0, b, []⟩) (k := []) (q := 4) (ok2 (k0 (by decide) hb ha) (k0 (by decide) hb nil) (by simp) (by simp) (by decide)) (.inr rfl)
  have hd : ∀ (x : Cel) (p : Int), x.state = 0 → okT (z2 x [] p) 0 = true → p + 1 ≤ 100 → readT (z2 x [] p) 0 = (z2 x [] (p + 1), x.bytes, 0) := fun x p hs hk hp => by rw [z2_read hk hp, if_pos hs]
  refine ⟨by rfl, z2_write (z2_ok0 (k0 (by decide) nil nil) (by decide)) ha' (by decide) (by decide), z2_flush (z2_ok1 (k0 (by decide) nil nil) (by decide) ha') (by decide) (by decide),
    z2_write (z2_ok0 (k0 (by decide) ha nil) (by decide)) hb' n0 (by decide), z2_flush (z2_ok1 (k0 (by decide) ha nil) (by decide) hb') n0 (by decide),
    z2_fault (z2_ok0 (k0 (by decide) hb ha) (by decide)) rfl, ?_, z2_write (z2_ok0 (k0 (by decide) hb ha) (by decide)) ha' n1 (by decide), z2_flush (z2_ok1 (k0 (by decide) hb ha) (by decide) ha') n1 (by decide),
    hd _ _ rfl (z2_ok0 (k0 (by decide) ha hb) (by decide)) (by decide), z2_fault (z2_ok0 (k0 (by decide) hb ha) (by decide)) rfl, ?_, z2_stuck (z2_ok0 (k0 (by decide) hb ha) (by decide)) ha' rfl,
    z2_fault (z2_ok0 (k0 (by decide) hb ha) (by decide)) rfl, hd _ _ rfl (z2_ok0 (k0 (by decide) ha ha) (by decide)) (by decide), z2_fault (z2_ok0 (k0 (by decide) hb ha) (by decide)) ?_, z2_fault (z2_ok0 (k0 (by decide) hf ha) (by decide)) ?_, ?_,
    hd _ _ rfl (z2_ok0 (k0 (by decide) hb ha) (by decide)) (by decide), ?_⟩
  · rw [z2_read (z2_ok0 (k0 (by decide) hb ha) (by decide)) (by decide), if_neg (show ¬ (1 : Int) = 0 by decide)]; rfl
  · rw [z2_read (z2_ok0 (k0 (by decide) hb ha) (by decide)) (by decide), if_neg (show ¬ (2 : Int) = 0 by decide)]; rfl
  · unfold cellF; rw [if_neg (by decide), if_neg (by decide), if_pos rfl, if_neg (by omega)]
  · unfold cellF; rw [if_neg (by decide), if_neg (by decide), if_pos rfl, if_neg (by omega), flipS_twice]
  · show faultT ⟨[⟨0, b, a⟩, gc], [], 4, -1⟩ 15 1 0 0 0 = _
    rw [faultT, kba, if_pos rfl, if_pos (by rfl)]
    rfl
  · rw [readT, kbb, if_pos rfl]
    rfl


/-- A block that holds a disk and is not written. -/
structure BoxM (w : World) (M : Ms) (b : Nat) (c k : Value) (d : Dis) : Prop where
  blk : Blk w b 27 #[c, k, .int .i64 d.reqs, .int .i64 d.left]
  rv : Rv w M (.agg #[c, k, .int .i64 d.reqs, .int .i64 d.left]) d
section
variable {w w' w0 : World} {M : Ms} {b b' : Nat} {c k c' k' : Value} {d d' : Dis}
theorem BoxM.up (h : BoxM w M b c k d) (hB : Below w.heap.size w w') : BoxM w' M b c k d := ⟨h.blk.below hB, h.rv.below hB⟩
theorem BoxM.new {w : World} (hr : Rv w M (.agg #[c, k, .int .i64 d.reqs, .int .i64 d.left]) d) : BoxM (w.alloc (.cells #[c, k, .int .i64 d.reqs, .int .i64 d.left] 27)) M w.heap.size c k d :=
  ⟨Blk.new _ _ _, hr.below ((Below.refl w.heap.size w).alloc (Nat.le_refl _) _)⟩
theorem VarD.up (h : VarD w M b c k d) (hB : Below w.heap.size w w') : VarD w' M b c k d := h.below hB
theorem VarD.boxed (h : VarD w M b c k d) (o : Obj) : VarD (w.alloc o) (M.and w.heap.size) b c k d :=
  have hB := (Below.refl w.heap.size w).alloc (Nat.le_refl _) o
  ⟨h.blk.below hB, h.rv.mono (Keep.boxed hB (Nat.le_refl _)), .inl h.mem, h.ok.boxed hB.size (by simp)⟩
theorem VarD.other (h : VarD w M b c k d) (hne : b ≠ b') (hm : M b') (v0 v1 v2 v3 : Value) : VarD (st4 w b' v0 v1 v2 v3) M b c k d :=
  have hG := st4_grown w b' v0 v1 v2 v3
  ⟨h.blk.grown hG (by simpa using hne), h.rv.mono (fun x hx hm' => ⟨hm', hG.block x hx (fun e => hm' (by injection e with e; rw [e]; exact hm))⟩), h.mem, h.ok.below hG.size⟩
theorem upB (h : Below w0.heap.size w0 w) (hB : Below w.heap.size w w') : Below w0.heap.size w0 w' := h.trans (hB.mono h.size)
theorem SlR.upM {α : Type} [Rp α] {v : Value} {l : List α} (h : SlR w M v l) (hB : Below w.heap.size w w') : SlR w' M v l := h.mono (Keep.below hB)
theorem Rv.upM {v : Value} (h : Rv w M v d) (hB : Below w.heap.size w w') : Rv w' M v d := h.below hB
end
set_option maxRecDepth 100000 in
set_option maxHeartbeats 16000000 in
theorem faults_any (va vb : Value) (a b : List UInt8) (bit bs : Int) (w : World) (ha : SlR w noM va a) (hb : SlR w noM vb b) :
    Calls Try.prog 9 #[va, vb, .int .i64 bit, .int .i64 bs] w fun e w' => e = .returned (.bool true) ∧ Below w.heap.size w w' := by
  obtain ⟨aa, ca, rfl⟩ := ha.form
  obtain ⟨ab, cb, rfl⟩ := hb.form
  have HA := Lib.hid ha
  have HB := Lib.hid hb
  clear ha hb
  go_enter Try.func9, Try.ntmps9
  by_cases h1 : (100 : Int) < a.length
  case pos =>
    go_wp2
    go_ret
    exact ⟨rfl, Below.refl _ _⟩
  by_cases h2 : (100 : Int) < b.length
  case pos =>
    go_wp2
    go_ret
    exact ⟨rfl, Below.refl _ _⟩
  by_cases h3 : bit < 0
  case pos =>
    go_wp2
    go_ret
    exact ⟨rfl, Below.refl _ _⟩
  by_cases h4 : bs < 0
  case pos =>
    go_wp2
    go_ret
    exact ⟨rfl, Below.refl _ _⟩
  have E := Lib.hid (ff (a := a) (b := b) (bit := bit) (bs := bs) (by omega) (by omega) h3 h4)
  have hla : a.length ≤ 1000 := by omega
  have hlb : b.length ≤ 1000 := by omega
  go_wp2_with fail
  obtain ⟨e1, e2, e3, e4, e5, e6, e7, e8, e9, e10, e11, e12, e13, e14, e15, e16, e17, e18, e19, e20⟩ := E.out
  have sz : ∀ (c : Cel) (k : List Wri) (q : Int), k.length ≤ 1 → (z2 c k q).cells.length ≤ 1000000000 ∧ (z2 c k q).cache.length ≤ 1000000000 := fun c k q hk => ⟨by show 2 ≤ 1000000000; omega, by show k.length ≤ 1000000000; omega⟩
  have LD0 := Lib.hid (sz gc [] 0 (by simp))
  have LD1 := Lib.hid (sz gc [⟨0, a⟩] 1 (by simp))
  have LD2 := Lib.hid (sz ⟨0, a, []⟩ [] 2 (by simp))
  have LD3 := Lib.hid (sz ⟨0, a, []⟩ [⟨0, b⟩] 3 (by simp))
  have LD4 := Lib.hid (sz ⟨0, b, a⟩ [] 4 (by simp))
  have LT0 := Lib.hid (sz ⟨1, b, a⟩ [] 4 (by simp))
  have LT1 := Lib.hid (sz ⟨1, b, a⟩ [⟨0, a⟩] 5 (by simp))
  have LT2 := Lib.hid (sz ⟨0, a, b⟩ [] 6 (by simp))
  have LS0 := Lib.hid (sz ⟨2, b, a⟩ [] 4 (by simp))
  have LO0 := Lib.hid (sz ⟨0, a, a⟩ [] 4 (by simp))
  have LP0 := Lib.hid (sz ⟨0, flipS b bit bs, a⟩ [] 4 (by simp))
  have LM0 := Lib.hid (show (⟨[⟨0, b, a⟩, ⟨0, b, []⟩], [], 4, -1⟩ : Dis).cells.length ≤ 1000000000 ∧ (⟨[⟨0, b, a⟩, ⟨0, b, []⟩], [], 4, -1⟩ : Dis).cache.length ≤ 1000000000 from ⟨by simp, by simp⟩)
  clear sz E
  replace e1 := Lib.hid e1
  replace e2 := Lib.hid e2
  replace e3 := Lib.hid e3
  replace e4 := Lib.hid e4
  replace e5 := Lib.hid e5
  replace e6 := Lib.hid e6
  replace e7 := Lib.hid e7
  replace e8 := Lib.hid e8
  replace e9 := Lib.hid e9
  replace e10 := Lib.hid e10
  replace e11 := Lib.hid e11
  replace e12 := Lib.hid e12
  replace e13 := Lib.hid e13
  replace e14 := Lib.hid e14
  replace e15 := Lib.hid e15
  replace e16 := Lib.hid e16
  replace e17 := Lib.hid e17
  replace e18 := Lib.hid e18
  replace e19 := Lib.hid e19
  replace e20 := Lib.hid e20
  generalize (z2 gc [] 0) = D0 at *
  generalize (z2 gc [⟨0, a⟩] 1) = D1 at *
  generalize (z2 ⟨0, a, []⟩ [] 2) = D2 at *
  generalize (z2 ⟨0, a, []⟩ [⟨0, b⟩] 3) = D3 at *
  generalize (z2 ⟨0, b, a⟩ [] 4) = D4 at *
  generalize (z2 ⟨1, b, a⟩ [] 4) = T0 at *
  generalize (z2 ⟨1, b, a⟩ [⟨0, a⟩] 5) = T1 at *
  generalize (z2 ⟨0, a, b⟩ [] 6) = T2 at *
  generalize (z2 ⟨2, b, a⟩ [] 4) = S0 at *
  generalize (z2 ⟨0, a, a⟩ [] 4) = O0 at *
  generalize (z2 ⟨0, flipS b bit bs, a⟩ [] 4) = P0 at *
  generalize (z2 ⟨0, a, b⟩ [] 7) = T3 at *
  generalize (z2 ⟨0, a, a⟩ [] 5) = O1 at *
  generalize (z2 ⟨0, b, a⟩ [] 5) = Q1 at *
  generalize (⟨[⟨0, b, a⟩, ⟨0, b, []⟩], [], 4, -1⟩ : Dis) = M0 at *
  generalize (⟨[⟨0, b, a⟩, ⟨0, b, []⟩], [], 5, -1⟩ : Dis) = M1 at *
  generalize (z2 ⟨1, b, a⟩ [] 5) = T0r at *
  generalize (z2 ⟨2, b, a⟩ [] 5) = S0r at *
  refine (tnew_any 2 w noM (fun _ h => h.elim)).mono ?_
  rw [e1.out]
  dsimp only
  rintro q w1 ⟨r1, rfl, hr1, hB1⟩
  obtain ⟨Ac1, nc1, Ak1, nk1, rfl⟩ := dis_form hr1
  have V9 := Lib.hid (VarD.new hr1 (fun _ h => h.elim))
  have hal := (Below.refl w1.heap.size w1).alloc (Nat.le_refl _) (.cells #[.slice Ac1 D0.cells.length nc1, .slice Ak1 D0.cache.length nk1, .int .i64 D0.reqs, .int .i64 D0.left] 27)
  have B := Lib.hid (hB1.trans (hal.mono hB1.size))
  have SA := Lib.hid ((HA.out.mono (Keep.below hB1)).mono (Keep.boxed hal (Nat.le_refl _)))
  have SB := Lib.hid ((HB.out.mono (Keep.below hB1)).mono (Keep.boxed hal (Nat.le_refl _)))
  have hge := Lib.hid hB1.size
  clear hr1 hB1 hal HA HB
  go_wp2_with fail
  generalize w1.alloc (.cells #[.slice Ac1 D0.cells.length nc1, .slice Ak1 D0.cache.length nk1, .int .i64 D0.reqs, .int .i64 D0.left] 27) = w2 at *
  generalize w1.heap.size = b9 at *
  generalize hM1 : noM.and b9 = MS at *
  clear hM1
  refine (twrite_any _ _ D0 0 a w2 _ V9.out.rv SA.out V9.out.ok LD0.out.1 LD0.out.2 (by omega)).mono ?_
  rw [e2.out]
  try dsimp only
  rintro q w3 ⟨r3, rfl, hr3, hB3⟩
  obtain ⟨Ac3, nc3, Ak3, nk3, rfl⟩ := dis_form hr3
  replace V9 := Lib.hid (VarD.up V9.out hB3)
  replace SA := Lib.hid (SlR.upM SA.out hB3)
  replace SB := Lib.hid (SlR.upM SB.out hB3)
  replace B := Lib.hid (upB B.out hB3)
  obtain ⟨c3, f3, l3⟩ := V9.out.blk.all
  have hk := (V9.out.set hr3).2
  replace SA := Lib.hid (SlR.mono SA.out hk)
  replace SB := Lib.hid (SlR.mono SB.out hk)
  replace B := Lib.hid (st4_below B.out hge.out (.slice Ac3 D1.cells.length nc3) (.slice Ak3 D1.cache.length nk3) (.int .i64 D1.reqs) (.int .i64 D1.left))
  replace V9 := Lib.hid (V9.out.set hr3).1
  clear hr3 hB3 hk
  go_wp2_with fail
  clear c3 f3 l3
  unfold st4 at *
  generalize (((w3.setCell ⟨b9, 0, none⟩ (.slice Ac3 D1.cells.length nc3)).setCell ⟨b9, 1, none⟩ (.slice Ak3 D1.cache.length nk3)).setCell ⟨b9, 2, none⟩ (.int .i64 D1.reqs)).setCell ⟨b9, 3, none⟩ (.int .i64 D1.left) = w3s at *
  refine (tflush_any _ D1 w3s _ V9.out.rv V9.out.ok LD1.out.1 LD1.out.2).mono ?_
  rw [e3.out]
  try dsimp only
  rintro q w4 ⟨r4, rfl, hr4, hB4⟩
  obtain ⟨Ac4, nc4, Ak4, nk4, rfl⟩ := dis_form hr4
  replace V9 := Lib.hid (VarD.up V9.out hB4)
  replace SA := Lib.hid (SlR.upM SA.out hB4)
  replace SB := Lib.hid (SlR.upM SB.out hB4)
  replace B := Lib.hid (upB B.out hB4)
  obtain ⟨c4, f4, l4⟩ := V9.out.blk.all
  have hk := (V9.out.set hr4).2
  replace SA := Lib.hid (SlR.mono SA.out hk)
  replace SB := Lib.hid (SlR.mono SB.out hk)
  replace B := Lib.hid (st4_below B.out hge.out (.slice Ac4 D2.cells.length nc4) (.slice Ak4 D2.cache.length nk4) (.int .i64 D2.reqs) (.int .i64 D2.left))
  replace V9 := Lib.hid (V9.out.set hr4).1
  clear hr4 hB4 hk
  go_wp2_with fail
  clear c4 f4 l4
  unfold st4 at *
  generalize (((w4.setCell ⟨b9, 0, none⟩ (.slice Ac4 D2.cells.length nc4)).setCell ⟨b9, 1, none⟩ (.slice Ak4 D2.cache.length nk4)).setCell ⟨b9, 2, none⟩ (.int .i64 D2.reqs)).setCell ⟨b9, 3, none⟩ (.int .i64 D2.left) = w4s at *
  refine (twrite_any _ _ D2 0 b w4s _ V9.out.rv SB.out V9.out.ok LD2.out.1 LD2.out.2 (by omega)).mono ?_
  rw [e4.out]
  try dsimp only
  rintro q w5 ⟨r5, rfl, hr5, hB5⟩
  obtain ⟨Ac5, nc5, Ak5, nk5, rfl⟩ := dis_form hr5
  replace V9 := Lib.hid (VarD.up V9.out hB5)
  replace SA := Lib.hid (SlR.upM SA.out hB5)
  replace SB := Lib.hid (SlR.upM SB.out hB5)
  replace B := Lib.hid (upB B.out hB5)
  obtain ⟨c5, f5, l5⟩ := V9.out.blk.all
  have hk := (V9.out.set hr5).2
  replace SA := Lib.hid (SlR.mono SA.out hk)
  replace SB := Lib.hid (SlR.mono SB.out hk)
  replace B := Lib.hid (st4_below B.out hge.out (.slice Ac5 D3.cells.length nc5) (.slice Ak5 D3.cache.length nk5) (.int .i64 D3.reqs) (.int .i64 D3.left))
  replace V9 := Lib.hid (V9.out.set hr5).1
  clear hr5 hB5 hk
  go_wp2_with fail
  clear c5 f5 l5
  unfold st4 at *
  generalize (((w5.setCell ⟨b9, 0, none⟩ (.slice Ac5 D3.cells.length nc5)).setCell ⟨b9, 1, none⟩ (.slice Ak5 D3.cache.length nk5)).setCell ⟨b9, 2, none⟩ (.int .i64 D3.reqs)).setCell ⟨b9, 3, none⟩ (.int .i64 D3.left) = w5s at *
  refine (tflush_any _ D3 w5s _ V9.out.rv V9.out.ok LD3.out.1 LD3.out.2).mono ?_
  rw [e5.out]
  try dsimp only
  rintro q w6 ⟨r6, rfl, hr6, hB6⟩
  obtain ⟨Ac6, nc6, Ak6, nk6, rfl⟩ := dis_form hr6
  replace V9 := Lib.hid (VarD.up V9.out hB6)
  replace SA := Lib.hid (SlR.upM SA.out hB6)
  replace SB := Lib.hid (SlR.upM SB.out hB6)
  replace B := Lib.hid (upB B.out hB6)
  obtain ⟨c6, f6, l6⟩ := V9.out.blk.all
  have hk := (V9.out.set hr6).2
  replace SA := Lib.hid (SlR.mono SA.out hk)
  replace SB := Lib.hid (SlR.mono SB.out hk)
  replace B := Lib.hid (st4_below B.out hge.out (.slice Ac6 D4.cells.length nc6) (.slice Ak6 D4.cache.length nk6) (.int .i64 D4.reqs) (.int .i64 D4.left))
  replace V9 := Lib.hid (V9.out.set hr6).1
  clear hr6 hB6 hk
  go_wp2_with fail
  clear c6 f6 l6
  unfold st4 at *
  generalize (((w6.setCell ⟨b9, 0, none⟩ (.slice Ac6 D4.cells.length nc6)).setCell ⟨b9, 1, none⟩ (.slice Ak6 D4.cache.length nk6)).setCell ⟨b9, 2, none⟩ (.int .i64 D4.reqs)).setCell ⟨b9, 3, none⟩ (.int .i64 D4.left) = w6s at *
  refine (fault_any _ D4 11 0 0 0 0 w6s _ V9.out.rv V9.out.ok LD4.out.1 LD4.out.2).mono ?_
  rw [e6.out]
  dsimp only
  rintro q w7 ⟨r7, rfl, hr7, hB7⟩
  obtain ⟨Ac7, nc7, Ak7, nk7, rfl⟩ := dis_form hr7
  have hal := (Below.refl w7.heap.size w7).alloc (Nat.le_refl _) (.cells #[.slice Ac7 T0.cells.length nc7, .slice Ak7 T0.cache.length nk7, .int .i64 T0.reqs, .int .i64 T0.left] 27)
  replace V9 := Lib.hid (VarD.up V9.out hB7)
  replace SA := Lib.hid (SlR.upM SA.out hB7)
  replace SB := Lib.hid (SlR.upM SB.out hB7)
  replace B := Lib.hid (upB B.out hB7)
  have V15 := Lib.hid (VarD.new hr7 V9.out.ok)
  have hge15 := Lib.hid B.out.size
  have hne9 := Lib.hid (Nat.ne_of_lt V9.out.blk.lt)
  replace V9 := Lib.hid (V9.out.boxed (.cells #[.slice Ac7 T0.cells.length nc7, .slice Ak7 T0.cache.length nk7, .int .i64 T0.reqs, .int .i64 T0.left] 27))
  replace SA := Lib.hid (SlR.mono SA.out (Keep.boxed hal (Nat.le_refl _)))
  replace SB := Lib.hid (SlR.mono SB.out (Keep.boxed hal (Nat.le_refl _)))
  replace B := Lib.hid (upB B.out hal)
  clear hr7 hB7 hal
  go_wp2_with fail
  generalize w7.alloc (.cells #[.slice Ac7 T0.cells.length nc7, .slice Ak7 T0.cache.length nk7, .int .i64 T0.reqs, .int .i64 T0.left] 27) = w7s at *
  generalize w7.heap.size = b15 at *
  generalize MS.and b15 = MT at *
  refine (tread_any _ T0 0 w7s _ V15.out.rv V15.out.ok LT0.out.1 LT0.out.2).mono ?_
  rw [e7.out]
  try dsimp only
  rintro q w8 ⟨r8, s8, rfl, -, -, hB8⟩
  replace V9 := Lib.hid (VarD.up V9.out hB8)
  replace V15 := Lib.hid (VarD.up V15.out hB8)
  replace SA := Lib.hid (SlR.upM SA.out hB8)
  replace SB := Lib.hid (SlR.upM SB.out hB8)
  replace B := Lib.hid (upB B.out hB8)
  obtain ⟨nc8_0, nf8_0, nl8_0⟩ := V15.out.blk.all
  clear hB8
  go_wp2_with fail
  clear nc8_0 nf8_0 nl8_0
  refine (twrite_any _ _ T0 0 a w8 _ V15.out.rv SA.out V15.out.ok LT0.out.1 LT0.out.2 (by omega)).mono ?_
  rw [e8.out]
  try dsimp only
  rintro q w9 ⟨r9, rfl, hr9, hB9⟩
  obtain ⟨Ac9, nc9, Ak9, nk9, rfl⟩ := dis_form hr9
  replace V15 := Lib.hid (VarD.up V15.out hB9)
  replace V9 := Lib.hid (VarD.up V9.out hB9)
  replace SA := Lib.hid (SlR.upM SA.out hB9)
  replace SB := Lib.hid (SlR.upM SB.out hB9)
  replace B := Lib.hid (upB B.out hB9)
  obtain ⟨c9, f9, l9⟩ := V15.out.blk.all
  have hk := (V15.out.set hr9).2
  replace V9 := Lib.hid (V9.out.other hne9.out V15.out.mem (.slice Ac9 T1.cells.length nc9) (.slice Ak9 T1.cache.length nk9) (.int .i64 T1.reqs) (.int .i64 T1.left))
  replace SA := Lib.hid (SlR.mono SA.out hk)
  replace SB := Lib.hid (SlR.mono SB.out hk)
  replace B := Lib.hid (st4_below B.out hge15.out (.slice Ac9 T1.cells.length nc9) (.slice Ak9 T1.cache.length nk9) (.int .i64 T1.reqs) (.int .i64 T1.left))
  replace V15 := Lib.hid (V15.out.set hr9).1
  clear hr9 hB9 hk
  go_wp2_with fail
  clear c9 f9 l9
  unfold st4 at *
  generalize (((w9.setCell ⟨b15, 0, none⟩ (.slice Ac9 T1.cells.length nc9)).setCell ⟨b15, 1, none⟩ (.slice Ak9 T1.cache.length nk9)).setCell ⟨b15, 2, none⟩ (.int .i64 T1.reqs)).setCell ⟨b15, 3, none⟩ (.int .i64 T1.left) = w9s at *
  refine (tflush_any _ T1 w9s _ V15.out.rv V15.out.ok LT1.out.1 LT1.out.2).mono ?_
  rw [e9.out]
  try dsimp only
  rintro q w10 ⟨r10, rfl, hr10, hB10⟩
  obtain ⟨Ac10, nc10, Ak10, nk10, rfl⟩ := dis_form hr10
  replace V15 := Lib.hid (VarD.up V15.out hB10)
  replace V9 := Lib.hid (VarD.up V9.out hB10)
  replace SA := Lib.hid (SlR.upM SA.out hB10)
  replace SB := Lib.hid (SlR.upM SB.out hB10)
  replace B := Lib.hid (upB B.out hB10)
  obtain ⟨c10, f10, l10⟩ := V15.out.blk.all
  have hk := (V15.out.set hr10).2
  replace V9 := Lib.hid (V9.out.other hne9.out V15.out.mem (.slice Ac10 T2.cells.length nc10) (.slice Ak10 T2.cache.length nk10) (.int .i64 T2.reqs) (.int .i64 T2.left))
  replace SA := Lib.hid (SlR.mono SA.out hk)
  replace SB := Lib.hid (SlR.mono SB.out hk)
  replace B := Lib.hid (st4_below B.out hge15.out (.slice Ac10 T2.cells.length nc10) (.slice Ak10 T2.cache.length nk10) (.int .i64 T2.reqs) (.int .i64 T2.left))
  replace V15 := Lib.hid (V15.out.set hr10).1
  clear hr10 hB10 hk
  go_wp2_with fail
  clear c10 f10 l10
  unfold st4 at *
  generalize (((w10.setCell ⟨b15, 0, none⟩ (.slice Ac10 T2.cells.length nc10)).setCell ⟨b15, 1, none⟩ (.slice Ak10 T2.cache.length nk10)).setCell ⟨b15, 2, none⟩ (.int .i64 T2.reqs)).setCell ⟨b15, 3, none⟩ (.int .i64 T2.left) = w10s at *
  refine (tread_any _ T2 0 w10s _ V15.out.rv V15.out.ok LT2.out.1 LT2.out.2).mono ?_
  rw [e10.out]
  try dsimp only
  rintro q w11 ⟨r11, s11, rfl, hr11, hs11, hB11⟩
  obtain ⟨Ac11, nc11, Ak11, nk11, rfl⟩ := dis_form hr11
  obtain ⟨As11, ns11, rfl⟩ := SlR.form hs11
  have hal := (Below.refl w11.heap.size w11).alloc (Nat.le_refl _) (.cells #[.slice Ac11 T3.cells.length nc11, .slice Ak11 T3.cache.length nk11, .int .i64 T3.reqs, .int .i64 T3.left] 27)
  replace V9 := Lib.hid (VarD.up V9.out hB11)
  replace SA := Lib.hid (SlR.upM SA.out hB11)
  replace SB := Lib.hid (SlR.upM SB.out hB11)
  replace B := Lib.hid (upB B.out hB11)
  replace V9 := Lib.hid (VarD.up V9.out hal)
  replace SA := Lib.hid (SlR.upM SA.out hal)
  replace SB := Lib.hid (SlR.upM SB.out hal)
  replace B := Lib.hid (upB B.out hal)
  have S17 := Lib.hid (SlR.upM hs11 hal)
  clear hr11 hB11 hal hs11
  go_wp2_with fail
  generalize w11.alloc (.cells #[.slice Ac11 T3.cells.length nc11, .slice Ak11 T3.cache.length nk11, .int .i64 T3.reqs, .int .i64 T3.left] 27) = w11s at *
  refine (bytes_any _ _ a a _ _ _ S17.out SA.out (by omega)).mono ?_
  rw [show decide (a = a) = true by simp]
  rintro q w12 ⟨rfl, hB12⟩
  replace V9 := Lib.hid (VarD.up V9.out hB12)
  replace SA := Lib.hid (SlR.upM SA.out hB12)
  replace SB := Lib.hid (SlR.upM SB.out hB12)
  replace B := Lib.hid (upB B.out hB12)
  obtain ⟨nc12_0, nf12_0, nl12_0⟩ := V9.out.blk.all
  clear hB12
  go_wp2_with fail
  clear nc12_0 nf12_0 nl12_0
  refine (fault_any _ D4 12 0 0 0 0 w12 _ V9.out.rv V9.out.ok LD4.out.1 LD4.out.2).mono ?_
  rw [e11.out]
  try dsimp only
  rintro q w13 ⟨r13, rfl, hr13, hB13⟩
  obtain ⟨Ac13, nc13, Ak13, nk13, rfl⟩ := dis_form hr13
  have hal := (Below.refl w13.heap.size w13).alloc (Nat.le_refl _) (.cells #[.slice Ac13 S0.cells.length nc13, .slice Ak13 S0.cache.length nk13, .int .i64 S0.reqs, .int .i64 S0.left] 27)
  replace V9 := Lib.hid (VarD.up V9.out hB13)
  replace SA := Lib.hid (SlR.upM SA.out hB13)
  replace SB := Lib.hid (SlR.upM SB.out hB13)
  replace B := Lib.hid (upB B.out hB13)
  replace V9 := Lib.hid (VarD.up V9.out hal)
  replace SA := Lib.hid (SlR.upM SA.out hal)
  replace SB := Lib.hid (SlR.upM SB.out hal)
  replace B := Lib.hid (upB B.out hal)
  have X18 := Lib.hid (BoxM.new hr13)
  clear hr13 hB13 hal
  go_wp2_with fail
  generalize w13.alloc (.cells #[.slice Ac13 S0.cells.length nc13, .slice Ak13 S0.cache.length nk13, .int .i64 S0.reqs, .int .i64 S0.left] 27) = w13s at *
  generalize w13.heap.size = bb13 at *
  refine (tread_any _ S0 0 w13s _ X18.out.rv V9.out.ok LS0.out.1 LS0.out.2).mono ?_
  rw [e12.out]
  try dsimp only
  rintro q w14 ⟨r14, s14, rfl, -, -, hB14⟩
  replace V9 := Lib.hid (VarD.up V9.out hB14)
  replace SA := Lib.hid (SlR.upM SA.out hB14)
  replace SB := Lib.hid (SlR.upM SB.out hB14)
  replace B := Lib.hid (upB B.out hB14)
  replace X18 := Lib.hid (BoxM.up X18.out hB14)
  obtain ⟨nc14_0, nf14_0, nl14_0⟩ := X18.out.blk.all
  clear hB14
  go_wp2_with fail
  clear nc14_0 nf14_0 nl14_0
  refine (twrite_any _ _ S0 0 a w14 _ X18.out.rv SA.out V9.out.ok LS0.out.1 LS0.out.2 (by omega)).mono ?_
  rw [e13.out]
  try dsimp only
  rintro q w15 ⟨r15, rfl, -, hB15⟩
  replace V9 := Lib.hid (VarD.up V9.out hB15)
  replace SA := Lib.hid (SlR.upM SA.out hB15)
  replace SB := Lib.hid (SlR.upM SB.out hB15)
  replace B := Lib.hid (upB B.out hB15)
  obtain ⟨nc15_0, nf15_0, nl15_0⟩ := V9.out.blk.all
  clear hB15
  go_wp2_with fail
  clear nc15_0 nf15_0 nl15_0
  refine (fault_any _ D4 14 0 0 0 0 w15 _ V9.out.rv V9.out.ok LD4.out.1 LD4.out.2).mono ?_
  rw [e14.out]
  try dsimp only
  rintro q w16 ⟨r16, rfl, hr16, hB16⟩
  obtain ⟨Ac16, nc16, Ak16, nk16, rfl⟩ := dis_form hr16
  have hal := (Below.refl w16.heap.size w16).alloc (Nat.le_refl _) (.cells #[.slice Ac16 O0.cells.length nc16, .slice Ak16 O0.cache.length nk16, .int .i64 O0.reqs, .int .i64 O0.left] 27)
  replace V9 := Lib.hid (VarD.up V9.out hB16)
  replace SA := Lib.hid (SlR.upM SA.out hB16)
  replace SB := Lib.hid (SlR.upM SB.out hB16)
  replace B := Lib.hid (upB B.out hB16)
  replace V9 := Lib.hid (VarD.up V9.out hal)
  replace SA := Lib.hid (SlR.upM SA.out hal)
  replace SB := Lib.hid (SlR.upM SB.out hal)
  replace B := Lib.hid (upB B.out hal)
  have X19 := Lib.hid (BoxM.new hr16)
  clear hr16 hB16 hal
  go_wp2_with fail
  generalize w16.alloc (.cells #[.slice Ac16 O0.cells.length nc16, .slice Ak16 O0.cache.length nk16, .int .i64 O0.reqs, .int .i64 O0.left] 27) = w16s at *
  generalize w16.heap.size = bb16 at *
  refine (tread_any _ O0 0 w16s _ X19.out.rv V9.out.ok LO0.out.1 LO0.out.2).mono ?_
  rw [e15.out]
  try dsimp only
  rintro q w17 ⟨r17, s17, rfl, hr17, hs17, hB17⟩
  obtain ⟨Ac17, nc17, Ak17, nk17, rfl⟩ := dis_form hr17
  obtain ⟨As17, ns17, rfl⟩ := SlR.form hs17
  have hal := (Below.refl w17.heap.size w17).alloc (Nat.le_refl _) (.cells #[.slice Ac17 O1.cells.length nc17, .slice Ak17 O1.cache.length nk17, .int .i64 O1.reqs, .int .i64 O1.left] 27)
  replace V9 := Lib.hid (VarD.up V9.out hB17)
  replace SA := Lib.hid (SlR.upM SA.out hB17)
  replace SB := Lib.hid (SlR.upM SB.out hB17)
  replace B := Lib.hid (upB B.out hB17)
  replace V9 := Lib.hid (VarD.up V9.out hal)
  replace SA := Lib.hid (SlR.upM SA.out hal)
  replace SB := Lib.hid (SlR.upM SB.out hal)
  replace B := Lib.hid (upB B.out hal)
  have S21 := Lib.hid (SlR.upM hs17 hal)
  clear hr17 hB17 hal hs17
  go_wp2_with fail
  generalize w17.alloc (.cells #[.slice Ac17 O1.cells.length nc17, .slice Ak17 O1.cache.length nk17, .int .i64 O1.reqs, .int .i64 O1.left] 27) = w17s at *
  refine (bytes_any _ _ a a _ _ _ S21.out SA.out (by omega)).mono ?_
  rw [show decide (a = a) = true by simp]
  rintro q w18 ⟨rfl, hB18⟩
  replace V9 := Lib.hid (VarD.up V9.out hB18)
  replace SA := Lib.hid (SlR.upM SA.out hB18)
  replace SB := Lib.hid (SlR.upM SB.out hB18)
  replace B := Lib.hid (upB B.out hB18)
  obtain ⟨nc18_0, nf18_0, nl18_0⟩ := V9.out.blk.all
  clear hB18
  go_wp2_with fail
  clear nc18_0 nf18_0 nl18_0
  refine (fault_any _ D4 13 0 0 bit bs w18 _ V9.out.rv V9.out.ok LD4.out.1 LD4.out.2).mono ?_
  rw [e16.out]
  try dsimp only
  rintro q w19 ⟨r19, rfl, hr19, hB19⟩
  obtain ⟨Ac19, nc19, Ak19, nk19, rfl⟩ := dis_form hr19
  have hal := (Below.refl w19.heap.size w19).alloc (Nat.le_refl _) (.cells #[.slice Ac19 P0.cells.length nc19, .slice Ak19 P0.cache.length nk19, .int .i64 P0.reqs, .int .i64 P0.left] 27)
  replace V9 := Lib.hid (VarD.up V9.out hB19)
  replace SA := Lib.hid (SlR.upM SA.out hB19)
  replace SB := Lib.hid (SlR.upM SB.out hB19)
  replace B := Lib.hid (upB B.out hB19)
  replace V9 := Lib.hid (VarD.up V9.out hal)
  replace SA := Lib.hid (SlR.upM SA.out hal)
  replace SB := Lib.hid (SlR.upM SB.out hal)
  replace B := Lib.hid (upB B.out hal)
  have X22 := Lib.hid (BoxM.new hr19)
  clear hr19 hB19 hal
  go_wp2_with fail
  generalize w19.alloc (.cells #[.slice Ac19 P0.cells.length nc19, .slice Ak19 P0.cache.length nk19, .int .i64 P0.reqs, .int .i64 P0.left] 27) = w19s at *
  generalize w19.heap.size = bb19 at *
  refine (fault_any _ P0 13 0 0 bit bs w19s _ X22.out.rv V9.out.ok LP0.out.1 LP0.out.2).mono ?_
  rw [e17.out]
  try dsimp only
  rintro q w20 ⟨r20, rfl, hr20, hB20⟩
  obtain ⟨Ac20, nc20, Ak20, nk20, rfl⟩ := dis_form hr20
  have hal := (Below.refl w20.heap.size w20).alloc (Nat.le_refl _) (.cells #[.slice Ac20 D4.cells.length nc20, .slice Ak20 D4.cache.length nk20, .int .i64 D4.reqs, .int .i64 D4.left] 27)
  replace V9 := Lib.hid (VarD.up V9.out hB20)
  replace SA := Lib.hid (SlR.upM SA.out hB20)
  replace SB := Lib.hid (SlR.upM SB.out hB20)
  replace B := Lib.hid (upB B.out hB20)
  obtain ⟨nc20_0, nf20_0, nl20_0⟩ := V9.out.blk.all
  replace V9 := Lib.hid (VarD.up V9.out hal)
  replace SA := Lib.hid (SlR.upM SA.out hal)
  replace SB := Lib.hid (SlR.upM SB.out hal)
  replace B := Lib.hid (upB B.out hal)
  have X23 := Lib.hid (BoxM.new hr20)
  clear hr20 hB20 hal
  go_wp2_with fail
  clear nc20_0 nf20_0 nl20_0
  generalize w20.alloc (.cells #[.slice Ac20 D4.cells.length nc20, .slice Ak20 D4.cache.length nk20, .int .i64 D4.reqs, .int .i64 D4.left] 27) = w20s at *
  generalize w20.heap.size = bb20 at *
  refine (fault_any _ D4 15 1 0 0 0 w20s _ V9.out.rv V9.out.ok LD4.out.1 LD4.out.2).mono ?_
  rw [e18.out]
  try dsimp only
  rintro q w21 ⟨r21, rfl, hr21, hB21⟩
  obtain ⟨Ac21, nc21, Ak21, nk21, rfl⟩ := dis_form hr21
  have hal := (Below.refl w21.heap.size w21).alloc (Nat.le_refl _) (.cells #[.slice Ac21 M0.cells.length nc21, .slice Ak21 M0.cache.length nk21, .int .i64 M0.reqs, .int .i64 M0.left] 27)
  replace V9 := Lib.hid (VarD.up V9.out hB21)
  replace SA := Lib.hid (SlR.upM SA.out hB21)
  replace SB := Lib.hid (SlR.upM SB.out hB21)
  replace B := Lib.hid (upB B.out hB21)
  replace X23 := Lib.hid (BoxM.up X23.out hB21)
  obtain ⟨nc21_0, nf21_0, nl21_0⟩ := X23.out.blk.all
  replace V9 := Lib.hid (VarD.up V9.out hal)
  replace SA := Lib.hid (SlR.upM SA.out hal)
  replace SB := Lib.hid (SlR.upM SB.out hal)
  replace B := Lib.hid (upB B.out hal)
  replace X23 := Lib.hid (BoxM.up X23.out hal)
  have X24 := Lib.hid (BoxM.new hr21)
  clear hr21 hB21 hal
  go_wp2_with fail
  clear nc21_0 nf21_0 nl21_0
  generalize w21.alloc (.cells #[.slice Ac21 M0.cells.length nc21, .slice Ak21 M0.cache.length nk21, .int .i64 M0.reqs, .int .i64 M0.left] 27) = w21s at *
  generalize w21.heap.size = bb21 at *
  refine (tread_any _ D4 0 w21s _ X23.out.rv V9.out.ok LD4.out.1 LD4.out.2).mono ?_
  rw [e19.out]
  try dsimp only
  rintro q w22 ⟨r22, s22, rfl, hr22, hs22, hB22⟩
  obtain ⟨Ac22, nc22, Ak22, nk22, rfl⟩ := dis_form hr22
  obtain ⟨As22, ns22, rfl⟩ := SlR.form hs22
  have hal := (Below.refl w22.heap.size w22).alloc (Nat.le_refl _) (.cells #[.slice Ac22 Q1.cells.length nc22, .slice Ak22 Q1.cache.length nk22, .int .i64 Q1.reqs, .int .i64 Q1.left] 27)
  replace V9 := Lib.hid (VarD.up V9.out hB22)
  replace SA := Lib.hid (SlR.upM SA.out hB22)
  replace SB := Lib.hid (SlR.upM SB.out hB22)
  replace B := Lib.hid (upB B.out hB22)
  replace X24 := Lib.hid (BoxM.up X24.out hB22)
  obtain ⟨nc22_0, nf22_0, nl22_0⟩ := X24.out.blk.all
  replace V9 := Lib.hid (VarD.up V9.out hal)
  replace SA := Lib.hid (SlR.upM SA.out hal)
  replace SB := Lib.hid (SlR.upM SB.out hal)
  replace B := Lib.hid (upB B.out hal)
  replace X24 := Lib.hid (BoxM.up X24.out hal)
  have S26 := Lib.hid (SlR.upM hs22 hal)
  clear hr22 hB22 hal hs22
  go_wp2_with fail
  clear nc22_0 nf22_0 nl22_0
  generalize w22.alloc (.cells #[.slice Ac22 Q1.cells.length nc22, .slice Ak22 Q1.cache.length nk22, .int .i64 Q1.reqs, .int .i64 Q1.left] 27) = w22s at *
  refine (tread_any _ M0 1 w22s _ X24.out.rv V9.out.ok LM0.out.1 LM0.out.2).mono ?_
  rw [e20.out]
  try dsimp only
  rintro q w23 ⟨r23, s23, rfl, hr23, hs23, hB23⟩
  obtain ⟨Ac23, nc23, Ak23, nk23, rfl⟩ := dis_form hr23
  obtain ⟨As23, ns23, rfl⟩ := SlR.form hs23
  have hal := (Below.refl w23.heap.size w23).alloc (Nat.le_refl _) (.cells #[.slice Ac23 M1.cells.length nc23, .slice Ak23 M1.cache.length nk23, .int .i64 M1.reqs, .int .i64 M1.left] 27)
  replace V9 := Lib.hid (VarD.up V9.out hB23)
  replace SA := Lib.hid (SlR.upM SA.out hB23)
  replace SB := Lib.hid (SlR.upM SB.out hB23)
  replace B := Lib.hid (upB B.out hB23)
  replace S26 := Lib.hid (SlR.upM S26.out hB23)
  replace V9 := Lib.hid (VarD.up V9.out hal)
  replace SA := Lib.hid (SlR.upM SA.out hal)
  replace SB := Lib.hid (SlR.upM SB.out hal)
  replace B := Lib.hid (upB B.out hal)
  replace S26 := Lib.hid (SlR.upM S26.out hal)
  have S28 := Lib.hid (SlR.upM hs23 hal)
  clear hr23 hB23 hal hs23
  go_wp2_with fail
  generalize w23.alloc (.cells #[.slice Ac23 M1.cells.length nc23, .slice Ak23 M1.cache.length nk23, .int .i64 M1.reqs, .int .i64 M1.left] 27) = w23s at *
  refine (bytes_any _ _ b b _ _ _ S26.out SB.out (by omega)).mono ?_
  rw [show decide (b = b) = true by simp]
  rintro q w24 ⟨rfl, hB24⟩
  replace SB := Lib.hid (SlR.upM SB.out hB24)
  replace B := Lib.hid (upB B.out hB24)
  replace S28 := Lib.hid (SlR.upM S28.out hB24)
  clear hB24
  go_wp2_with fail
  refine (bytes_any _ _ b b _ _ _ S28.out SB.out (by omega)).mono ?_
  rw [show decide (b = b) = true by simp]
  rintro q w25 ⟨rfl, hB25⟩
  replace B := Lib.hid (upB B.out hB25)
  clear hB25
  go_wp2_with fail
  refine (wakes_any _).mono ?_
  rintro q w26 ⟨rfl, hB26⟩
  go_wp2
  go_ret
  exact ⟨rfl, upB B.out hB26⟩
end Go.Proofs.Ytkdjacmabeeceaa
