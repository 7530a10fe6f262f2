/-
  The three 'less' closures (9, 25, 27), 'sameBytes' (13), 'codecm.Compare' (14).
-/
import Derived.Test.Qxb6500664aCompare
namespace Go.Proofs.Qxb6500664a
open Go.RowKit

/-- what 'less' answers -/
def lessB (x y : List UInt8) : Bool := decide (Ord.cmp x y < 0)

theorem At_drewN {s : BSl} {w : World} (h : s.At w) (n : Nat) : s.At (w.drewN n) := ⟨h.le, h.max, h.at_⟩
theorem At_alloc {s : BSl} {w : World} (h : s.At w) (o : Obj) : s.At (w.alloc o) :=
  ⟨h.le, h.max, fun h0 => let ⟨b, off, ha, hc⟩ := h.at_ h0; ⟨b, off, ha, fun j hj => Lib.cell?_alloc_marked o (hc j hj)⟩⟩

set_option maxHeartbeats 400000 in
theorem less_bytes (w : World) (s1 s2 : BSl) (h1 : s1.At w) (h2 : s2.At w) :
    Calls Try.prog 25 #[.slice s1.a s1.l.length s1.cap, .slice s2.a s2.l.length s2.cap] w fun e w' => e = .returned (.bool (lessB s1.l s2.l)) ∧ Below w.heap.size w w' := by
  go_enter Try.func25, Try.ntmps25
  go_wp2_with fail
  refine (compare_any _ s1 s2 h1 h2).mono ?_
  rintro e w1 ⟨rfl, n, rfl⟩
  generalize hc : Ord.cmp s1.l s2.l = c
  go_wp2_with fail
  go_ret
  exact ⟨by rw [lessB, hc]; rfl, below_drewN (Below.refl _ _) _⟩

set_option maxHeartbeats 400000 in
theorem less_items (w : World) (s1 s2 : BSl) (v1 v2 : Value) (h1 : s1.At w) (h2 : s2.At w) :
    Calls Try.prog 9 #[.agg #[.slice s1.a s1.l.length s1.cap, v1], .agg #[.slice s2.a s2.l.length s2.cap, v2]] w fun e w' => e = .returned (.bool (lessB s1.l s2.l)) ∧ Below w.heap.size w w' := by
  go_enter Try.func9, Try.ntmps9
  go_wp2_with fail
  refine (compare_any _ s1 s2 (At_alloc (At_alloc h1 _) _) (At_alloc (At_alloc h2 _) _)).mono ?_
  rintro e w1 ⟨rfl, n, rfl⟩
  generalize hc : Ord.cmp s1.l s2.l = c
  go_wp2_with fail
  go_ret
  exact ⟨by rw [lessB, hc]; rfl, below_drewN (((Below.refl _ _).alloc (Nat.le_refl _) _).alloc (by simp) _) _⟩

set_option maxHeartbeats 400000 in
theorem less_pairs (w : World) (s1 s2 : BSl) (v1 v2 : Value) (h1 : s1.At w) (h2 : s2.At w) :
    Calls Try.prog 27 #[.agg #[.slice s1.a s1.l.length s1.cap, v1], .agg #[.slice s2.a s2.l.length s2.cap, v2]] w fun e w' => e = .returned (.bool (lessB s1.l s2.l)) ∧ Below w.heap.size w w' := by
  go_enter Try.func27, Try.ntmps27
  go_wp2_with fail
  refine (compare_any _ s1 s2 (At_alloc (At_alloc h1 _) _) (At_alloc (At_alloc h2 _) _)).mono ?_
  rintro e w1 ⟨rfl, n, rfl⟩
  generalize hc : Ord.cmp s1.l s2.l = c
  go_wp2_with fail
  go_ret
  exact ⟨by rw [lessB, hc]; rfl, below_drewN (((Below.refl _ _).alloc (Nat.le_refl _) _).alloc (by simp) _) _⟩

set_option maxHeartbeats 400000 in
theorem same_some (w : World) (b1 o1 c1 b2 o2 c2 : Nat) (l : List UInt8) (hl1 : l.length ≤ 140737488351232)
    (h1 : ∀ j (hj : j < l.length), w.cell? ⟨b1, o1 + j, none⟩ = some (.int .u8 (l[j].toNat : Int))) (h2 : ∀ j (hj : j < l.length), w.cell? ⟨b2, o2 + j, none⟩ = some (.int .u8 (l[j].toNat : Int))) :
    Calls Try.prog 13 #[.slice (some ⟨b1, o1, none⟩) l.length c1, .slice (some ⟨b2, o2, none⟩) l.length c2] w fun e w' => e = .returned (.bool true) ∧ ∃ n, w' = w.drewN n := by
  have e0 : ((l.length : Int) != (l.length : Int)) = false := by simp
  go_enter Try.func13, Try.ntmps13
  go_wp2
  go_loopw [13] (fun i wr => ∃ (k n : Nat), k ≤ l.length ∧ i = .int .i64 (k : Int) ∧ wr = w.drewN n) (fun i _ => l.length - (intOf i).toNat)
  case atStart => exact ⟨0, 0, by omega, rfl, rfl⟩
  case round =>
    obtain ⟨k, n, hk, rfl, rfl⟩ := hrel
    by_cases hlt : k < l.length
    · have g1 := h1 k hlt
      have g2 := h2 k hlt
      clear h1 h2
      generalize l[k].toNat = x at *
      have e1 : ((x : Int) != (x : Int)) = false := by simp
      go_wp2
      go_quiet (fail)
      go_wp2
      go_roundw
      case rel => exact ⟨k + 1, _, by omega, by go_num, rfl⟩
      case measure => simp [intOf]; omega
    · go_wp2
      go_ret
      exact ⟨rfl, _, rfl⟩

set_option maxHeartbeats 400000 in
theorem same_zero (w : World) (a1 a2 : Option Addr) (c1 c2 : Nat) :
    Calls Try.prog 13 #[.slice a1 0 c1, .slice a2 0 c2] w fun e w' => e = .returned (.bool true) ∧ w' = w := by
  go_enter Try.func13, Try.ntmps13
  go_wp2
  refine wp_loop_rounds 1 ?_
  rw [rounds_succ]
  go_wp2
  go_ret
  exact ⟨rfl, rfl⟩

/-- 'sameBytes' at equal bytes -/
theorem same_any (w : World) (s1 s2 : BSl) (h1 : s1.At w) (h2 : s2.At w) (h : s1.l = s2.l) :
    Calls Try.prog 13 #[.slice s1.a s1.l.length s1.cap, .slice s2.a s2.l.length s2.cap] w fun e w' => e = .returned (.bool true) ∧ ∃ n, w' = w.drewN n := by
  obtain ⟨a1, l1, c1⟩ := s1
  obtain ⟨a2, l2, c2⟩ := s2
  simp only at h
  subst h
  rcases Nat.eq_zero_or_pos l1.length with hz | hz
  · simp only [hz]
    exact (same_zero w a1 a2 c1 c2).mono fun e w' ⟨e1, e2⟩ => ⟨e1, 0, e2⟩
  · obtain ⟨b1, o1, e1, g1⟩ := h1.at_ hz
    obtain ⟨b2, o2, e2, g2⟩ := h2.at_ hz
    simp only at e1 e2 g1 g2
    subst e1 e2
    exact same_some w b1 o1 c1 b2 o2 c2 l1 (Nat.le_trans h1.le h1.max) g1 g2

/-! ### the model's order: a function that calls itself -/
/-- what is left behind the first byte -/
def BSl.tail (s : BSl) : BSl := ⟨if s.cap = 1 then s.a else s.a.map (fun x => x.add 1), s.l.tail, s.cap - 1⟩

theorem At_tail {s : BSl} {w : World} (h : s.At w) (h0 : 0 < s.l.length) : s.tail.At w := by
  have h1 := h.le
  have h2 := h.max
  refine ⟨by simp [BSl.tail]; omega, by simp [BSl.tail]; omega, fun ht => ?_⟩
  simp [BSl.tail] at ht
  obtain ⟨b, off, ha, hc⟩ := h.at_ h0
  refine ⟨b, off + 1, ?_, fun j hj => ?_⟩
  · simp only [BSl.tail]
    rw [if_neg (by omega), ha]
    simp [Addr.add]
  · simp only [BSl.tail, List.length_tail] at hj
    have := hc (j + 1) (by omega)
    rw [show off + 1 + j = off + (j + 1) by omega, this]
    simp [BSl.tail]

theorem cmp_uncons (l1 l2 : List UInt8) (h1 : 0 < l1.length) (h2 : 0 < l2.length) :
    Ord.cmp l1 l2 = if l1[0].toNat < l2[0].toNat then -1 else if l2[0].toNat < l1[0].toNat then 1 else Ord.cmp l1.tail l2.tail := by
  cases l1 with
  | nil => simp at h1
  | cons a x =>
    cases l2 with
    | nil => simp at h2
    | cons b y => rfl

set_option maxHeartbeats 400000 in
theorem mcompare_zero (w : World) (a1 a2 : Option Addr) (n1 n2 c1 c2 : Nat) (h : n1 = 0 ∨ n2 = 0) :
    Calls Try.prog 14 #[.slice a1 n1 c1, .slice a2 n2 c2] w fun e w' => e = .returned (.int .i64 (if n1 < n2 then -1 else if n2 < n1 then 1 else 0)) ∧ w' = w := by
  rcases Nat.eq_zero_or_pos n1 with z1 | z1
  · subst z1
    rcases Nat.eq_zero_or_pos n2 with z2 | z2
    · subst z2
      go_enter Try.func14, Try.ntmps14
      go_wp2
      go_ret
      exact ⟨rfl, rfl⟩
    · have t : ((n2 : Int) == 0) = false := by rw [beq_eq_false_iff_ne]; omega
      rw [if_pos z2]
      go_enter Try.func14, Try.ntmps14
      go_wp2
      go_ret
      exact ⟨rfl, rfl⟩
  · have z2 : n2 = 0 := by omega
    subst z2
    have t : ((n1 : Int) == 0) = false := by rw [beq_eq_false_iff_ne]; omega
    rw [if_neg (by omega), if_pos z1]
    go_enter Try.func14, Try.ntmps14
    go_wp2
    go_ret
    exact ⟨rfl, rfl⟩

set_option maxHeartbeats 1000000 in
theorem mcompare_step (w : World) (b1 o1 c1 b2 o2 c2 n1 n2 x y : Nat) (A1 A2 : Option Addr) (r : Int) (hn1 : 1 ≤ n1) (hn2 : 1 ≤ n2) (hm1 : n1 ≤ c1) (hm2 : n2 ≤ c2) (hx1 : c1 ≤ 140737488351232) (hx2 : c2 ≤ 140737488351232)
    (g1 : w.cell? ⟨b1, o1, none⟩ = some (.int .u8 (x : Int))) (g2 : w.cell? ⟨b2, o2, none⟩ = some (.int .u8 (y : Int)))
    (hA1 : A1 = if c1 = 1 then some ⟨b1, o1, none⟩ else some ⟨b1, o1 + 1, none⟩) (hA2 : A2 = if c2 = 1 then some ⟨b2, o2, none⟩ else some ⟨b2, o2 + 1, none⟩)
    (hrec : ∀ W, (∃ m, W = w.drewN m) → ∀ m, Calls Try.prog 14 #[.slice A1 (n1 - 1) (c1 - 1), .slice A2 (n2 - 1) (c2 - 1)] (W.drewN m) fun e w' => e = .returned (.int .i64 r) ∧ ∃ n, w' = (W.drewN m).drewN n) :
    Calls Try.prog 14 #[.slice (some ⟨b1, o1, none⟩) n1 c1, .slice (some ⟨b2, o2, none⟩) n2 c2] w fun e w' => e = .returned (.int .i64 (if x < y then -1 else if y < x then 1 else r)) ∧ ∃ n, w' = w.drewN n := by
  have t1 : ((n1 : Int) == 0) = false := by rw [beq_eq_false_iff_ne]; omega
  have t2 : ((n2 : Int) == 0) = false := by rw [beq_eq_false_iff_ne]; omega
  have p1 : (0 : Int) < (n1 : Int) := by omega
  have p2 : (0 : Int) < (n2 : Int) := by omega
  rcases Nat.lt_trichotomy x y with hxy | hxy | hxy
  · rw [if_pos hxy]
    clear hrec hA1 hA2
    go_enter Try.func14, Try.ntmps14
    go_wp2
    go_quiet (fail)
    go_wp2
    go_ret
    exact ⟨rfl, _, rfl⟩
  · rw [if_neg (by omega), if_neg (by omega)]
    have q1 : ¬ ((x : Int) < (y : Int)) := by omega
    have q2 : ¬ ((y : Int) < (x : Int)) := by omega
    clear hxy
    by_cases k1 : c1 = 1
    · rw [if_pos k1] at hA1
      obtain rfl : n1 = 1 := by omega
      subst hA1 k1
      by_cases k2 : c2 = 1
      · rw [if_pos k2] at hA2
        obtain rfl : n2 = 1 := by omega
        subst hA2 k2
        have HR : Hid _ := hrec
        clear hrec
        go_enter Try.func14, Try.ntmps14
        go_wp2
        go_quiet (fail)
        go_wp2
        go_quiet (fail)
        go_wp2
        generalize hW : (w.drewN _).drewN _ = W
        have HW : Hid (∃ m, W = w.drewN m) := ⟨_, by rw [← hW, World.drewN_drewN]⟩
        clear hW
        go_quiet ((go_at_call 14; exact Calls.quiet_of (HR.out _ HW.out _)))
        obtain ⟨m0, hm0⟩ := HW.out
        subst hm0
        go_wp2
        go_ret
        exact ⟨rfl, _, by rw [World.drewN_drewN]⟩
      · rw [if_neg k2] at hA2
        subst hA2
        have HR : Hid _ := hrec
        clear hrec
        go_enter Try.func14, Try.ntmps14
        go_wp2
        go_quiet (fail)
        go_wp2
        go_quiet (fail)
        go_wp2
        generalize hW : (w.drewN _).drewN _ = W
        have HW : Hid (∃ m, W = w.drewN m) := ⟨_, by rw [← hW, World.drewN_drewN]⟩
        clear hW
        go_quiet ((go_at_call 14; exact Calls.quiet_of (HR.out _ HW.out _)))
        obtain ⟨m0, hm0⟩ := HW.out
        subst hm0
        go_wp2
        go_ret
        exact ⟨rfl, _, by rw [World.drewN_drewN]⟩
    · rw [if_neg k1] at hA1
      subst hA1
      by_cases k2 : c2 = 1
      · rw [if_pos k2] at hA2
        obtain rfl : n2 = 1 := by omega
        subst hA2 k2
        have HR : Hid _ := hrec
        clear hrec
        go_enter Try.func14, Try.ntmps14
        go_wp2
        go_quiet (fail)
        go_wp2
        go_quiet (fail)
        go_wp2
        generalize hW : (w.drewN _).drewN _ = W
        have HW : Hid (∃ m, W = w.drewN m) := ⟨_, by rw [← hW, World.drewN_drewN]⟩
        clear hW
        go_quiet ((go_at_call 14; exact Calls.quiet_of (HR.out _ HW.out _)))
        obtain ⟨m0, hm0⟩ := HW.out
        subst hm0
        go_wp2
        go_ret
        exact ⟨rfl, _, by rw [World.drewN_drewN]⟩
      · rw [if_neg k2] at hA2
        subst hA2
        have HR : Hid _ := hrec
        clear hrec
        go_enter Try.func14, Try.ntmps14
        go_wp2
        go_quiet (fail)
        go_wp2
        go_quiet (fail)
        go_wp2
        generalize hW : (w.drewN _).drewN _ = W
        have HW : Hid (∃ m, W = w.drewN m) := ⟨_, by rw [← hW, World.drewN_drewN]⟩
        clear hW
        go_quiet ((go_at_call 14; exact Calls.quiet_of (HR.out _ HW.out _)))
        obtain ⟨m0, hm0⟩ := HW.out
        subst hm0
        go_wp2
        go_ret
        exact ⟨rfl, _, by rw [World.drewN_drewN]⟩
  · rw [if_neg (by omega), if_pos hxy]
    clear hrec hA1 hA2
    have q1 : ¬ ((x : Int) < (y : Int)) := by omega
    go_enter Try.func14, Try.ntmps14
    go_wp2
    go_quiet (fail)
    go_wp2
    go_quiet (fail)
    go_wp2
    go_ret
    exact ⟨rfl, _, by rw [World.drewN_drewN]⟩

set_option maxHeartbeats 1000000 in
/-- 'codecm.Compare' AT ALL BYTES. -/
theorem mcompare_any (n : Nat) : ∀ (w : World) (s1 s2 : BSl), s1.l.length = n → s1.At w → s2.At w →
    Calls Try.prog 14 #[.slice s1.a s1.l.length s1.cap, .slice s2.a s2.l.length s2.cap] w fun e w' => e = .returned (.int .i64 (Ord.cmp s1.l s2.l)) ∧ ∃ n, w' = w.drewN n := by
  induction n with
  | zero =>
    intro w s1 s2 hn h1 h2
    refine (mcompare_zero w s1.a s2.a s1.l.length s2.l.length s1.cap s2.cap (Or.inl hn)).mono fun e w' ⟨e1, e2⟩ => ⟨?_, 0, e2⟩
    rw [e1]
    have := cmp_end s1.l s2.l 0 (by omega) (by omega) (by omega)
    simp only [List.drop_zero] at this
    rw [this]
  | succ n ih =>
    intro w s1 s2 hn h1 h2
    by_cases hz : s2.l.length = 0
    · refine (mcompare_zero w s1.a s2.a s1.l.length s2.l.length s1.cap s2.cap (Or.inr hz)).mono fun e w' ⟨e1, e2⟩ => ⟨?_, 0, e2⟩
      rw [e1]
      have := cmp_end s1.l s2.l 0 (by omega) (by omega) (by omega)
      simp only [List.drop_zero] at this
      rw [this]
    have ht1 := At_tail h1 (by omega)
    have ht2 := At_tail h2 (by omega)
    have hc := cmp_uncons s1.l s2.l (by omega) (by omega)
    have hle1 := h1.le
    have hle2 := h2.le
    have hmx1 := h1.max
    have hmx2 := h2.max
    obtain ⟨b1, o1, e1, c1⟩ := h1.at_ (by omega)
    obtain ⟨b2, o2, e2, c2⟩ := h2.at_ (by omega)
    have g1 := c1 0 (by omega)
    have g2 := c2 0 (by omega)
    simp only [Nat.add_zero] at g1 g2
    obtain ⟨x, hx⟩ : ∃ x, x = (s1.l[0]'(by omega)).toNat := ⟨_, rfl⟩
    obtain ⟨y, hy⟩ : ∃ y, y = (s2.l[0]'(by omega)).toNat := ⟨_, rfl⟩
    rw [← hx] at g1
    rw [← hy] at g2
    rw [← hx, ← hy] at hc
    have hta1 : s1.tail.a = (if s1.cap = 1 then some ⟨b1, o1, none⟩ else some ⟨b1, o1 + 1, none⟩) := by simp only [BSl.tail, e1]; split <;> rfl
    have hta2 : s2.tail.a = (if s2.cap = 1 then some ⟨b2, o2, none⟩ else some ⟨b2, o2 + 1, none⟩) := by simp only [BSl.tail, e2]; split <;> rfl
    rw [hc, e1, e2]
    refine mcompare_step w b1 o1 s1.cap b2 o2 s2.cap s1.l.length s2.l.length x y s1.tail.a s2.tail.a (Ord.cmp s1.l.tail s2.l.tail) (by omega) (by omega) hle1 hle2 hmx1 hmx2 g1 g2 hta1 hta2 ?_
    rintro W ⟨m0, rfl⟩ m
    have := ih ((w.drewN m0).drewN m) s1.tail s2.tail (by simp [BSl.tail]; omega) (At_drewN (At_drewN ht1 _) _) (At_drewN (At_drewN ht2 _) _)
    rw [show s1.tail.l.length = s1.l.length - 1 by simp [BSl.tail], show s2.tail.l.length = s2.l.length - 1 by simp [BSl.tail]] at this
    exact this
end Go.Proofs.Qxb6500664a
