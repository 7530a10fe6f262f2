/-
  The law's own functions: areaOf (15), visible (17).
-/
import Derived.Test.Qxb6500653aRects
namespace Go.Proofs.Qxb6500653a
open Go.RowKit

set_option maxRecDepth 100000 in
set_option maxHeartbeats 2000000 in
theorem areaOf_at (w : World) (sb : Nat) (S : Sh) (h : SheetAt w sb S) (hok : S.Ok) (r c : Nat) :
    Calls Try.prog 15 #[.pointer (some ⟨sb, 0, none⟩), .agg #[.int .i64 (r : Int), .int .i64 (c : Int)]] w fun e w' => e = .returned (.agg #[.int .i64 ((areaOf S r c).t : Int), .int .i64 ((areaOf S r c).l : Int), .int .i64 ((areaOf S r c).b : Int), .int .i64 ((areaOf S r c).r : Int)]) ∧ Kp no w w' := by
  obtain ⟨o, ho⟩ : ∃ o, mergeAt S.mg r c = o := ⟨_, rfl⟩
  obtain ⟨A, hA⟩ : ∃ A, o.getD ⟨0, 0, 0, 0⟩ = A := ⟨_, rfl⟩
  obtain ⟨b, hb⟩ : ∃ b, o.isSome = b := ⟨_, rfl⟩
  have HAR : Hid (areaOf S r c = if b = true then A else ⟨r, c, r, c⟩) := by
    show _ = _
    unfold areaOf
    rw [ho, ← hA, ← hb]
    cases o <;> rfl
  obtain ⟨w2, hw2⟩ : ∃ w2, w2 = (w.alloc (.cells #[.int .i64 (r : Int), .int .i64 (c : Int)] 31)).alloc (.cells #[.int .i64 0, .int .i64 0, .int .i64 0, .int .i64 0] 56) := ⟨_, rfl⟩
  obtain ⟨ab, hab⟩ : ∃ ab, ab = w.heap.size := ⟨_, rfl⟩
  have HK2 : Hid (Kp no w w2) := by show Kp _ _ _; rw [hw2]; exact ((Kp.refl no w).alloc _).alloc _
  have HM : Hid (Calls Try.prog 20 #[.pointer (some ⟨sb, 0, none⟩), .agg #[.int .i64 (r : Int), .int .i64 (c : Int)]] w2 fun e w'' => e = .returned (.tuple #[.agg #[.int .i64 (A.t : Int), .int .i64 (A.l : Int), .int .i64 (A.b : Int), .int .i64 (A.r : Int)], .bool b]) ∧ Kp no w2 w'') :=
    mergeAt_v w2 sb S (h.on HK2.out) hok r c o ho A hA b hb
  obtain ⟨a0, a1, z0, z1, z2, z3, zf⟩ : w2.cell? ⟨ab, 0, none⟩ = some (.int .i64 (r : Int)) ∧ w2.cell? ⟨ab, 1, none⟩ = some (.int .i64 (c : Int)) ∧ w2.cell? ⟨ab + 1, 0, none⟩ = some (.int .i64 0) ∧ w2.cell? ⟨ab + 1, 1, none⟩ = some (.int .i64 0) ∧ w2.cell? ⟨ab + 1, 2, none⟩ = some (.int .i64 0) ∧ w2.cell? ⟨ab + 1, 3, none⟩ = some (.int .i64 0) ∧ (∀ o, w2.frozen? ⟨ab + 1, o, none⟩ = false) := by
    subst hw2 hab
    refine ⟨by simp, by simp, by simp, by simp, by simp, by simp, fun o => by simp⟩
  have HZ : Hid (w2.cell? ⟨ab + 1, 0, none⟩ = some (.int .i64 0) ∧ w2.cell? ⟨ab + 1, 1, none⟩ = some (.int .i64 0) ∧ w2.cell? ⟨ab + 1, 2, none⟩ = some (.int .i64 0) ∧ w2.cell? ⟨ab + 1, 3, none⟩ = some (.int .i64 0) ∧ (∀ o, w2.frozen? ⟨ab + 1, o, none⟩ = false) ∧ w.heap.size ≤ ab + 1) := ⟨z0, z1, z2, z3, zf, by omega⟩
  clear z0 z1 z2 z3 zf ho hA hb h hok
  go_enter Try.func15, Try.ntmps15
  go_upto_region 1 with fail
  rw [← hw2, ← hab]
  clear hw2 hab
  go_wp2_with fail
  refine HM.out.mono ?_
  rintro e w3 ⟨rfl, k3⟩
  obtain ⟨w4, hw4⟩ : ∃ w4, w4 = w3.alloc (.cells #[.int .i64 (A.t : Int), .int .i64 (A.l : Int), .int .i64 (A.b : Int), .int .i64 (A.r : Int)] 56) := ⟨_, rfl⟩
  obtain ⟨vb, hvb⟩ : ∃ vb, vb = w3.heap.size := ⟨_, rfl⟩
  have HK4 : Hid (Kp no w2 w4) := by show Kp _ _ _; rw [hw4]; exact k3.alloc _
  have m0 : w4.cell? ⟨vb, 0, none⟩ = some (.int .i64 (A.t : Int)) := by rw [hw4, hvb]; simp
  have m1 : w4.cell? ⟨vb, 1, none⟩ = some (.int .i64 (A.l : Int)) := by rw [hw4, hvb]; simp
  have m2 : w4.cell? ⟨vb, 2, none⟩ = some (.int .i64 (A.b : Int)) := by rw [hw4, hvb]; simp
  have m3 : w4.cell? ⟨vb, 3, none⟩ = some (.int .i64 (A.r : Int)) := by rw [hw4, hvb]; simp
  have y0 := HK4.out.cell a0 id
  have y1 := HK4.out.cell a1 id
  have lz : ab + 1 < w2.heap.size := cell_lt HZ.out.1
  have f0 : w4.frozen? ⟨ab + 1, 0, none⟩ = false := (HK4.out.frozen (p := ⟨ab + 1, 0, none⟩) lz id).trans (HZ.out.2.2.2.2.1 0)
  have f1 : w4.frozen? ⟨ab + 1, 1, none⟩ = false := (HK4.out.frozen (p := ⟨ab + 1, 1, none⟩) lz id).trans (HZ.out.2.2.2.2.1 1)
  have f2 : w4.frozen? ⟨ab + 1, 2, none⟩ = false := (HK4.out.frozen (p := ⟨ab + 1, 2, none⟩) lz id).trans (HZ.out.2.2.2.2.1 2)
  have f3 : w4.frozen? ⟨ab + 1, 3, none⟩ = false := (HK4.out.frozen (p := ⟨ab + 1, 3, none⟩) lz id).trans (HZ.out.2.2.2.2.1 3)
  have x0 := HK4.out.cell HZ.out.1 id
  have x1 := HK4.out.cell HZ.out.2.1 id
  have x2 := HK4.out.cell HZ.out.2.2.1 id
  have x3 := HK4.out.cell HZ.out.2.2.2.1 id
  have HX : Hid (w4.cell? ⟨ab + 1, 0, none⟩ = some (.int .i64 0) ∧ w4.cell? ⟨ab + 1, 1, none⟩ = some (.int .i64 0) ∧ w4.cell? ⟨ab + 1, 2, none⟩ = some (.int .i64 0) ∧ w4.cell? ⟨ab + 1, 3, none⟩ = some (.int .i64 0)) := ⟨x0, x1, x2, x3⟩
  have HK : Hid (Kp no w w4) := HK2.out.trans HK4.out
  go_upto_region 2 with fail
  rw [← hw4, ← hvb]
  clear hw4 hvb k3 a0 a1 HM
  cases b with
  | true =>
    have HE : Hid (areaOf S r c = A) := by have := HAR.out; rw [if_pos rfl] at this; exact this
    clear HAR y0 y1
    go_wp2_with fail
    clear m0 m1 m2 m3 f0 f1 f2 f3 x0 x1 x2 x3
    change bodyPost _ _ _ _ _ (put4 w4 (ab + 1) (.int .i64 (A.t : Int)) (.int .i64 (A.l : Int)) (.int .i64 (A.b : Int)) (.int .i64 (A.r : Int)))
    obtain ⟨q0, q1, q2, q3⟩ := put4_at HX.out.1 HX.out.2.1 HX.out.2.2.1 HX.out.2.2.2 (.int .i64 (A.t : Int)) (.int .i64 (A.l : Int)) (.int .i64 (A.b : Int)) (.int .i64 (A.r : Int))
    have hK := HK.out.put4 (b := ab + 1) (fun h => absurd h (Nat.not_lt.2 HZ.out.2.2.2.2.2)) (.int .i64 (A.t : Int)) (.int .i64 (A.l : Int)) (.int .i64 (A.b : Int)) (.int .i64 (A.r : Int))
    rw [HE.out]
    exact bodyPost_ret (v := .agg #[.int .i64 (A.t : Int), .int .i64 (A.l : Int), .int .i64 (A.b : Int), .int .i64 (A.r : Int)]) (by simp [results, Try.results15, go_sem, q0, q1, q2, q3]) rfl ⟨rfl, hK⟩
  | false =>
    have HE : Hid (areaOf S r c = ⟨r, c, r, c⟩) := by have := HAR.out; rw [if_neg (by simp)] at this; exact this
    clear HAR m0 m1 m2 m3
    go_wp2_with fail
    clear y0 y1 f0 f1 f2 f3 x0 x1 x2 x3
    change bodyPost _ _ _ _ _ (put4 w4 (ab + 1) (.int .i64 (r : Int)) (.int .i64 (c : Int)) (.int .i64 (r : Int)) (.int .i64 (c : Int)))
    obtain ⟨q0, q1, q2, q3⟩ := put4_at HX.out.1 HX.out.2.1 HX.out.2.2.1 HX.out.2.2.2 (.int .i64 (r : Int)) (.int .i64 (c : Int)) (.int .i64 (r : Int)) (.int .i64 (c : Int))
    have hK := HK.out.put4 (b := ab + 1) (fun h => absurd h (Nat.not_lt.2 HZ.out.2.2.2.2.2)) (.int .i64 (r : Int)) (.int .i64 (c : Int)) (.int .i64 (r : Int)) (.int .i64 (c : Int))
    rw [HE.out]
    exact bodyPost_ret (v := .agg #[.int .i64 (r : Int), .int .i64 (c : Int), .int .i64 (r : Int), .int .i64 (c : Int)]) (by simp [results, Try.results15, go_sem, q0, q1, q2, q3]) rfl ⟨rfl, hK⟩

/-- is one of k lines from t on not hidden? -/
def visK (f : Nat → Bool) (t : Nat) : Nat → Bool
  | 0 => false
  | k + 1 => visK f t k || !f (t + k)
theorem visK_true (f : Nat → Bool) (t : Nat) {j : Nat} (hj : t ≤ j) (h : f j = false) : ∀ k, j < t + k → visK f t k = true
  | 0, hk => by omega
  | k + 1, hk => by
    simp only [visK]
    rcases Nat.lt_or_ge j (t + k) with h' | h'
    · rw [visK_true f t hj h k h']; rfl
    · have : j = t + k := by omega
      subst this
      rw [h]; simp
set_option maxRecDepth 100000 in
set_option maxHeartbeats 2000000 in
theorem visible_at (w : World) (sb : Nat) (S : Sh) (h : SheetAt w sb S) (a : Ar) (ha : a.Ok) (p q : Nat) (hp : a.t ≤ p ∧ p ≤ a.b) (hq : a.l ≤ q ∧ q ≤ a.r) (hhp : S.hr p = false) (hhq : S.hc q = false) :
    Calls Try.prog 17 #[.pointer (some ⟨sb, 0, none⟩), .agg #[.int .i64 (a.t : Int), .int .i64 (a.l : Int), .int .i64 (a.b : Int), .int .i64 (a.r : Int)]] w fun e w' => e = .returned (.bool true) ∧ Kp no w w' := by
  obtain ⟨w2, hw2⟩ : ∃ w2, w2 = w.alloc (.cells #[.int .i64 (a.t : Int), .int .i64 (a.l : Int), .int .i64 (a.b : Int), .int .i64 (a.r : Int)] 56) := ⟨_, rfl⟩
  obtain ⟨ab, hab⟩ : ∃ ab, ab = w.heap.size := ⟨_, rfl⟩
  have HK2 : Hid (Kp no w w2) := by show Kp _ _ _; rw [hw2]; exact (Kp.refl no w).alloc _
  have c0 : w2.cell? ⟨ab, 0, none⟩ = some (.int .i64 (a.t : Int)) := by rw [hw2, hab]; simp
  have c1 : w2.cell? ⟨ab, 1, none⟩ = some (.int .i64 (a.l : Int)) := by rw [hw2, hab]; simp
  have c2 : w2.cell? ⟨ab, 2, none⟩ = some (.int .i64 (a.b : Int)) := by rw [hw2, hab]; simp
  have c3 : w2.cell? ⟨ab, 3, none⟩ = some (.int .i64 (a.r : Int)) := by rw [hw2, hab]; simp
  have HHR : Hid (∀ r, r < 64 → w2.cell? ⟨sb, 90 + r, none⟩ = some (.bool (S.hr r))) := fun r hr => HK2.out.cell (h.hr r hr) id
  have HHC : Hid (∀ r, r < 26 → w2.cell? ⟨sb, 154 + r, none⟩ = some (.bool (S.hc r))) := fun r hr => HK2.out.cell (h.hc r hr) id
  have HVR : Hid (visK S.hr a.t (a.b + 1 - a.t) = true) := visK_true _ _ hp.1 hhp _ (by omega)
  have HVC : Hid (visK S.hc a.l (a.r + 1 - a.l) = true) := visK_true _ _ hq.1 hhq _ (by omega)
  have HA : Hid a.Ok := ha
  obtain ⟨t, l, b, r⟩ := a
  simp only at c0 c1 c2 c3 HVR HVC
  have k1 : t ≤ b := HA.out.tb
  have k2 : l ≤ r := HA.out.lr
  have k3 : b < 64 := HA.out.b
  have k4 : r < 26 := HA.out.r
  clear hp hq hhp hhq ha h HA
  go_enter Try.func17, Try.ntmps17
  go_upto_region 1 with fail
  rw [← hw2, ← hab]
  clear hw2 hab
  go_wp2_with fail
  go_loopw [5, 7] (fun bv rv wq => ∃ k : Nat, k ≤ b + 1 - t ∧ bv = .bool (visK S.hr t k) ∧ rv = .int .i64 ((t + k : Nat) : Int) ∧ wq = w2) (fun _ rv _ => 64 - (intOf rv).toNat)
  case atStart => exact ⟨0, by omega, rfl, rfl, rfl⟩
  case round =>
    obtain ⟨k, hk, rfl, rfl, hwr⟩ := hrel
    obtain rfl := hwr.symm
    by_cases hlt : t + k ≤ b
    · have i0 : ((t + k : Nat) : Int) ≤ (b : Int) := by omega
      have i1 : ((t + k : Nat) : Int) < 64 := by omega
      have HS : Hid (visK S.hr t (k + 1) = (visK S.hr t k || !S.hr (t + k))) := rfl
      have d0 := HHR.out (t + k) (by omega)
      generalize visK S.hr t k = v at HS ⊢
      generalize S.hr (t + k) = hv at HS d0
      obtain ⟨rr, hrr⟩ : ∃ rr, rr = t + k := ⟨_, rfl⟩
      rw [← hrr] at i0 i1 d0 ⊢
      have HRR : Hid (rr = t + k) := hrr
      clear hrr
      cases v with
      | true =>
        go_wp2_with fail
        refine ⟨⟨k + 1, by have := HRR.out; omega, by rw [HS.out]; rfl, by have := HRR.out; go_num, trivial⟩, by simp [intOf]; omega⟩
      | false =>
        go_wp2_with fail
        refine ⟨⟨k + 1, by have := HRR.out; omega, by rw [HS.out]; rfl, by have := HRR.out; go_num, trivial⟩, by simp [intOf]; omega⟩
    · have hk' : k = b + 1 - t := by omega
      have i0 : ¬ ((t + k : Nat) : Int) ≤ (b : Int) := by omega
      have HT : Hid (visK S.hr t k = true) := by have := HVR.out; rw [← hk'] at this; exact this
      rw [HT.out]
      generalize t + k = rr at i0
      clear hlt hk hk' HVR HHR
      go_wp2_with fail
      go_loopw [6, 8] (fun bv rv wq => ∃ k : Nat, k ≤ r + 1 - l ∧ bv = .bool (visK S.hc l k) ∧ rv = .int .i64 ((l + k : Nat) : Int) ∧ wq = w2) (fun _ rv _ => 26 - (intOf rv).toNat)
      case atStart => exact ⟨0, by omega, rfl, rfl, rfl⟩
      case round =>
        obtain ⟨k, hk, rfl, rfl, hwr⟩ := hrel
        obtain rfl := hwr.symm
        by_cases hlt : l + k ≤ r
        · have i0 : ((l + k : Nat) : Int) ≤ (r : Int) := by omega
          have i1 : ((l + k : Nat) : Int) < 26 := by omega
          have HS : Hid (visK S.hc l (k + 1) = (visK S.hc l k || !S.hc (l + k))) := rfl
          have d0 := HHC.out (l + k) (by omega)
          generalize visK S.hc l k = v at HS ⊢
          generalize S.hc (l + k) = hv at HS d0
          obtain ⟨rr, hrr⟩ : ∃ rr, rr = l + k := ⟨_, rfl⟩
          rw [← hrr] at i0 i1 d0 ⊢
          have HRR : Hid (rr = l + k) := hrr
          clear hrr
          cases v with
          | true =>
            go_wp2_with fail
            refine ⟨⟨k + 1, by have := HRR.out; omega, by rw [HS.out]; rfl, by have := HRR.out; go_num, trivial⟩, by simp [intOf]; omega⟩
          | false =>
            go_wp2_with fail
            refine ⟨⟨k + 1, by have := HRR.out; omega, by rw [HS.out]; rfl, by have := HRR.out; go_num, trivial⟩, by simp [intOf]; omega⟩
        · have hk' : k = r + 1 - l := by omega
          have i0 : ¬ ((l + k : Nat) : Int) ≤ (r : Int) := by omega
          have HT : Hid (visK S.hc l k = true) := by have := HVC.out; rw [← hk'] at this; exact this
          rw [HT.out]
          generalize l + k = rr at i0
          clear hlt hk hk' HVC HHC
          go_wp2_with fail
          go_ret
          exact ⟨rfl, HK2.out⟩
end Go.Proofs.Qxb6500653a
