/-
  Within (39), MergeAt (20).
-/
import Derived.Test.Qxb6500653aSheet
namespace Go.Proofs.Qxb6500653a
open Go.RowKit

set_option maxHeartbeats 1000000 in
theorem within_at (w : World) (a : Ar) (r c : Nat) : Calls Try.prog 39 #[a.v, addrV r c] w fun e w' => e = .returned (.bool (a.has r c)) ∧ Kp no w w' := by
  unfold Ar.v addrV
  by_cases h1 : a.t ≤ r
  · have d1 : decide (a.t ≤ r) = true := by simp [h1]
    by_cases h2 : r ≤ a.b
    · have d2 : decide (r ≤ a.b) = true := by simp [h2]
      by_cases h3 : a.l ≤ c
      · have d3 : decide (a.l ≤ c) = true := by simp [h3]
        have HE : Hid (a.has r c = decide (c ≤ a.r)) := by show _ = _; simp [Ar.has, h1, h2, h3]
        go_enter Try.func39, Try.ntmps39
        go_wp2
        go_ret
        exact ⟨by rw [HE.out]; rfl, ((Kp.refl _ _).alloc _).alloc _⟩
      · have d3 : decide (a.l ≤ c) = false := by simp; omega
        have HE : Hid (a.has r c = false) := by show _ = _; simp [Ar.has, h3]
        go_enter Try.func39, Try.ntmps39
        go_wp2
        go_ret
        exact ⟨by rw [HE.out]; rfl, ((Kp.refl _ _).alloc _).alloc _⟩
    · have d2 : decide (r ≤ a.b) = false := by simp; omega
      have HE : Hid (a.has r c = false) := by show _ = _; simp [Ar.has, h2]
      go_enter Try.func39, Try.ntmps39
      go_wp2
      go_ret
      exact ⟨by rw [HE.out]; rfl, ((Kp.refl _ _).alloc _).alloc _⟩
  · have d1 : decide (a.t ≤ r) = false := by simp; omega
    have HE : Hid (a.has r c = false) := by show _ = _; simp [Ar.has, h1]
    go_enter Try.func39, Try.ntmps39
    go_wp2
    go_ret
    exact ⟨by rw [HE.out]; rfl, ((Kp.refl _ _).alloc _).alloc _⟩

theorem flatA_get : ∀ (M : List Ar) (k : Nat) (a : Ar), M[k]? = some a → (flatA M)[k * 4]? = some (.int .i64 (a.t : Int)) ∧ (flatA M)[k * 4 + 1]? = some (.int .i64 (a.l : Int)) ∧ (flatA M)[k * 4 + 2]? = some (.int .i64 (a.b : Int)) ∧ (flatA M)[k * 4 + 3]? = some (.int .i64 (a.r : Int))
  | [], k, a, h => by simp at h
  | x :: m, 0, a, h => by
    simp at h; subst h
    exact ⟨rfl, rfl, rfl, rfl⟩
  | x :: m, k + 1, a, h => by
    have ih := flatA_get m k a (by simpa using h)
    have e : ∀ i, (flatA (x :: m))[(k + 1) * 4 + i]? = (flatA m)[k * 4 + i]? := fun i => by
      rw [show (k + 1) * 4 + i = 4 + (k * 4 + i) by omega]
      show ([_, _, _, _] ++ flatA m)[4 + (k * 4 + i)]? = _
      rw [List.getElem?_append_right (by simp)]
      simp
    exact ⟨(e 0).trans ih.1, (e 1).trans ih.2.1, (e 2).trans ih.2.2.1, (e 3).trans ih.2.2.2⟩
theorem flatA_len : ∀ M : List Ar, (flatA M).length = M.length * 4
  | [] => rfl
  | x :: m => by show ([_, _, _, _] ++ flatA m).length = _; rw [List.length_append, flatA_len m]; simp; omega

/-- the merge that holds a cell -/
def mergeAt (M : List Ar) (r c : Nat) : Option Ar := M.find? (fun a => a.has r c)
def mgV (o : Option Ar) : Value := (o.getD ⟨0, 0, 0, 0⟩).v
theorem mergeAt_none {M : List Ar} {r c : Nat} (h : ∀ (j : Nat) (a : Ar), M[j]? = some a → a.has r c = false) : mergeAt M r c = none := by
  rw [mergeAt, List.find?_eq_none]
  intro a ha
  obtain ⟨j, hj⟩ := List.mem_iff_getElem?.1 ha
  simp [h j a hj]
theorem mergeAt_some {M : List Ar} {r c k : Nat} {a : Ar} (hk : M[k]? = some a) (ha : a.has r c = true) (h : ∀ (j : Nat) (x : Ar), j < k → M[j]? = some x → x.has r c = false) : mergeAt M r c = some a := by
  rw [mergeAt, List.find?_eq_some_iff_getElem]
  obtain ⟨hlt, rfl⟩ := List.getElem?_eq_some_iff.1 hk
  refine ⟨ha, k, hlt, rfl, fun j hj => ?_⟩
  rw [h j _ hj (List.getElem?_eq_getElem _)]; rfl

def MAPost (o : Option Ar) (w : World) (e : Ending) (w' : World) : Prop := e = .returned (.tuple #[mgV o, .bool o.isSome]) ∧ Kp no w w'

set_option maxHeartbeats 1000000 in
theorem mergeAt_nil (w : World) (sb : Nat) (a : Option Addr) (cap : Nat) (hm : w.cell? ⟨sb, 180, none⟩ = some (.slice a 0 cap)) (r c : Nat) :
    Calls Try.prog 20 #[shP sb, addrV r c] w (MAPost none w) := by
  have hlt : sb < w.heap.size := cell_lt hm
  have hlt2 : sb < w.heap.size + 1 := by omega
  unfold shP addrV
  go_enter Try.func20, Try.ntmps20
  go_wp2
  refine wp_loop_rounds 1 ?_
  rw [rounds_succ]
  go_wp2
  refine bodyPost_ret (v := .tuple #[mgV none, .bool false]) (by simp [results, Try.results20, go_sem]; rfl) rfl ⟨rfl, ?_⟩
  exact ((Kp.refl _ _).alloc _).alloc _

set_option maxHeartbeats 1000000 in
theorem mergeAt_cons (w : World) (sb g cap : Nat) (M : List Ar) (h0 : 0 < M.length) (h32 : M.length ≤ 32) (hm : w.cell? ⟨sb, 180, none⟩ = some (.slice (some ⟨g, 0, none⟩) M.length cap))
    (hc : ∀ (k : Nat) (a : Ar), M[k]? = some a → w.cell? ⟨g, k * 4, none⟩ = some (.int .i64 (a.t : Int)) ∧ w.cell? ⟨g, k * 4 + 1, none⟩ = some (.int .i64 (a.l : Int)) ∧ w.cell? ⟨g, k * 4 + 2, none⟩ = some (.int .i64 (a.b : Int)) ∧ w.cell? ⟨g, k * 4 + 3, none⟩ = some (.int .i64 (a.r : Int))) (r c : Nat) :
    Calls Try.prog 20 #[shP sb, addrV r c] w (MAPost (mergeAt M r c) w) := by
  have hlt : sb < w.heap.size := cell_lt hm
  have hlt2 : sb < w.heap.size + 1 := by omega
  have HC : Hid (∀ (k : Nat) (a : Ar), M[k]? = some a → w.cell? ⟨g, k * 4, none⟩ = some (.int .i64 (a.t : Int)) ∧ w.cell? ⟨g, k * 4 + 1, none⟩ = some (.int .i64 (a.l : Int)) ∧ w.cell? ⟨g, k * 4 + 2, none⟩ = some (.int .i64 (a.b : Int)) ∧ w.cell? ⟨g, k * 4 + 3, none⟩ = some (.int .i64 (a.r : Int))) := hc
  clear hc
  unfold shP addrV
  obtain ⟨w2, hw2⟩ : ∃ w2, w2 = (w.alloc (.cells #[.int .i64 (r : Int), .int .i64 (c : Int)] 31)).alloc (.cells #[.int .i64 0, .int .i64 0, .int .i64 0, .int .i64 0] 56) := ⟨_, rfl⟩
  have HK2 : Hid (Kp no w w2) := by show Kp no w w2; rw [hw2]; exact ((Kp.refl _ _).alloc _).alloc _
  obtain ⟨b3, hb3⟩ : ∃ b3, b3 = w.heap.size := ⟨_, rfl⟩
  have HA : Hid (w2.cell? ⟨b3, 0, none⟩ = some (.int .i64 (r : Int)) ∧ w2.cell? ⟨b3, 1, none⟩ = some (.int .i64 (c : Int)) ∧ w2.cell? ⟨b3 + 1, 0, none⟩ = some (.int .i64 0) ∧ w2.cell? ⟨b3 + 1, 1, none⟩ = some (.int .i64 0) ∧ w2.cell? ⟨b3 + 1, 2, none⟩ = some (.int .i64 0) ∧ w2.cell? ⟨b3 + 1, 3, none⟩ = some (.int .i64 0) ∧ (∀ o, w2.frozen? ⟨b3 + 1, o, none⟩ = false)) := by
    show _ ∧ _
    subst hw2 hb3
    refine ⟨by simp, by simp, by simp, by simp, by simp, by simp, fun o => by simp⟩
  have HNB : Hid (¬ b3 + 1 < w.heap.size) := by show ¬ _; omega
  go_enter Try.func20, Try.ntmps20
  go_wp2
  rw [← hb3, ← hw2]
  clear hw2 hb3
  go_loopw [13] (fun kv wr => ∃ k : Nat, k ≤ M.length ∧ kv = .int .i64 (k : Int) ∧ Hid (∀ (j : Nat) (x : Ar), j < k → M[j]? = some x → x.has r c = false) ∧ Kp no w2 wr) (fun kv _ => M.length - (intOf kv).toNat)
  case atStart => exact ⟨0, Nat.zero_le _, rfl, fun j x hj => by omega, Kp.refl _ _⟩
  case round =>
    obtain ⟨k, hk, rfl, HP, hkp⟩ := hrel
    obtain ⟨a1, a2, z1, z2, z3, z4, zf⟩ := HA.out
    have f1 := hkp.cell a1 id
    have f2 := hkp.cell a2 id
    have y1 := hkp.cell z1 id
    have y2 := hkp.cell z2 id
    have y3 := hkp.cell z3 id
    have y4 := hkp.cell z4 id
    have lz : b3 + 1 < w2.heap.size := cell_lt z1
    have lt4 : b3 + 1 < wr.heap.size := cell_lt y1
    have lt3 : b3 < wr.heap.size := cell_lt f1
    have y0 : wr.frozen? ⟨b3 + 1, 0, none⟩ = false := (hkp.frozen (p := ⟨b3 + 1, 0, none⟩) lz id).trans (zf 0)
    have y01 : wr.frozen? ⟨b3 + 1, 1, none⟩ = false := (hkp.frozen (p := ⟨b3 + 1, 1, none⟩) lz id).trans (zf 1)
    have y02 : wr.frozen? ⟨b3 + 1, 2, none⟩ = false := (hkp.frozen (p := ⟨b3 + 1, 2, none⟩) lz id).trans (zf 2)
    have y03 : wr.frozen? ⟨b3 + 1, 3, none⟩ = false := (hkp.frozen (p := ⟨b3 + 1, 3, none⟩) lz id).trans (zf 3)
    clear a1 a2 z1 z2 z3 z4 zf lz
    by_cases hlt : k < M.length
    · obtain ⟨a, ha⟩ : ∃ a, M[k]? = some a := ⟨_, List.getElem?_eq_getElem hlt⟩
      obtain ⟨c0, c1, c2, c3⟩ := HC.out k a ha
      have g0 := hkp.cell (HK2.out.cell c0 id) id
      have g1 := hkp.cell (HK2.out.cell c1 id) id
      have g2 := hkp.cell (HK2.out.cell c2 id) id
      have g3 := hkp.cell (HK2.out.cell c3 id) id
      have HM : Hid (M[k]? = some a) := ha
      clear ha c0 c1 c2 c3
      go_wp2_with fail
      refine (within_at _ a r c).mono ?_
      rintro e w5 ⟨rfl, kp5⟩
      have kpw : Kp no wr w5 := ((Kp.refl _ _).alloc _).trans kp5
      have n0 := kp5.cell (p := ⟨wr.heap.size, 0, none⟩) (v := .int .i64 (a.t : Int)) (by simp) id
      have n1 := kp5.cell (p := ⟨wr.heap.size, 1, none⟩) (v := .int .i64 (a.l : Int)) (by simp) id
      have n2 := kp5.cell (p := ⟨wr.heap.size, 2, none⟩) (v := .int .i64 (a.b : Int)) (by simp) id
      have n3 := kp5.cell (p := ⟨wr.heap.size, 3, none⟩) (v := .int .i64 (a.r : Int)) (by simp) id
      have x1 := kpw.cell y1 id
      have x2 := kpw.cell y2 id
      have x3 := kpw.cell y3 id
      have x4 := kpw.cell y4 id
      have x0 := (kpw.frozen (p := ⟨b3 + 1, 0, none⟩) lt4 id).trans y0
      have x01 := (kpw.frozen (p := ⟨b3 + 1, 1, none⟩) lt4 id).trans y01
      have x02 := (kpw.frozen (p := ⟨b3 + 1, 2, none⟩) lt4 id).trans y02
      have x03 := (kpw.frozen (p := ⟨b3 + 1, 3, none⟩) lt4 id).trans y03
      have ne : wr.heap.size ≠ b3 + 1 := by omega
      clear kp5 f1 f2 y1 y2 y3 y4 y0 y01 y02 y03 g0 g1 g2 g3
      generalize wr.heap.size = b7 at *
      cases hb : a.has r c with
      | true =>
        have HR : Hid (mergeAt M r c = some a) := mergeAt_some HM.out hb (fun j x hj hx => HP.out j x hj hx)
        clear hb
        go_wp2_with fail
        obtain ⟨q0, q1, q2, q3⟩ := put4_at x1 x2 x3 x4 (.int .i64 (a.t : Int)) (.int .i64 (a.l : Int)) (.int .i64 (a.b : Int)) (.int .i64 (a.r : Int))
        have hK := ((HK2.out.trans hkp).trans kpw).put4 (b := b3 + 1) (fun h => absurd h HNB.out) (.int .i64 (a.t : Int)) (.int .i64 (a.l : Int)) (.int .i64 (a.b : Int)) (.int .i64 (a.r : Int))
        change bodyPost Try.prog Try.f20 (MAPost (mergeAt M r c) w) Exit.ret _ (put4 w5 (b3 + 1) (.int .i64 (a.t : Int)) (.int .i64 (a.l : Int)) (.int .i64 (a.b : Int)) (.int .i64 (a.r : Int)))
        generalize put4 w5 (b3 + 1) (.int .i64 (a.t : Int)) (.int .i64 (a.l : Int)) (.int .i64 (a.b : Int)) (.int .i64 (a.r : Int)) = w9 at *
        exact bodyPost_ret (v := .tuple #[a.v, .bool true]) (by simp [results, Try.results20, go_sem, q0, q1, q2, q3]; rfl) rfl ⟨by rw [HR.out]; rfl, hK⟩
      | false =>
        have HP2 : Hid (∀ (j : Nat) (x : Ar), j < k + 1 → M[j]? = some x → x.has r c = false) := fun j x hj hx => by
          rcases Nat.lt_or_ge j k with h' | h'
          · exact HP.out j x h' hx
          · have : j = k := by omega
            subst this
            rw [HM.out] at hx
            injection hx with hx
            rw [← hx]; exact hb
        clear hb
        go_wp2_with fail
        go_roundw
        case rel => exact ⟨k + 1, by omega, by go_num, HP2, hkp.trans kpw⟩
        case measure => simp [intOf]; omega
    · have HR : Hid (mergeAt M r c = none) := mergeAt_none (fun j x hx => HP.out j x (by have := (List.getElem?_eq_some_iff.1 hx).1; omega) hx)
      have hk : k = M.length := by omega
      go_wp2_with fail
      obtain ⟨q0, q1, q2, q3⟩ := put4_at y1 y2 y3 y4 (.int .i64 0) (.int .i64 0) (.int .i64 0) (.int .i64 0)
      have hK := (HK2.out.trans hkp).put4 (b := b3 + 1) (fun h => absurd h HNB.out) (.int .i64 0) (.int .i64 0) (.int .i64 0) (.int .i64 0)
      change bodyPost Try.prog Try.f20 (MAPost (mergeAt M r c) w) Exit.ret _ (put4 wr (b3 + 1) (.int .i64 0) (.int .i64 0) (.int .i64 0) (.int .i64 0))
      generalize put4 wr (b3 + 1) (.int .i64 0) (.int .i64 0) (.int .i64 0) (.int .i64 0) = w9 at *
      exact bodyPost_ret (v := .tuple #[mgV none, .bool false]) (by simp [results, Try.results20, go_sem, q0, q1, q2, q3]; rfl) rfl ⟨by rw [HR.out]; rfl, hK⟩

/-- MergeAt, at every sheet -/
theorem mergeAt_any (w : World) (sb : Nat) (S : Sh) (h : SheetAt w sb S) (hok : S.Ok) (r c : Nat) : Calls Try.prog 20 #[shP sb, addrV r c] w (MAPost (mergeAt S.mg r c) w) := by
  have hm := h.mg
  rcases h.mrow.2 with ⟨e, hn⟩ | ⟨g, cap, cur, e, _⟩
  · rw [e] at hm
    rw [List.length_eq_zero_iff.1 hn]
    exact mergeAt_nil w sb none 0 hm r c
  · rw [e] at hm
    rcases Nat.eq_zero_or_pos S.mg.length with h0 | h0
    · rw [h0] at hm
      rw [List.length_eq_zero_iff.1 h0]
      exact mergeAt_nil w sb _ cap hm r c
    · refine mergeAt_cons w sb g cap S.mg h0 hok.few hm (fun k a ha => ?_) r c
      have hk := (List.getElem?_eq_some_iff.1 ha).1
      obtain ⟨f0, f1, f2, f3⟩ := flatA_get S.mg k a ha
      have hr := h.mrow
      rw [e] at hr
      exact ⟨(hr.cellAt _ (by omega)).trans f0, (hr.cellAt _ (by omega)).trans f1, (hr.cellAt _ (by omega)).trans f2, (hr.cellAt _ (by omega)).trans f3⟩
end Go.Proofs.Qxb6500653a
