/-
  THE LAYOUT IN MEMORY; inSheet (35), InSheet (27), View (12), owner (36).
-/
import Derived.Test.Qxb6500653aDisplay
import Derived.Deep.DeepCutAuto
namespace Go.Proofs.Qxb6500653a
open Go.RowKit

/-- does the address lie in the sheet? -/
def inS (r c : Int) : Bool := decide (0 ≤ r) && decide (r < 64) && decide (0 ≤ c) && decide (c < 26)

set_option maxHeartbeats 1000000 in
theorem inSheet_at (w : World) (r c : Int) : Calls Try.prog 35 #[.agg #[.int .i64 r, .int .i64 c]] w fun e w' => e = .returned (.bool (inS r c)) ∧ Kp no w w' := by
  by_cases h1 : 0 ≤ r
  · have d1 : decide (0 ≤ r) = true := by simp [h1]
    by_cases h2 : r < 64
    · have d2 : decide (r < 64) = true := by simp [h2]
      by_cases h3 : 0 ≤ c
      · have d3 : decide (0 ≤ c) = true := by simp [h3]
        have HE : Hid (inS r c = decide (c < 26)) := by show _ = _; simp [inS, h1, h2, h3]
        go_enter Try.func35, Try.ntmps35
        go_wp2
        go_ret
        exact ⟨by rw [HE.out]; rfl, (Kp.refl _ _).alloc _⟩
      · have d3 : decide (0 ≤ c) = false := by simp; omega
        have HE : Hid (inS r c = false) := by show _ = _; simp [inS, h3]
        go_enter Try.func35, Try.ntmps35
        go_wp2
        go_ret
        exact ⟨by rw [HE.out]; rfl, (Kp.refl _ _).alloc _⟩
    · have d2 : decide (r < 64) = false := by simp; omega
      have HE : Hid (inS r c = false) := by show _ = _; simp [inS, h2]
      go_enter Try.func35, Try.ntmps35
      go_wp2
      go_ret
      exact ⟨by rw [HE.out]; rfl, (Kp.refl _ _).alloc _⟩
  · have d1 : decide (0 ≤ r) = false := by simp; omega
    have HE : Hid (inS r c = false) := by show _ = _; simp [inS, h1]
    go_enter Try.func35, Try.ntmps35
    go_wp2
    go_ret
    exact ⟨by rw [HE.out]; rfl, (Kp.refl _ _).alloc _⟩

set_option maxHeartbeats 1000000 in
theorem inSheetM_at (w : World) (r c : Int) : Calls Try.prog 27 #[.agg #[.int .i64 r, .int .i64 c]] w fun e w' => e = .returned (.bool (inS r c)) ∧ Kp no w w' := by
  by_cases h1 : 0 ≤ r
  · have d1 : decide (0 ≤ r) = true := by simp [h1]
    by_cases h2 : r < 64
    · have d2 : decide (r < 64) = true := by simp [h2]
      by_cases h3 : 0 ≤ c
      · have d3 : decide (0 ≤ c) = true := by simp [h3]
        have HE : Hid (inS r c = decide (c < 26)) := by show _ = _; simp [inS, h1, h2, h3]
        go_enter Try.func27, Try.ntmps27
        go_wp2
        go_ret
        exact ⟨by rw [HE.out]; rfl, (Kp.refl _ _).alloc _⟩
      · have d3 : decide (0 ≤ c) = false := by simp; omega
        have HE : Hid (inS r c = false) := by show _ = _; simp [inS, h3]
        go_enter Try.func27, Try.ntmps27
        go_wp2
        go_ret
        exact ⟨by rw [HE.out]; rfl, (Kp.refl _ _).alloc _⟩
    · have d2 : decide (r < 64) = false := by simp; omega
      have HE : Hid (inS r c = false) := by show _ = _; simp [inS, h2]
      go_enter Try.func27, Try.ntmps27
      go_wp2
      go_ret
      exact ⟨by rw [HE.out]; rfl, (Kp.refl _ _).alloc _⟩
  · have d1 : decide (0 ≤ r) = false := by simp; omega
    have HE : Hid (inS r c = false) := by show _ = _; simp [inS, h1]
    go_enter Try.func27, Try.ntmps27
    go_wp2
    go_ret
    exact ⟨by rw [HE.out]; rfl, (Kp.refl _ _).alloc _⟩

def srcV (sb : Nat) : Value := .iface 38 (.pointer (some ⟨sb, 0, none⟩))
/-- the cell that owns the place of a cell -/
def ownR (M : List Ar) (r c : Nat) : Nat := match mergeAt M r c with | some a => a.t | none => r
def ownC (M : List Ar) (r c : Nat) : Nat := match mergeAt M r c with | some a => a.l | none => c


/-- a new block of four, behind a call -/
theorem alloc4d {w w' : World} {x0 x1 x2 x3 : Value} {t : TypeId} (k : Kp no (w.alloc (.cells #[x0, x1, x2, x3] t)).drew w') :
    w'.cell? ⟨w.heap.size, 0, none⟩ = some x0 ∧ w'.cell? ⟨w.heap.size, 1, none⟩ = some x1 ∧ w'.cell? ⟨w.heap.size, 2, none⟩ = some x2 ∧ w'.cell? ⟨w.heap.size, 3, none⟩ = some x3 ∧
      w'.frozen? ⟨w.heap.size, 0, none⟩ = false ∧ w'.frozen? ⟨w.heap.size, 1, none⟩ = false ∧ w'.frozen? ⟨w.heap.size, 2, none⟩ = false ∧ w'.frozen? ⟨w.heap.size, 3, none⟩ = false := by
  have hl : w.heap.size < (w.alloc (.cells #[x0, x1, x2, x3] t)).drew.heap.size := by simp
  have hf : ∀ o, w'.frozen? ⟨w.heap.size, o, none⟩ = false := fun o => by rw [k.frozen (p := ⟨w.heap.size, o, none⟩) hl id]; show (w.alloc _).frozen? _ = _; simp
  refine ⟨k.cell (by show (w.alloc _).cell? _ = _; simp) id, k.cell (by show (w.alloc _).cell? _ = _; simp) id, k.cell (by show (w.alloc _).cell? _ = _; simp) id, k.cell (by show (w.alloc _).cell? _ = _; simp) id, hf _, hf _, hf _, hf _⟩

/-- an area in a variable of its own -/
structure VarAr (w : World) (A : Ar) (b : Nat) (w' : World) : Prop where
  kp : Kp no w w'
  c0 : w'.cell? ⟨b, 0, none⟩ = some (.int .i64 (A.t : Int))
  c1 : w'.cell? ⟨b, 1, none⟩ = some (.int .i64 (A.l : Int))
  c2 : w'.cell? ⟨b, 2, none⟩ = some (.int .i64 (A.b : Int))
  c3 : w'.cell? ⟨b, 3, none⟩ = some (.int .i64 (A.r : Int))
  free : ∀ o, w'.frozen? ⟨b, o, none⟩ = false
  new : w.heap.size ≤ b
theorem Kp.drew_left {X : Nat → Prop} {a b : World} (h : Kp X a.drew b) : Kp X a b := ⟨h.os, h.tape, h.output, h.size, h.block⟩
theorem VarAr.after {w w5 : World} (A : Ar) {t : TypeId} (k : Kp no w.drew w5) : VarAr w A w5.heap.size (w5.alloc (.cells #[.int .i64 (A.t : Int), .int .i64 (A.l : Int), .int .i64 (A.b : Int), .int .i64 (A.r : Int)] t)) :=
  ⟨k.drew_left.alloc _, by simp, by simp, by simp, by simp, fun o => by simp, k.size⟩
theorem VarAr.before {w w5 : World} (A : Ar) {x0 x1 x2 x3 : Value} {t : TypeId} (k : Kp no (w.alloc (.cells #[x0, x1, x2, x3] t)).drew w5) : VarAr w A w.heap.size (put4 w5 w.heap.size (.int .i64 (A.t : Int)) (.int .i64 (A.l : Int)) (.int .i64 (A.b : Int)) (.int .i64 (A.r : Int))) := by
  obtain ⟨m0, m1, m2, m3, _⟩ := alloc4d k
  obtain ⟨q0, q1, q2, q3⟩ := put4_at m0 m1 m2 m3 (.int .i64 (A.t : Int)) (.int .i64 (A.l : Int)) (.int .i64 (A.b : Int)) (.int .i64 (A.r : Int))
  have k0 : Kp no w w5 := ((Kp.refl _ _).alloc _).trans k.drew_left
  refine ⟨k0.put4 (fun h => absurd h (Nat.lt_irrefl _)) _ _ _ _, q0, q1, q2, q3, fun o => ?_, Nat.le_refl _⟩
  have hl : w.heap.size < (w.alloc (.cells #[x0, x1, x2, x3] t)).drew.heap.size := by simp
  unfold put4
  rw [World.frozen?_setCell, World.frozen?_setCell, World.frozen?_setCell, World.frozen?_setCell, k.frozen (p := ⟨w.heap.size, o, none⟩) hl id]
  show (w.alloc _).frozen? _ = _
  simp

/-- MergeAt's answer, its area written out -/
theorem mergeAt_v (w : World) (sb : Nat) (S : Sh) (h : SheetAt w sb S) (hok : S.Ok) (r c : Nat) (o : Option Ar) (ho : mergeAt S.mg r c = o) (A : Ar) (hA : o.getD ⟨0, 0, 0, 0⟩ = A) (b : Bool) (hb : o.isSome = b) :
    Calls Try.prog 20 #[.pointer (some ⟨sb, 0, none⟩), .agg #[.int .i64 (r : Int), .int .i64 (c : Int)]] w fun e w' => e = .returned (.tuple #[.agg #[.int .i64 (A.t : Int), .int .i64 (A.l : Int), .int .i64 (A.b : Int), .int .i64 (A.r : Int)], .bool b]) ∧ Kp no w w' := by
  subst hA hb ho
  exact mergeAt_any w sb S h hok r c

set_option maxRecDepth 100000 in
set_option maxHeartbeats 1000000 in
theorem owner_gen (w : World) (lb sb : Nat) (S : Sh) (h : SheetAt w sb S) (hok : S.Ok) (hl : w.cell? ⟨lb, 0, none⟩ = some (srcV sb)) (r c : Nat) (o : Option Ar) (ho : mergeAt S.mg r c = o) (A : Ar) (hA : o.getD ⟨0, 0, 0, 0⟩ = A) (b : Bool) (hb : o.isSome = b)
    (r' c' : Nat) (hr' : r' = if b then A.t else r) (hc' : c' = if b then A.l else c) :
    Calls Try.prog 36 #[.pointer (some ⟨lb, 0, none⟩), .agg #[.int .i64 (r : Int), .int .i64 (c : Int)]] w fun e w' => e = .returned (addrV r' c') ∧ Kp no w w' := by
  have hm : ∀ w : World, (method 271 38 (.pointer (some ⟨sb, 0, none⟩)) "MergeAt").run Try.prog w = .ok (20, .pointer (some ⟨sb, 0, none⟩)) w := fun _ => by kernel_rfl
  obtain ⟨w2, hw2⟩ : ∃ w2, w2 = (w.alloc (.cells #[.int .i64 (r : Int), .int .i64 (c : Int)] 31)).alloc (.cells #[.int .i64 0, .int .i64 0] 31) := ⟨_, rfl⟩
  have HK2 : Kp no w w2 := by rw [hw2]; exact ((Kp.refl _ _).alloc _).alloc _
  obtain ⟨b3, hb3⟩ : ∃ b3, b3 = w.heap.size := ⟨_, rfl⟩
  have hl2 := HK2.cell hl id
  obtain ⟨a1, a2, z1, z2, zf⟩ : w2.cell? ⟨b3, 0, none⟩ = some (.int .i64 (r : Int)) ∧ w2.cell? ⟨b3, 1, none⟩ = some (.int .i64 (c : Int)) ∧ w2.cell? ⟨b3 + 1, 0, none⟩ = some (.int .i64 0) ∧ w2.cell? ⟨b3 + 1, 1, none⟩ = some (.int .i64 0) ∧ (∀ o, w2.frozen? ⟨b3 + 1, o, none⟩ = false) := by
    subst hw2 hb3
    refine ⟨by simp, by simp, by simp, by simp, fun o => by simp⟩
  have f0 := zf 0
  have f1 := zf 1
  have HNB : Hid (¬ b3 + 1 < w.heap.size) := by show ¬ _; omega
  have hS2 := h.on HK2
  have HCall : Hid (∀ w' : World, Kp no w2 w' → Calls Try.prog 20 #[.pointer (some ⟨sb, 0, none⟩), .agg #[.int .i64 (r : Int), .int .i64 (c : Int)]] w' fun e w'' => e = .returned (.tuple #[.agg #[.int .i64 (A.t : Int), .int .i64 (A.l : Int), .int .i64 (A.b : Int), .int .i64 (A.r : Int)], .bool b]) ∧ Kp no w' w'') :=
    fun w' k => mergeAt_v w' sb S (hS2.on k) hok r c o ho A hA b hb
  unfold srcV at hl2
  clear zf ho hA hb hS2 hok h hl
  have lb3 : b3 + 1 < w2.heap.size := cell_lt z1
  have lb33 : b3 < w2.heap.size := by omega
  have lbl : lb < w2.heap.size := cell_lt hl2
  go_enter Try.func36, Try.ntmps36
  go_wp2_with fail
  rw [← hb3, ← hw2]
  clear hw2 hb3
  go_cut [5, 6] (fun s5 s6 wx => ∃ b5, s5 = .pointer (some ⟨b5, 0, none⟩) ∧ s6 = .bool b ∧ VarAr w2 A b5 wx)
  case first =>
    go_region_with (go_at_call 20; refine (HCall.out _ (by first | exact (Kp.refl no _).drew | exact ((Kp.refl no _).alloc _).drew | exact (Kp.refl no _).drew.alloc _)).mono ?_; rintro e w5 ⟨rfl, kp5⟩; first | (have m8 := alloc4d kp5; obtain ⟨m0, m1, m2, m3, m4, m5, m6, m7⟩ := m8) | skip)
    all_goals go_wp2_with fail
    all_goals go_meet
    all_goals first
      | exact ⟨_, rfl, rfl, VarAr.after A kp5⟩
      | exact ⟨_, rfl, rfl, VarAr.before A kp5⟩
  case rest =>
    obtain ⟨b5, rfl, rfl, hv⟩ := hcut
    have x0 := hv.c0
    have x1 := hv.c1
    have k5 := hv.kp
    have y1 := k5.cell a1 id
    have y2 := k5.cell a2 id
    have y3 := k5.cell z1 id
    have y4 := k5.cell z2 id
    have g0 := (k5.frozen (p := ⟨b3 + 1, 0, none⟩) lb3 id).trans f0
    have g1 := (k5.frozen (p := ⟨b3 + 1, 1, none⟩) lb3 id).trans f1
    clear a1 a2 z1 z2 f0 f1 lb3 lb33 lbl hv HCall
    obtain ⟨q0, q1⟩ := put2_at y3 y4 (.int .i64 (r' : Int)) (.int .i64 (c' : Int))
    have hK := (HK2.trans k5).put2 (b := b3 + 1) (fun h => absurd h HNB.out) (.int .i64 (r' : Int)) (.int .i64 (c' : Int))
    have HQ : Hid (Kp no w (put2 wc (b3 + 1) (.int .i64 (r' : Int)) (.int .i64 (c' : Int))) ∧ (put2 wc (b3 + 1) (.int .i64 (r' : Int)) (.int .i64 (c' : Int))).cell? ⟨b3 + 1, 0, none⟩ = some (.int .i64 (r' : Int)) ∧ (put2 wc (b3 + 1) (.int .i64 (r' : Int)) (.int .i64 (c' : Int))).cell? ⟨b3 + 1, 1, none⟩ = some (.int .i64 (c' : Int))) := ⟨hK, q0, q1⟩
    clear q0 q1 hK
    cases b with
    | true =>
      rw [if_pos rfl] at hr' hc'
      subst hr' hc'
      go_wp2_with fail
      obtain ⟨hK, q0, q1⟩ := HQ.out
      change bodyPost _ _ _ _ _ (put2 wc (b3 + 1) (.int .i64 (A.t : Int)) (.int .i64 (A.l : Int)))
      generalize put2 wc (b3 + 1) (.int .i64 (A.t : Int)) (.int .i64 (A.l : Int)) = w9 at *
      exact bodyPost_ret (v := addrV A.t A.l) (by simp [results, Try.results36, go_sem, q0, q1]; rfl) rfl ⟨rfl, hK⟩
    | false =>
      rw [if_neg (by decide)] at hr' hc'
      subst hr' hc'
      go_wp2_with fail
      obtain ⟨hK, q0, q1⟩ := HQ.out
      change bodyPost _ _ _ _ _ (put2 wc (b3 + 1) (.int .i64 (r' : Int)) (.int .i64 (c' : Int)))
      generalize put2 wc (b3 + 1) (.int .i64 (r' : Int)) (.int .i64 (c' : Int)) = w9 at *
      exact bodyPost_ret (v := addrV r' c') (by simp [results, Try.results36, go_sem, q0, q1]; rfl) rfl ⟨rfl, hK⟩

theorem owner_at (w : World) (lb sb : Nat) (S : Sh) (h : SheetAt w sb S) (hok : S.Ok) (hl : w.cell? ⟨lb, 0, none⟩ = some (srcV sb)) (r c : Nat) :
    Calls Try.prog 36 #[.pointer (some ⟨lb, 0, none⟩), addrV r c] w fun e w' => e = .returned (addrV (ownR S.mg r c) (ownC S.mg r c)) ∧ Kp no w w' := by
  refine owner_gen w lb sb S h hok hl r c _ rfl _ rfl _ rfl _ _ ?_ ?_
  · unfold ownR; cases mergeAt S.mg r c <;> rfl
  · unfold ownC; cases mergeAt S.mg r c <;> rfl
end Go.Proofs.Qxb6500653a
