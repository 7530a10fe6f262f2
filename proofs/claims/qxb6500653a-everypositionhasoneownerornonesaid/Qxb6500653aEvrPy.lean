/-
  EveryPosition (3): the lines of a pane.
-/
import Derived.Test.Qxb6500653aEvrPx
namespace Go.Proofs.Qxb6500653a
open Go.RowKit

/-- the loop's state -/
def EvPy (qb fb vb cb ib b18 Y0 X0 Y1 X1 : Nat) (B : Nat → Nat → Nat) (w35 : World) (s34 s35 s36 s157 s158 s159 : Value) (a' : Act) (wq : World) : Prop :=
  ∃ (T : Array Value) (y : Nat), a' = ⟨T, []⟩ ∧ T.size = 432 ∧ Knows T [(3, .pointer (some ⟨qb, 0, none⟩)), (6, .pointer (some ⟨fb, 0, none⟩)), (7, .pointer (some ⟨vb, 0, none⟩)), (8, .pointer (some ⟨cb, 0, none⟩)), (9, .pointer (some ⟨ib, 0, none⟩)), (34, s34), (35, s35), (36, s36), (157, s157), (158, s158), (159, s159), (18, .pointer (some ⟨b18, 0, none⟩)), (21, .int .i64 (y : Int))] ∧ Y0 ≤ y ∧ y ≤ Y1 ∧ Kp (one ib) w35 wq ∧ ArrAt wq ib (plusR B Y0 X0 Y1 X1 y X0)
/-- its end -/
def EdPy (qb fb vb cb ib b18 Y0 X0 Y1 X1 : Nat) (B : Nat → Nat → Nat) (w35 : World) (s34 s35 s36 s157 s158 s159 : Value) (T' : Array Value) (w' : World) : Prop := T'.size = 432 ∧ Knows T' [(3, .pointer (some ⟨qb, 0, none⟩)), (6, .pointer (some ⟨fb, 0, none⟩)), (7, .pointer (some ⟨vb, 0, none⟩)), (8, .pointer (some ⟨cb, 0, none⟩)), (9, .pointer (some ⟨ib, 0, none⟩)), (34, s34), (35, s35), (36, s36), (157, s157), (158, s158), (159, s159), (18, .pointer (some ⟨b18, 0, none⟩))] ∧ Kp (one ib) w35 w' ∧ ArrAt w' ib (plusR B Y0 X0 Y1 X1 Y1 X0)
set_option maxRecDepth 100000 in
set_option maxHeartbeats 400000000 in
theorem evr_py (sb : Nat) (pt pl pbt pr : Int) (qb fb vb cb ib b18 Y0 X0 Y1 X1 : Nat) (B : Nat → Nat → Nat) (w35 : World) (s34 s35 s36 s157 s158 s159 : Value) (Q : Exit → Act → World → Prop)
    (hY : Y0 ≤ Y1) (h24 : Y1 ≤ 24) (h80 : X1 ≤ 80) (hX : X0 ≤ X1) (HB6 : Hid (∀ y x, B y x ≤ 5)) (HNC : Hid (b18 ≠ ib)) (e1 : w35.cell? ⟨b18, 1, none⟩ = some (.int .i64 (X0 : Int))) (e2 : w35.cell? ⟨b18, 2, none⟩ = some (.int .i64 (Y1 : Int)))
    (HE : Hid (w35.cell? ⟨b18, 3, none⟩ = some (.int .i64 (X1 : Int)) ∧ w35.cell? ⟨b18, 4, none⟩ = some (.int .i64 pt) ∧ w35.cell? ⟨b18, 5, none⟩ = some (.int .i64 pl) ∧ w35.cell? ⟨b18, 6, none⟩ = some (.int .i64 pbt) ∧ w35.cell? ⟨b18, 7, none⟩ = some (.int .i64 pr)))
    (HX : Hid (∀ w', Kp (one ib) w35 w' → ∀ y x : Nat, Y0 ≤ y → y < Y1 → X0 ≤ x → x < X1 → (∃ (oR oC : Nat) (A : Ar), w'.cell? ⟨fb, y * 560 + x * 7 + 1, none⟩ = some (.int .i64 (oR : Int)) ∧ w'.cell? ⟨fb, y * 560 + x * 7 + 2, none⟩ = some (.int .i64 (oC : Int)) ∧ w'.cell? ⟨qb, 0, none⟩ = some (.pointer (some ⟨sb, 0, none⟩)) ∧ (∀ w'', Kp no w' w'' → Calls Try.prog 15 #[.pointer (some ⟨sb, 0, none⟩), .agg #[.int .i64 (oR : Int), .int .i64 (oC : Int)]] w'' fun e w3 => e = .returned (.agg #[.int .i64 (A.t : Int), .int .i64 (A.l : Int), .int .i64 (A.b : Int), .int .i64 (A.r : Int)]) ∧ Kp no w'' w3) ∧ pt ≤ (A.b : Int) ∧ (A.t : Int) ≤ pbt ∧ pl ≤ (A.r : Int) ∧ (A.l : Int) ≤ pr)))
    (T : Array Value) (w : World) (hT : T.size = 432) (hk : Knows T [(3, .pointer (some ⟨qb, 0, none⟩)), (6, .pointer (some ⟨fb, 0, none⟩)), (7, .pointer (some ⟨vb, 0, none⟩)), (8, .pointer (some ⟨cb, 0, none⟩)), (9, .pointer (some ⟨ib, 0, none⟩)), (34, s34), (35, s35), (36, s36), (157, s157), (158, s158), (159, s159), (18, .pointer (some ⟨b18, 0, none⟩)), (21, .int .i64 (Y0 : Int))]) (kw : Kp (one ib) w35 w) (hC : ArrAt w ib (plusR B Y0 X0 Y1 X1 Y0 X0))
    (hexit : ∀ (T' : Array Value) (w' : World), EdPy qb fb vb cb ib b18 Y0 X0 Y1 X1 B w35 s34 s35 s36 s157 s158 s159 T' w' → Q (.exit 14) ⟨T', []⟩ w') :
    Code.wp Try.prog (.loop cPy) Q ⟨T, []⟩ w := by
  refine wp_exit hexit ?_
  clear hexit
  refine wp_loop (EvPy qb fb vb cb ib b18 Y0 X0 Y1 X1 B w35 s34 s35 s36 s157 s158 s159) (fun a' _ => Y1 - (intOf (a'.tmps.getD 21 undef)).toNat) ⟨T, Y0, rfl, hT, hk, Nat.le_refl _, hY, kw, hC⟩ ?_
  clear hT hk kw hC T w
  rintro a' wr ⟨T, y, rfl, hT, hk, hy0, hy1, ky, hc⟩
  have HIY : Hid (ArrAt wr ib (plusR B Y0 X0 Y1 X1 y X0)) := hc
  clear hc
  obtain ⟨f, hfT, hf⟩ := lit432 T hT
  obtain ⟨h3, h6, h7, h8, h9, h34, h35, h36, h157, h158, h159, h18, h21, _⟩ := hk
  rw [hf] at h3 h6 h7 h8 h9 h34 h35 h36 h157 h158 h159 h18 h21
  clear hf hT
  subst hfT
  conv => arg 2; whnf
  simp only [h3, h6, h7, h8, h9, h34, h35, h36, h157, h158, h159, h18, h21]
  clear h3 h6 h7 h8 h9 h34 h35 h36 h157 h158 h159 h18 h21
  have f2 := ky.cell e2 HNC.out
  by_cases hyl : y < Y1
  · have i4 : (y : Int) < (Y1 : Int) := by omega
    have f1 := ky.cell e1 HNC.out
    have HK : Hid (Kp (one ib) w35 wr) := ky
    clear ky e1 e2
    go_wp2_with fail
    refine evr_px sb pt pl pbt pr qb fb vb cb ib b18 y Y0 X0 Y1 X1 B w35 s34 s35 s36 s157 s158 s159 _ hy0 hyl h24 h80 hX HB6 HNC HE (fun w' k' x h1 h2 => HX.out w' k' y x hy0 hyl h1 h2) _ _ (by kernel_rfl) ⟨by kernel_rfl, by kernel_rfl, by kernel_rfl, by kernel_rfl, by kernel_rfl, by kernel_rfl, by kernel_rfl, by kernel_rfl, by kernel_rfl, by kernel_rfl, by kernel_rfl, by kernel_rfl, by kernel_rfl, by kernel_rfl, trivial⟩ HK.out HIY.out ?_
    clear f1 f2 HIY HK
    rintro T' w' ⟨hT, hk, k', hc'⟩
    have HIN : Hid (ArrAt w' ib (plusR B Y0 X0 Y1 X1 (y + 1) X0)) := hc'.plus_row
    have HKN : Hid (Kp (one ib) w35 w') := k'
    clear hc' k'
    obtain ⟨f', hfT, hf⟩ := lit432 T' hT
    obtain ⟨h3, h6, h7, h8, h9, h34, h35, h36, h157, h158, h159, h18, h21, _⟩ := hk
    rw [hf] at h3 h6 h7 h8 h9 h34 h35 h36 h157 h158 h159 h18 h21
    clear hf hT
    subst hfT
    simp only [h3, h6, h7, h8, h9, h34, h35, h36, h157, h158, h159, h18, h21]
    clear h3 h6 h7 h8 h9 h34 h35 h36 h157 h158 h159 h18 h21
    go_wp2_with fail
    refine ⟨⟨_, y + 1, rfl, by kernel_rfl, ⟨by kernel_rfl, by kernel_rfl, by kernel_rfl, by kernel_rfl, by kernel_rfl, by kernel_rfl, by kernel_rfl, by kernel_rfl, by kernel_rfl, by kernel_rfl, by kernel_rfl, by kernel_rfl, Eq.trans (b := .int .i64 ((y : Int) + 1)) (by kernel_rfl) (by go_num), trivial⟩, by omega, by omega, HKN.out, HIN.out⟩, ?_⟩
    show Y1 - (intOf (Value.int .i64 ((y : Int) + 1))).toNat < Y1 - (intOf (Value.int .i64 (y : Int))).toNat
    simp [intOf]
    omega
  · have i4 : ¬ (y : Int) < (Y1 : Int) := by omega
    have hy' : y = Y1 := by omega
    have HCE : Hid (ArrAt wr ib (plusR B Y0 X0 Y1 X1 Y1 X0)) := by have h := HIY.out; rw [hy'] at h; exact h
    clear HIY hy'
    go_wp2_with fail
    exact ⟨rfl, _, rfl, by kernel_rfl, ⟨by kernel_rfl, by kernel_rfl, by kernel_rfl, by kernel_rfl, by kernel_rfl, by kernel_rfl, by kernel_rfl, by kernel_rfl, by kernel_rfl, by kernel_rfl, by kernel_rfl, by kernel_rfl, trivial⟩, ky, HCE.out⟩
end Go.Proofs.Qxb6500653a
