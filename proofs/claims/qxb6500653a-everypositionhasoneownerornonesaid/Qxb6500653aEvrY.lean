/-
  EveryPosition (3): the lines of a rectangle.
-/
import Derived.Test.Qxb6500653aEvrX
namespace Go.Proofs.Qxb6500653a
open Go.RowKit

/-- the loop's state -/
def EvY (qb fb vb cb ib r cc b12 b14 Y0 X0 Y1 X1 : Nat) (B : Nat → Nat → Nat) (w19 : World) (s34 s35 s36 s69 s70 s71 : Value) (a' : Act) (wq : World) : Prop :=
  ∃ (T : Array Value) (y : Nat), a' = ⟨T, []⟩ ∧ T.size = 432 ∧ Knows T [(3, .pointer (some ⟨qb, 0, none⟩)), (6, .pointer (some ⟨fb, 0, none⟩)), (7, .pointer (some ⟨vb, 0, none⟩)), (8, .pointer (some ⟨cb, 0, none⟩)), (9, .pointer (some ⟨ib, 0, none⟩)), (34, s34), (35, s35), (36, s36), (10, .int .i64 (r : Int)), (11, .int .i64 (cc : Int)), (12, .pointer (some ⟨b12, 0, none⟩)), (69, s69), (70, s70), (71, s71), (14, .pointer (some ⟨b14, 0, none⟩)), (15, .int .i64 (y : Int))] ∧ Y0 ≤ y ∧ y ≤ Y1 ∧ Kp (one cb) w19 wq ∧ ArrAt wq cb (plusR B Y0 X0 Y1 X1 y X0)
/-- its end -/
def EdY (qb fb vb cb ib r cc b12 b14 Y0 X0 Y1 X1 : Nat) (B : Nat → Nat → Nat) (w19 : World) (s34 s35 s36 s69 s70 s71 : Value) (T' : Array Value) (w' : World) : Prop := T'.size = 432 ∧ Knows T' [(3, .pointer (some ⟨qb, 0, none⟩)), (6, .pointer (some ⟨fb, 0, none⟩)), (7, .pointer (some ⟨vb, 0, none⟩)), (8, .pointer (some ⟨cb, 0, none⟩)), (9, .pointer (some ⟨ib, 0, none⟩)), (34, s34), (35, s35), (36, s36), (10, .int .i64 (r : Int)), (11, .int .i64 (cc : Int)), (12, .pointer (some ⟨b12, 0, none⟩)), (69, s69), (70, s70), (71, s71), (14, .pointer (some ⟨b14, 0, none⟩))] ∧ Kp (one cb) w19 w' ∧ ArrAt w' cb (plusR B Y0 X0 Y1 X1 Y1 X0)
set_option maxRecDepth 100000 in
set_option maxHeartbeats 400000000 in
theorem evr_y (qb fb vb cb ib r cc b12 b14 Y0 X0 Y1 X1 : Nat) (B : Nat → Nat → Nat) (w19 : World) (s34 s35 s36 s69 s70 s71 : Value) (Q : Exit → Act → World → Prop)
    (hY : Y0 ≤ Y1) (h24 : Y1 ≤ 24) (h80 : X1 ≤ 80) (hX : X0 ≤ X1) (HB6 : Hid (∀ y x, B y x ≤ 5)) (HNC : Hid (b14 ≠ cb)) (e1 : w19.cell? ⟨b14, 1, none⟩ = some (.int .i64 (X0 : Int))) (e2 : w19.cell? ⟨b14, 2, none⟩ = some (.int .i64 (Y1 : Int))) (e3 : w19.cell? ⟨b14, 3, none⟩ = some (.int .i64 (X1 : Int)))
    (HS : Hid (∀ w', Kp (one cb) w19 w' → ∀ y x, Y0 ≤ y → y < Y1 → X0 ≤ x → x < X1 → w'.cell? ⟨fb, y * 560 + x * 7, none⟩ = some (.bool true) ∧ w'.cell? ⟨fb, y * 560 + x * 7 + 1, none⟩ = some (.int .i64 (r : Int)) ∧ w'.cell? ⟨fb, y * 560 + x * 7 + 2, none⟩ = some (.int .i64 (cc : Int))))
    (HA : Hid (∀ w', Kp (one cb) w19 w' → w'.cell? ⟨b12, 0, none⟩ = some (.int .i64 (r : Int)) ∧ w'.cell? ⟨b12, 1, none⟩ = some (.int .i64 (cc : Int))))
    (T : Array Value) (w : World) (hT : T.size = 432) (hk : Knows T [(3, .pointer (some ⟨qb, 0, none⟩)), (6, .pointer (some ⟨fb, 0, none⟩)), (7, .pointer (some ⟨vb, 0, none⟩)), (8, .pointer (some ⟨cb, 0, none⟩)), (9, .pointer (some ⟨ib, 0, none⟩)), (34, s34), (35, s35), (36, s36), (10, .int .i64 (r : Int)), (11, .int .i64 (cc : Int)), (12, .pointer (some ⟨b12, 0, none⟩)), (69, s69), (70, s70), (71, s71), (14, .pointer (some ⟨b14, 0, none⟩)), (15, .int .i64 (Y0 : Int))]) (kw : Kp (one cb) w19 w) (hC : ArrAt w cb (plusR B Y0 X0 Y1 X1 Y0 X0))
    (hexit : ∀ (T' : Array Value) (w' : World), EdY qb fb vb cb ib r cc b12 b14 Y0 X0 Y1 X1 B w19 s34 s35 s36 s69 s70 s71 T' w' → Q (.exit 8) ⟨T', []⟩ w') :
    Code.wp Try.prog (.loop cJy) Q ⟨T, []⟩ w := by
  refine wp_loop (EvY qb fb vb cb ib r cc b12 b14 Y0 X0 Y1 X1 B w19 s34 s35 s36 s69 s70 s71) (fun a' _ => Y1 - (intOf (a'.tmps.getD 15 undef)).toNat) ⟨T, Y0, rfl, hT, hk, Nat.le_refl _, hY, kw, hC⟩ ?_
  clear hT hk kw hC T w
  rintro a' wr ⟨T, y, rfl, hT, hk, hy0, hy1, ky, hc⟩
  have HCY : Hid (ArrAt wr cb (plusR B Y0 X0 Y1 X1 y X0)) := hc
  clear hc
  obtain ⟨f, hfT, hf⟩ := lit432 T hT
  obtain ⟨h3, h6, h7, h8, h9, h34, h35, h36, h10, h11, h12, h69, h70, h71, h14, h15, _⟩ := hk
  rw [hf] at h3 h6 h7 h8 h9 h34 h35 h36 h10 h11 h12 h69 h70 h71 h14 h15
  clear hf hT
  subst hfT
  conv => arg 2; whnf
  simp only [h3, h6, h7, h8, h9, h34, h35, h36, h10, h11, h12, h69, h70, h71, h14, h15]
  clear h3 h6 h7 h8 h9 h34 h35 h36 h10 h11 h12 h69 h70 h71 h14 h15
  have f2 := ky.cell e2 HNC.out
  by_cases hyl : y < Y1
  · clear hexit
    have i4 : (y : Int) < (Y1 : Int) := by omega
    have f1 := ky.cell e1 HNC.out
    have HK : Hid (Kp (one cb) w19 wr) := ky
    have E3 : Hid (w19.cell? ⟨b14, 3, none⟩ = some (.int .i64 (X1 : Int))) := e3
    clear ky e1 e2 e3
    go_wp2_with fail
    refine evr_x qb fb vb cb ib r cc b12 b14 y Y0 X0 Y1 X1 B w19 s34 s35 s36 s69 s70 s71 _ hy0 hyl h24 h80 hX HB6 HNC E3.out (fun w' k' x h1 h2 => HS.out w' k' y x hy0 hyl h1 h2) HA _ _ (by kernel_rfl) ⟨by kernel_rfl, by kernel_rfl, by kernel_rfl, by kernel_rfl, by kernel_rfl, by kernel_rfl, by kernel_rfl, by kernel_rfl, by kernel_rfl, by kernel_rfl, by kernel_rfl, by kernel_rfl, by kernel_rfl, by kernel_rfl, by kernel_rfl, by kernel_rfl, by kernel_rfl, trivial⟩ HK.out HCY.out ?_
    clear f1 f2 HCY HK
    rintro T' w' ⟨hT, hk, k', hc'⟩
    have HCN : Hid (ArrAt w' cb (plusR B Y0 X0 Y1 X1 (y + 1) X0)) := hc'.plus_row
    have HKN : Hid (Kp (one cb) w19 w') := k'
    clear hc' k'
    obtain ⟨f', hfT, hf⟩ := lit432 T' hT
    obtain ⟨h3, h6, h7, h8, h9, h34, h35, h36, h10, h11, h12, h69, h70, h71, h14, h15, _⟩ := hk
    rw [hf] at h3 h6 h7 h8 h9 h34 h35 h36 h10 h11 h12 h69 h70 h71 h14 h15
    clear hf hT
    subst hfT
    simp only [h3, h6, h7, h8, h9, h34, h35, h36, h10, h11, h12, h69, h70, h71, h14, h15]
    clear h3 h6 h7 h8 h9 h34 h35 h36 h10 h11 h12 h69 h70 h71 h14 h15
    go_wp2_with fail
    refine ⟨⟨_, y + 1, rfl, by kernel_rfl, ⟨by kernel_rfl, by kernel_rfl, by kernel_rfl, by kernel_rfl, by kernel_rfl, by kernel_rfl, by kernel_rfl, by kernel_rfl, by kernel_rfl, by kernel_rfl, by kernel_rfl, by kernel_rfl, by kernel_rfl, by kernel_rfl, by kernel_rfl, Eq.trans (b := .int .i64 ((y : Int) + 1)) (by kernel_rfl) (by go_num), trivial⟩, by omega, by omega, HKN.out, HCN.out⟩, ?_⟩
    show Y1 - (intOf (Value.int .i64 ((y : Int) + 1))).toNat < Y1 - (intOf (Value.int .i64 (y : Int))).toNat
    simp [intOf]
    omega
  · have i4 : ¬ (y : Int) < (Y1 : Int) := by omega
    have hy' : y = Y1 := by omega
    have HCE : Hid (ArrAt wr cb (plusR B Y0 X0 Y1 X1 Y1 X0)) := by have h := HCY.out; rw [hy'] at h; exact h
    clear HCY hy'
    go_wp2_with fail
    exact ⟨by kernel_rfl, ⟨by kernel_rfl, by kernel_rfl, by kernel_rfl, by kernel_rfl, by kernel_rfl, by kernel_rfl, by kernel_rfl, by kernel_rfl, by kernel_rfl, by kernel_rfl, by kernel_rfl, by kernel_rfl, by kernel_rfl, by kernel_rfl, by kernel_rfl, trivial⟩, ky, HCE.out⟩
end Go.Proofs.Qxb6500653a
