/-
  EveryPosition (3): the positions of a rectangle on one line.
-/
import Derived.Test.Qxb6500653aEvrCode
import Derived.Test.Qxb6500653aKq
namespace Go.Proofs.Qxb6500653a
open Go.RowKit

/-- the loop's state -/
def EvX (qb fb vb cb ib r cc b12 b14 y Y0 X0 Y1 X1 : Nat) (B : Nat → Nat → Nat) (w19 : World) (s34 s35 s36 s69 s70 s71 : Value) (a' : Act) (wq : World) : Prop :=
  ∃ (T : Array Value) (x : Nat), a' = ⟨T, []⟩ ∧ T.size = 432 ∧ Knows T [(3, .pointer (some ⟨qb, 0, none⟩)), (6, .pointer (some ⟨fb, 0, none⟩)), (7, .pointer (some ⟨vb, 0, none⟩)), (8, .pointer (some ⟨cb, 0, none⟩)), (9, .pointer (some ⟨ib, 0, none⟩)), (34, s34), (35, s35), (36, s36), (10, .int .i64 (r : Int)), (11, .int .i64 (cc : Int)), (12, .pointer (some ⟨b12, 0, none⟩)), (69, s69), (70, s70), (71, s71), (14, .pointer (some ⟨b14, 0, none⟩)), (15, .int .i64 (y : Int)), (16, .int .i64 (x : Int))] ∧ X0 ≤ x ∧ x ≤ X1 ∧ Kp (one cb) w19 wq ∧ ArrAt wq cb (plusR B Y0 X0 Y1 X1 y x)
/-- its end -/
def EdX (qb fb vb cb ib r cc b12 b14 y Y0 X0 Y1 X1 : Nat) (B : Nat → Nat → Nat) (w19 : World) (s34 s35 s36 s69 s70 s71 : Value) (T' : Array Value) (w' : World) : Prop := T'.size = 432 ∧ Knows T' [(3, .pointer (some ⟨qb, 0, none⟩)), (6, .pointer (some ⟨fb, 0, none⟩)), (7, .pointer (some ⟨vb, 0, none⟩)), (8, .pointer (some ⟨cb, 0, none⟩)), (9, .pointer (some ⟨ib, 0, none⟩)), (34, s34), (35, s35), (36, s36), (10, .int .i64 (r : Int)), (11, .int .i64 (cc : Int)), (12, .pointer (some ⟨b12, 0, none⟩)), (69, s69), (70, s70), (71, s71), (14, .pointer (some ⟨b14, 0, none⟩)), (15, .int .i64 (y : Int))] ∧ Kp (one cb) w19 w' ∧ ArrAt w' cb (plusR B Y0 X0 Y1 X1 y X1)
set_option maxRecDepth 100000 in
set_option maxHeartbeats 400000000 in
theorem evr_x (qb fb vb cb ib r cc b12 b14 y Y0 X0 Y1 X1 : Nat) (B : Nat → Nat → Nat) (w19 : World) (s34 s35 s36 s69 s70 s71 : Value) (Q : Exit → Act → World → Prop)
    (hy0 : Y0 ≤ y) (hyl : y < Y1) (h24 : Y1 ≤ 24) (h80 : X1 ≤ 80) (hX : X0 ≤ X1) (HB6 : Hid (∀ y x, B y x ≤ 5)) (HNC : Hid (b14 ≠ cb)) (e3 : w19.cell? ⟨b14, 3, none⟩ = some (.int .i64 (X1 : Int)))
    (HS : Hid (∀ w', Kp (one cb) w19 w' → ∀ x, X0 ≤ x → x < X1 → w'.cell? ⟨fb, y * 560 + x * 7, none⟩ = some (.bool true) ∧ w'.cell? ⟨fb, y * 560 + x * 7 + 1, none⟩ = some (.int .i64 (r : Int)) ∧ w'.cell? ⟨fb, y * 560 + x * 7 + 2, none⟩ = some (.int .i64 (cc : Int))))
    (HA : Hid (∀ w', Kp (one cb) w19 w' → w'.cell? ⟨b12, 0, none⟩ = some (.int .i64 (r : Int)) ∧ w'.cell? ⟨b12, 1, none⟩ = some (.int .i64 (cc : Int))))
    (T : Array Value) (w : World) (hT : T.size = 432) (hk : Knows T [(3, .pointer (some ⟨qb, 0, none⟩)), (6, .pointer (some ⟨fb, 0, none⟩)), (7, .pointer (some ⟨vb, 0, none⟩)), (8, .pointer (some ⟨cb, 0, none⟩)), (9, .pointer (some ⟨ib, 0, none⟩)), (34, s34), (35, s35), (36, s36), (10, .int .i64 (r : Int)), (11, .int .i64 (cc : Int)), (12, .pointer (some ⟨b12, 0, none⟩)), (69, s69), (70, s70), (71, s71), (14, .pointer (some ⟨b14, 0, none⟩)), (15, .int .i64 (y : Int)), (16, .int .i64 (X0 : Int))]) (kw : Kp (one cb) w19 w) (hC : ArrAt w cb (plusR B Y0 X0 Y1 X1 y X0))
    (hexit : ∀ (T' : Array Value) (w' : World), EdX qb fb vb cb ib r cc b12 b14 y Y0 X0 Y1 X1 B w19 s34 s35 s36 s69 s70 s71 T' w' → Q (.exit 10) ⟨T', []⟩ w') :
    Code.wp Try.prog (.loop cJx) Q ⟨T, []⟩ w := by
  refine wp_loop (EvX qb fb vb cb ib r cc b12 b14 y Y0 X0 Y1 X1 B w19 s34 s35 s36 s69 s70 s71) (fun a' _ => X1 - (intOf (a'.tmps.getD 16 undef)).toNat) ⟨T, X0, rfl, hT, hk, Nat.le_refl _, hX, kw, hC⟩ ?_
  clear hT hk kw hC T w
  rintro a' wr ⟨T, x, rfl, hT, hk, hx0, hx1, kx, hc⟩
  have HCX : Hid (ArrAt wr cb (plusR B Y0 X0 Y1 X1 y x)) := hc
  clear hc
  obtain ⟨f, hfT, hf⟩ := lit432 T hT
  obtain ⟨h3, h6, h7, h8, h9, h34, h35, h36, h10, h11, h12, h69, h70, h71, h14, h15, h16, _⟩ := hk
  rw [hf] at h3 h6 h7 h8 h9 h34 h35 h36 h10 h11 h12 h69 h70 h71 h14 h15 h16
  clear hf hT
  subst hfT
  conv => arg 2; whnf
  simp only [h3, h6, h7, h8, h9, h34, h35, h36, h10, h11, h12, h69, h70, h71, h14, h15, h16]
  clear h3 h6 h7 h8 h9 h34 h35 h36 h10 h11 h12 h69 h70 h71 h14 h15 h16
  have f3 := kx.cell e3 HNC.out
  by_cases hxl : x < X1
  · clear hexit
    as_aux_lemma =>
      have i5 : (x : Int) < (X1 : Int) := by omega
      have i6 : (y : Int) < 24 := by omega
      have i7 : (x : Int) < 80 := by omega
      have v0 := HCX.out.at_ y x (by omega) (by omega)
      have vf := HCX.out.free (y * 80 + x)
      have HNX : Hid (ArrAt (wr.setCell ⟨cb, y * 80 + x, none⟩ (.int .i64 ((plusR B Y0 X0 Y1 X1 y x y x : Int) + 1))) cb (plusR B Y0 X0 Y1 X1 y (x + 1))) := HCX.out.plus ⟨hy0, hyl⟩ ⟨hx0, hxl⟩ h24 h80
      have hnl : ((plusR B Y0 X0 Y1 X1 y x y x : Nat) : Int) < 3000 := by
        have := plus_le HB6.out Y0 X0 Y1 X1 y x y x
        omega
      generalize plusR B Y0 X0 Y1 X1 y x y x = n at v0 HNX hnl
      have hnl0 : (0 : Int) ≤ (n : Int) := by omega
      go_upto_region 28 with fail
      clear f3
      go_cut [] from 117 to 151 (fun wx => Kp (one cb) wr wx ∧ ArrAt wx cb (plusR B Y0 X0 Y1 X1 y (x + 1)))
      case first =>
        as_aux_lemma =>
          go_region
          all_goals go_wp2_with fail
          all_goals go_meet
          all_goals exact ⟨((Kp.refl (one cb) wr).drew.setCell (p := ⟨cb, y * 80 + x, none⟩) (fun _ => rfl) _), HNX.out.kp (Kp.refl no _).drew id⟩
      case rest =>
      obtain ⟨k28, hc28⟩ := hcut
      obtain ⟨w28, rfl⟩ : ∃ w28, w28 = wc := ⟨_, rfl⟩
      have HC28 : Hid (ArrAt w28 cb (plusR B Y0 X0 Y1 X1 y (x + 1))) := hc28
      have HK28 : Hid (Kp (one cb) w19 w28) := kx.trans k28
      obtain ⟨o1, o2, o3⟩ := HS.out w28 HK28.out x hx0 hxl
      obtain ⟨o4, o5⟩ := HA.out w28 HK28.out
      have s0 : ∀ p : KpOf w28, p.to.cell? ⟨fb, y * 560 + x * 7, none⟩ = some (.bool true) := fun p => p.h.cell o1 id
      have s1 : ∀ p : KpOf w28, p.to.cell? ⟨fb, y * 560 + x * 7 + 1, none⟩ = some (.int .i64 (r : Int)) := fun p => p.h.cell o2 id
      have s2 : ∀ p : KpOf w28, p.to.cell? ⟨fb, y * 560 + x * 7 + 2, none⟩ = some (.int .i64 (cc : Int)) := fun p => p.h.cell o3 id
      have s2' : ∀ p : KpOf w28, p.to.cell? ⟨fb, y * 560 + x * 7 + 1 + 1, none⟩ = some (.int .i64 (cc : Int)) := s2
      have a0 : ∀ p : KpOf w28, p.to.cell? ⟨b12, 0, none⟩ = some (.int .i64 (r : Int)) := fun p => p.h.cell o4 id
      have a1 : ∀ p : KpOf w28, p.to.cell? ⟨b12, 1, none⟩ = some (.int .i64 (cc : Int)) := fun p => p.h.cell o5 id
      have hneq : ∀ Z : World, (binOp .neq 31 (.agg #[.int .i64 (r : Int), .int .i64 (cc : Int)]) (.agg #[.int .i64 (r : Int), .int .i64 (cc : Int)])).run Try.prog Z = .ok (.bool false) Z := fun Z => by
        have h := neq31 (r : Int) (cc : Int) (r : Int) (cc : Int) Z
        simpa using h
      clear o1 o2 o3 o4 o5 k28 hc28 kx HCX v0 vf HNX hnl hnl0
      go_upto_region 29 with fail
      go_cut [151] from 117 to 151 (fun s151 wx => s151 = .bool false ∧ Kp no w28 wx)
      case first =>
        as_aux_lemma =>
          refine wp_region_kp (by kernel_rfl) (by kernel_rfl) ?_
          repeat (go_big_quiet_step (fail))
          refine wpQuiet_nil ?_
          intro _ hw'
          obtain ⟨⟨wq, kq⟩, hw''⟩ := hw'
          subst hw''
          go_wp2_with fail
          go_meet
          exact ⟨rfl, kq⟩
      case rest =>
      obtain ⟨rfl, kz⟩ := hcut
      have HKZ : Hid (Kp (one cb) w19 wc) := HK28.out.trans (Kp.of_no kz)
      have HCZ : Hid (ArrAt wc cb (plusR B Y0 X0 Y1 X1 y (x + 1))) := HC28.out.kp kz id
      clear kz s0 s1 s2 s2' a0 a1 hneq
      go_wp2_with fail
      refine ⟨⟨_, x + 1, rfl, by kernel_rfl, ⟨by kernel_rfl, by kernel_rfl, by kernel_rfl, by kernel_rfl, by kernel_rfl, by kernel_rfl, by kernel_rfl, by kernel_rfl, by kernel_rfl, by kernel_rfl, by kernel_rfl, by kernel_rfl, by kernel_rfl, by kernel_rfl, by kernel_rfl, by kernel_rfl, Eq.trans (b := .int .i64 ((x : Int) + 1)) (by kernel_rfl) (by go_num), trivial⟩, by omega, by omega, HKZ.out, HCZ.out⟩, ?_⟩
      show X1 - (intOf (Value.int .i64 ((x : Int) + 1))).toNat < X1 - (intOf (Value.int .i64 (x : Int))).toNat
      simp [intOf]
      omega
  · have i5 : ¬ (x : Int) < (X1 : Int) := by omega
    have hx' : x = X1 := by omega
    have HCE : Hid (ArrAt wr cb (plusR B Y0 X0 Y1 X1 y X1)) := by have h := HCX.out; rw [hx'] at h; exact h
    clear HCX hx'
    go_wp2_with fail
    exact ⟨by kernel_rfl, ⟨by kernel_rfl, by kernel_rfl, by kernel_rfl, by kernel_rfl, by kernel_rfl, by kernel_rfl, by kernel_rfl, by kernel_rfl, by kernel_rfl, by kernel_rfl, by kernel_rfl, by kernel_rfl, by kernel_rfl, by kernel_rfl, by kernel_rfl, by kernel_rfl, trivial⟩, kx, HCE.out⟩
end Go.Proofs.Qxb6500653a
