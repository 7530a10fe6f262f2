/-
  EveryPosition (3): the positions of a pane on one line.
-/
import Derived.Test.Qxb6500653aEvrQ
namespace Go.Proofs.Qxb6500653a
open Go.RowKit

/-- the loop's state -/
def EvPx (qb fb vb cb ib b18 y Y0 X0 Y1 X1 : Nat) (B : Nat → Nat → Nat) (w35 : World) (s34 s35 s36 s157 s158 s159 : Value) (a' : Act) (wq : World) : Prop :=
  ∃ (T : Array Value) (x : Nat), a' = ⟨T, []⟩ ∧ T.size = 432 ∧ Knows T [(3, .pointer (some ⟨qb, 0, none⟩)), (6, .pointer (some ⟨fb, 0, none⟩)), (7, .pointer (some ⟨vb, 0, none⟩)), (8, .pointer (some ⟨cb, 0, none⟩)), (9, .pointer (some ⟨ib, 0, none⟩)), (34, s34), (35, s35), (36, s36), (157, s157), (158, s158), (159, s159), (18, .pointer (some ⟨b18, 0, none⟩)), (21, .int .i64 (y : Int)), (22, .int .i64 (x : Int))] ∧ X0 ≤ x ∧ x ≤ X1 ∧ Kp (one ib) w35 wq ∧ ArrAt wq ib (plusR B Y0 X0 Y1 X1 y x)
/-- its end -/
def EdPx (qb fb vb cb ib b18 y Y0 X0 Y1 X1 : Nat) (B : Nat → Nat → Nat) (w35 : World) (s34 s35 s36 s157 s158 s159 : Value) (T' : Array Value) (w' : World) : Prop := T'.size = 432 ∧ Knows T' [(3, .pointer (some ⟨qb, 0, none⟩)), (6, .pointer (some ⟨fb, 0, none⟩)), (7, .pointer (some ⟨vb, 0, none⟩)), (8, .pointer (some ⟨cb, 0, none⟩)), (9, .pointer (some ⟨ib, 0, none⟩)), (34, s34), (35, s35), (36, s36), (157, s157), (158, s158), (159, s159), (18, .pointer (some ⟨b18, 0, none⟩)), (21, .int .i64 (y : Int))] ∧ Kp (one ib) w35 w' ∧ ArrAt w' ib (plusR B Y0 X0 Y1 X1 y X1)
set_option maxRecDepth 100000 in
set_option maxHeartbeats 400000000 in
theorem evr_px (sb : Nat) (pt pl pbt pr : Int) (qb fb vb cb ib b18 y Y0 X0 Y1 X1 : Nat) (B : Nat → Nat → Nat) (w35 : World) (s34 s35 s36 s157 s158 s159 : Value) (Q : Exit → Act → World → Prop)
    (hy0 : Y0 ≤ y) (hyl : y < Y1) (h24 : Y1 ≤ 24) (h80 : X1 ≤ 80) (hX : X0 ≤ X1) (HB6 : Hid (∀ y x, B y x ≤ 5)) (HNC : Hid (b18 ≠ ib))
    (HE : Hid (w35.cell? ⟨b18, 3, none⟩ = some (.int .i64 (X1 : Int)) ∧ w35.cell? ⟨b18, 4, none⟩ = some (.int .i64 pt) ∧ w35.cell? ⟨b18, 5, none⟩ = some (.int .i64 pl) ∧ w35.cell? ⟨b18, 6, none⟩ = some (.int .i64 pbt) ∧ w35.cell? ⟨b18, 7, none⟩ = some (.int .i64 pr)))
    (HX : Hid (∀ w', Kp (one ib) w35 w' → ∀ x : Nat, X0 ≤ x → x < X1 → (∃ (oR oC : Nat) (A : Ar), w'.cell? ⟨fb, y * 560 + x * 7 + 1, none⟩ = some (.int .i64 (oR : Int)) ∧ w'.cell? ⟨fb, y * 560 + x * 7 + 2, none⟩ = some (.int .i64 (oC : Int)) ∧ w'.cell? ⟨qb, 0, none⟩ = some (.pointer (some ⟨sb, 0, none⟩)) ∧ (∀ w'', Kp no w' w'' → Calls Try.prog 15 #[.pointer (some ⟨sb, 0, none⟩), .agg #[.int .i64 (oR : Int), .int .i64 (oC : Int)]] w'' fun e w3 => e = .returned (.agg #[.int .i64 (A.t : Int), .int .i64 (A.l : Int), .int .i64 (A.b : Int), .int .i64 (A.r : Int)]) ∧ Kp no w'' w3) ∧ pt ≤ (A.b : Int) ∧ (A.t : Int) ≤ pbt ∧ pl ≤ (A.r : Int) ∧ (A.l : Int) ≤ pr)))
    (T : Array Value) (w : World) (hT : T.size = 432) (hk : Knows T [(3, .pointer (some ⟨qb, 0, none⟩)), (6, .pointer (some ⟨fb, 0, none⟩)), (7, .pointer (some ⟨vb, 0, none⟩)), (8, .pointer (some ⟨cb, 0, none⟩)), (9, .pointer (some ⟨ib, 0, none⟩)), (34, s34), (35, s35), (36, s36), (157, s157), (158, s158), (159, s159), (18, .pointer (some ⟨b18, 0, none⟩)), (21, .int .i64 (y : Int)), (22, .int .i64 (X0 : Int))]) (kw : Kp (one ib) w35 w) (hC : ArrAt w ib (plusR B Y0 X0 Y1 X1 y X0))
    (hexit : ∀ (T' : Array Value) (w' : World), EdPx qb fb vb cb ib b18 y Y0 X0 Y1 X1 B w35 s34 s35 s36 s157 s158 s159 T' w' → Q (.exit 16) ⟨T', []⟩ w') :
    Code.wp Try.prog (.loop cPx) Q ⟨T, []⟩ w := by
  refine wp_exit hexit ?_
  clear hexit
  refine wp_loop (EvPx qb fb vb cb ib b18 y Y0 X0 Y1 X1 B w35 s34 s35 s36 s157 s158 s159) (fun a' _ => X1 - (intOf (a'.tmps.getD 22 undef)).toNat) ⟨T, X0, rfl, hT, hk, Nat.le_refl _, hX, kw, hC⟩ ?_
  clear hT hk kw hC T w
  rintro a' wr ⟨T, x, rfl, hT, hk, hx0, hx1, kx, hc⟩
  have HIX : Hid (ArrAt wr ib (plusR B Y0 X0 Y1 X1 y x)) := hc
  clear hc
  obtain ⟨f, hfT, hf⟩ := lit432 T hT
  obtain ⟨h3, h6, h7, h8, h9, h34, h35, h36, h157, h158, h159, h18, h21, h22, _⟩ := hk
  rw [hf] at h3 h6 h7 h8 h9 h34 h35 h36 h157 h158 h159 h18 h21 h22
  clear hf hT
  subst hfT
  conv => arg 2; whnf
  simp only [h3, h6, h7, h8, h9, h34, h35, h36, h157, h158, h159, h18, h21, h22]
  clear h3 h6 h7 h8 h9 h34 h35 h36 h157 h158 h159 h18 h21 h22
  have f3 := kx.cell HE.out.1 HNC.out
  by_cases hxl : x < X1
  · skip
    as_aux_lemma =>
      have i5 : (x : Int) < (X1 : Int) := by omega
      have i6 : (y : Int) < 24 := by omega
      have i7 : (x : Int) < 80 := by omega
      have v0 := HIX.out.at_ y x (by omega) (by omega)
      have vf := HIX.out.free (y * 80 + x)
      have HNX : Hid (ArrAt (wr.setCell ⟨ib, y * 80 + x, none⟩ (.int .i64 ((plusR B Y0 X0 Y1 X1 y x y x : Int) + 1))) ib (plusR B Y0 X0 Y1 X1 y (x + 1))) := HIX.out.plus ⟨hy0, hyl⟩ ⟨hx0, hxl⟩ h24 h80
      have hnl : ((plusR B Y0 X0 Y1 X1 y x y x : Nat) : Int) < 3000 := by
        have := plus_le HB6.out Y0 X0 Y1 X1 y x y x
        omega
      generalize plusR B Y0 X0 Y1 X1 y x y x = n at v0 HNX hnl
      have hnl0 : (0 : Int) ≤ (n : Int) := by omega
      go_upto_region 46 with fail
      clear f3
      go_cut [] from 226 to 283 (fun wx => Kp (one ib) wr wx ∧ ArrAt wx ib (plusR B Y0 X0 Y1 X1 y (x + 1)))
      case first =>
        as_aux_lemma =>
          go_region
          all_goals go_wp2_with fail
          all_goals go_meet
          all_goals exact ⟨((Kp.refl (one ib) wr).drew.setCell (p := ⟨ib, y * 80 + x, none⟩) (fun _ => rfl) _), HNX.out.kp (Kp.refl no _).drew id⟩
      case rest =>
      obtain ⟨k46, hc46⟩ := hcut
      obtain ⟨w46, rfl⟩ : ∃ w46, w46 = wc := ⟨_, rfl⟩
      have HI46 : Hid (ArrAt w46 ib (plusR B Y0 X0 Y1 X1 y (x + 1))) := hc46
      have HK46 : Hid (Kp (one ib) w35 w46) := kx.trans k46
      obtain ⟨oR, oC, A, s1, s2, q0, hcall, u1, u2, u3, u4⟩ := HX.out w46 HK46.out x hx0 hxl
      have HCALL : Hid (∀ w'', Kp no w46 w'' → Calls Try.prog 15 #[.pointer (some ⟨sb, 0, none⟩), .agg #[.int .i64 (oR : Int), .int .i64 (oC : Int)]] w'' fun e w3 => e = .returned (.agg #[.int .i64 (A.t : Int), .int .i64 (A.l : Int), .int .i64 (A.b : Int), .int .i64 (A.r : Int)]) ∧ Kp no w'' w3) := hcall
      have s2' : w46.cell? ⟨fb, y * 560 + x * 7 + 1 + 1, none⟩ = some (.int .i64 (oC : Int)) := s2
      have hlq : qb < w46.heap.size := cell_lt q0
      have hlf : fb < w46.heap.size := cell_lt s1
      have HU : Hid (pt ≤ (A.b : Int) ∧ (A.t : Int) ≤ pbt ∧ pl ≤ (A.r : Int) ∧ (A.l : Int) ≤ pr) := ⟨u1, u2, u3, u4⟩
      clear u1 u2 u3 u4 k46 hc46 kx HIX v0 vf HNX hnl hnl0 hcall
      go_upto_region 47 with fail
      go_cut [23] from 226 to 283 (fun s23 wx => ∃ b23, s23 = .pointer (some ⟨b23, 0, none⟩) ∧ VarAr w46 A b23 wx)
      case first =>
        as_aux_lemma =>
          have HCM : Hid (∀ w'', Kp no w46 w'' → Calls Try.prog 15 #[.pointer (some ⟨sb, 0, none⟩), .agg #[.int .i64 (oR : Int), .int .i64 (oC : Int)]] w'' fun e w3 => e = .returned (.agg #[.int .i64 (A.t : Int), .int .i64 (A.l : Int), .int .i64 (A.b : Int), .int .i64 (A.r : Int)]) ∧ Kp no w'' w3 ∧ Kp no w46 w3) := fun w'' k'' => (HCALL.out w'' k'').mono fun e w3 h' => ⟨h'.1, h'.2, k''.trans h'.2⟩
          go_region_held3 (fun w' => w'.cell? ⟨qb, 0, none⟩ = some (.pointer (some ⟨sb, 0, none⟩)) ∧ w'.cell? ⟨fb, y * 560 + x * 7 + 1, none⟩ = some (.int .i64 (oR : Int)) ∧ w'.cell? ⟨fb, y * 560 + x * 7 + 1 + 1, none⟩ = some (.int .i64 (oC : Int)) ∧ w'.cell? ⟨fb, y * 560 + x * 7 + 2, none⟩ = some (.int .i64 (oC : Int)))
            (refine ⟨?_, ?_, ?_, ?_⟩ <;> (first | (refine Kp.cell (X := no) (w := w46) ?_ q0 id; (repeat first | with_reducible assumption | with_reducible exact Kp.refl _ _ | with_reducible refine Kp.drew ?_ | with_reducible refine Kp.alloc ?_ _ | with_reducible refine Kp.setCell ?_ (fun h => absurd h (by first | (simp <;> omega) | omega)) _); done) | (refine Kp.cell (X := no) (w := w46) ?_ s1 id; (repeat first | with_reducible assumption | with_reducible exact Kp.refl _ _ | with_reducible refine Kp.drew ?_ | with_reducible refine Kp.alloc ?_ _ | with_reducible refine Kp.setCell ?_ (fun h => absurd h (by first | (simp <;> omega) | omega)) _); done) | (refine Kp.cell (X := no) (w := w46) ?_ s2' id; (repeat first | with_reducible assumption | with_reducible exact Kp.refl _ _ | with_reducible refine Kp.drew ?_ | with_reducible refine Kp.alloc ?_ _ | with_reducible refine Kp.setCell ?_ (fun h => absurd h (by first | (simp <;> omega) | omega)) _); done) | (refine Kp.cell (X := no) (w := w46) ?_ s2 id; (repeat first | with_reducible assumption | with_reducible exact Kp.refl _ _ | with_reducible refine Kp.drew ?_ | with_reducible refine Kp.alloc ?_ _ | with_reducible refine Kp.setCell ?_ (fun h => absurd h (by first | (simp <;> omega) | omega)) _); done)))
            (first | (go_at_call 15; refine (HCM.out _ (by first | exact (Kp.refl no _).drew | exact Kp.refl no _ | exact ((Kp.refl no _).alloc _).drew)).mono ?_; rintro e wm ⟨rfl, km, kim⟩; have z6 := kim.size; first | (have m8 := alloc4d km; obtain ⟨m0, m1, m2, m3, m4, m5, m6, m7⟩ := m8; have z7 : w46.heap.size + 1 ≤ wm.heap.size := (by have z8 := km.size; simpa using z8); have z9 : w46.heap.size < wm.heap.size := (by omega); have z10 : w46.heap.size ≠ wm.heap.size := (by omega)) | skip))
          all_goals go_wp2_with fail
          all_goals go_meet
          all_goals first
            | with_reducible exact ⟨_, rfl, VarAr.after A km⟩
            | exact ⟨_, rfl, VarAr.before A km⟩
      case rest =>
      obtain ⟨b23, rfl, hv⟩ := hcut
      obtain ⟨w47, rfl⟩ : ∃ w47, w47 = wc := ⟨_, rfl⟩
      have h0 := hv.c0
      have h1 := hv.c1
      have h2 := hv.c2
      have h3 := hv.c3
      have HK47 : Hid (Kp (one ib) w35 w47) := HK46.out.trans (Kp.of_no hv.kp)
      have HI47 : Hid (ArrAt w47 ib (plusR B Y0 X0 Y1 X1 y (x + 1))) := HI46.out.kp hv.kp id
      have g4 := HK47.out.cell HE.out.2.1 HNC.out
      have g5 := HK47.out.cell HE.out.2.2.1 HNC.out
      have g6 := HK47.out.cell HE.out.2.2.2.1 HNC.out
      have g7 := HK47.out.cell HE.out.2.2.2.2 HNC.out
      have g5' : w47.cell? ⟨b18, 4 + 1, none⟩ = some (.int .i64 pl) := g5
      have g6' : w47.cell? ⟨b18, 4 + 2, none⟩ = some (.int .i64 pbt) := g6
      have g7' : w47.cell? ⟨b18, 4 + 3, none⟩ = some (.int .i64 pr) := g7
      obtain ⟨u1', u2', u3', u4'⟩ := HU.out
      have u1 : ¬ (A.b : Int) < pt := by omega
      have u2 : ¬ pbt < (A.t : Int) := by omega
      have u3 : ¬ (A.r : Int) < pl := by omega
      have u4 : ¬ pr < (A.l : Int) := by omega
      clear hv s1 s2 s2' q0 hlq hlf HCALL
      go_wp2_with fail
      refine ⟨⟨_, x + 1, rfl, by kernel_rfl, ⟨by kernel_rfl, by kernel_rfl, by kernel_rfl, by kernel_rfl, by kernel_rfl, by kernel_rfl, by kernel_rfl, by kernel_rfl, by kernel_rfl, by kernel_rfl, by kernel_rfl, by kernel_rfl, by kernel_rfl, Eq.trans (b := .int .i64 ((x : Int) + 1)) (by kernel_rfl) (by go_num), trivial⟩, by omega, by omega, HK47.out, HI47.out⟩, ?_⟩
      show X1 - (intOf (Value.int .i64 ((x : Int) + 1))).toNat < X1 - (intOf (Value.int .i64 (x : Int))).toNat
      simp [intOf]
      omega
  · have i5 : ¬ (x : Int) < (X1 : Int) := by omega
    have hx' : x = X1 := by omega
    have HCE : Hid (ArrAt wr ib (plusR B Y0 X0 Y1 X1 y X1)) := by have h := HIX.out; rw [hx'] at h; exact h
    clear HIX hx'
    go_wp2_with fail
    exact ⟨rfl, _, rfl, by kernel_rfl, ⟨by kernel_rfl, by kernel_rfl, by kernel_rfl, by kernel_rfl, by kernel_rfl, by kernel_rfl, by kernel_rfl, by kernel_rfl, by kernel_rfl, by kernel_rfl, by kernel_rfl, by kernel_rfl, by kernel_rfl, trivial⟩, kx, HCE.out⟩
end Go.Proofs.Qxb6500653a
