/-
  EveryPosition (3): the rectangles of a cell.
-/
import Derived.Test.Qxb6500653aEvrY
namespace Go.Proofs.Qxb6500653a
open Go.RowKit

/-- the loop's state -/
def EvJ (qb fb vb cb ib r cc b12 : Nat) (L : List Rc) (pp : Option Addr) (cp : Nat) (D : Nat → Nat → Nat) (w17 : World) (s34 s35 s36 : Value) (a' : Act) (wq : World) : Prop :=
  ∃ (T : Array Value) (j : Nat), a' = ⟨T, []⟩ ∧ T.size = 432 ∧ Knows T [(3, .pointer (some ⟨qb, 0, none⟩)), (6, .pointer (some ⟨fb, 0, none⟩)), (7, .pointer (some ⟨vb, 0, none⟩)), (8, .pointer (some ⟨cb, 0, none⟩)), (9, .pointer (some ⟨ib, 0, none⟩)), (34, s34), (35, s35), (36, s36), (10, .int .i64 (r : Int)), (11, .int .i64 (cc : Int)), (12, .pointer (some ⟨b12, 0, none⟩)), (69, .slice pp L.length cp), (70, .int .i64 (L.length : Int)), (71, .int .i64 (j : Int))] ∧ j ≤ L.length ∧ Kp (one cb) w17 wq ∧ ArrAt wq cb (fun y x => D y x + cntR (L.take j) y x)
/-- its end -/
def EdJ (qb fb vb cb ib r cc b12 : Nat) (L : List Rc) (pp : Option Addr) (cp : Nat) (D : Nat → Nat → Nat) (w17 : World) (s34 s35 s36 : Value) (T' : Array Value) (w' : World) : Prop := T'.size = 432 ∧ Knows T' [(3, .pointer (some ⟨qb, 0, none⟩)), (6, .pointer (some ⟨fb, 0, none⟩)), (7, .pointer (some ⟨vb, 0, none⟩)), (8, .pointer (some ⟨cb, 0, none⟩)), (9, .pointer (some ⟨ib, 0, none⟩)), (34, s34), (35, s35), (36, s36), (10, .int .i64 (r : Int)), (11, .int .i64 (cc : Int)), (12, .pointer (some ⟨b12, 0, none⟩)), (69, .slice pp L.length cp), (70, .int .i64 (L.length : Int))] ∧ Kp (one cb) w17 w' ∧ ArrAt w' cb (fun y x => D y x + cntR L y x)
set_option maxRecDepth 100000 in
set_option maxHeartbeats 400000000 in
theorem evr_j (qb fb vb cb ib r cc b12 : Nat) (L : List Rc) (pp : Option Addr) (cp : Nat) (D : Nat → Nat → Nat) (w17 : World) (s34 s35 s36 : Value) (Q : Exit → Act → World → Prop)
    (hL4 : L.length ≤ 4) (HD1 : Hid (∀ y x, D y x ≤ 1)) (HB : Hid (∀ R ∈ L, 0 ≤ R.y0 ∧ R.y0 < R.y1 ∧ R.y1 ≤ 24 ∧ 0 ≤ R.x0 ∧ R.x0 < R.x1 ∧ R.x1 ≤ 80)) (HG : Hid (0 < L.length → ∃ g, pp = some ⟨g, 0, none⟩ ∧ g ≠ cb ∧ RcsAt w17 g L))
    (HOW : Hid (∀ w', Kp (one cb) w17 w' → ∀ R ∈ L, ∀ y x : Nat, y < 24 → x < 80 → R.holds y x = true → w'.cell? ⟨fb, y * 560 + x * 7, none⟩ = some (.bool true) ∧ w'.cell? ⟨fb, y * 560 + x * 7 + 1, none⟩ = some (.int .i64 (r : Int)) ∧ w'.cell? ⟨fb, y * 560 + x * 7 + 2, none⟩ = some (.int .i64 (cc : Int))))
    (HA : Hid (∀ w', Kp (one cb) w17 w' → w'.cell? ⟨b12, 0, none⟩ = some (.int .i64 (r : Int)) ∧ w'.cell? ⟨b12, 1, none⟩ = some (.int .i64 (cc : Int))))
    (T : Array Value) (hT : T.size = 432) (hk : Knows T [(3, .pointer (some ⟨qb, 0, none⟩)), (6, .pointer (some ⟨fb, 0, none⟩)), (7, .pointer (some ⟨vb, 0, none⟩)), (8, .pointer (some ⟨cb, 0, none⟩)), (9, .pointer (some ⟨ib, 0, none⟩)), (34, s34), (35, s35), (36, s36), (10, .int .i64 (r : Int)), (11, .int .i64 (cc : Int)), (12, .pointer (some ⟨b12, 0, none⟩)), (69, .slice pp L.length cp), (70, .int .i64 (L.length : Int)), (71, .int .i64 0)]) (hC : ArrAt w17 cb D)
    (hexit : ∀ (T' : Array Value) (w' : World), EdJ qb fb vb cb ib r cc b12 L pp cp D w17 s34 s35 s36 T' w' → Q (.exit 6) ⟨T', []⟩ w') :
    Code.wp Try.prog (.loop cJ) Q ⟨T, []⟩ w17 := by
  refine wp_loop (EvJ qb fb vb cb ib r cc b12 L pp cp D w17 s34 s35 s36) (fun a' _ => L.length - (intOf (a'.tmps.getD 71 undef)).toNat) ⟨T, 0, rfl, hT, hk, Nat.zero_le _, Kp.refl _ _, hC.cong (fun y x _ _ => rfl)⟩ ?_
  clear hT hk hC T
  rintro a' wr ⟨T, j, rfl, hT, hk, hj, kj, hc⟩
  have HCJ : Hid (ArrAt wr cb (fun y x => D y x + cntR (L.take j) y x)) := hc
  clear hc
  obtain ⟨f, hfT, hf⟩ := lit432 T hT
  obtain ⟨h3, h6, h7, h8, h9, h34, h35, h36, h10, h11, h12, h69, h70, h71, _⟩ := hk
  rw [hf] at h3 h6 h7 h8 h9 h34 h35 h36 h10 h11 h12 h69 h70 h71
  clear hf hT
  subst hfT
  conv => arg 2; whnf
  simp only [h3, h6, h7, h8, h9, h34, h35, h36, h10, h11, h12, h69, h70, h71]
  clear h3 h6 h7 h8 h9 h34 h35 h36 h10 h11 h12 h69 h70 h71
  by_cases hjl : j < L.length
  · clear hexit
    as_aux_lemma =>
      obtain ⟨R, hR⟩ : ∃ R, L[j]? = some R := ⟨L[j], List.getElem?_eq_getElem hjl⟩
      have hRm : R ∈ L := List.mem_of_getElem? hR
      obtain ⟨g, hpp, hgn, hgr⟩ := HG.out (by omega)
      have hgc : ¬ one cb g := fun e => hgn e
      obtain ⟨d0', d1', d2', d3'⟩ := hgr.at_ j R hR
      obtain ⟨b1, b2, b3, b4, b5, b6⟩ := HB.out R hRm
      have HTK : Hid (∀ y x, cntR (L.take (j + 1)) y x = cntR (L.take j) y x + (if R.holds y x = true then 1 else 0)) := fun y x => cntR_take hR y x
      have HOR : Hid (∀ w', Kp (one cb) w17 w' → ∀ y x : Nat, y < 24 → x < 80 → R.holds y x = true → w'.cell? ⟨fb, y * 560 + x * 7, none⟩ = some (.bool true) ∧ w'.cell? ⟨fb, y * 560 + x * 7 + 1, none⟩ = some (.int .i64 (r : Int)) ∧ w'.cell? ⟨fb, y * 560 + x * 7 + 2, none⟩ = some (.int .i64 (cc : Int))) := fun w' k' => HOW.out w' k' R hRm
      have d0 := kj.cell d0' hgc
      have d1 := kj.cell d1' hgc
      have d2 := kj.cell d2' hgc
      have d3 := kj.cell d3' hgc
      obtain ⟨ry0, rx0, ry1, rx1⟩ := R
      simp only at d0 d1 d2 d3 b1 b2 b3 b4 b5 b6
      obtain ⟨Y0, rfl⟩ : ∃ n : Nat, ry0 = (n : Int) := ⟨ry0.toNat, by omega⟩
      obtain ⟨X0, rfl⟩ : ∃ n : Nat, rx0 = (n : Int) := ⟨rx0.toNat, by omega⟩
      obtain ⟨Y1, rfl⟩ : ∃ n : Nat, ry1 = (n : Int) := ⟨ry1.toNat, by omega⟩
      obtain ⟨X1, rfl⟩ : ∃ n : Nat, rx1 = (n : Int) := ⟨rx1.toNat, by omega⟩
      have HHD : Hid (∀ y x : Nat, Rc.holds ⟨(Y0 : Int), (X0 : Int), (Y1 : Int), (X1 : Int)⟩ y x = true ↔ Y0 ≤ y ∧ y < Y1 ∧ X0 ≤ x ∧ x < X1) := fun y x => by
        unfold Rc.holds
        simp
      obtain ⟨B, hB⟩ : ∃ B : Nat → Nat → Nat, B = fun y x => D y x + cntR (L.take j) y x := ⟨_, rfl⟩
      rw [← hB] at HCJ
      have HB6 : Hid (∀ y x, B y x ≤ 5) := fun y x => by
        have h1 := HD1.out y x
        have h2 : cntR (L.take j) y x ≤ (L.take j).length := List.countP_le_length
        have h3 : (L.take j).length ≤ L.length := by rw [List.length_take]; omega
        rw [hB]
        show _ + _ ≤ _
        omega
      have HBN : Hid (∀ y x, B y x + (if Y0 ≤ y ∧ y < Y1 ∧ X0 ≤ x ∧ x < X1 then 1 else 0) = D y x + cntR (L.take (j + 1)) y x) := fun y x => by
        rw [HTK.out y x, hB]
        show D y x + cntR (L.take j) y x + _ = _
        by_cases hh : Y0 ≤ y ∧ y < Y1 ∧ X0 ≤ x ∧ x < X1
        · rw [if_pos hh, if_pos ((HHD.out y x).2 hh)]; omega
        · rw [if_neg hh, if_neg (fun h => hh ((HHD.out y x).1 h))]; omega
      have hYY : Y0 < Y1 := by omega
      have h24 : Y1 ≤ 24 := by omega
      have hXX : X0 < X1 := by omega
      have h80 : X1 ≤ 80 := by omega
      obtain ⟨w19, hw19⟩ : ∃ w19, w19 = wr.alloc (.cells #[.int .i64 (Y0 : Int), .int .i64 (X0 : Int), .int .i64 (Y1 : Int), .int .i64 (X1 : Int)] 50) := ⟨_, rfl⟩
      obtain ⟨b14, hb14⟩ : ∃ b14, b14 = wr.heap.size := ⟨_, rfl⟩
      have e0 : w19.cell? ⟨b14, 0, none⟩ = some (.int .i64 (Y0 : Int)) := by rw [hw19, hb14]; simp
      have e1 : w19.cell? ⟨b14, 1, none⟩ = some (.int .i64 (X0 : Int)) := by rw [hw19, hb14]; simp
      have e2 : w19.cell? ⟨b14, 2, none⟩ = some (.int .i64 (Y1 : Int)) := by rw [hw19, hb14]; simp
      have e3 : w19.cell? ⟨b14, 3, none⟩ = some (.int .i64 (X1 : Int)) := by rw [hw19, hb14]; simp
      have HK19 : Hid (Kp (one cb) w17 w19) := by show Kp _ _ _; rw [hw19]; exact kj.alloc _
      have HC19 : Hid (ArrAt w19 cb B) := HCJ.out.kp (X := no) (by rw [hw19]; exact (Kp.refl no wr).alloc _) id
      have HNC : Hid (b14 ≠ cb) := by have := HCJ.out.lt; show _ ≠ _; omega
      have HS : Hid (∀ w', Kp (one cb) w19 w' → ∀ y x, Y0 ≤ y → y < Y1 → X0 ≤ x → x < X1 → w'.cell? ⟨fb, y * 560 + x * 7, none⟩ = some (.bool true) ∧ w'.cell? ⟨fb, y * 560 + x * 7 + 1, none⟩ = some (.int .i64 (r : Int)) ∧ w'.cell? ⟨fb, y * 560 + x * 7 + 2, none⟩ = some (.int .i64 (cc : Int))) := fun w' k' y x h1 h2 h3 h4 => HOR.out w' (HK19.out.trans k') y x (by omega) (by omega) ((HHD.out y x).2 ⟨h1, h2, h3, h4⟩)
      have i3 : (j : Int) < (L.length : Int) := by omega
      clear HCJ kj hB d0' d1' d2' d3' hgr hgn hgc HTK HOR HHD hR hRm b1 b2 b3 b4 b5 b6
      subst hpp
      go_upto_region 20 with fail
      rw [← hw19, ← hb14]
      clear hw19 hb14 d0 d1 d2 d3 i3
      have t1 : ¬ (24 : Int) < (Y1 : Int) := by omega
      have t2 : ¬ (80 : Int) < (X1 : Int) := by omega
      have t3 : ¬ (Y1 : Int) ≤ (Y0 : Int) := by omega
      have t4 : ¬ (X1 : Int) ≤ (X0 : Int) := by omega
      have t5 : ¬ (Y0 : Int) < 0 := by omega
      have t6 : ¬ (X0 : Int) < 0 := by omega
      go_upto_region 22 with fail
      clear t1 t2 t3 t4 t5 t6
      have E1 : Hid (w19.cell? ⟨b14, 1, none⟩ = some (.int .i64 (X0 : Int))) := e1
      have E2 : Hid (w19.cell? ⟨b14, 2, none⟩ = some (.int .i64 (Y1 : Int))) := e2
      have E3 : Hid (w19.cell? ⟨b14, 3, none⟩ = some (.int .i64 (X1 : Int))) := e3
      clear e1 e2 e3
      go_wp2_with fail
      refine evr_y qb fb vb cb ib r cc b12 b14 Y0 X0 Y1 X1 B w19 s34 s35 s36 (.slice (some ⟨g, 0, none⟩) L.length cp) (.int .i64 (L.length : Int)) (.int .i64 (j : Int)) _ (by omega) h24 h80 (by omega) HB6 HNC E1.out E2.out E3.out HS (fun w' k' => HA.out w' (HK19.out.trans k')) _ _ (by kernel_rfl) ⟨by kernel_rfl, by kernel_rfl, by kernel_rfl, by kernel_rfl, by kernel_rfl, by kernel_rfl, by kernel_rfl, by kernel_rfl, by kernel_rfl, by kernel_rfl, by kernel_rfl, by kernel_rfl, by kernel_rfl, by kernel_rfl, by kernel_rfl, by kernel_rfl, trivial⟩ (Kp.refl _ _) (HC19.out.plus_start Y0 X0 Y1 X1) ?_
      clear e0 E1 E2 E3 HC19 HS
      rintro T' w' ⟨hT, hk, k', hc'⟩
      have HCN : Hid (ArrAt w' cb (fun y x => D y x + cntR (L.take (j + 1)) y x)) := hc'.plus_all (fun y' x' _ _ => HBN.out y' x')
      have HKN : Hid (Kp (one cb) w17 w') := HK19.out.trans k'
      clear hc' k' HBN HB6 HNC HK19 hYY h24 hXX h80
      obtain ⟨f', hfT, hf⟩ := lit432 T' hT
      obtain ⟨h3, h6, h7, h8, h9, h34, h35, h36, h10, h11, h12, h69, h70, h71, h14, _⟩ := hk
      rw [hf] at h3 h6 h7 h8 h9 h34 h35 h36 h10 h11 h12 h69 h70 h71 h14
      clear hf hT
      subst hfT
      simp only [h3, h6, h7, h8, h9, h34, h35, h36, h10, h11, h12, h69, h70, h71, h14]
      clear h3 h6 h7 h8 h9 h34 h35 h36 h10 h11 h12 h69 h70 h71 h14
      go_wp2_with fail
      refine ⟨⟨_, j + 1, rfl, by kernel_rfl, ⟨by kernel_rfl, by kernel_rfl, by kernel_rfl, by kernel_rfl, by kernel_rfl, by kernel_rfl, by kernel_rfl, by kernel_rfl, by kernel_rfl, by kernel_rfl, by kernel_rfl, by kernel_rfl, by kernel_rfl, Eq.trans (b := .int .i64 ((j : Int) + 1)) (by kernel_rfl) (by go_num), trivial⟩, by omega, HKN.out, HCN.out⟩, ?_⟩
      show L.length - (intOf (Value.int .i64 ((j : Int) + 1))).toNat < L.length - (intOf (Value.int .i64 (j : Int))).toNat
      simp [intOf]
      omega
  · have i3 : ¬ (j : Int) < (L.length : Int) := by omega
    have HCE : Hid (ArrAt wr cb (fun y x => D y x + cntR L y x)) := HCJ.out.cong (fun y x _ _ => by rw [List.take_of_length_le (by omega)])
    clear HCJ
    go_wp2_with fail
    exact ⟨by kernel_rfl, ⟨by kernel_rfl, by kernel_rfl, by kernel_rfl, by kernel_rfl, by kernel_rfl, by kernel_rfl, by kernel_rfl, by kernel_rfl, by kernel_rfl, by kernel_rfl, by kernel_rfl, by kernel_rfl, by kernel_rfl, trivial⟩, kj, HCE.out⟩
end Go.Proofs.Qxb6500653a
