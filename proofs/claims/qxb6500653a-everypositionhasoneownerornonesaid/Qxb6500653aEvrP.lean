/-
  EveryPosition (3): the panes.
-/
import Derived.Test.Qxb6500653aEvrPy
namespace Go.Proofs.Qxb6500653a
open Go.RowKit

/-- the loop's state -/
def EvP (qb fb vb cb ib : Nat) (L : List Pn) (pp : Option Addr) (cp : Nat) (w33 : World) (s34 s35 s36 : Value) (a' : Act) (wq : World) : Prop :=
  ∃ (T : Array Value) (j : Nat), a' = ⟨T, []⟩ ∧ T.size = 432 ∧ Knows T [(3, .pointer (some ⟨qb, 0, none⟩)), (6, .pointer (some ⟨fb, 0, none⟩)), (7, .pointer (some ⟨vb, 0, none⟩)), (8, .pointer (some ⟨cb, 0, none⟩)), (9, .pointer (some ⟨ib, 0, none⟩)), (34, s34), (35, s35), (36, s36), (157, .slice pp L.length cp), (158, .int .i64 (L.length : Int)), (159, .int .i64 (j : Int))] ∧ j ≤ L.length ∧ Kp (one ib) w33 wq ∧ ArrAt wq ib (fun y x => cntP (L.take j) y x)
/-- its end -/
def EdP (qb fb vb cb ib : Nat) (L : List Pn) (pp : Option Addr) (cp : Nat) (w33 : World) (s34 s35 s36 : Value) (T' : Array Value) (w' : World) : Prop := T'.size = 432 ∧ Knows T' [(3, .pointer (some ⟨qb, 0, none⟩)), (6, .pointer (some ⟨fb, 0, none⟩)), (7, .pointer (some ⟨vb, 0, none⟩)), (8, .pointer (some ⟨cb, 0, none⟩)), (9, .pointer (some ⟨ib, 0, none⟩)), (34, s34), (35, s35), (36, s36), (157, .slice pp L.length cp), (158, .int .i64 (L.length : Int))] ∧ Kp (one ib) w33 w' ∧ ArrAt w' ib (fun y x => cntP L y x)
set_option maxRecDepth 100000 in
set_option maxHeartbeats 400000000 in
theorem evr_p (sb lb : Nat) (S : Sh) (V : Vw) (F : Nat → Nat → Spot) (w8 : World) (qb fb vb cb ib : Nat) (L : List Pn) (pp : Option Addr) (cp : Nat) (w33 : World) (s34 s35 s36 : Value) (Q : Exit → Act → World → Prop)
    (HG8 : Hid (GameAt w8 qb sb lb S V)) (HF8 : Hid (FrameAt w8 fb F)) (HFO : Hid (FOwn F S V)) (HIB : Hid (ib ≠ cb ∧ w8.heap.size ≤ ib)) (HK33 : Hid (Kp no w8 w33))
    (HVW : Hid (w33.cell? ⟨vb, 0, none⟩ = some (.int .i64 (V.fr : Int)) ∧ w33.cell? ⟨vb, 1, none⟩ = some (.int .i64 (V.fc : Int)) ∧ w33.cell? ⟨vb, 2, none⟩ = some (.int .i64 (V.sr : Int)) ∧ w33.cell? ⟨vb, 3, none⟩ = some (.int .i64 (V.sc : Int)))) (HVI : Hid (vb ≠ ib))
    (hL4 : L.length ≤ 4) (HPO : Hid (∀ P ∈ L, PaneOk S V P)) (HGP : Hid (0 < L.length → ∃ g, pp = some ⟨g, 0, none⟩ ∧ g ≠ ib ∧ PnsAt w33 g L))
    (T : Array Value) (hT : T.size = 432) (hk : Knows T [(3, .pointer (some ⟨qb, 0, none⟩)), (6, .pointer (some ⟨fb, 0, none⟩)), (7, .pointer (some ⟨vb, 0, none⟩)), (8, .pointer (some ⟨cb, 0, none⟩)), (9, .pointer (some ⟨ib, 0, none⟩)), (34, s34), (35, s35), (36, s36), (157, .slice pp L.length cp), (158, .int .i64 (L.length : Int)), (159, .int .i64 0)]) (hI : ArrAt w33 ib (fun _ _ => 0))
    (hexit : ∀ (T' : Array Value) (w' : World), EdP qb fb vb cb ib L pp cp w33 s34 s35 s36 T' w' → Q (.exit 12) ⟨T', []⟩ w') :
    Code.wp Try.prog (.loop cP) Q ⟨T, []⟩ w33 := by
  refine wp_exit hexit ?_
  clear hexit
  refine wp_loop (EvP qb fb vb cb ib L pp cp w33 s34 s35 s36) (fun a' _ => L.length - (intOf (a'.tmps.getD 159 undef)).toNat) ⟨T, 0, rfl, hT, hk, Nat.zero_le _, Kp.refl _ _, hI.cong (fun y x _ _ => rfl)⟩ ?_
  clear hT hk hI T
  rintro a' wr ⟨T, j, rfl, hT, hk, hj, kj, hc⟩
  have HIJ : Hid (ArrAt wr ib (fun y x => cntP (L.take j) y x)) := hc
  clear hc
  obtain ⟨f, hfT, hf⟩ := lit432 T hT
  obtain ⟨h3, h6, h7, h8, h9, h34, h35, h36, h157, h158, h159, _⟩ := hk
  rw [hf] at h3 h6 h7 h8 h9 h34 h35 h36 h157 h158 h159
  clear hf hT
  subst hfT
  conv => arg 2; whnf
  simp only [h3, h6, h7, h8, h9, h34, h35, h36, h157, h158, h159]
  clear h3 h6 h7 h8 h9 h34 h35 h36 h157 h158 h159
  by_cases hjl : j < L.length
  · skip
    as_aux_lemma =>
      obtain ⟨R, hR⟩ : ∃ R, L[j]? = some R := ⟨L[j], List.getElem?_eq_getElem hjl⟩
      have hRm : R ∈ L := List.mem_of_getElem? hR
      obtain ⟨g, hpp, hgn, hgr⟩ := HGP.out (by omega)
      have hgc : ¬ one ib g := fun e => hgn e
      obtain ⟨d0', d1', d2', d3', d4', d5', d6', d7'⟩ := hgr.at_ j R hR
      have HTK : Hid (∀ y x, cntP (L.take (j + 1)) y x = cntP (L.take j) y x + (if R.holds y x = true then 1 else 0)) := fun y x => cntP_take hR y x
      obtain ⟨bi, bk, Y0, Y1, X0, X1, hbi, hbk, e1, e2, e3, e4, B1, B2⟩ := (HPO.out R hRm).ex
      have d0 := kj.cell d0' hgc
      have d1 := kj.cell d1' hgc
      have d2 := kj.cell d2' hgc
      have d3 := kj.cell d3' hgc
      have d4 := kj.cell d4' hgc
      have d5 := kj.cell d5' hgc
      have d6 := kj.cell d6' hgc
      have d7 := kj.cell d7' hgc
      obtain ⟨ry0, rx0, ry1, rx1, pt, pl, pbt, pr⟩ := R
      simp only at d0 d1 d2 d3 d4 d5 d6 d7 e1 e2 e3 e4 B1 B2
      subst e1 e2 e3 e4
      have HB1 : Hid (BandOk 64 24 V.fr V.sr (rowSz S) bi Y0 Y1 pt pbt) := B1
      have HB2 : Hid (BandOk 26 80 V.fc V.sc (colSz S) bk X0 X1 pl pr) := B2
      have HHD : Hid (∀ y x : Nat, Pn.holds ⟨(Y0 : Int), (X0 : Int), (Y1 : Int), (X1 : Int), pt, pl, pbt, pr⟩ y x = true ↔ Y0 ≤ y ∧ y < Y1 ∧ X0 ≤ x ∧ x < X1) := fun y x => by
        unfold Pn.holds
        simp
      obtain ⟨B, hB⟩ : ∃ B : Nat → Nat → Nat, B = fun y x => cntP (L.take j) y x := ⟨_, rfl⟩
      rw [← hB] at HIJ
      have HB6 : Hid (∀ y x, B y x ≤ 5) := fun y x => by
        have h2 : cntP (L.take j) y x ≤ (L.take j).length := List.countP_le_length
        have h3 : (L.take j).length ≤ L.length := by rw [List.length_take]; omega
        rw [hB]
        show cntP (L.take j) y x ≤ 5
        omega
      have HBN : Hid (∀ y x, B y x + (if Y0 ≤ y ∧ y < Y1 ∧ X0 ≤ x ∧ x < X1 then 1 else 0) = cntP (L.take (j + 1)) y x) := fun y x => by
        rw [HTK.out y x, hB]
        show cntP (L.take j) y x + _ = _
        by_cases hh : Y0 ≤ y ∧ y < Y1 ∧ X0 ≤ x ∧ x < X1
        · rw [if_pos hh, if_pos ((HHD.out y x).2 hh)]
        · rw [if_neg hh, if_neg (fun h => hh ((HHD.out y x).1 h))]
      have HBB : Hid (Y0 < Y1 ∧ Y1 ≤ 24 ∧ X0 < X1 ∧ X1 ≤ 80) := ⟨B1.lh, B1.him, B2.lh, B2.him⟩
      have HAR : Hid (∀ y x : Nat, Y0 ≤ y → y < Y1 → X0 ≤ x → x < X1 → pt ≤ ((areaOf S (F y x).oR (F y x).oC).b : Int) ∧ ((areaOf S (F y x).oR (F y x).oC).t : Int) ≤ pbt ∧ pl ≤ ((areaOf S (F y x).oR (F y x).oC).r : Int) ∧ ((areaOf S (F y x).oR (F y x).oC).l : Int) ≤ pr) := fun y x h1 h2 h3 h4 => by
        have hb := HBB.out
        obtain ⟨g1, g2, g3⟩ := B1.in_ y h1 h2
        obtain ⟨g4, g5, g6⟩ := B2.in_ x h3 h4
        have g1' : pt ≤ lnR S V y := g1
        have g2' : lnR S V y ≤ pbt := g2
        have g3' : 0 ≤ lnR S V y := g3
        have g4' : pl ≤ lnC S V x := g4
        have g5' : lnC S V x ≤ pr := g5
        have g6' : 0 ≤ lnC S V x := g6
        have ho : ownsAt S V y x = true := ownsAt_iff.2 ⟨g3', g6'⟩
        rw [HFO.out.row y x (by omega) ho, HFO.out.col y x (by omega) ho]
        have ha := own_area HG8.out.ok (lnR S V y).toNat (lnC S V x).toNat
        unfold rowAt colAt
        omega
      obtain ⟨frR, hfrR⟩ : ∃ b, decide (pbt < (V.fr : Int)) = b := ⟨_, rfl⟩
      obtain ⟨frC, hfrC⟩ : ∃ b, decide (pr < (V.fc : Int)) = b := ⟨_, rfl⟩
      have HFRR : Hid ((frR = true → (Y0 : Int) = 0) ∧ (frR = false → (V.sr : Int) ≤ pt)) := by
        rcases (show bi = 0 ∨ bi = 1 by omega) with e | e
        · obtain ⟨z1, z2⟩ := B1.zero e
          exact ⟨fun _ => by omega, fun hh => by rw [← hfrR] at hh; exact absurd z2 (of_decide_eq_false hh)⟩
        · obtain ⟨z1, z2⟩ := B1.one e
          exact ⟨fun hh => by rw [← hfrR] at hh; have := of_decide_eq_true hh; omega, fun _ => by omega⟩
      have HFRC : Hid ((frC = true → (X0 : Int) = 0) ∧ (frC = false → (V.sc : Int) ≤ pl)) := by
        rcases (show bk = 0 ∨ bk = 1 by omega) with e | e
        · obtain ⟨z1, z2⟩ := B2.zero e
          exact ⟨fun _ => by omega, fun hh => by rw [← hfrC] at hh; exact absurd z2 (of_decide_eq_false hh)⟩
        · obtain ⟨z1, z2⟩ := B2.one e
          exact ⟨fun hh => by rw [← hfrC] at hh; have := of_decide_eq_true hh; omega, fun _ => by omega⟩
      obtain ⟨w34, hw34⟩ : ∃ w34, w34 = wr.alloc (.cells #[.int .i64 (Y0 : Int), .int .i64 (X0 : Int), .int .i64 (Y1 : Int), .int .i64 (X1 : Int), .int .i64 pt, .int .i64 pl, .int .i64 pbt, .int .i64 pr] 58) := ⟨_, rfl⟩
      obtain ⟨b18, hb18⟩ : ∃ b18, b18 = wr.heap.size := ⟨_, rfl⟩
      have e0 : w34.cell? ⟨b18, 0, none⟩ = some (.int .i64 (Y0 : Int)) := by rw [hw34, hb18]; simp
      have e1 : w34.cell? ⟨b18, 1, none⟩ = some (.int .i64 (X0 : Int)) := by rw [hw34, hb18]; simp
      have e2 : w34.cell? ⟨b18, 2, none⟩ = some (.int .i64 (Y1 : Int)) := by rw [hw34, hb18]; simp
      have e3 : w34.cell? ⟨b18, 3, none⟩ = some (.int .i64 (X1 : Int)) := by rw [hw34, hb18]; simp
      have e4 : w34.cell? ⟨b18, 4, none⟩ = some (.int .i64 pt) := by rw [hw34, hb18]; simp
      have e5 : w34.cell? ⟨b18, 5, none⟩ = some (.int .i64 pl) := by rw [hw34, hb18]; simp
      have e6 : w34.cell? ⟨b18, 6, none⟩ = some (.int .i64 pbt) := by rw [hw34, hb18]; simp
      have e7 : w34.cell? ⟨b18, 7, none⟩ = some (.int .i64 pr) := by rw [hw34, hb18]; simp
      have HK34 : Hid (Kp (one ib) w33 w34) := by show Kp _ _ _; rw [hw34]; exact kj.alloc _
      have HI34 : Hid (ArrAt w34 ib B) := HIJ.out.kp (X := no) (by rw [hw34]; exact (Kp.refl no wr).alloc _) id
      have HNC : Hid (b18 ≠ ib) := by have := HIJ.out.lt; show _ ≠ _; omega
      have i3 : (j : Int) < (L.length : Int) := by omega
      clear HIJ kj hB d0' d1' d2' d3' d4' d5' d6' d7' hgr hgn hgc HTK HHD hR hRm hbi hbk B1 B2
      subst hpp
      go_upto_region 35 with fail
      rw [← hw34, ← hb18]
      clear hw34 hb18 d0 d1 d2 d3 d4 d5 d6 d7 i3
      have x0 := HK34.out.cell HVW.out.1 HVI.out
      have x1 := HK34.out.cell HVW.out.2.1 HVI.out
      have x2 := HK34.out.cell HVW.out.2.2.1 HVI.out
      have x3 := HK34.out.cell HVW.out.2.2.2 HVI.out
      go_cut [19, 20] from 160 to 284 (fun s19 s20 wx => s19 = .bool frR ∧ s20 = .bool frC ∧ Kp no w34 wx)
      case first =>
        as_aux_lemma =>
          have m0 : ∀ p : KpOf w34, p.to.cell? ⟨b18, 4 + 2, none⟩ = some (.int .i64 pbt) := fun p => p.h.cell (p := ⟨b18, 6, none⟩) e6 id
          have m0' : ∀ p : KpOf w34, p.to.cell? ⟨b18, 6, none⟩ = some (.int .i64 pbt) := m0
          have m1 : ∀ p : KpOf w34, p.to.cell? ⟨b18, 4 + 3, none⟩ = some (.int .i64 pr) := fun p => p.h.cell (p := ⟨b18, 7, none⟩) e7 id
          have m1' : ∀ p : KpOf w34, p.to.cell? ⟨b18, 7, none⟩ = some (.int .i64 pr) := m1
          have m2 : ∀ p : KpOf w34, p.to.cell? ⟨vb, 0, none⟩ = some (.int .i64 (V.fr : Int)) := fun p => p.h.cell x0 id
          have m3 : ∀ p : KpOf w34, p.to.cell? ⟨vb, 1, none⟩ = some (.int .i64 (V.fc : Int)) := fun p => p.h.cell x1 id
          refine wp_region_kp (by kernel_rfl) (by kernel_rfl) ?_
          repeat (go_big_quiet_step (fail))
          refine wpQuiet_nil ?_
          intro _ hw'
          obtain ⟨⟨wq, kq⟩, hw''⟩ := hw'
          subst hw''
          go_wp2_with fail
          go_meet
          exact ⟨rfl, rfl, kq⟩
      case rest =>
      obtain ⟨rfl, rfl, k35⟩ := hcut
      obtain ⟨w35, rfl⟩ : ∃ w35, w35 = wc := ⟨_, rfl⟩
      have HK35 : Hid (Kp (one ib) w33 w35) := HK34.out.trans (Kp.of_no k35)
      have HI35 : Hid (ArrAt w35 ib B) := HI34.out.kp k35 id
      have HE : Hid (w35.cell? ⟨b18, 0, none⟩ = some (.int .i64 (Y0 : Int)) ∧ w35.cell? ⟨b18, 1, none⟩ = some (.int .i64 (X0 : Int)) ∧ w35.cell? ⟨b18, 2, none⟩ = some (.int .i64 (Y1 : Int)) ∧ w35.cell? ⟨b18, 3, none⟩ = some (.int .i64 (X1 : Int)) ∧ w35.cell? ⟨b18, 4, none⟩ = some (.int .i64 pt) ∧ w35.cell? ⟨b18, 5, none⟩ = some (.int .i64 pl) ∧ w35.cell? ⟨b18, 6, none⟩ = some (.int .i64 pbt) ∧ w35.cell? ⟨b18, 7, none⟩ = some (.int .i64 pr)) := ⟨k35.cell e0 id, k35.cell e1 id, k35.cell e2 id, k35.cell e3 id, k35.cell e4 id, k35.cell e5 id, k35.cell e6 id, k35.cell e7 id⟩
      have HXX : Hid (w35.cell? ⟨vb, 2, none⟩ = some (.int .i64 (V.sr : Int)) ∧ w35.cell? ⟨vb, 3, none⟩ = some (.int .i64 (V.sc : Int))) := ⟨k35.cell x2 id, k35.cell x3 id⟩
      clear k35 e0 e1 e2 e3 e4 e5 e6 e7 x0 x1 x2 x3 hfrR hfrC HI34 HK34
      go_upto_region 36 with fail
      go_cut [196] from 160 to 284 (fun s196 wx => s196 = .bool false ∧ wx = w35)
      case first =>
        as_aux_lemma =>
          have f4 := HE.out.2.2.2.2.1
          have f5 := HE.out.2.2.2.2.2.1
          have f4' : w35.cell? ⟨b18, 4 + 0, none⟩ = some (.int .i64 pt) := f4
          have f5' : w35.cell? ⟨b18, 4 + 1, none⟩ = some (.int .i64 pl) := f5
          have g2 := HXX.out.1
          have g3 := HXX.out.2
          cases frR with
          | true =>
            cases frC with
            | true =>
              go_wp2_with fail
              go_meet
              exact ⟨rfl, rfl⟩
            | false =>
              have t1' := HFRC.out.2 rfl
              have t1 : ¬ pl < (V.sc : Int) := by omega
              go_wp2_with fail
              go_meet
              exact ⟨rfl, rfl⟩
          | false =>
            have t2' := HFRR.out.2 rfl
            have t2 : ¬ pt < (V.sr : Int) := by omega
            cases frC with
            | true =>
              go_wp2_with fail
              go_meet
              exact ⟨rfl, rfl⟩
            | false =>
              have t1' := HFRC.out.2 rfl
              have t1 : ¬ pl < (V.sc : Int) := by omega
              go_wp2_with fail
              go_meet
              exact ⟨rfl, rfl⟩
      case rest =>
      obtain ⟨rfl, hww⟩ := hcut
      obtain rfl := hww.symm
      clear hww
      go_upto_region 38 with fail
      go_cut [212] from 160 to 284 (fun s212 wx => s212 = .bool false ∧ wx = w35)
      case first =>
        as_aux_lemma =>
          have f0 := HE.out.1
          have f1 := HE.out.2.1
          cases frR with
          | true =>
            have t2 := HFRR.out.1 rfl
            rw [t2] at f0
            cases frC with
            | true =>
              have t1 := HFRC.out.1 rfl
              rw [t1] at f1
              clear t1 t2
              go_wp2_with fail
              go_meet
              exact ⟨rfl, rfl⟩
            | false =>
              clear t2
              go_wp2_with fail
              go_meet
              exact ⟨rfl, rfl⟩
          | false =>
            cases frC with
            | true =>
              have t1 := HFRC.out.1 rfl
              rw [t1] at f1
              clear t1
              go_wp2_with fail
              go_meet
              exact ⟨rfl, rfl⟩
            | false =>
              go_wp2_with fail
              go_meet
              exact ⟨rfl, rfl⟩
      case rest =>
      obtain ⟨rfl, hww⟩ := hcut
      obtain rfl := hww.symm
      clear hww
      have f0 := HE.out.1
      go_upto_region 40 with fail
      go_wp2_with fail
      clear f0
      have HE4 : Hid (w35.cell? ⟨b18, 3, none⟩ = some (.int .i64 (X1 : Int)) ∧ w35.cell? ⟨b18, 4, none⟩ = some (.int .i64 pt) ∧ w35.cell? ⟨b18, 5, none⟩ = some (.int .i64 pl) ∧ w35.cell? ⟨b18, 6, none⟩ = some (.int .i64 pbt) ∧ w35.cell? ⟨b18, 7, none⟩ = some (.int .i64 pr)) := HE.out.2.2.2
      have HX : Hid (∀ w', Kp (one ib) w35 w' → ∀ y x : Nat, Y0 ≤ y → y < Y1 → X0 ≤ x → x < X1 → (∃ (oR oC : Nat) (A : Ar), w'.cell? ⟨fb, y * 560 + x * 7 + 1, none⟩ = some (.int .i64 (oR : Int)) ∧ w'.cell? ⟨fb, y * 560 + x * 7 + 2, none⟩ = some (.int .i64 (oC : Int)) ∧ w'.cell? ⟨qb, 0, none⟩ = some (.pointer (some ⟨sb, 0, none⟩)) ∧ (∀ w'', Kp no w' w'' → Calls Try.prog 15 #[.pointer (some ⟨sb, 0, none⟩), .agg #[.int .i64 (oR : Int), .int .i64 (oC : Int)]] w'' fun e w3 => e = .returned (.agg #[.int .i64 (A.t : Int), .int .i64 (A.l : Int), .int .i64 (A.b : Int), .int .i64 (A.r : Int)]) ∧ Kp no w'' w3) ∧ pt ≤ (A.b : Int) ∧ (A.t : Int) ≤ pbt ∧ pl ≤ (A.r : Int) ∧ (A.l : Int) ≤ pr)) := fun w' k' y x h1 h2 h3 h4 => by
        have hb := HBB.out
        have kk : Kp no w8 w' := HK33.out.trans2 (HK35.out.trans k') (fun q hq e => by have e' : q = ib := e; have := HIB.out.2; omega)
        have hs := ((HF8.out.kp kk id).line y (by omega)).at_ x (by omega)
        have hg := HG8.out.on kk
        obtain ⟨u1, u2, u3, u4⟩ := HAR.out y x h1 h2 h3 h4
        exact ⟨(F y x).oR, (F y x).oC, areaOf S (F y x).oR (F y x).oC, hs.c1, hs.c2, hg.q0, fun w'' k'' => by
          have hg' := hg.on k''
          exact areaOf_at w'' sb S hg'.sh hg'.ok (F y x).oR (F y x).oC, u1, u2, u3, u4⟩
      refine evr_py sb pt pl pbt pr qb fb vb cb ib b18 Y0 X0 Y1 X1 B w35 s34 s35 s36 (.slice (some ⟨g, 0, none⟩) L.length cp) (.int .i64 (L.length : Int)) (.int .i64 (j : Int)) _ (by have := HBB.out; omega) HBB.out.2.1 HBB.out.2.2.2 (by have := HBB.out; omega) HB6 HNC HE.out.2.1 HE.out.2.2.1 HE4 HX _ _ (by kernel_rfl) ⟨by kernel_rfl, by kernel_rfl, by kernel_rfl, by kernel_rfl, by kernel_rfl, by kernel_rfl, by kernel_rfl, by kernel_rfl, by kernel_rfl, by kernel_rfl, by kernel_rfl, by kernel_rfl, by kernel_rfl, trivial⟩ (Kp.refl _ _) (HI35.out.plus_start Y0 X0 Y1 X1) ?_
      clear HI35 HX HE4
      rintro T' w' ⟨hT, hk, k', hc'⟩
      have HIN : Hid (ArrAt w' ib (fun y x => cntP (L.take (j + 1)) y x)) := hc'.plus_all (fun y' x' _ _ => HBN.out y' x')
      have HKN : Hid (Kp (one ib) w33 w') := HK35.out.trans k'
      clear hc' k' HBN HB6 HNC HK35 HE HXX HAR HB1 HB2 HFRR HFRC
      obtain ⟨f', hfT, hf⟩ := lit432 T' hT
      obtain ⟨h3, h6, h7, h8, h9, h34, h35, h36, h157, h158, h159, h18, _⟩ := hk
      rw [hf] at h3 h6 h7 h8 h9 h34 h35 h36 h157 h158 h159 h18
      clear hf hT
      subst hfT
      simp only [h3, h6, h7, h8, h9, h34, h35, h36, h157, h158, h159, h18]
      clear h3 h6 h7 h8 h9 h34 h35 h36 h157 h158 h159 h18
      go_wp2_with fail
      refine ⟨⟨_, j + 1, rfl, by kernel_rfl, ⟨by kernel_rfl, by kernel_rfl, by kernel_rfl, by kernel_rfl, by kernel_rfl, by kernel_rfl, by kernel_rfl, by kernel_rfl, by kernel_rfl, by kernel_rfl, Eq.trans (b := .int .i64 ((j : Int) + 1)) (by kernel_rfl) (by go_num), trivial⟩, by omega, HKN.out, HIN.out⟩, ?_⟩
      show L.length - (intOf (Value.int .i64 ((j : Int) + 1))).toNat < L.length - (intOf (Value.int .i64 (j : Int))).toNat
      simp [intOf]
      omega
  · have i3 : ¬ (j : Int) < (L.length : Int) := by omega
    have HIE : Hid (ArrAt wr ib (fun y x => cntP L y x)) := HIJ.out.cong (fun y x _ _ => by rw [List.take_of_length_le (by omega)])
    clear HIJ
    go_wp2_with fail
    exact ⟨rfl, _, rfl, by kernel_rfl, ⟨by kernel_rfl, by kernel_rfl, by kernel_rfl, by kernel_rfl, by kernel_rfl, by kernel_rfl, by kernel_rfl, by kernel_rfl, by kernel_rfl, by kernel_rfl, trivial⟩, kj, HIE.out⟩
end Go.Proofs.Qxb6500653a
