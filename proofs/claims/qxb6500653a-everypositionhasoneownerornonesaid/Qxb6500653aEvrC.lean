/-
  EveryPosition (3): the cells of a row.
-/
import Derived.Test.Qxb6500653aEvrQ
namespace Go.Proofs.Qxb6500653a
open Go.RowKit

/-- the loop's state -/
def EvC (r : Nat) (qb _sb _lb fb vb cb ib : Nat) (S : Sh) (V : Vw) (_F : Nat → Nat → Spot) (w8 : World) (s34 s35 s36 : Value) (a' : Act) (wq : World) : Prop :=
  ∃ (T : Array Value) (cc : Nat), a' = ⟨T, []⟩ ∧ T.size = 432 ∧ Knows T [(3, .pointer (some ⟨qb, 0, none⟩)), (6, .pointer (some ⟨fb, 0, none⟩)), (7, .pointer (some ⟨vb, 0, none⟩)), (8, .pointer (some ⟨cb, 0, none⟩)), (9, .pointer (some ⟨ib, 0, none⟩)), (34, s34), (35, s35), (36, s36), (10, .int .i64 (r : Int)), (11, .int .i64 (cc : Int))] ∧ cc ≤ 26 ∧ Kp no w8 wq ∧ ArrAt wq cb (doneR S V r cc) ∧ ArrAt wq ib (fun _ _ => 0)
/-- its end -/
def EdC (r : Nat) (qb _sb _lb fb vb cb ib : Nat) (S : Sh) (V : Vw) (_F : Nat → Nat → Spot) (w8 : World) (s34 s35 s36 : Value) (T' : Array Value) (w' : World) : Prop := T'.size = 432 ∧ Knows T' [(3, .pointer (some ⟨qb, 0, none⟩)), (6, .pointer (some ⟨fb, 0, none⟩)), (7, .pointer (some ⟨vb, 0, none⟩)), (8, .pointer (some ⟨cb, 0, none⟩)), (9, .pointer (some ⟨ib, 0, none⟩)), (34, s34), (35, s35), (36, s36), (10, .int .i64 (r : Int))] ∧ Kp no w8 w' ∧ ArrAt w' cb (doneR S V (r + 1) 0) ∧ ArrAt w' ib (fun _ _ => 0)
set_option maxRecDepth 100000 in
set_option maxHeartbeats 400000000 in
theorem evr_c (r : Nat) (qb sb lb fb vb cb ib : Nat) (S : Sh) (V : Vw) (F : Nat → Nat → Spot) (w8 : World) (s34 s35 s36 : Value) (Q : Exit → Act → World → Prop) (HG8 : Hid (GameAt w8 qb sb lb S V)) (HCH : Hid (Cached w8 lb S V)) (HF8 : Hid (FrameAt w8 fb F)) (HFO : Hid (FOwn F S V)) (HCB : Hid (w8.heap.size ≤ cb)) (HIB : Hid (ib ≠ cb ∧ w8.heap.size ≤ ib)) (hrl : r < 64)
    (T : Array Value) (w : World) (hT : T.size = 432) (hk : Knows T [(3, .pointer (some ⟨qb, 0, none⟩)), (6, .pointer (some ⟨fb, 0, none⟩)), (7, .pointer (some ⟨vb, 0, none⟩)), (8, .pointer (some ⟨cb, 0, none⟩)), (9, .pointer (some ⟨ib, 0, none⟩)), (34, s34), (35, s35), (36, s36), (10, .int .i64 (r : Int)), (11, .int .i64 0)]) (hK : Kp no w8 w) (hC : ArrAt w cb (doneR S V r 0)) (hI : ArrAt w ib (fun _ _ => 0))
    (hexit : ∀ (T' : Array Value) (w' : World), EdC r qb sb lb fb vb cb ib S V F w8 s34 s35 s36 T' w' → Q (.exit 4) ⟨T', []⟩ w') :
    Code.wp Try.prog (.loop cC) Q ⟨T, []⟩ w := by
  refine wp_exit hexit ?_
  clear hexit
  refine wp_loop (EvC r qb sb lb fb vb cb ib S V F w8 s34 s35 s36) (fun a' _ => 26 - (intOf (a'.tmps.getD 11 undef)).toNat) ⟨T, 0, rfl, hT, hk, Nat.zero_le _, hK, hC, hI⟩ ?_
  clear hT hk hK hC hI T w
  rintro a' wr ⟨T, cc, rfl, hT, hk, hc, kc, hc1, hc2⟩
  have HCC : Hid (ArrAt wr cb (doneR S V r cc)) := hc1
  have HIC : Hid (ArrAt wr ib (fun _ _ => 0)) := hc2
  clear hc1 hc2
  obtain ⟨f, hfT, hf⟩ := lit432 T hT
  obtain ⟨h3, h6, h7, h8, h9, h34, h35, h36, h10, h11, _⟩ := hk
  rw [hf] at h3 h6 h7 h8 h9 h34 h35 h36 h10 h11
  clear hf hT
  subst hfT
  conv => arg 2; whnf
  simp only [h3, h6, h7, h8, h9, h34, h35, h36, h10, h11]
  clear h3 h6 h7 h8 h9 h34 h35 h36 h10 h11
  by_cases hcl : cc < 26
  · skip
    as_aux_lemma =>
      have i2 : (cc : Int) < 26 := by omega
      obtain ⟨w11, hw11⟩ : ∃ w11, w11 = wr.alloc (.cells #[.int .i64 (r : Int), .int .i64 (cc : Int)] 31) := ⟨_, rfl⟩
      obtain ⟨b12, hb12⟩ : ∃ b12, b12 = wr.heap.size := ⟨_, rfl⟩
      have v0 : w11.cell? ⟨b12, 0, none⟩ = some (.int .i64 (r : Int)) := by rw [hw11, hb12]; simp
      have v1 : w11.cell? ⟨b12, 1, none⟩ = some (.int .i64 (cc : Int)) := by rw [hw11, hb12]; simp
      have HK11 : Hid (Kp no w8 w11) := by show Kp _ _ _; rw [hw11]; exact kc.alloc _
      have HC11 : Hid (ArrAt w11 cb (doneR S V r cc)) := HCC.out.kp (X := no) (by rw [hw11]; exact (Kp.refl no wr).alloc _) id
      have HI11 : Hid (ArrAt w11 ib (fun _ _ => 0)) := HIC.out.kp (X := no) (by rw [hw11]; exact (Kp.refl no wr).alloc _) id
      have HNB : Hid (b12 ≠ cb ∧ b12 < w11.heap.size) := by
        have h1 := HCC.out.lt
        exact ⟨by omega, cell_lt v0⟩
      clear HCC HIC kc
      go_upto_region 17 with fail
      rw [← hw11, ← hb12]
      clear hw11 hb12
      have HCALL : Hid (∀ w', Kp no w11 w' → Calls Try.prog 13 #[.pointer (some ⟨lb, 0, none⟩), .agg #[.int .i64 (r : Int), .int .i64 (cc : Int)]] w' (RectsPostK lb sb S V (r : Int) (cc : Int) w')) := fun w' k' => by
        have kk := HK11.out.trans k'
        have hg := HG8.out.on kk
        exact rectsK_at w' lb sb S V hg.sh hg.ok hg.lay (HCH.out.on kk) hg.vok (r : Int) (cc : Int)
      have HB : Hid (∀ R ∈ rectsOf S V (r : Int) (cc : Int), 0 ≤ R.y0 ∧ R.y0 < R.y1 ∧ R.y1 ≤ 24 ∧ 0 ≤ R.x0 ∧ R.x0 < R.x1 ∧ R.x1 ≤ 80) := rects_bounds HG8.out.ok HG8.out.vok (r : Int) (cc : Int)
      have HOW : Hid (∀ R ∈ rectsOf S V (r : Int) (cc : Int), ∀ y x : Nat, y < 24 → x < 80 → R.holds y x = true → (F y x).own = true ∧ (F y x).oR = r ∧ (F y x).oC = cc) := fun R hR y x hy hx hh => by
        obtain ⟨g1, g2, g3⟩ := rect_owner HG8.out.ok HG8.out.vok hrl hcl hR hy hx hh
        exact ⟨by rw [HFO.out.own y x hx]; exact g1, by rw [HFO.out.row y x hx g1]; exact g2, by rw [HFO.out.col y x hx g1]; exact g3⟩
      have HDN : Hid (∀ y x, y < 24 → x < 80 → doneR S V r cc y x + cntR (rectsOf S V (r : Int) (cc : Int)) y x = doneR S V r (cc + 1) y x) := fun y x hy hx => done_next HG8.out.ok HG8.out.vok hrl hcl hy hx
      have HD1 : Hid (∀ y x, doneR S V r cc y x ≤ 1) := fun y x => by unfold doneR; split <;> omega
      have HLN : Hid ((rectsOf S V (r : Int) (cc : Int)).length ≤ 4) := rects_len S V (r : Int) (cc : Int)
      unfold RectsPostK at HCALL
      generalize rectsOf S V (r : Int) (cc : Int) = L at HCALL HB HOW HDN HLN
      have q1 := (HG8.out.on HK11.out).q1
      have hlq : qb < w11.heap.size := cell_lt q1
      have hlt : b12 < w11.heap.size := HNB.out.2
      go_cut [69, 70, 71] from 57 to 152 (fun s69 s70 s71 wx => ∃ pp cp, s69 = .slice pp L.length cp ∧ s70 = .int .i64 (L.length : Int) ∧ s71 = .int .i64 0 ∧ Kp no w11 wx ∧ (0 < L.length → ∃ g, pp = some ⟨g, 0, none⟩ ∧ w11.heap.size ≤ g ∧ RcsAt wx g L))
      case first =>
        as_aux_lemma =>
          go_region_with (go_at_call 13; refine (HCALL.out _ (by first | exact (Kp.refl no _).drew | exact Kp.refl no _)).mono ?_; rintro e w6 ⟨v, rfl, hrow, k6⟩; obtain ⟨pp, cp, rfl, hg⟩ := rects_in hrow)
          all_goals go_wp2_with fail
          all_goals go_meet
          all_goals exact ⟨pp, cp, rfl, rfl, rfl, k6.drew_left, hg⟩
      case rest =>
      obtain ⟨pp, cp, rfl, rfl, rfl, k17, hg⟩ := hcut
      obtain ⟨w17, rfl⟩ : ∃ w17, w17 = wc := ⟨_, rfl⟩
      have HK17 : Hid (Kp no w8 w17) := HK11.out.trans k17
      have HC17 : Hid (ArrAt w17 cb (doneR S V r cc)) := HC11.out.kp k17 id
      have HI17 : Hid (ArrAt w17 ib (fun _ _ => 0)) := HI11.out.kp k17 id
      have HA17 : Hid (∀ w', Kp (one cb) w17 w' → w'.cell? ⟨b12, 0, none⟩ = some (.int .i64 (r : Int)) ∧ w'.cell? ⟨b12, 1, none⟩ = some (.int .i64 (cc : Int))) := fun w' k' => ⟨k'.cell (k17.cell v0 id) HNB.out.1, k'.cell (k17.cell v1 id) HNB.out.1⟩
      have HCG : Hid (cb < w11.heap.size) := HC11.out.lt
      have HGG : Hid (0 < L.length → ∃ g, pp = some ⟨g, 0, none⟩ ∧ g ≠ cb ∧ RcsAt w17 g L) := fun hp => by
        obtain ⟨g, g1, g2, g3⟩ := hg hp
        exact ⟨g, g1, by have := HCG.out; omega, g3⟩
      have HKC : Hid (∀ w', Kp (one cb) w17 w' → Kp no w8 w') := fun w' k' => HK17.out.trans2 k' (fun q hq e => by have e' : q = cb := e; have := HCB.out; omega)
      have HOW2 : Hid (∀ w', Kp (one cb) w17 w' → ∀ R ∈ L, ∀ y x : Nat, y < 24 → x < 80 → R.holds y x = true → w'.cell? ⟨fb, y * 560 + x * 7, none⟩ = some (.bool true) ∧ w'.cell? ⟨fb, y * 560 + x * 7 + 1, none⟩ = some (.int .i64 (r : Int)) ∧ w'.cell? ⟨fb, y * 560 + x * 7 + 2, none⟩ = some (.int .i64 (cc : Int))) := fun w' k' R hR y x hy hx hh => by
        have hs := ((HF8.out.kp (HKC.out w' k') id).line y hy).at_ x hx
        obtain ⟨o1, o2, o3⟩ := HOW.out R hR y x hy hx hh
        have c0 := hs.c0
        have c1 := hs.c1
        have c2 := hs.c2
        rw [o1] at c0
        rw [o2] at c1
        rw [o3] at c2
        exact ⟨c0, c1, c2⟩
      clear hg k17 v0 v1 q1 hlq hlt HCALL HC11 HI11 HK11 HOW HCG
      go_wp2_with fail
      refine evr_j qb fb vb cb ib r cc b12 L pp cp (doneR S V r cc) w17 s34 s35 s36 _ HLN.out HD1 HB HGG HOW2 HA17 _ (by kernel_rfl) ⟨by kernel_rfl, by kernel_rfl, by kernel_rfl, by kernel_rfl, by kernel_rfl, by kernel_rfl, by kernel_rfl, by kernel_rfl, by kernel_rfl, by kernel_rfl, by kernel_rfl, by kernel_rfl, by kernel_rfl, by kernel_rfl, trivial⟩ HC17.out ?_
      clear HC17 HGG HOW2 HA17 HB HD1
      rintro T' w' ⟨hT, hk, k', hc'⟩
      have HCN : Hid (ArrAt w' cb (doneR S V r (cc + 1))) := hc'.cong (fun y x hy hx => HDN.out y x hy hx)
      have HIN : Hid (ArrAt w' ib (fun _ _ => 0)) := HI17.out.kp k' HIB.out.1
      have HKN : Hid (Kp no w8 w') := HKC.out w' k'
      clear hc' k' HI17 HKC HK17 HDN
      obtain ⟨f', hfT, hf⟩ := lit432 T' hT
      obtain ⟨h3, h6, h7, h8, h9, h34, h35, h36, h10, h11, h12, h69, h70, _⟩ := hk
      rw [hf] at h3 h6 h7 h8 h9 h34 h35 h36 h10 h11 h12 h69 h70
      clear hf hT
      subst hfT
      simp only [h3, h6, h7, h8, h9, h34, h35, h36, h10, h11, h12, h69, h70]
      clear h3 h6 h7 h8 h9 h34 h35 h36 h10 h11 h12 h69 h70
      go_wp2_with fail
      refine ⟨⟨_, cc + 1, rfl, by kernel_rfl, ⟨by kernel_rfl, by kernel_rfl, by kernel_rfl, by kernel_rfl, by kernel_rfl, by kernel_rfl, by kernel_rfl, by kernel_rfl, by kernel_rfl, Eq.trans (b := .int .i64 ((cc : Int) + 1)) (by kernel_rfl) (by go_num), trivial⟩, by omega, HKN.out, HCN.out, HIN.out⟩, ?_⟩
      show 26 - (intOf (Value.int .i64 ((cc : Int) + 1))).toNat < 26 - (intOf (Value.int .i64 (cc : Int))).toNat
      simp [intOf]
      omega
  · have i3 : ¬ (cc : Int) < 26 := by omega
    have HCE : Hid (ArrAt wr cb (doneR S V (r + 1) 0)) := HCC.out.cong (fun y x _ _ => by
      have e : cc = 26 := by omega
      rw [e]
      exact done_row HG8.out.ok r y x)
    clear HCC
    go_wp2_with fail
    exact ⟨rfl, _, rfl, by kernel_rfl, ⟨by kernel_rfl, by kernel_rfl, by kernel_rfl, by kernel_rfl, by kernel_rfl, by kernel_rfl, by kernel_rfl, by kernel_rfl, by kernel_rfl, trivial⟩, kc, HCE.out, HIC.out⟩
end Go.Proofs.Qxb6500653a
