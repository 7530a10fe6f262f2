/-
  EveryPosition (3): the lines.
-/
import Derived.Test.Qxb6500653aEvrSx
namespace Go.Proofs.Qxb6500653a
open Go.RowKit

/-- the loop's state -/
def EvS (qb fb vb cb ib : Nat) (w51 : World) (s34 s35 s36 : Value) (a' : Act) (wq : World) : Prop :=
  ∃ (T : Array Value) (y : Nat), a' = ⟨T, []⟩ ∧ T.size = 432 ∧ Knows T [(3, .pointer (some ⟨qb, 0, none⟩)), (6, .pointer (some ⟨fb, 0, none⟩)), (7, .pointer (some ⟨vb, 0, none⟩)), (8, .pointer (some ⟨cb, 0, none⟩)), (9, .pointer (some ⟨ib, 0, none⟩)), (34, s34), (35, s35), (36, s36), (285, .int .i64 (y : Int))] ∧ y ≤ 24 ∧ Kp no w51 wq
/-- its end -/
def EdS (qb fb vb cb ib : Nat) (w51 : World) (s34 s35 s36 : Value) (T' : Array Value) (w' : World) : Prop := T'.size = 432 ∧ Knows T' [(3, .pointer (some ⟨qb, 0, none⟩)), (6, .pointer (some ⟨fb, 0, none⟩)), (7, .pointer (some ⟨vb, 0, none⟩)), (8, .pointer (some ⟨cb, 0, none⟩)), (9, .pointer (some ⟨ib, 0, none⟩)), (34, s34), (35, s35), (36, s36)] ∧ Kp no w51 w'
set_option maxRecDepth 100000 in
set_option maxHeartbeats 400000000 in
theorem evr_s (sb lb : Nat) (S : Sh) (V : Vw) (F : Nat → Nat → Spot) (O : Nat → Nat → Nat) (w8 : World) (qb fb vb cb ib : Nat) (w51 : World) (s34 s35 s36 : Value) (Q : Exit → Act → World → Prop)
    (HG8 : Hid (GameAt w8 qb sb lb S V)) (HCH : Hid (Cached w8 lb S V)) (HF8 : Hid (FrameAt w8 fb F)) (HFO : Hid (FOwn F S V)) (HKN : Hid (Kp no w8 w51)) (HCO : Hid (ArrAt w51 cb O)) (HIO : Hid (ArrAt w51 ib O)) (HOO : Hid (∀ y x, O y x = if ownsAt S V y x = true then 1 else 0))
    (T : Array Value) (hT : T.size = 432) (hk : Knows T [(3, .pointer (some ⟨qb, 0, none⟩)), (6, .pointer (some ⟨fb, 0, none⟩)), (7, .pointer (some ⟨vb, 0, none⟩)), (8, .pointer (some ⟨cb, 0, none⟩)), (9, .pointer (some ⟨ib, 0, none⟩)), (34, s34), (35, s35), (36, s36), (285, .int .i64 0)])
    (hexit : ∀ (T' : Array Value) (w' : World), EdS qb fb vb cb ib w51 s34 s35 s36 T' w' → Q (.exit 18) ⟨T', []⟩ w') :
    Code.wp Try.prog (.loop cS) Q ⟨T, []⟩ w51 := by
  refine wp_exit hexit ?_
  clear hexit
  refine wp_loop (EvS qb fb vb cb ib w51 s34 s35 s36) (fun a' _ => 24 - (intOf (a'.tmps.getD 285 undef)).toNat) ⟨T, 0, rfl, hT, hk, Nat.zero_le _, Kp.refl _ _⟩ ?_
  clear hT hk T
  rintro a' wr ⟨T, y, rfl, hT, hk, hy, ky⟩
  obtain ⟨f, hfT, hf⟩ := lit432 T hT
  obtain ⟨h3, h6, h7, h8, h9, h34, h35, h36, h285, _⟩ := hk
  rw [hf] at h3 h6 h7 h8 h9 h34 h35 h36 h285
  clear hf hT
  subst hfT
  conv => arg 2; whnf
  simp only [h3, h6, h7, h8, h9, h34, h35, h36, h285]
  clear h3 h6 h7 h8 h9 h34 h35 h36 h285
  by_cases hyl : y < 24
  · have i1 : (y : Int) < 24 := by omega
    obtain ⟨cs, hcl, hcr, hci⟩ := (HF8.out.kp (HKN.out.trans ky) id).lcs3 hyl
    have HRG : Hid (wr.rangeAt fb (y * 560) cs) := hcr
    have HCL : Hid (cs.length = 560) := hcl
    have HCI : Hid (∀ x : Nat, x < 80 → ∀ Z : World, (Instr.index 53 (.agg cs.toArray) (.int .i64 (x : Int))).run Try.prog Z = .ok (.agg #[.bool (F y x).own, .int .i64 ((F y x).oR : Int), .int .i64 ((F y x).oC : Int), .bool (F y x).drawn, .int .i64 ((F y x).fR : Int), .int .i64 ((F y x).fC : Int), .int .u8 ((F y x).ch : Int)]) Z) := hci
    have HK : Hid (Kp no w51 wr) := ky
    clear hcl hcr hci ky
    go_upto_region 54 with fail
    refine wp_region_list ?_
    refine wpList_plain rfl fun K hK => ?_
    go_simp
    refine hK _ _ ?_
    clear hK K
    refine wpList_plain rfl fun K hK => ?_
    go_simp
    refine hK _ _ ?_
    clear hK K
    refine wpList_plain rfl fun K hK => ?_
    go_simp
    refine hK _ _ ?_
    clear hK K
    refine wpList_plain rfl fun K hK => ?_
    go_simp
    refine hK _ _ ?_
    clear hK K
    refine wpList_load_mid rfl 53 _ rfl fb (y * 560) (by first | rfl | simp [go_sem]) cs _ HRG.out Try.underlying53 rfl (by rw [info53, HCL.out]) ?_
    refine wpList_plain rfl fun K hK => ?_
    go_simp
    refine hK _ _ ?_
    clear hK K
    refine wpList_nil ?_
    clear HRG HCL
    go_wp2_with fail
    refine evr_sx sb lb S V F O w8 qb fb vb cb ib y cs w51 s34 s35 s36 _ HG8 HCH HF8 HFO HKN HCO HIO HOO HCI hyl _ _ (by kernel_rfl) ⟨by kernel_rfl, by kernel_rfl, by kernel_rfl, by kernel_rfl, by kernel_rfl, by kernel_rfl, by kernel_rfl, by kernel_rfl, by kernel_rfl, by kernel_rfl, by kernel_rfl, by kernel_rfl, trivial⟩ HK.out ?_
    clear HK HCI
    rintro T' w' ⟨hT, hk, k'⟩
    have HKE : Hid (Kp no w51 w') := k'
    clear k'
    obtain ⟨f', hfT, hf⟩ := lit432 T' hT
    obtain ⟨h3, h6, h7, h8, h9, h34, h35, h36, h285, _⟩ := hk
    rw [hf] at h3 h6 h7 h8 h9 h34 h35 h36 h285
    clear hf hT
    subst hfT
    simp only [h3, h6, h7, h8, h9, h34, h35, h36, h285]
    clear h3 h6 h7 h8 h9 h34 h35 h36 h285
    go_wp2_with fail
    refine ⟨⟨_, y + 1, rfl, by kernel_rfl, ⟨by kernel_rfl, by kernel_rfl, by kernel_rfl, by kernel_rfl, by kernel_rfl, by kernel_rfl, by kernel_rfl, by kernel_rfl, Eq.trans (b := .int .i64 ((y : Int) + 1)) (by kernel_rfl) (by go_num), trivial⟩, by omega, HKE.out⟩, ?_⟩
    show 24 - (intOf (Value.int .i64 ((y : Int) + 1))).toNat < 24 - (intOf (Value.int .i64 (y : Int))).toNat
    simp [intOf]
    omega
  · have i1 : ¬ (y : Int) < 24 := by omega
    go_wp2_with fail
    exact ⟨rfl, _, rfl, by kernel_rfl, ⟨by kernel_rfl, by kernel_rfl, by kernel_rfl, by kernel_rfl, by kernel_rfl, by kernel_rfl, by kernel_rfl, by kernel_rfl, trivial⟩, ky⟩
end Go.Proofs.Qxb6500653a
