/-
  EveryPosition (3): the positions of a line.
-/
import Derived.Test.Qxb6500653aEvrSb
import Derived.Test.Qxb6500653aEvrSo
namespace Go.Proofs.Qxb6500653a
open Go.RowKit

set_option maxRecDepth 100000 in
set_option maxHeartbeats 400000000 in
theorem evr_sx (sb lb : Nat) (S : Sh) (V : Vw) (F : Nat → Nat → Spot) (O : Nat → Nat → Nat) (w8 : World) (qb fb vb cb ib y : Nat) (cs : List Value) (w51 : World) (s34 s35 s36 : Value) (Q : Exit → Act → World → Prop)
    (HG8 : Hid (GameAt w8 qb sb lb S V)) (HCH : Hid (Cached w8 lb S V)) (HF8 : Hid (FrameAt w8 fb F)) (HFO : Hid (FOwn F S V)) (HKN : Hid (Kp no w8 w51)) (HCO : Hid (ArrAt w51 cb O)) (HIO : Hid (ArrAt w51 ib O)) (HOO : Hid (∀ y x, O y x = if ownsAt S V y x = true then 1 else 0))
    (HCI : Hid (∀ x : Nat, x < 80 → ∀ Z : World, (Instr.index 53 (.agg cs.toArray) (.int .i64 (x : Int))).run Try.prog Z = .ok (.agg #[.bool (F y x).own, .int .i64 ((F y x).oR : Int), .int .i64 ((F y x).oC : Int), .bool (F y x).drawn, .int .i64 ((F y x).fR : Int), .int .i64 ((F y x).fC : Int), .int .u8 ((F y x).ch : Int)]) Z))
    (hyl : y < 24) (T : Array Value) (w : World) (hT : T.size = 432) (hk : Knows T [(3, .pointer (some ⟨qb, 0, none⟩)), (6, .pointer (some ⟨fb, 0, none⟩)), (7, .pointer (some ⟨vb, 0, none⟩)), (8, .pointer (some ⟨cb, 0, none⟩)), (9, .pointer (some ⟨ib, 0, none⟩)), (34, s34), (35, s35), (36, s36), (285, .int .i64 (y : Int)), (24, .int .i64 (y : Int)), (292, .agg cs.toArray), (293, .int .i64 0)]) (kw : Kp no w51 w)
    (hexit : ∀ (T' : Array Value) (w' : World), EdSx qb fb vb cb ib y w51 s34 s35 s36 T' w' → Q (.exit 20) ⟨T', []⟩ w') :
    Code.wp Try.prog (.loop cSx) Q ⟨T, []⟩ w := by
  refine wp_exit hexit ?_
  clear hexit
  refine wp_loop (EvSx qb fb vb cb ib y cs w51 s34 s35 s36) (fun a' _ => 80 - (intOf (a'.tmps.getD 293 undef)).toNat) ⟨T, 0, rfl, hT, hk, Nat.zero_le _, kw⟩ ?_
  clear hT hk kw T w
  rintro a' wr ⟨T, x, rfl, hT, hk, hx, kx⟩
  by_cases hxl : x < 80
  · cases hown : ownsAt S V y x with
    | false => exact evr_sb sb lb x S V F O w8 wr qb fb vb cb ib y cs w51 s34 s35 s36 HG8 HCH HF8 HFO HKN HCO HIO HOO HCI hyl hxl kx T hT hk hown
    | true => exact evr_so sb lb x S V F O w8 wr qb fb vb cb ib y cs w51 s34 s35 s36 HG8 HCH HF8 HFO HKN HCO HIO HOO HCI hyl hxl kx T hT hk hown
  · have i2 : ¬ (x : Int) < 80 := by omega
    obtain ⟨f, hfT, hf⟩ := lit432 T hT
    obtain ⟨h3, h6, h7, h8, h9, h34, h35, h36, h285, h24, h292, h293, _⟩ := hk
    rw [hf] at h3 h6 h7 h8 h9 h34 h35 h36 h285 h24 h292 h293
    clear hf hT
    subst hfT
    conv => arg 2; whnf
    simp only [h3, h6, h7, h8, h9, h34, h35, h36, h285, h24, h292, h293]
    clear h3 h6 h7 h8 h9 h34 h35 h36 h285 h24 h292 h293
    go_wp2_with fail
    exact ⟨rfl, _, rfl, by kernel_rfl, ⟨by kernel_rfl, by kernel_rfl, by kernel_rfl, by kernel_rfl, by kernel_rfl, by kernel_rfl, by kernel_rfl, by kernel_rfl, by kernel_rfl, trivial⟩, kx⟩
end Go.Proofs.Qxb6500653a
