/-
  EveryPosition (3): the rows.
-/
import Derived.Test.Qxb6500653aEvrC
namespace Go.Proofs.Qxb6500653a
open Go.RowKit

/-- the loop's state -/
def EvR (qb _sb _lb fb vb cb ib : Nat) (S : Sh) (V : Vw) (_F : Nat → Nat → Spot) (w8 : World) (s34 s35 s36 : Value) (a' : Act) (wq : World) : Prop :=
  ∃ (T : Array Value) (r : Nat), a' = ⟨T, []⟩ ∧ T.size = 432 ∧ Knows T [(3, .pointer (some ⟨qb, 0, none⟩)), (6, .pointer (some ⟨fb, 0, none⟩)), (7, .pointer (some ⟨vb, 0, none⟩)), (8, .pointer (some ⟨cb, 0, none⟩)), (9, .pointer (some ⟨ib, 0, none⟩)), (34, s34), (35, s35), (36, s36), (10, .int .i64 (r : Int))] ∧ r ≤ 64 ∧ Kp no w8 wq ∧ ArrAt wq cb (doneR S V r 0) ∧ ArrAt wq ib (fun _ _ => 0)
/-- its end -/
def EdR (qb _sb _lb fb vb cb ib : Nat) (S : Sh) (V : Vw) (_F : Nat → Nat → Spot) (w8 : World) (s34 s35 s36 : Value) (T' : Array Value) (w' : World) : Prop := T'.size = 432 ∧ Knows T' [(3, .pointer (some ⟨qb, 0, none⟩)), (6, .pointer (some ⟨fb, 0, none⟩)), (7, .pointer (some ⟨vb, 0, none⟩)), (8, .pointer (some ⟨cb, 0, none⟩)), (9, .pointer (some ⟨ib, 0, none⟩)), (34, s34), (35, s35), (36, s36)] ∧ Kp no w8 w' ∧ ArrAt w' cb (doneR S V 64 0) ∧ ArrAt w' ib (fun _ _ => 0)
set_option maxRecDepth 100000 in
set_option maxHeartbeats 400000000 in
theorem evr_r (qb sb lb fb vb cb ib : Nat) (S : Sh) (V : Vw) (F : Nat → Nat → Spot) (w8 : World) (s34 s35 s36 : Value) (Q : Exit → Act → World → Prop) (HG8 : Hid (GameAt w8 qb sb lb S V)) (HCH : Hid (Cached w8 lb S V)) (HF8 : Hid (FrameAt w8 fb F)) (HFO : Hid (FOwn F S V)) (HCB : Hid (w8.heap.size ≤ cb)) (HIB : Hid (ib ≠ cb ∧ w8.heap.size ≤ ib))
    (T : Array Value) (w : World) (hT : T.size = 432) (hk : Knows T [(3, .pointer (some ⟨qb, 0, none⟩)), (6, .pointer (some ⟨fb, 0, none⟩)), (7, .pointer (some ⟨vb, 0, none⟩)), (8, .pointer (some ⟨cb, 0, none⟩)), (9, .pointer (some ⟨ib, 0, none⟩)), (34, s34), (35, s35), (36, s36), (10, .int .i64 0)]) (hK : Kp no w8 w) (hC : ArrAt w cb (doneR S V 0 0)) (hI : ArrAt w ib (fun _ _ => 0))
    (hexit : ∀ (T' : Array Value) (w' : World), EdR qb sb lb fb vb cb ib S V F w8 s34 s35 s36 T' w' → Q (.exit 2) ⟨T', []⟩ w') :
    Code.wp Try.prog (.loop cR) Q ⟨T, []⟩ w := by
  refine wp_exit hexit ?_
  clear hexit
  refine wp_loop (EvR qb sb lb fb vb cb ib S V F w8 s34 s35 s36) (fun a' _ => 64 - (intOf (a'.tmps.getD 10 undef)).toNat) ⟨T, 0, rfl, hT, hk, Nat.zero_le _, hK, hC, hI⟩ ?_
  clear hT hk hK hC hI T w
  rintro a' wr ⟨T, r, rfl, hT, hk, hr, kr, hc1, hc2⟩
  have HCC : Hid (ArrAt wr cb (doneR S V r 0)) := hc1
  have HIC : Hid (ArrAt wr ib (fun _ _ => 0)) := hc2
  have HK : Hid (Kp no w8 wr) := kr
  clear hc1 hc2 kr
  obtain ⟨f, hfT, hf⟩ := lit432 T hT
  obtain ⟨h3, h6, h7, h8, h9, h34, h35, h36, h10, _⟩ := hk
  rw [hf] at h3 h6 h7 h8 h9 h34 h35 h36 h10
  clear hf hT
  subst hfT
  conv => arg 2; whnf
  simp only [h3, h6, h7, h8, h9, h34, h35, h36, h10]
  clear h3 h6 h7 h8 h9 h34 h35 h36 h10
  by_cases hrl : r < 64
  · have i1 : (r : Int) < 64 := by omega
    go_wp2_with fail
    refine evr_c r qb sb lb fb vb cb ib S V F w8 s34 s35 s36 _ HG8 HCH HF8 HFO HCB HIB hrl _ _ (by kernel_rfl) ⟨by kernel_rfl, by kernel_rfl, by kernel_rfl, by kernel_rfl, by kernel_rfl, by kernel_rfl, by kernel_rfl, by kernel_rfl, by kernel_rfl, by kernel_rfl, trivial⟩ HK.out HCC.out HIC.out ?_
    clear HCC HIC HK
    rintro T' w' ⟨hT, hk, k', hc', hi'⟩
    have HCN : Hid (ArrAt w' cb (doneR S V (r + 1) 0)) := hc'
    have HIN : Hid (ArrAt w' ib (fun _ _ => 0)) := hi'
    have HKN : Hid (Kp no w8 w') := k'
    clear hc' hi' k'
    obtain ⟨f', hfT, hf⟩ := lit432 T' hT
    obtain ⟨h3, h6, h7, h8, h9, h34, h35, h36, h10, _⟩ := hk
    rw [hf] at h3 h6 h7 h8 h9 h34 h35 h36 h10
    clear hf hT
    subst hfT
    simp only [h3, h6, h7, h8, h9, h34, h35, h36, h10]
    clear h3 h6 h7 h8 h9 h34 h35 h36 h10
    go_wp2_with fail
    refine ⟨⟨_, r + 1, rfl, by kernel_rfl, ⟨by kernel_rfl, by kernel_rfl, by kernel_rfl, by kernel_rfl, by kernel_rfl, by kernel_rfl, by kernel_rfl, by kernel_rfl, Eq.trans (b := .int .i64 ((r : Int) + 1)) (by kernel_rfl) (by go_num), trivial⟩, by omega, HKN.out, HCN.out, HIN.out⟩, ?_⟩
    show 64 - (intOf (Value.int .i64 ((r : Int) + 1))).toNat < 64 - (intOf (Value.int .i64 (r : Int))).toNat
    simp [intOf]
    omega
  · have i3 : ¬ (r : Int) < 64 := by omega
    have HCE : Hid (ArrAt wr cb (doneR S V 64 0)) := by
      have e : r = 64 := by omega
      have h := HCC.out
      rw [e] at h
      exact h
    clear HCC
    go_wp2_with fail
    exact ⟨rfl, _, rfl, by kernel_rfl, ⟨by kernel_rfl, by kernel_rfl, by kernel_rfl, by kernel_rfl, by kernel_rfl, by kernel_rfl, by kernel_rfl, by kernel_rfl, trivial⟩, HK.out, HCE.out, HIC.out⟩
end Go.Proofs.Qxb6500653a
