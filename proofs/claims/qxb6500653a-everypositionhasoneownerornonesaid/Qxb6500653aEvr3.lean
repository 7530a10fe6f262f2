/-
  EveryPosition (3): the whole.
-/
import Derived.Test.Qxb6500653aEvrO
namespace Go.Proofs.Qxb6500653a
open Go.RowKit

set_option maxRecDepth 100000 in
set_option maxHeartbeats 400000000 in
theorem evr_some (hdr : DrawRowOk) (hpl : PlayOk) (W : World) (b off n cap : Nat) (D : Nat → Od) (hn : n ≤ 140737488351232) (hsm : Calls Try.prog 8 #[.slice (some ⟨b, off, none⟩) n cap] W (SmallPost n D W)) (hD : ∀ i, i < n → OpAt W b (off + i * 6) (D i)) :
    Calls Try.prog 3 #[.slice (some ⟨b, off, none⟩) n cap] W fun e w' => e = .returned (.bool true) ∧ Kp no W w' := by
  have HPL : Hid PlayOk := hpl
  have HD : Hid (∀ i, i < n → OpAt W b (off + i * 6) (D i)) := hD
  have HSM : Hid (Calls Try.prog 8 #[.slice (some ⟨b, off, none⟩) n cap] W (SmallPost n D W)) := hsm
  have HDR : Hid DrawRowOk := hdr
  clear hpl hD hsm hdr
  go_enter Try.func3, Try.ntmps3
  go_wp2_with fail
  refine HSM.out.mono ?_
  rintro e w1 ⟨r, rfl, hw1, hr⟩
  subst hw1
  cases r with
  | false =>
    go_wp2_with fail
    go_ret
    exact ⟨rfl, Kp.refl _ _⟩
  | true =>
    have HSS : Hid (SmallS n D) := hr rfl
    clear hr
    go_wp2_with fail
    refine (newPlayer_n w1).mono ?_
    rintro e w2 ⟨qb, sb, lb, pb, rfl, k2, hg2, hb1, hb2, hb3⟩
    have HB : Hid (w1.heap.size ≤ sb ∧ w1.heap.size ≤ lb ∧ w1.heap.size ≤ pb) := ⟨hb1, hb2, hb3⟩
    have HG2 : Hid (GameAt w2 qb sb lb (Sh.new pb) ⟨0, 0, 0, 0⟩) := hg2
    have HK2 : Hid (Kp no w1 w2) := k2
    clear hb1 hb2 hb3 hg2 k2
    go_wp2_with fail
    refine evr_o D qb sb lb pb b off n cap w1 _ HDR HPL HD HSS HB hn _ _ (by kernel_rfl) ⟨by kernel_rfl, by kernel_rfl, by kernel_rfl, by kernel_rfl, trivial⟩ HG2.out HK2.out ?_
    clear HG2 HK2
    rintro T' w' ⟨hT, k'⟩
    obtain ⟨f, hfT, hf⟩ := lit432 T' hT
    clear hf hT
    subst hfT
    have HKE : Hid (Kp no w1 w') := k'
    clear k'
    go_wp2_with fail
    go_ret
    exact ⟨rfl, HKE.out⟩
end Go.Proofs.Qxb6500653a
