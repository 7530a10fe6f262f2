/-
  'codec.Search' (function 15) with the law's closure (function 16).
-/
import Derived.Test.Qxb6500664aIns
import Derived.RegionTactic
import Derived.BigRegion
namespace Go.Proofs.Qxb6500664a
open Go.RowKit

/-- what the closure answers of tag t -/
def afterB (K : Nat → BSl) (sd : BSl) (t : Nat) : Bool := decide (0 ≤ Ord.cmp (K t).l sd.l)

set_option maxHeartbeats 1000000 in
theorem after_any (w : World) (K : Nat → BSl) (kb kr ob n i : Nat) (A B : List Nat) (t : Nat) (sd : BSl) (hA : A.length = i) (hin : i < n) (hk : w.cell? ⟨kb, 0, none⟩ = some (.slice (some ⟨kr, 0, none⟩) n n)) (ho : w.cell? ⟨ob, 3, none⟩ = some (.slice sd.a sd.l.length sd.cap))
    (hr : RowAt 27 (ev1 K) w kr (A ++ t :: B)) (h1 : (K t).At w) (h2 : sd.At w) :
    Calls Try.prog 16 #[.int .i64 (i : Int), .pointer (some ⟨kb, 0, none⟩), .pointer (some ⟨ob, 0, none⟩)] w fun e w' => e = .returned (.bool (afterB K sd t)) ∧ ∃ m, w' = w.drewN m := by
  have hc := cell_row1 hr hA
  have H1 : Hid ((K t).At w) := h1
  have H2 : Hid (sd.At w) := h2
  clear hr hA h1 h2
  obtain ⟨c, hcc⟩ : ∃ c, c = Ord.cmp (K t).l sd.l := ⟨_, rfl⟩
  have HC : Hid (∀ W : World, (K t).At W → sd.At W → Calls Try.prog 10 #[.slice (K t).a (K t).l.length (K t).cap, .slice sd.a sd.l.length sd.cap] W fun e w' => e = .returned (.int .i64 c) ∧ ∃ n, w' = W.drewN n) := by
    intro W g1 g2
    rw [hcc]
    exact compare_any W (K t) sd g1 g2
  have HB : Hid (afterB K sd t = decide (0 ≤ c)) := by show _ = _; rw [hcc]; rfl
  clear hcc
  go_enter Try.func16, Try.ntmps16
  go_wp2_with fail
  go_quiet ((go_at_call 10; exact Calls.quiet_of (HC.out _ (At_drewN H1.out _) (At_drewN H2.out _))))
  go_wp2_with fail
  go_ret
  exact ⟨by rw [HB.out]; rfl, _, rfl⟩

/-- what a search leaves -/
def SearchPost (f : Nat → Bool) (n : Nat) (w : World) (e : Ending) (w' : World) : Prop :=
  ∃ b : Nat, e = .returned (.int .i64 (b : Int)) ∧ b ≤ n ∧ (∀ i, i < n → (f i = true ↔ b ≤ i)) ∧ ∃ m, w' = w.drewN m

set_option maxHeartbeats 1000000 in
theorem search_any (w : World) (fv : Array Value) (f : Nat → Bool) (n : Nat) (hn : n ≤ 65536) (hmono : ∀ i j, i ≤ j → j < n → f i = true → f j = true)
    (hf : ∀ i m, i < n → Calls Try.prog 16 (#[.int .i64 (i : Int)] ++ fv) (w.drewN m) fun e w' => e = .returned (.bool (f i)) ∧ ∃ q, w' = (w.drewN m).drewN q) :
    Calls Try.prog 15 #[.int .i64 (n : Int), .func (.func 16) #[] fv] w (SearchPost f n w) := by
  have HF : Hid (∀ i m, i < n → Calls Try.prog 16 (#[.int .i64 (i : Int)] ++ fv) (w.drewN m) fun e w' => e = .returned (.bool (f i)) ∧ ∃ q, w' = (w.drewN m).drewN q) := hf
  have HM : Hid (∀ i j, i ≤ j → j < n → f i = true → f j = true) := hmono
  clear hf hmono
  go_enter Try.func15, Try.ntmps15
  go_wp2
  go_loopw [5, 6] (fun lv hv wr => ∃ (lo hi m : Nat), lv = .int .i64 (lo : Int) ∧ hv = .int .i64 (hi : Int) ∧ lo ≤ hi ∧ hi ≤ n ∧ Hid (∀ i, i < lo → f i = false) ∧ Hid (∀ i, hi ≤ i → i < n → f i = true) ∧ wr = w.drewN m) (fun lv hv _ => (intOf hv).toNat - (intOf lv).toNat)
  case atStart => exact ⟨0, n, 0, rfl, rfl, by omega, by omega, fun i h => absurd h (by omega), fun i h1 h2 => absurd h1 (by omega), rfl⟩
  case round =>
    obtain ⟨lo, hi, m, rfl, rfl, hlh, hhn, HL, HH, rfl⟩ := hrel
    by_cases hlt : lo < hi
    · obtain ⟨mid, hmid⟩ : ∃ mid, mid = lo + (hi - lo) / 2 := ⟨_, rfl⟩
      have hm1 : mid < hi := by omega
      have hm0 : lo ≤ mid := by omega
      have HC := HF.out mid m (by omega)
      have HC2 : Hid (Calls Try.prog 16 (#[.int .i64 (mid : Int)] ++ fv) (w.drewN m) fun e w' => e = .returned (.bool (f mid)) ∧ ∃ q, w' = (w.drewN m).drewN q) := HC
      clear HC
      have hq : (lo : Int) + ((hi : Int) - (lo : Int)).tdiv 2 = (mid : Int) := by rw [hmid]; have : ((hi : Int) - (lo : Int)) = ((hi - lo : Nat) : Int) := by omega
                                                                                  rw [this]; simp
      clear hmid
      cases hfm : f mid with
      | true =>
        have HH2 : Hid (∀ i, mid ≤ i → i < n → f i = true) := fun i h1 h2 => HM.out mid i h1 h2 hfm
        rw [hfm] at HC2
        go_wp2_with (go_at_call 16; refine HC2.out.mono ?_; rintro e w1 ⟨rfl, q, rfl⟩)
        go_roundw
        case rel => exact ⟨lo, mid, m + q, rfl, rfl, by omega, by omega, HL, HH2, rfl⟩
        case measure => simp [intOf]; omega
      | false =>
        have HL2 : Hid (∀ i, i < mid + 1 → f i = false) := fun i h => by
          cases hfi : f i with
          | false => rfl
          | true => exact absurd (HM.out i mid (by omega) (by omega) hfi) (by rw [hfm]; simp)
        rw [hfm] at HC2
        go_wp2_with (go_at_call 16; refine HC2.out.mono ?_; rintro e w1 ⟨rfl, q, rfl⟩)
        go_roundw
        case rel => exact ⟨mid + 1, hi, m + q, by go_num, rfl, by omega, by omega, HL2, HH, rfl⟩
        case measure => simp [intOf]; omega
    · go_wp2
      go_ret
      refine ⟨lo, rfl, by omega, fun i hi2 => ?_, m, rfl⟩
      constructor
      · intro h
        rcases Nat.lt_or_ge i lo with hl | hl
        · rw [HL.out i hl] at h; cases h
        · exact hl
      · intro h
        exact HH.out i (by omega) hi2
end Go.Proofs.Qxb6500664a
