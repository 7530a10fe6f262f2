import Derived.Test.Qxb6500664aAppend
namespace Go.Proofs.Qxb6500664a
open Go.RowKit

theorem wrap_mag (M : Nat) (h1 : 1 ≤ (M : Int)) (h2 : (M : Int) ≤ 9223372036854775808) : IntKind.u64.wrap (-IntKind.u64.wrap (-(M : Int))) = (M : Int) := by
  rw [IntKind.wrap_u64, IntKind.wrap_u64]; omega

theorem neg_done {C : Array Value} {k : Nat} {l : List UInt8} (h : C.toList.drop (k + 1) = l.map bv) (hk : k < C.size) : (C.setIfInBounds k (.int .u8 45)).toList.drop k = (45 :: l).map bv := by
  rw [drop_set _ _ _ hk, h]; rfl

set_option maxHeartbeats 400000 in
theorem append_neg (w : World) (ao : Option Addr) (olds : List UInt8) (M : Nat) (hv1 : 1 ≤ (M : Int)) (hv2 : (M : Int) ≤ 9223372036854775808) (hnm : olds.length ≤ 1000) (hnone : ao = none → olds.length = 0)
    (holds : ∀ b, ao = some b → ∀ j (hj : j < olds.length), w.cell? (b.add j) = some (.int .u8 (olds[j].toNat : Int))) :
    Calls Try.prog 18 #[.slice ao olds.length olds.length, .int .i64 (-(M : Int))] w (AppLeft w (olds ++ (45 :: Dec.dgt 20 M))) := by
  have hd : decide (0 < M) = true := by simp; omega
  obtain ⟨i0, hi, hz0, hz1, hz2⟩ := info_parts Try.info5
  go_enter Try.func18, Try.ntmps18
  go_wp2
  go_loopw [6, 7] (fun u i wr => ∃ (m k : Nat) (C : Array Value), u = .int .u64 (m : Int) ∧ i = .int .i64 (k : Int) ∧ wr = w.alloc (.cells C 67) ∧ AppSt M m k C)
    (fun _ i _ => (intOf i).toNat)
  case atStart => exact ⟨M, 20, _, by rw [wrap_mag M hv1 hv2], rfl, rfl, AppSt.start M (by rw [Dec.pow19]; omega) _ rfl⟩
  case round =>
    obtain ⟨m, k, C, rfl, rfl, rfl, hst⟩ := hrel
    obtain ⟨k, rfl⟩ : ∃ k', k = k' + 1 := ⟨k - 1, by have := hst.k2; omega⟩
    have hk20 := hst.k20
    have hk2 := hst.k2
    have hsz := hst.size
    have hmM : (m : Int) ≤ 9223372036854775808 := by have := hst.le; omega
    obtain ⟨x, hx⟩ : ∃ x, C[k]? = some x := ⟨_, Array.getElem?_eq_getElem (by omega)⟩
    by_cases hm : 10 ≤ m
    · have hs := hst.step hm
      have HS : Hid (AppSt M (m / 10) k (C.setIfInBounds k (.int .u8 (48 + ((m % 10 : Nat) : Int))))) := hs
      clear hs hst
      go_wp2
      go_roundw
      case rel => exact ⟨m / 10, k, _, by go_num, rfl, rfl, HS.out⟩
      case measure => simp [intOf]
    · obtain ⟨d1, d2, d3, d4, d5⟩ := hst.done (by omega)
      obtain ⟨k, rfl⟩ : ∃ k', k = k' + 1 := ⟨k - 1, by omega⟩
      have HD : Hid (_ = _) := neg_done d1 (by rw [d3]; omega)
      have HL : Hid ((45 :: Dec.dgt 20 M).length = 20 - k) := by show (45 :: Dec.dgt 20 M).length = 20 - k; rw [List.length_cons, d2]; omega
      obtain ⟨x2, hx2⟩ : ∃ x, (C.setIfInBounds (k + 1) (.int .u8 (48 + (m : Int))))[k]? = some x := ⟨_, Array.getElem?_eq_getElem (by omega)⟩
      clear d1 d2 d3 hst
      have hsl := fun wx => slice67 wx w.heap.size k (by omega)
      have hl1 : ((45 :: Dec.dgt 20 M).map bv).length = (20 - k) * 1 := by rw [List.length_map, HL.out, Nat.mul_one]
      have HL1 : Hid (_ = _) := hl1
      have hl0 : (olds.map bv).length = olds.length * 1 := by rw [List.length_map, Nat.mul_one]
      have HL0 : Hid (_ = _) := hl0
      clear hl0 hl1
      go_wp2_with (at_builtin; refine wpList_append_grows _ rfl (.tmp 39) (.tmp 41) 27 rfl 5 i0 (.int .u8 0) 1 1 Try.underlying27 hi hz0 hz1 hz2 rfl (by decide) ao olds.length olds.length (olds.map bv) rfl (fun h => ⟨hnone h, hnone h⟩) HL0.out (old_cells _ _ _ _ holds) ⟨w.heap.size, k, none⟩ (20 - k) (20 - k) ((45 :: Dec.dgt 20 M).map bv) rfl HL1.out (slice_cells _ _ _ _ HD.out) (bv_one _) (by omega) (by unfold maxLen; omega) (by omega) ?_; intro v' w1 hown hgrow)
      rw [← List.map_append] at hown
      obtain ⟨g, cap, hv', hfin⟩ := app_end w w1 _ v' olds.length (20 - k) (olds ++ (45 :: Dec.dgt 20 M)) (by rw [List.length_append, HL.out]) (by omega) hown hgrow
      have HF : Hid (AppLeft _ _ _ _) := hfin
      clear hfin hown hgrow
      rw [hv']
      go_wp2
      go_ret
      exact HF.out

/-- AppendInt, at a slice without spare room: a new row with the old bytes and the text. -/
theorem append_any (w : World) (ao : Option Addr) (n : Nat) (olds : List UInt8) (hn : olds.length = n) (v : Int) (h1 : -9223372036854775808 ≤ v) (h2 : v ≤ 9223372036854775807) (hnm : n ≤ 1000) (hnone : ao = none → n = 0)
    (holds : ∀ b, ao = some b → ∀ j (hj : j < olds.length), w.cell? (b.add j) = some (.int .u8 (olds[j].toNat : Int))) :
    Calls Try.prog 18 #[.slice ao n n, .int .i64 v] w (AppLeft w (olds ++ Dec.text v)) := by
  subst hn
  unfold Dec.text
  by_cases hv : v < 0
  · rw [if_pos hv]
    have := append_neg w ao olds v.natAbs (by omega) (by omega) hnm hnone holds
    rw [show -(v.natAbs : Int) = v from by omega] at this
    exact this
  · rw [if_neg hv]
    have := append_pos w ao olds v.natAbs (by omega) hnm hnone holds
    rw [show (v.natAbs : Int) = v from by omega] at this
    exact this

theorem append_nil (w : World) (v : Int) (h1 : -9223372036854775808 ≤ v) (h2 : v ≤ 9223372036854775807) :
    Calls Try.prog 18 #[.slice none 0 0, .int .i64 v] w (AppLeft w (Dec.text v)) :=
  append_any w none 0 [] rfl v h1 h2 (by omega) (fun _ => rfl) (fun b hb => by simp at hb)

end Go.Proofs.Qxb6500664a
