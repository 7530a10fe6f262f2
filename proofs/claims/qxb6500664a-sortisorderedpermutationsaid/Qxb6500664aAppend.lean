import Derived.Test.Qxb6500664aRefuse
import Derived.Lib.SlBytesConst
namespace Go.Proofs.Qxb6500664a
open Go.RowKit

/-- a byte as a value -/
def bv (b : UInt8) : Value := .int .u8 (b.toNat : Int)

/-- what holds ahead of each round: m is what is left of M, the digits from place k on are written -/
structure AppSt (M m k : Nat) (C : Array Value) : Prop where
  k2 : 2 ≤ k
  k20 : k ≤ 20
  lt : m < 10 ^ (k - 1)
  le : m ≤ M
  size : C.size = 20
  ex : ∃ T : List UInt8, C.toList.drop k = T.map bv ∧ Dec.dgt 20 M = Dec.dgt k m ++ T

theorem AppSt.start (M : Nat) (h : M < 10 ^ 19) (C : Array Value) (hC : C.size = 20) : AppSt M M 20 C :=
  ⟨by omega, by omega, h, Nat.le_refl _, hC, [], by rw [List.drop_of_length_le (by simp [hC])]; rfl, by simp⟩

theorem drop_set (C : Array Value) (i : Nat) (x : Value) (h : i < C.size) : (C.setIfInBounds i x).toList.drop i = x :: C.toList.drop (i + 1) := by
  rw [Array.toList_setIfInBounds, List.drop_eq_getElem_cons (by simpa using h), List.getElem_set_self, List.drop_set_of_lt (by omega)]

theorem bv_dig {d : Nat} (h : d < 10) : bv (Dec.dig d) = .int .u8 ((48 : Int) + (d : Int)) := by
  unfold bv; rw [Dec.dig_toNat h]; simp

theorem AppSt.big {M m k : Nat} {C : Array Value} (h : AppSt M m (k + 1) C) (hm : 10 ≤ m) : 2 ≤ k := by
  have := h.lt
  have h2 := h.k2
  rcases Nat.lt_or_ge k 2 with hk | hk
  · have : k = 1 := by omega
    subst this
    simp at *
    omega
  · exact hk

theorem AppSt.step {M m k : Nat} {C : Array Value} (h : AppSt M m (k + 1) C) (hm : 10 ≤ m) : AppSt M (m / 10) k (C.setIfInBounds k (.int .u8 (48 + ((m % 10 : Nat) : Int)))) := by
  have hk := h.big hm
  obtain ⟨T, hT, hD⟩ := h.ex
  refine ⟨hk, by have := h.k20; omega, ?_, by have := h.le; omega, by simp [h.size], Dec.dig (m % 10) :: T, ?_, ?_⟩
  · have := h.lt
    obtain ⟨j, rfl⟩ : ∃ j, k = j + 1 := ⟨k - 1, by omega⟩
    simp only [Nat.add_sub_cancel] at this ⊢
    rw [Nat.pow_succ] at this
    omega
  · rw [drop_set _ _ _ (by rw [h.size]; have := h.k20; omega), hT, List.map_cons, bv_dig (by omega)]
  · rw [hD]
    conv => lhs; unfold Dec.dgt
    rw [if_neg (by omega), List.append_assoc]; rfl

theorem AppSt.done {M m k : Nat} {C : Array Value} (h : AppSt M m (k + 1) C) (hm : m < 10) :
    (C.setIfInBounds k (.int .u8 (48 + (m : Int)))).toList.drop k = (Dec.dgt 20 M).map bv ∧ (Dec.dgt 20 M).length = 20 - k ∧ (C.setIfInBounds k (.int .u8 (48 + (m : Int)))).size = 20 ∧ 1 ≤ k ∧ k ≤ 19 := by
  obtain ⟨T, hT, hD⟩ := h.ex
  have h1 := h.k2
  have h2 := h.k20
  have hs := h.size
  have hd : Dec.dgt 20 M = Dec.dig m :: T := by
    rw [hD]
    conv => lhs; unfold Dec.dgt
    rw [if_pos hm]; rfl
  refine ⟨?_, ?_, by simp [hs], by omega, by omega⟩
  · rw [drop_set _ _ _ (by omega), hT, hd, List.map_cons, bv_dig hm]
  · have := congrArg List.length hT
    simp [hs] at this
    rw [hd]; simp; omega

theorem Try.info5 : (Try.prog.info? 5).map (fun i => (i.zero, i.size, i.bytes)) = some (some (.int .u8 0), 1, 1) := by kernel_rfl

/-- what AppendInt leaves -/
def AppLeft (w : World) (l : List UInt8) (e : Ending) (w' : World) : Prop :=
  ∃ g cap, e = .returned (.slice (some ⟨g, 0, none⟩) l.length cap) ∧ w.heap.size ≤ g ∧ g < w'.heap.size ∧ l.length ≤ cap ∧ cap ≤ maxLen ∧
    (∀ j (hj : j < l.length), w'.cell? ⟨g, j, none⟩ = some (.int .u8 (l[j].toNat : Int))) ∧ Below w.heap.size w w'

theorem app_end (w w1 : World) (C : Array Value) (v' : Value) (n m : Nat) (l : List UInt8) (hl : l.length = n + m) (hm : 0 < m)
    (hown : w1.ownsRow (w.alloc (.cells C 67)).heap.size 5 1 v' (n + m) (l.map bv)) (hgrow : (w.alloc (.cells C 67)).grownBy w1 none) :
    ∃ g cap, v' = .slice (some ⟨g, 0, none⟩) (n + m) cap ∧ AppLeft w l (.returned (.slice (some ⟨g, 0, none⟩) (n + m) cap)) w1 := by
  have hbel : Below w.heap.size w w1 := ((Below.refl _ _).alloc (Nat.le_refl _) _).grown hgrow (by simp) (by simp)
  rcases hown.2 with ⟨_, h0⟩ | ⟨g, cap, cur, hv, hg, hh, h1, h2, _, _⟩
  · omega
  · refine ⟨g, cap, hv, g, cap, by rw [hl], by simp at hg; omega, ?_, by omega, h2, fun j hj => ?_, hbel⟩
    · rcases Nat.lt_or_ge g w1.heap.size with h | h
      · exact h
      · rw [Array.getElem?_eq_none h] at hh; simp at hh
    · rw [hv] at hown
      rw [hown.cellAt j (by omega), List.getElem?_map, List.getElem?_eq_getElem hj]; rfl

theorem slice_cells (w : World) (C : Array Value) (k : Nat) (l : List Value) (h : C.toList.drop k = l) : ∀ j u, l[j]? = some u → (w.alloc (.cells C 67)).cell? (Addr.add ⟨w.heap.size, k, none⟩ j) = some u := by
  intro j u hj
  rw [Addr.add_lit, World.cell?_alloc_at (hn := rfl)]
  rw [← h, List.getElem?_drop] at hj
  simpa using hj

theorem bv_one (l : List UInt8) : ∀ u ∈ l.map bv, u.oneCell' = true := by
  intro u hu
  rw [List.mem_map] at hu
  obtain ⟨b, _, rfl⟩ := hu
  rfl

theorem old_cells (w : World) (C : Array Value) (ao : Option Addr) (olds : List UInt8) (holds : ∀ b, ao = some b → ∀ j (hj : j < olds.length), w.cell? (b.add j) = some (.int .u8 (olds[j].toNat : Int))) :
    ∀ b, ao = some b → ∀ j u, (olds.map bv)[j]? = some u → (w.alloc (.cells C 67)).cell? (b.add j) = some u := by
  intro b hb j u hj
  obtain ⟨hj', rfl⟩ := List.getElem?_eq_some_iff.1 hj
  simp only [List.length_map] at hj'
  have := Lib.cell?_alloc_marked (.cells C 67) (holds b hb j hj')
  rw [this]; simp [bv]

theorem Try.len67 : Try.prog.arrayLen 67 = 20 := by kernel_rfl
theorem slice67 (w : World) (b k : Nat) (hk : k ≤ 19) : (Instr.sliceAt 67 (.pointer (some ⟨b, 0, none⟩)) (some (.int .i64 (k : Int))) none none).run Try.prog w = .ok (.slice (some ⟨b, k, none⟩) (20 - k) (20 - k)) w := by
  rw [run_sliceAt_array_l w 67 ⟨b, 0, none⟩ (by kernel_rfl) .i64 k (by omega) (by rw [Try.len67]; omega), Try.len67]
  have h5 : (sizeOf (Try.prog.elem 67)).run Try.prog w = .ok 1 w := by kernel_rfl
  rw [h5]
  simp only [Result.andThen, slicedAt, Int.toNat_natCast, Nat.mul_one]
  rw [if_neg (by omega), Addr.add_lit, Nat.zero_add]

set_option maxHeartbeats 400000 in
theorem append_pos (w : World) (ao : Option Addr) (olds : List UInt8) (M : Nat) (hv2 : (M : Int) ≤ 9223372036854775807) (hnm : olds.length ≤ 1000) (hnone : ao = none → olds.length = 0)
    (holds : ∀ b, ao = some b → ∀ j (hj : j < olds.length), w.cell? (b.add j) = some (.int .u8 (olds[j].toNat : Int))) :
    Calls Try.prog 18 #[.slice ao olds.length olds.length, .int .i64 (M : Int)] w (AppLeft w (olds ++ Dec.dgt 20 M)) := by
  have hd : decide ((M : Int) < 0) = false := by simp
  obtain ⟨i0, hi, hz0, hz1, hz2⟩ := info_parts Try.info5
  go_enter Try.func18, Try.ntmps18
  go_wp2
  go_loopw [6, 7] (fun u i wr => ∃ (m k : Nat) (C : Array Value), u = .int .u64 (m : Int) ∧ i = .int .i64 (k : Int) ∧ wr = w.alloc (.cells C 67) ∧ AppSt M m k C)
    (fun _ i _ => (intOf i).toNat)
  case atStart => exact ⟨M, 20, _, rfl, rfl, rfl, AppSt.start M (by rw [Dec.pow19]; omega) _ rfl⟩
  case round =>
    obtain ⟨m, k, C, rfl, rfl, rfl, hst⟩ := hrel
    obtain ⟨k, rfl⟩ : ∃ k', k = k' + 1 := ⟨k - 1, by have := hst.k2; omega⟩
    have hk20 := hst.k20
    have hk2 := hst.k2
    have hsz := hst.size
    have hmM : (m : Int) ≤ 9223372036854775807 := by have := hst.le; omega
    obtain ⟨x, hx⟩ : ∃ x, C[k]? = some x := ⟨_, Array.getElem?_eq_getElem (by omega)⟩
    by_cases hm : 10 ≤ m
    · have hs := hst.step hm
      have HS : Hid (AppSt M (m / 10) k (C.setIfInBounds k (.int .u8 (48 + ((m % 10 : Nat) : Int))))) := hs
      clear hs hst
      go_wp2
      go_roundw
      case rel => exact ⟨m / 10, k, _, by go_num, rfl, rfl, HS.out⟩
      case measure => simp [intOf]
    · obtain ⟨d1, d2, d3, d4, d5⟩ := hst.done (by omega)
      have hlen : (Dec.dgt 20 M).length = 20 - k := d2
      have HD : Hid (_ = _) := d1
      have HL : Hid (_ = _) := d2
      clear d1 d2 d3 hst
      have hsl := fun wx => slice67 wx w.heap.size k (by omega)
      have hl1 : ((Dec.dgt 20 M).map bv).length = (20 - k) * 1 := by rw [List.length_map, HL.out, Nat.mul_one]
      have HL1 : Hid (_ = _) := hl1
      have hl0 : (olds.map bv).length = olds.length * 1 := by rw [List.length_map, Nat.mul_one]
      have HL0 : Hid (_ = _) := hl0
      clear hl0 hl1 hlen
      go_wp2_with (at_builtin; refine wpList_append_grows _ rfl (.tmp 39) (.tmp 41) 27 rfl 5 i0 (.int .u8 0) 1 1 Try.underlying27 hi hz0 hz1 hz2 rfl (by decide) ao olds.length olds.length (olds.map bv) rfl (fun h => ⟨hnone h, hnone h⟩) HL0.out (old_cells _ _ _ _ holds) ⟨w.heap.size, k, none⟩ (20 - k) (20 - k) ((Dec.dgt 20 M).map bv) rfl HL1.out (slice_cells _ _ _ _ HD.out) (bv_one _) (by omega) (by unfold maxLen; omega) (by omega) ?_; intro v' w1 hown hgrow)
      rw [← List.map_append] at hown
      obtain ⟨g, cap, hv', hfin⟩ := app_end w w1 _ v' olds.length (20 - k) (olds ++ Dec.dgt 20 M) (by simp [HL.out]) (by omega) hown hgrow
      have HF : Hid (AppLeft _ _ _ _) := hfin
      clear hfin hown hgrow
      rw [hv']
      go_wp2
      go_ret
      exact HF.out
end Go.Proofs.Qxb6500664a
