/-
  ReachCoversTheText: what its walk needs: a line of the frame as a value, the counts so far.
-/
import Derived.Test.Qxb6500653aRchLaw
import Derived.Test.Qxb6500653aCopy
import Derived.Test.Qxb6500653aCount
namespace Go.Proofs.Qxb6500653a
open Go.RowKit Go.ChangeMaps

/-- a line's cells -/
def lcells (L : Nat → Spot) : List Value := (List.range 560).map (fun o => (L (o / 7)).val (o % 7))
theorem lcells_len (L : Nat → Spot) : (lcells L).length = 560 := by unfold lcells; simp
theorem lcells_get (L : Nat → Spot) {x j : Nat} (hx : x < 80) (hj : j < 7) : (lcells L)[x * 7 + j]? = some ((L x).val j) := by
  unfold lcells
  have e2 : (x * 7 + j) / 7 = x := by omega
  have e3 : (x * 7 + j) % 7 = j := by omega
  rw [List.getElem?_map, List.getElem?_range (by omega)]
  simp only [Option.map_some, e2, e3]
theorem line_range {w : World} {fb : Nat} {F : Nat → Nat → Spot} (h : FrameAt w fb F) {y : Nat} (hy : y < 24) : w.rangeAt fb (y * 560) (lcells (F y)) := by
  intro j v hv
  have hl : j < 560 := by
    have := (List.getElem?_eq_some_iff.1 hv).1
    rw [lcells_len] at this
    exact this
  obtain ⟨x, k, hx, hk, rfl⟩ : ∃ x k, x < 80 ∧ k < 7 ∧ j = x * 7 + k := ⟨j / 7, j % 7, by omega, by omega, by omega⟩
  rw [lcells_get (F y) hx hk] at hv
  rw [← hv, ← Nat.add_assoc]
  exact ((h.line y hy).at_ x hx).get k hk
theorem info53 : (Try.prog.info? 53).map (·.size) = some 560 := by kernel_rfl
theorem lcells_part (L : Nat → Spot) {x : Nat} (hx : x < 80) : List.take 7 (List.drop (x * 7) (lcells L)) = [(L x).val 0, (L x).val 1, (L x).val 2, (L x).val 3, (L x).val 4, (L x).val 5, (L x).val 6] := by
  refine List.ext_getElem? fun j => ?_
  by_cases hj : j < 7
  · have hg := lcells_get L hx hj
    rw [List.getElem?_take_of_lt hj, List.getElem?_drop, hg]
    rcases (show j = 0 ∨ j = 1 ∨ j = 2 ∨ j = 3 ∨ j = 4 ∨ j = 5 ∨ j = 6 by omega) with rfl | rfl | rfl | rfl | rfl | rfl | rfl <;> rfl
  · rw [List.getElem?_eq_none (by simp; omega), List.getElem?_eq_none (by simp; omega)]
theorem run_index53 (L : Nat → Spot) {x : Nat} (hx : x < 80) (Z : World) : (Instr.index 53 (.agg (lcells L).toArray) (.int .i64 (x : Int))).run Try.prog Z =
    .ok (.agg #[.bool (L x).own, .int .i64 ((L x).oR : Int), .int .i64 ((L x).oC : Int), .bool (L x).drawn, .int .i64 ((L x).fR : Int), .int .i64 ((L x).fC : Int), .int .u8 ((L x).ch : Int)]) Z := by
  have hp := lcells_part L hx
  simp [Instr.index, asIntOf, run_underlying Try.underlying53, part, Result.andThen, hx, hp, Spot.val]

/-- the counts after y whole lines and x positions of the next -/
def nAt (F : Nat → Nat → Spot) (y x r c : Nat) : Nat := cnts F r c y + cnt (fun x => (F y x).of r c) x
theorem nAt_line (F : Nat → Nat → Spot) (y r c : Nat) : nAt F y 80 r c = nAt F (y + 1) 0 r c := rfl
theorem nAt_clear {F : Nat → Nat → Spot} {y x : Nat} (h : (F y x).drawn = false) (r c : Nat) : nAt F y x r c = nAt F y (x + 1) r c := by
  have : (F y x).of r c = false := by unfold Spot.of; rw [h]; rfl
  unfold nAt
  simp only [cnt, this]
  rfl
theorem nAt_drawn {F : Nat → Nat → Spot} {y x : Nat} (h : (F y x).drawn = true) (r c : Nat) : bump (nAt F y x) (F y x).fR (F y x).fC r c = nAt F y (x + 1) r c := by
  unfold bump
  by_cases hc : r = (F y x).fR ∧ c = (F y x).fC
  · rw [if_pos hc]
    obtain ⟨rfl, rfl⟩ := hc
    have : (F y x).of (F y x).fR (F y x).fC = true := (Spot.of_iff _ _ _).2 ⟨h, rfl, rfl⟩
    unfold nAt
    simp only [cnt, this]
    rfl
  · rw [if_neg hc]
    have : (F y x).of r c = false := by
      cases hh : (F y x).of r c with
      | false => rfl
      | true =>
        obtain ⟨_, h2, h3⟩ := (Spot.of_iff _ _ _).1 hh
        exact absurd ⟨h2.symm, h3.symm⟩ hc
    unfold nAt
    simp only [cnt, this]
    rfl
theorem cnt_le (p : Nat → Bool) : ∀ n, cnt p n ≤ n
  | 0 => Nat.le_refl _
  | n + 1 => by
    have := cnt_le p n
    simp only [cnt]
    split <;> omega
theorem cnts_le (F : Nat → Nat → Spot) (r c : Nat) : ∀ y, cnts F r c y ≤ y * 80
  | 0 => Nat.le_refl _
  | y + 1 => by
    have h1 := cnts_le F r c y
    have h2 := cnt_le (fun x => (F y x).of r c) 80
    simp only [cnts]
    omega
theorem nAt_le (F : Nat → Nat → Spot) (y x r c : Nat) : nAt F y x r c ≤ y * 80 + x := by
  have h1 := cnts_le F r c y
  have h2 := cnt_le (fun x => (F y x).of r c) x
  unfold nAt
  omega

/-- one more of a cell: what the map does, in every world that holds it -/
structure MapUp (w : World) (mb r c : Nat) (N : Nat → Nat → Nat) (bn : Nat) (o1 o2 : Obj) : Prop where
  entry : ∀ W : World, W.heap[mb]? = w.heap[mb]? → (Instr.mapEntry 77 (.map (some mb)) (.agg #[.int .i64 (r : Int), .int .i64 (c : Int)])).run Try.prog W = .ok (.tuple #[.int .i64 (N r c : Int), .int .i64 (bn : Int)]) (setBlock W mb o1)
  look : ∀ W : World, W.heap[mb]? = w.heap[mb]? → (Instr.lookup 77 (.map (some mb)) (.agg #[.int .i64 (r : Int), .int .i64 (c : Int)]) false).run Try.prog W = .ok (.int .i64 (N r c : Int)) W
  look1 : ∀ W : World, mb < W.heap.size → (Instr.lookup 77 (.map (some mb)) (.agg #[.int .i64 (r : Int), .int .i64 (c : Int)]) false).run Try.prog (setBlock W mb o1) = .ok (.int .i64 (N r c : Int)) (setBlock W mb o1)
  store : ∀ W : World, mb < W.heap.size → (Instr.entryStore 77 (.map (some mb)) (.int .i64 (bn : Int)) (.int .i64 ((N r c : Int) + 1))).run Try.prog (setBlock W mb o1) = .ok () (setBlock (setBlock W mb o1) mb o2)
  at_ : ∀ W : World, mb < W.heap.size → CtAt (setBlock (setBlock W mb o1) mb o2) mb (bump N r c)
theorem setBlock_size (w : World) (b : Nat) (o : Obj) : (setBlock w b o).heap.size = w.heap.size := by
  show (w.heap.setIfInBounds b o).size = _
  rw [Array.size_setIfInBounds]
theorem CtAt.up {w : World} {mb : Nat} {N : Nat → Nat → Nat} (h : CtAt w mb N) {r c : Nat} (hr : r < 64) (hc : c < 26) : ∃ bn o1 o2, MapUp w mb r c N bn o1 o2 := by
  obtain ⟨es, clock, hb, ho⟩ := h
  obtain ⟨es1, clock1, e1, h1, h2, h3, h4⟩ := ct_entry ho hr hc
  obtain ⟨es2, g1, g2⟩ := ct_store h1 h2 h3
  refine ⟨e1.born, .map es1.toArray clock1, .map es2.toArray clock1, ⟨fun W hW => h4 W mb (hW.trans hb), fun W hW => ?_, fun W hW => ?_, fun W hW => g2 _ mb (setBlock_get hW _), fun W hW => ?_⟩⟩
  · exact CtAt.look (w := W) (N := N) ⟨es, clock, hW.trans hb, ho⟩ hr hc
  · exact CtAt.look (w := setBlock W mb (.map es1.toArray clock1)) (N := N) ⟨es1, clock1, setBlock_get hW _, h1⟩ hr hc
  · exact ⟨es2, clock1, setBlock_get (by rw [setBlock_size]; exact hW) _, g1⟩
end Go.Proofs.Qxb6500653a
