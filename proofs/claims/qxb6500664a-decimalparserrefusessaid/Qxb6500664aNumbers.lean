/-
  'codeclaw.numbersOf' (function 17): a new list of int64 values.
-/
import Derived.Test.Qxb6500664aSmall
namespace Go.Proofs.Qxb6500664a
open Go.RowKit

theorem Try.info2 : (Try.prog.info? 2).map (fun i => (i.zero, i.size, i.bytes)) = some (some (.int .i64 0), 1, 8) := by kernel_rfl

def inI64 (z : Int) : Prop := -9223372036854775808 ≤ z ∧ z ≤ 9223372036854775807

/-- a list of int64 values that the call itself has made -/
structure Nums (w wr : World) (v : Value) (zs : List Int) : Prop where
  own : wr.ownsRow w.heap.size 2 1 v zs.length (zs.map (Value.int .i64))
  range : ∀ z ∈ zs, inI64 z
  below : Below w.heap.size w wr

theorem lt_of_cell {w : World} {p : Addr} {v : Value} (h : w.cell? p = some v) : p.block < w.heap.size := by
  rcases Nat.lt_or_ge p.block w.heap.size with h' | h'
  · exact h'
  · simp [World.cell?, Array.getElem?_eq_none h'] at h

theorem lit_cells (W : World) (C : Array Value) (t : TypeId) (l : List Value) (hC : C = l.toArray) (g : Nat) (hg : g = W.heap.size) : ∀ j u, l[j]? = some u → (W.alloc (.cells C t)).cell? (Addr.add ⟨g, 0, none⟩ j) = some u := by
  intro j u hj
  subst hg hC
  rw [Addr.add_lit, Nat.zero_add, World.cell?_alloc_at (hn := rfl)]
  simpa using hj

theorem ints_one (l : List Int) : ∀ u ∈ l.map (Value.int .i64), u.oneCell' = true := by
  intro u hu
  rw [List.mem_map] at hu
  obtain ⟨b, _, rfl⟩ := hu
  rfl

theorem wrap64_range (z : Int) : inI64 (wrap64 z) := by unfold inI64 wrap64; omega

theorem own_lt {w : World} {base : Nat} {e : TypeId} {size n : Nat} {v : Value} {xs : List Value} (h : w.ownsRow base e size v n xs) : ∀ g, v.ownBlock = some g → base ≤ g ∧ g < w.heap.size := by
  intro g hg
  rcases h.2 with ⟨rfl, _⟩ | ⟨g', cap, cur, rfl, hb, hh, _⟩
  · simp [Value.ownBlock] at hg
  · simp [Value.ownBlock] at hg
    subst hg
    refine ⟨hb, ?_⟩
    rcases Nat.lt_or_ge g' w.heap.size with h' | h'
    · exact h'
    · rw [Array.getElem?_eq_none h'] at hh; simp at hh

/-- behind an append onto the list, two blocks laid ahead of it -/
theorem nums_step {w wr w1 : World} {v v1 : Value} {zs news : List Int} {o1 o2 : Obj} (hN : Nums w wr v zs) (hr : ∀ z ∈ news, inI64 z)
    (hown : w1.ownsRow w.heap.size 2 1 v1 (zs.length + news.length) (zs.map (Value.int .i64) ++ news.map (Value.int .i64))) (hgrow : ((wr.alloc o1).alloc o2).grownBy w1 v.ownBlock) :
    Nums w w1 v1 (zs ++ news) ∧ w1.heap[wr.heap.size]? = some o1 := by
  have hsz := hN.below.size
  refine ⟨⟨?_, ?_, ?_⟩, ?_⟩
  · rw [List.length_append, List.map_append]; exact hown
  · intro z hz
    rcases List.mem_append.1 hz with h | h
    · exact hN.range z h
    · exact hr z h
  · exact (((hN.below.alloc hsz o1).alloc (by simp; omega) o2)).grown hgrow (by simp; omega) (fun k hk => (own_lt hN.own k hk).1)
  · rw [hgrow.block wr.heap.size (by simp; omega) (fun e => by have := (own_lt hN.own _ e.symm).2; omega), Below.heap_alloc _ _ _ (by simp)]
    show (wr.heap.push o1)[wr.heap.size]? = _
    simp

theorem block_cell {w : World} {g : Nat} {C : Array Value} {t : TypeId} (h : w.heap[g]? = some (.cells C t)) (j : Nat) : w.cell? ⟨g, j, none⟩ = C[j]? := by simp [World.cell?, h]

theorem xor_range (z : Int) : inI64 (bits BinOp.xor IntKind.i64 (-1) z) := bounds_i64 (wf_bits _ _ _ _)

/-- the five numbers of one step -/
def five (z : Int) : List Int := [wrap64 z, wrap64 (-wrap64 z), wrap64 (wrap64 z + 1), wrap64 (wrap64 z - 1), bits BinOp.xor IntKind.i64 (-1) (wrap64 z)]
theorem five_range (z : Int) : ∀ x ∈ five z, inI64 x := by
  intro x hx
  simp only [five, List.mem_cons, List.not_mem_nil, or_false] at hx
  rcases hx with rfl | rfl | rfl | rfl | rfl
  · exact wrap64_range _
  · exact wrap64_range _
  · exact wrap64_range _
  · exact wrap64_range _
  · exact xor_range _

theorem tot_mono (f g : Nat → Nat) (h : ∀ i, f i ≤ g i) (k : Nat) : tot f k ≤ tot g k := by
  induction k with
  | zero => exact Nat.le_refl _
  | succ k ih => simp only [tot]; have := h k; omega
theorem tot_up (f : Nat → Nat) {i k : Nat} (h : i ≤ k) : tot f i ≤ tot f k := by
  induction k with
  | zero => have : i = 0 := by omega
            subst this; exact Nat.le_refl _
  | succ k ih =>
    rcases Nat.lt_or_ge i (k + 1) with hi | hi
    · have := ih (by omega); simp only [tot]; omega
    · have : i = k + 1 := by omega
      subst this; exact Nat.le_refl _
theorem fields_small {n : Nat} {D : Nat → OD} (hs : SmallS n D) {k : Nat} (hk : k ≤ n) : 5 * k + tot (fun i => (D i).fn) k ≤ 327680 := by
  unfold SmallS at hs
  have h1 := tot_mono (fun i => (D i).fn) (fun i => wt (D i)) (fun i => by simp only [wt]; omega) k
  have h2 := tot_up (fun i => wt (D i)) hk
  omega

set_option maxHeartbeats 400000 in
theorem numbers_some (w : World) (b off n cap : Nat) (D : Nat → OD) (hb : b < w.heap.size) (hs : SmallS n D) (hD : ∀ i, i < n → OpAt w b (off + i * 8) (D i)) :
    Calls Try.prog 17 #[.slice (some ⟨b, off, none⟩) n cap] w fun e w' => ∃ v zs, e = .returned v ∧ Nums w w' v zs ∧ zs.length ≤ 1000000 := by
  obtain ⟨i0, hi, hz0, hz1, hz2⟩ := info_parts Try.info2
  have hn : n ≤ 65536 := by unfold SmallS at hs; omega
  go_enter Try.func17, Try.ntmps17
  go_wp2
  go_loopw [3, 11] (fun v i wr => ∃ (k : Nat) (zs : List Int), k ≤ n ∧ i = .int .i64 (k : Int) ∧ Nums w wr v zs ∧ zs.length ≤ 5 * k + tot (fun i => (D i).fn) k) (fun _ i _ => n - (intOf i).toNat)
  case atStart => exact ⟨0, [], by omega, rfl, ⟨World.ownsRow_nil _ _ _ _, by simp, Below.refl _ _⟩, by simp⟩
  case round =>
    rename_i v0 i1
    obtain ⟨k, zs, hk, rfl, hN, hlen⟩ := hrel
    by_cases hlt : k < n
    · have hop := hD k hlt
      have q0 := (hN.below.cell (p := ⟨b, off + k * 8, none⟩) hb).trans hop.c0
      have q1 := (hN.below.cell (p := ⟨b, off + k * 8 + 1, none⟩) hb).trans hop.c1
      have q2 := (hN.below.cell (p := ⟨b, off + k * 8 + 2, none⟩) hb).trans hop.c2
      have q3 := (hN.below.cell (p := ⟨b, off + k * 8 + 3, none⟩) hb).trans hop.c3
      have q4 := (hN.below.cell (p := ⟨b, off + k * 8 + 4, none⟩) hb).trans hop.c4
      have q5 := (hN.below.cell (p := ⟨b, off + k * 8 + 5, none⟩) hb).trans hop.c5
      have q6 := (hN.below.cell (p := ⟨b, off + k * 8 + 6, none⟩) hb).trans hop.c6
      have q7 := (hN.below.cell (p := ⟨b, off + k * 8 + 7, none⟩) hb).trans hop.c7
      obtain ⟨FA, hFA⟩ : ∃ FA, FA = (D k).fa := ⟨_, rfl⟩
      have hfs : 0 < (D k).fn → ∃ b off, FA = some ⟨b, off, none⟩ ∧ ∀ j, j < (D k).fn → w.cell? ⟨b, off + j * 3, none⟩ = some (.int .u8 ((D k).F j).ty) ∧ w.cell? ⟨b, off + j * 3 + 1, none⟩ = some (.int .u64 ((D k).F j).num) ∧
          w.cell? ⟨b, off + j * 3 + 2, none⟩ = some (.slice ((D k).F j).data.a ((D k).F j).data.l.length ((D k).F j).data.cap) ∧ ((D k).F j).data.At w := by rw [hFA]; exact hop.fs.at_
      have hfn : (D k).fn ≤ 140737488351232 := Nat.le_trans hop.fs.le hop.fs.max
      rw [← hFA] at q6
      clear hFA
      have hsm := fields_small hs hk
      have hzl : zs.length ≤ 400000 := by omega
      have hsz := hN.below.size
      go_wp2_with (at_builtin; refine wpList_append_own _ rfl (.tmp 18) (.tmp 28) 49 rfl w.heap.size 2 i0 (.int .i64 0) 1 8 Try.underlying49 hi hz0 hz1 hz2 rfl (by decide) _ zs.length (zs.map (Value.int .i64)) rfl ((hN.own.alloc _).alloc _) ⟨wr.heap.size + 1, 0, none⟩ 5 5 ((five (D k).num).map (Value.int .i64)) rfl rfl (lit_cells _ _ _ _ rfl _ (by simp)) (ints_one _) (by unfold maxLen; omega) (by omega) (by simp; omega) ?_; intro v1 w1 hown1 hgrow1 _; have hst := nums_step (news := five (D k).num) hN (five_range _) hown1 hgrow1; have hc6 : w1.cell? ⟨wr.heap.size, 6, none⟩ = some (.slice FA (D k).fn (D k).fcap) := block_cell hst.2 6; have hN1 := hst.1; clear hown1 hgrow1 hst)
      have hl1 : (zs ++ five (D k).num).length ≤ 5 * (k + 1) + tot (fun i => (D i).fn) k := by rw [List.length_append]; show zs.length + 5 ≤ _; omega
      have HT : Hid (tot (fun i => (D i).fn) (k + 1) = tot (fun i => (D i).fn) k + (D k).fn) := rfl
      have hsm1 := fields_small hs (show k + 1 ≤ n by omega)
      rw [HT.out] at hsm1
      generalize zs ++ five (D k).num = zs1 at hN1 hl1
      clear q0 q1 q2 q3 q4 q5 q6 q7 hc6 hN hop hsm hzl hlen
      obtain ⟨wo, hwo⟩ : ∃ wo : World, wo = wr := ⟨_, rfl⟩
      clear hwo
      go_loopw [3, 34] (fun v i wr => ∃ (j : Nat) (zs : List Int), j ≤ (D k).fn ∧ i = .int .i64 (j : Int) ∧ Nums w wr v zs ∧ zs.length ≤ 5 * (k + 1) + tot (fun i => (D i).fn) k + j) (fun _ i _ => (D k).fn - (intOf i).toNat)
      case atStart => exact ⟨0, zs1, by omega, rfl, hN1, by omega⟩
      case round =>
        obtain ⟨j, zs2, hj, rfl, hN2, hlen2⟩ := hrel
        by_cases hjl : j < (D k).fn
        · obtain ⟨fb, fo, rfl, hfc⟩ := hfs (by omega)
          obtain ⟨g0, g1, g2, g3⟩ := hfc j hjl
          have hfb : fb < w.heap.size := lt_of_cell g0
          have r0 := (hN2.below.cell (p := ⟨fb, fo + j * 3, none⟩) hfb).trans g0
          have r1 := (hN2.below.cell (p := ⟨fb, fo + j * 3 + 1, none⟩) hfb).trans g1
          have r2 := (hN2.below.cell (p := ⟨fb, fo + j * 3 + 2, none⟩) hfb).trans g2
          clear g0 g1 g2 g3 hfc hfs
          have hz2l : zs2.length ≤ 400000 := by omega
          have hsz2 := hN2.below.size
          go_wp2_with (at_builtin; refine wpList_append_own _ rfl (.tmp 38) (.tmp 42) 49 rfl w.heap.size 2 i0 (.int .i64 0) 1 8 Try.underlying49 hi hz0 hz1 hz2 rfl (by decide) _ zs2.length (zs2.map (Value.int .i64)) rfl ((hN2.own.alloc _).alloc _) ⟨wr.heap.size + 1, 0, none⟩ 1 1 (([wrap64 ((D k).F j).num]).map (Value.int .i64)) rfl rfl (lit_cells _ _ _ _ rfl _ (by simp)) (ints_one _) (by unfold maxLen; omega) (by omega) (by simp; omega) ?_; intro v3 w3 hown3 hgrow3 _; have hst := nums_step (news := [wrap64 ((D k).F j).num]) hN2 (by intro z hz; simp at hz; subst hz; exact wrap64_range _) hown3 hgrow3; have hN3 := hst.1; clear hown3 hgrow3 hst)
          go_roundw
          case rel => exact ⟨j + 1, zs2 ++ [wrap64 ((D k).F j).num], by omega, by go_num, hN3, by rw [List.length_append]; show zs2.length + 1 ≤ _; omega⟩
          case measure => simp [intOf]; omega
        · have hj0 : j = (D k).fn := by omega
          have HL : Hid (zs2.length ≤ 5 * (k + 1) + tot (fun i => (D i).fn) (k + 1)) := by show zs2.length ≤ _; rw [HT.out]; omega
          clear hj0 hlen2 hfs
          go_wp2
          go_roundw
          case rel => exact ⟨k + 1, zs2, by omega, by go_num, hN2, HL.out⟩
          case measure => simp [intOf]; omega
    · have hsm := fields_small hs hk
      have HL : Hid (zs.length ≤ 1000000) := by show zs.length ≤ 1000000; omega
      clear hsm hlen
      go_wp2
      go_ret
      exact ⟨_, zs, rfl, hN, HL.out⟩

set_option maxHeartbeats 400000 in
theorem numbers_nil (w : World) (a : Option Addr) (cap : Nat) :
    Calls Try.prog 17 #[.slice a 0 cap] w fun e w' => e = .returned (.slice none 0 0) ∧ w' = w := by
  go_enter Try.func17, Try.ntmps17
  go_wp2
  refine wp_loop_rounds 1 ?_
  rw [rounds_succ]
  go_wp2
  go_ret
  exact ⟨rfl, rfl⟩

/-- what numbersOf leaves -/
def NumPost (w : World) (e : Ending) (w' : World) : Prop := ∃ (ao : Option Addr) (cap : Nat) (zs : List Int), e = .returned (.slice ao zs.length cap) ∧ zs.length ≤ 1000000 ∧ (∀ z ∈ zs, inI64 z) ∧ Below w.heap.size w w' ∧
  (0 < zs.length → ∃ g, ao = some ⟨g, 0, none⟩ ∧ w.heap.size ≤ g ∧ g < w'.heap.size ∧ ∀ j (hj : j < zs.length), w'.cell? ⟨g, j, none⟩ = some (.int .i64 zs[j]))

theorem numbers_any (w : World) (a : Option Addr) (n cap : Nat) (D : Nat → OD) (h : ScriptAt w a n cap D) (hs : SmallS n D) : Calls Try.prog 17 #[.slice a n cap] w (NumPost w) := by
  rcases Nat.eq_zero_or_pos n with h0 | h0
  · subst h0
    refine (numbers_nil w a cap).mono fun e w' ⟨h1, h2⟩ => ⟨none, 0, [], h1, by simp, by simp, by rw [h2]; exact Below.refl _ _, fun h => by simp at h⟩
  · obtain ⟨b, off, rfl, hD⟩ := h.at_ h0
    refine (numbers_some w b off n cap D (lt_of_cell (hD 0 h0).c0) hs hD).mono fun e w' ⟨v, zs, h1, hN, h3⟩ => ?_
    rcases hN.own.2 with ⟨hv, hz⟩ | ⟨g, cp, cur, hv, hg, hh, hle, _, _, htake⟩
    · obtain rfl := List.eq_nil_of_length_eq_zero hz
      exact ⟨none, 0, [], by rw [h1, hv]; rfl, by simp, by simp, hN.below, fun h => by simp at h⟩
    · refine ⟨some ⟨g, 0, none⟩, cp, zs, by rw [h1, hv], h3, hN.range, hN.below, fun _ => ⟨g, rfl, hg, ?_, fun j hj => ?_⟩⟩
      · rcases Nat.lt_or_ge g w'.heap.size with h' | h'
        · exact h'
        · rw [Array.getElem?_eq_none h'] at hh; simp at hh
      · have := hN.own
        rw [hv] at this
        rw [this.cellAt j (by omega), List.getElem?_map, List.getElem?_eq_getElem hj]; rfl
end Go.Proofs.Qxb6500664a
